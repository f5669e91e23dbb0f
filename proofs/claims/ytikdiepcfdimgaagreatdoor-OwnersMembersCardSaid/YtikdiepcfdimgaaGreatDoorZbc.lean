/- The walk of the program and the plain laws behind the statements of this seat, part 3. -/
import Derived.Test.YtikdiepcfdimgaaGreatDoorZbb
import Derived.IntWalk
import Derived.Ground.GgsProg
import Derived.Ground.SlsoProg
import Derived.Shelf.SlSortFuncK.WholeK
import Derived.Shelf.SlSorted.Search
import Derived.Test.YtikdiepcfdimgaaGreatDoorProg
import Derived.Maps.OwnOps
import Derived.WideLaws
import Derived.DeepKeys4
import Derived.KernelRfl
import Derived.RowKit3
import Derived.Maps.RangeWalk
import Derived.Deep.AppendLies
import Derived.Maps.AppendAt
import Derived.WideShapes
import Derived.StillTailTactics
import Derived.Deep.DeepCutAuto
import Derived.Lib.Hide
import Derived.WalkKit
import Derived.Deep.LoopGhost
import Derived.Deep.QuietTactic
import Derived.BigQuiet
import Derived.WalkSpells
import Derived.WalkLawsBesides
import Derived.Shelf.GgSortFunc.Tiny
import Derived.Laws.BitsAllLaws
import Derived.Deep.RegionHeld3
set_option linter.all false
namespace Go.Proofs.YtikdiepcfdimgaaGreatDoor.POw
open Go.RowKit Go.Proofs.YtikdiepcfdimgaaGreatDoorW.PrintWords Go.Proofs.YtikdiepcfdimgaaGreatDoorW.PrintLast
set_option linter.unusedVariables false
set_option linter.unusedSimpArgs false
def owners_natural_greater.l0 : Nat → List Int → List Int → Int → Option (Bool)
  | 0, _, _, _ => none
  | k + 1, x0, x1, x7 => if x7 ≥ 0 then (if 0 ≤ x7 then (if x7 < (x0.length : Int) then (if x7 < (x1.length : Int) then (if (rd x0 x7) = (rd x1 x7) then (owners_natural_greater.l0 k x0 x1 (wrap64 (x7 - 1))) else (some (decide ((rd x0 x7) > (rd x1 x7))))) else (none)) else (none)) else (none)) else (some false)
def owners_natural_greater.f (k : Nat) (l0 : List Int) (l1 : List Int) : Option (Bool) := (owners_natural_top.f k l0).bind fun t254 => ((owners_natural_top.f k l1).bind fun t255 => (if t254 = t255 then (owners_natural_greater.l0 k l0 l1 (wrap64 (t254 - 1))) else (some (decide (t254 > t255)))))
theorem owners_natural_greater.mono_l : ∀ k, (∀ y0 y1 y2, LeO (owners_natural_greater.l0 k y0 y1 y2) (owners_natural_greater.l0 (k + 1) y0 y1 y2))
  | 0 => fun _ _ _ r h => by simp [owners_natural_greater.l0] at h
  | k + 1 => by
    have ih0 := owners_natural_greater.mono_l k
    · intro y0 y1 y2
      unfold owners_natural_greater.l0
      repeat' first
      | (with_reducible exact ih0 _ _ _)
      | (with_reducible exact owners_natural_top.mono _ _)
      | (with_reducible exact LeO.refl _)
      | (with_reducible exact LeO.none _)
      | (with_reducible refine LeO.ite ?_ ?_)
      | (with_reducible refine LeO.bind ?_ (fun _ => ?_))
      | exact ih0 _ _ _
      | exact owners_natural_top.mono _ _
      | exact LeO.none _
      | refine LeO.ite ?_ ?_
      | refine LeO.bind ?_ (fun _ => ?_)
theorem owners_natural_greater.mono : ∀ a0 a1 k, LeO (owners_natural_greater.f k a0 a1) (owners_natural_greater.f (k + 1) a0 a1) := by
  intro a0 a1 k
  have ih0 := owners_natural_greater.mono_l k
  unfold owners_natural_greater.f
  repeat' first
      | (with_reducible exact ih0 _ _ _)
      | (with_reducible exact owners_natural_top.mono _ _)
      | (with_reducible exact LeO.refl _)
      | (with_reducible exact LeO.none _)
      | (with_reducible refine LeO.ite ?_ ?_)
      | (with_reducible refine LeO.bind ?_ (fun _ => ?_))
      | exact ih0 _ _ _
      | exact owners_natural_top.mono _ _
      | exact LeO.none _
      | refine LeO.ite ?_ ?_
      | refine LeO.bind ?_ (fun _ => ?_)
set_option maxHeartbeats 8000000 in
set_option maxRecDepth 100000 in
theorem owners_natural_greater.calls (k : Nat) (A0 : Option Addr) (c0 : Nat) (l0 : List Int) (A1 : Option Addr) (c1 : Nat) (l1 : List Int) (r : Bool) (w : World) (hr0 : Kd.C (Kd.int .i64) w A0 l0.length l0) (hc0 : l0.length ≤ c0) (hr1 : Kd.C (Kd.int .i64) w A1 l1.length l1) (hc1 : l1.length ≤ c1) (h : owners_natural_greater.f k l0 l1 = some r) :
    Calls Tryz.prog 55 #[.slice A0 l0.length c0, .slice A1 l1.length c1] w fun e w' => e = .returned (.bool r) ∧ Drawn0 w w' := by
  have HR0 := Aside0.mk hr0
  have HC0 := Aside0.mk hc0
  clear hr0 hc0
  have HR1 := Aside0.mk hr1
  have HC1 := Aside0.mk hc1
  clear hr1 hc1
  have H : ((owners_natural_top.f k l0).bind fun t254 => ((owners_natural_top.f k l1).bind fun t255 => (if t254 = t255 then (owners_natural_greater.l0 k l0 l1 (wrap64 (t254 - 1))) else (some (decide (t254 > t255)))))) = some r := h
  clear h
  replace H := Option.bind_eq_some_iff.mp H
  obtain ⟨t254, A30, H⟩ := H
  replace H : ((owners_natural_top.f k l1).bind fun t255 => (if t254 = t255 then (owners_natural_greater.l0 k l0 l1 (wrap64 (t254 - 1))) else (some (decide (t254 > t255))))) = some r := H
  have A3 := Aside0.mk A30
  clear A30
  replace H := Option.bind_eq_some_iff.mp H
  obtain ⟨t255, A40, H⟩ := H
  replace H : (if t254 = t255 then (owners_natural_greater.l0 k l0 l1 (wrap64 (t254 - 1))) else (some (decide (t254 > t255)))) = some r := H
  have A4 := Aside0.mk A40
  clear A40
  by_cases c5 : t254 = t255
  · rw [if_pos c5] at H
    have c5b0 : (t254 == t255) = true := beq_iff_eq.mpr c5
    have c5b1 : (t254 != t255) = false := bne_eq_false_iff_eq.mpr c5
    clear c5
    have H' := Aside0.mk H
    clear H
    go_enter Tryz.func55, Tryz.ntmps55
    go_wp2_with (first | (go_at_call 84; (with_reducible refine (owners_natural_top.calls k _ _ l0 t254 _ ?side1 ?side2 A3.out).mono ?_); (case side1 => repeat (first | exact HR0.out | (with_reducible refine Kd.C_alloc ?_ _) | (with_reducible refine Kd.C_drewN ?_ _) | (with_reducible refine Kd.C_drew ?_))); (case side2 => exact HC0.out); rintro e w' ⟨rfl, ⟨nd, rfl⟩⟩; (try first | exact ⟨rfl, _, World.drewN_drewN _ _ _⟩ | exact ⟨rfl, _, Eq.trans (World.drewN_drewN _ _ _) (congrArg (World.drewN _) (Nat.add_assoc _ _ _))⟩)) | (go_at_call 84; (with_reducible refine (owners_natural_top.calls k _ _ l1 t255 _ ?side1 ?side2 A4.out).mono ?_); (case side1 => repeat (first | exact HR1.out | (with_reducible refine Kd.C_alloc ?_ _) | (with_reducible refine Kd.C_drewN ?_ _) | (with_reducible refine Kd.C_drew ?_))); (case side2 => exact HC1.out); rintro e w' ⟨rfl, ⟨nd, rfl⟩⟩; (try first | exact ⟨rfl, _, World.drewN_drewN _ _ _⟩ | exact ⟨rfl, _, Eq.trans (World.drewN_drewN _ _ _) (congrArg (World.drewN _) (Nat.add_assoc _ _ _))⟩)))
    repeat (go_quiet (first | (go_at_call 84; (with_reducible refine (owners_natural_top.calls k _ _ l0 t254 _ ?side1 ?side2 A3.out).mono ?_); (case side1 => repeat (first | exact HR0.out | (with_reducible refine Kd.C_alloc ?_ _) | (with_reducible refine Kd.C_drewN ?_ _) | (with_reducible refine Kd.C_drew ?_))); (case side2 => exact HC0.out); rintro e w' ⟨rfl, ⟨nd, rfl⟩⟩; (try first | exact ⟨rfl, _, World.drewN_drewN _ _ _⟩ | exact ⟨rfl, _, Eq.trans (World.drewN_drewN _ _ _) (congrArg (World.drewN _) (Nat.add_assoc _ _ _))⟩)) | (go_at_call 84; (with_reducible refine (owners_natural_top.calls k _ _ l1 t255 _ ?side1 ?side2 A4.out).mono ?_); (case side1 => repeat (first | exact HR1.out | (with_reducible refine Kd.C_alloc ?_ _) | (with_reducible refine Kd.C_drewN ?_ _) | (with_reducible refine Kd.C_drew ?_))); (case side2 => exact HC1.out); rintro e w' ⟨rfl, ⟨nd, rfl⟩⟩; (try first | exact ⟨rfl, _, World.drewN_drewN _ _ _⟩ | exact ⟨rfl, _, Eq.trans (World.drewN_drewN _ _ _) (congrArg (World.drewN _) (Nat.add_assoc _ _ _))⟩))); try go_wp2_with (first | (go_at_call 84; (with_reducible refine (owners_natural_top.calls k _ _ l0 t254 _ ?side1 ?side2 A3.out).mono ?_); (case side1 => repeat (first | exact HR0.out | (with_reducible refine Kd.C_alloc ?_ _) | (with_reducible refine Kd.C_drewN ?_ _) | (with_reducible refine Kd.C_drew ?_))); (case side2 => exact HC0.out); rintro e w' ⟨rfl, ⟨nd, rfl⟩⟩; (try first | exact ⟨rfl, _, World.drewN_drewN _ _ _⟩ | exact ⟨rfl, _, Eq.trans (World.drewN_drewN _ _ _) (congrArg (World.drewN _) (Nat.add_assoc _ _ _))⟩)) | (go_at_call 84; (with_reducible refine (owners_natural_top.calls k _ _ l1 t255 _ ?side1 ?side2 A4.out).mono ?_); (case side1 => repeat (first | exact HR1.out | (with_reducible refine Kd.C_alloc ?_ _) | (with_reducible refine Kd.C_drewN ?_ _) | (with_reducible refine Kd.C_drew ?_))); (case side2 => exact HC1.out); rintro e w' ⟨rfl, ⟨nd, rfl⟩⟩; (try first | exact ⟨rfl, _, World.drewN_drewN _ _ _⟩ | exact ⟨rfl, _, Eq.trans (World.drewN_drewN _ _ _) (congrArg (World.drewN _) (Nat.add_assoc _ _ _))⟩))))
    go_loopg [7] k (fun kq v7 w' => ∃ (x7_1 : Int), v7 = .int .i64 x7_1 ∧ Aside0 (owners_natural_greater.l0 kq l0 l1 x7_1 = some r) ∧ Aside0 (kq ≤ k) ∧ Drawn0 w w')
    case atStart => exact ⟨(wrap64 (t254 - 1)), (by first | rfl | (simp; done) | (simp [*]; done)), H', ⟨Nat.le_refl _⟩, by repeat (first | exact Drawn0.refl _ | apply Drawn0.step)⟩
    case round =>
      clear H'
      try clear c1
      try clear p2
      try clear c5
      try clear c5b0
      try clear c5b1
      obtain ⟨x7_1, rfl, HA, HK1, ⟨m1, rfl⟩⟩ := hrel
      cases gk with
      | zero => exact absurd HA.out (by simp [owners_natural_greater.l0])
      | succ k1 =>
        have H := HA.out
        clear HA
        simp only [owners_natural_greater.l0] at H
        by_cases c6 : x7_1 ≥ 0
        · rw [if_pos c6] at H
          have c6b0 : decide (0 ≤ x7_1) = true := decide_eq_true c6
          clear c6
          by_cases c7 : 0 ≤ x7_1
          · rw [if_pos c7] at H
            have c7b0 : decide (0 ≤ x7_1) = true := decide_eq_true c7
            clear c7
            by_cases c8 : x7_1 < (l0.length : Int)
            · rw [if_pos c8] at H
              have c8b0 : decide (x7_1 < (l0.length : Int)) = true := decide_eq_true c8
              clear c8
              by_cases c9 : x7_1 < (l1.length : Int)
              · rw [if_pos c9] at H
                have c9b0 : decide (x7_1 < (l1.length : Int)) = true := decide_eq_true c9
                clear c9
                by_cases c10 : (rd l0 x7_1) = (rd l1 x7_1)
                · rw [if_pos c10] at H
                  have c10b0 : ((rd l0 x7_1) == (rd l1 x7_1)) = true := beq_iff_eq.mpr c10
                  have c10b1 : ((rd l0 x7_1) != (rd l1 x7_1)) = false := bne_eq_false_iff_eq.mpr c10
                  clear c10
                  have H' := Aside0.mk H
                  clear H
                  have p256 : 0 ≤ (x7_1 : Int) := of_decide_eq_true (by first | (with_reducible assumption) | assumption)
                  have q256 : x7_1 < (l0.length : Int) := of_decide_eq_true (by first | (with_reducible assumption) | assumption)
                  obtain ⟨ad256, e256, hx256_0⟩ := Kd.at_int HR0.out x7_1 p256 q256
                  cases e256
                  replace p256 := eq_true p256
                  replace q256 := eq_true q256
                  have p257 : 0 ≤ (x7_1 : Int) := of_decide_eq_true (by first | (with_reducible assumption) | assumption)
                  have q257 : x7_1 < (l1.length : Int) := of_decide_eq_true (by first | (with_reducible assumption) | assumption)
                  obtain ⟨ad257, e257, hx257_0⟩ := Kd.at_int HR1.out x7_1 p257 q257
                  cases e257
                  replace p257 := eq_true p257
                  replace q257 := eq_true q257
                  go_wp2
                  repeat (go_quiet (fail); try go_wp2)
                  go_roundg k1
                  case measure => have := HK1.out; omega
                  case rel => exact ⟨(wrap64 (x7_1 - 1)), (by first | rfl | (simp; done) | (simp [*]; done)), H', ⟨by have := HK1.out; omega⟩, by repeat (first | exact Drawn0.refl _ | apply Drawn0.step)⟩
                · rw [if_neg c10] at H
                  have c10b0 : ((rd l0 x7_1) == (rd l1 x7_1)) = false := beq_eq_false_iff_ne.mpr c10
                  have c10b1 : ((rd l0 x7_1) != (rd l1 x7_1)) = true := bne_iff_ne.mpr c10
                  obtain rfl := Option.some.inj H
                  have p256 : 0 ≤ (x7_1 : Int) := of_decide_eq_true (by first | (with_reducible assumption) | assumption)
                  have q256 : x7_1 < (l0.length : Int) := of_decide_eq_true (by first | (with_reducible assumption) | assumption)
                  obtain ⟨ad256, e256, hx256_0⟩ := Kd.at_int HR0.out x7_1 p256 q256
                  cases e256
                  replace p256 := eq_true p256
                  replace q256 := eq_true q256
                  have p257 : 0 ≤ (x7_1 : Int) := of_decide_eq_true (by first | (with_reducible assumption) | assumption)
                  have q257 : x7_1 < (l1.length : Int) := of_decide_eq_true (by first | (with_reducible assumption) | assumption)
                  obtain ⟨ad257, e257, hx257_0⟩ := Kd.at_int HR1.out x7_1 p257 q257
                  cases e257
                  replace p257 := eq_true p257
                  replace q257 := eq_true q257
                  have p258 : 0 ≤ (x7_1 : Int) := of_decide_eq_true (by first | (with_reducible assumption) | assumption)
                  have q258 : x7_1 < (l0.length : Int) := of_decide_eq_true (by first | (with_reducible assumption) | assumption)
                  obtain ⟨ad258, e258, hx258_0⟩ := Kd.at_int HR0.out x7_1 p258 q258
                  obtain rfl : ad256 = ad258 := (by injection e258)
                  replace p258 := eq_true p258
                  replace q258 := eq_true q258
                  have p259 : 0 ≤ (x7_1 : Int) := of_decide_eq_true (by first | (with_reducible assumption) | assumption)
                  have q259 : x7_1 < (l1.length : Int) := of_decide_eq_true (by first | (with_reducible assumption) | assumption)
                  obtain ⟨ad259, e259, hx259_0⟩ := Kd.at_int HR1.out x7_1 p259 q259
                  obtain rfl : ad257 = ad259 := (by injection e259)
                  replace p259 := eq_true p259
                  replace q259 := eq_true q259
                  go_wp2
                  repeat (go_quiet (fail); try go_wp2)
                  go_ret
                  exact ⟨by first | rfl | (simp; done) | (simp [*]; done), by repeat (first | exact Drawn0.refl _ | apply Drawn0.step)⟩
              · rw [if_neg c9] at H
                exact absurd H (by simp)
            · rw [if_neg c8] at H
              exact absurd H (by simp)
          · rw [if_neg c7] at H
            exact absurd H (by simp)
        · rw [if_neg c6] at H
          have c6b0 : decide (0 ≤ x7_1) = false := decide_eq_false c6
          clear c6
          obtain rfl := Option.some.inj H
          go_wp2
          repeat (go_quiet (fail); try go_wp2)
          go_ret
          exact ⟨by first | rfl | (simp; done) | (simp [*]; done), by repeat (first | exact Drawn0.refl _ | apply Drawn0.step)⟩
  · rw [if_neg c5] at H
    have c5b0 : (t254 == t255) = false := beq_eq_false_iff_ne.mpr c5
    have c5b1 : (t254 != t255) = true := bne_iff_ne.mpr c5
    obtain rfl := Option.some.inj H
    go_enter Tryz.func55, Tryz.ntmps55
    go_wp2_with (first | (go_at_call 84; (with_reducible refine (owners_natural_top.calls k _ _ l0 t254 _ ?side1 ?side2 A3.out).mono ?_); (case side1 => repeat (first | exact HR0.out | (with_reducible refine Kd.C_alloc ?_ _) | (with_reducible refine Kd.C_drewN ?_ _) | (with_reducible refine Kd.C_drew ?_))); (case side2 => exact HC0.out); rintro e w' ⟨rfl, ⟨nd, rfl⟩⟩; (try first | exact ⟨rfl, _, World.drewN_drewN _ _ _⟩ | exact ⟨rfl, _, Eq.trans (World.drewN_drewN _ _ _) (congrArg (World.drewN _) (Nat.add_assoc _ _ _))⟩)) | (go_at_call 84; (with_reducible refine (owners_natural_top.calls k _ _ l1 t255 _ ?side1 ?side2 A4.out).mono ?_); (case side1 => repeat (first | exact HR1.out | (with_reducible refine Kd.C_alloc ?_ _) | (with_reducible refine Kd.C_drewN ?_ _) | (with_reducible refine Kd.C_drew ?_))); (case side2 => exact HC1.out); rintro e w' ⟨rfl, ⟨nd, rfl⟩⟩; (try first | exact ⟨rfl, _, World.drewN_drewN _ _ _⟩ | exact ⟨rfl, _, Eq.trans (World.drewN_drewN _ _ _) (congrArg (World.drewN _) (Nat.add_assoc _ _ _))⟩)))
    repeat (go_quiet (first | (go_at_call 84; (with_reducible refine (owners_natural_top.calls k _ _ l0 t254 _ ?side1 ?side2 A3.out).mono ?_); (case side1 => repeat (first | exact HR0.out | (with_reducible refine Kd.C_alloc ?_ _) | (with_reducible refine Kd.C_drewN ?_ _) | (with_reducible refine Kd.C_drew ?_))); (case side2 => exact HC0.out); rintro e w' ⟨rfl, ⟨nd, rfl⟩⟩; (try first | exact ⟨rfl, _, World.drewN_drewN _ _ _⟩ | exact ⟨rfl, _, Eq.trans (World.drewN_drewN _ _ _) (congrArg (World.drewN _) (Nat.add_assoc _ _ _))⟩)) | (go_at_call 84; (with_reducible refine (owners_natural_top.calls k _ _ l1 t255 _ ?side1 ?side2 A4.out).mono ?_); (case side1 => repeat (first | exact HR1.out | (with_reducible refine Kd.C_alloc ?_ _) | (with_reducible refine Kd.C_drewN ?_ _) | (with_reducible refine Kd.C_drew ?_))); (case side2 => exact HC1.out); rintro e w' ⟨rfl, ⟨nd, rfl⟩⟩; (try first | exact ⟨rfl, _, World.drewN_drewN _ _ _⟩ | exact ⟨rfl, _, Eq.trans (World.drewN_drewN _ _ _) (congrArg (World.drewN _) (Nat.add_assoc _ _ _))⟩))); try go_wp2_with (first | (go_at_call 84; (with_reducible refine (owners_natural_top.calls k _ _ l0 t254 _ ?side1 ?side2 A3.out).mono ?_); (case side1 => repeat (first | exact HR0.out | (with_reducible refine Kd.C_alloc ?_ _) | (with_reducible refine Kd.C_drewN ?_ _) | (with_reducible refine Kd.C_drew ?_))); (case side2 => exact HC0.out); rintro e w' ⟨rfl, ⟨nd, rfl⟩⟩; (try first | exact ⟨rfl, _, World.drewN_drewN _ _ _⟩ | exact ⟨rfl, _, Eq.trans (World.drewN_drewN _ _ _) (congrArg (World.drewN _) (Nat.add_assoc _ _ _))⟩)) | (go_at_call 84; (with_reducible refine (owners_natural_top.calls k _ _ l1 t255 _ ?side1 ?side2 A4.out).mono ?_); (case side1 => repeat (first | exact HR1.out | (with_reducible refine Kd.C_alloc ?_ _) | (with_reducible refine Kd.C_drewN ?_ _) | (with_reducible refine Kd.C_drew ?_))); (case side2 => exact HC1.out); rintro e w' ⟨rfl, ⟨nd, rfl⟩⟩; (try first | exact ⟨rfl, _, World.drewN_drewN _ _ _⟩ | exact ⟨rfl, _, Eq.trans (World.drewN_drewN _ _ _) (congrArg (World.drewN _) (Nat.add_assoc _ _ _))⟩))))
    go_ret
    exact ⟨by first | rfl | (simp; done) | (simp [*]; done), by repeat (first | exact Drawn0.refl _ | apply Drawn0.step)⟩
def owners_sum_exceeds.f (k : Nat) (l0_0 : List Int) (l0_1 : List Int) (a1 : Int) (a2 : Int) : Option (Bool) := (owners_natural_times.f k l0_0 a2).bind fun t261 => ((owners_natural_times.f k l0_1 a1).bind fun t264 => ((owners_natural_greater.f k t261 t264).bind fun t267 => (some t267)))
def owners_sum_exceeds.T1 : Bool × List (List Nat × List Nat) := (true, [([], []), ([0], [0]), ([], []), ([1, 2], [1, 2]), ([], []), ([4], [4]), ([], []), ([5, 6, 3], [5, 6]), ([3, 7, 7], [3, 7]), ([8, 8, 0, 1, 2, 3, 4, 5, 6, 7, 8], [8])])
def owners_sum_exceeds.B1 : List Nat := [0, 1, 0, 7, 0, 16, 0, 127, 255, 511]
theorem owners_sum_exceeds.tab1 : rtab .any (opsOf Tryz.f33 1) = owners_sum_exceeds.T1 := by kernel_rfl
theorem owners_sum_exceeds.bits1 : waitsOk owners_sum_exceeds.T1.2 owners_sum_exceeds.B1 = true := by kernel_rfl
set_option maxHeartbeats 8000000 in
set_option maxRecDepth 100000 in
theorem owners_sum_exceeds.calls (k : Nat) (A0_0 : Option Addr) (c0_0 : Nat) (l0_0 : List Int) (A0_1 : Option Addr) (c0_1 : Nat) (l0_1 : List Int) (a1 : Int) (a2 : Int) (r : Bool) (w : World) (hr0_0 : Kd.C (Kd.int .i64) w A0_0 l0_0.length l0_0) (hc0_0 : l0_0.length ≤ c0_0) (hr0_1 : Kd.C (Kd.int .i64) w A0_1 l0_1.length l0_1) (hc0_1 : l0_1.length ≤ c0_1) (h : owners_sum_exceeds.f k l0_0 l0_1 a1 a2 = some r) :
    Calls Tryz.prog 33 #[.agg #[.slice A0_0 l0_0.length c0_0, .slice A0_1 l0_1.length c0_1], .int .i64 a1, .int .i64 a2] w fun e w' => e = .returned (.bool r) ∧ Below w.heap.size w w' := by
  have hu67 := Tryz.underlying67
  have HR0_0 := Aside0.mk hr0_0
  have HC0_0 := Aside0.mk hc0_0
  clear hr0_0 hc0_0
  have HR0_1 := Aside0.mk hr0_1
  have HC0_1 := Aside0.mk hc0_1
  clear hr0_1 hc0_1
  have HB := Aside0.mk (Below.refl w.heap.size w)
  have H : ((owners_natural_times.f k l0_0 a2).bind fun t261 => ((owners_natural_times.f k l0_1 a1).bind fun t264 => ((owners_natural_greater.f k t261 t264).bind fun t267 => (some t267)))) = some r := h
  clear h
  replace H := Option.bind_eq_some_iff.mp H
  obtain ⟨t261, A40, H⟩ := H
  replace H : ((owners_natural_times.f k l0_1 a1).bind fun t264 => ((owners_natural_greater.f k t261 t264).bind fun t267 => (some t267))) = some r := H
  have A4 := Aside0.mk A40
  clear A40
  replace H := Option.bind_eq_some_iff.mp H
  obtain ⟨t264, A50, H⟩ := H
  replace H : ((owners_natural_greater.f k t261 t264).bind fun t267 => (some t267)) = some r := H
  have A5 := Aside0.mk A50
  clear A50
  replace H := Option.bind_eq_some_iff.mp H
  obtain ⟨t267, A60, H⟩ := H
  replace H : (some t267) = some r := H
  have A6 := Aside0.mk A60
  clear A60
  obtain rfl := Option.some.inj H
  go_enter Tryz.func33, Tryz.ntmps33
  try go_wp2_with (first | ((with_reducible refine gate_dst (N := 3) rfl ?_); refine box_event ?hg (N := 3) ?hd (cs := #[.slice A0_0 l0_0.length c0_0, .slice A0_1 l0_1.length c0_1]) (t := 67) ?hr ?_; (case hd => rfl); (case hg => rfl); (case hr => first | (go_simp; done) | (go_simp; rfl)); intro gb260 hg w7 hbox hb; have n0_ := Aside0.mk (below_step (by repeat (first | (with_reducible first | exact HB.out | apply below_alloc | apply pw_below_drewN | apply below_drew1) | exact HB.out)) hb); have n1_ := Aside0.mk (hbox); have n2_ := Aside0.mk ((by rw [hg]; exact (below_size (by repeat (first | (with_reducible first | exact HB.out | apply below_alloc | apply pw_below_drewN | apply below_drew1) | exact HB.out))) : w.heap.size ≤ gb260)); have n3_ := Aside0.mk ((by rw [hg]; exact (below_size (by repeat (first | (with_reducible first | exact HB.out | apply below_alloc | apply pw_below_drewN | apply below_drew1) | exact HB.out))) : w.heap.size ≤ gb260)); clear HB; have HB := n0_; have BK260 := n1_; have GW260 := n2_; have GE260 := n3_; clear n0_ n1_ n2_ n3_; clear hb hbox hg))
  have n0_ := Aside0.mk (blk_drew BK260.out)
  have n1_ := Aside0.mk (below_drew1 HB.out)
  clear BK260
  clear HB
  have BK260 := n0_
  have HB := n1_
  clear n0_ n1_
  refine start_ (n := 10) (S := fun w' => w'.cell? ⟨gb260, 0, none⟩ = some (.slice A0_0 l0_0.length c0_0) ∧ w'.cell? ⟨gb260, 1, none⟩ = some (.slice A0_1 l0_1.length c0_1)) (ds := []) #[false, false, false, false, false, false, false, false, false, false] (by kernel_rfl) rfl rfl ⟨(blk_cell BK260.out 0).trans rfl, (blk_cell BK260.out 1).trans rfl⟩ (fun hHeld => ?_); refine with_tabW owners_sum_exceeds.tab1 owners_sum_exceeds.bits1 (fun HT_ HW_ => ?_)
  generalize w7.drew = w8 at BK260 HB hHeld ⊢
  refine pure_ (i := 0) (N := some 7) (v := ?_) (a' := ?_) #[true, false, false, false, false, false, false, false, false, false] rfl rfl (any_of HT_.out (by kernel_rfl)) (fun _ _ _ h => h) (Or.inl ⟨by rfl, ?_⟩) ?_ ?_
  rotate_left
  · intro w'
    go_simp
    with_reducible rfl
  rotate_left
  · simp only [Act.put, pkA, pkZ, pkS, i64_w, i32_w]
    rfl
  refine pure_ (i := 2) (N := some 9) (v := ?_) (a' := ?_) #[true, false, true, false, false, false, false, false, false, false] rfl rfl (any_of HT_.out (by kernel_rfl)) (fun _ _ _ h => h) (Or.inl ⟨by rfl, ?_⟩) ?_ ?_
  rotate_left
  · intro w'
    go_simp
    with_reducible rfl
  rotate_left
  · simp only [Act.put, pkA, pkZ, pkS, i64_w, i32_w]
    rfl
  refine pure_ (i := 4) (N := some 11) (v := ?_) (a' := ?_) #[true, false, true, false, true, false, false, false, false, false] rfl rfl (any_of HT_.out (by kernel_rfl)) (fun _ _ _ h => h) (Or.inl ⟨by rfl, ?_⟩) ?_ ?_
  rotate_left
  · intro w'
    go_simp
    with_reducible rfl
  rotate_left
  · simp only [Act.put, pkA, pkZ, pkS, i64_w, i32_w]
    rfl
  refine pure_ (i := 6) (N := some 13) (v := ?_) (a' := ?_) #[true, false, true, false, true, false, true, false, false, false] rfl rfl (any_of HT_.out (by kernel_rfl)) (fun _ _ _ h => h) (Or.inl ⟨by rfl, ?_⟩) ?_ ?_
  rotate_left
  · intro w'
    go_simp
    with_reducible rfl
  rotate_left
  · simp only [Act.put, pkA, pkZ, pkS, i64_w, i32_w]
    rfl
  refine take_ (i := 1) (N := some 8) (v := ?_) (a' := ?_) #[true, true, true, false, true, false, true, false, false, false] rfl rfl (take_ofW HT_.out HW_.out (by kernel_rfl)) (fun _ _ _ h => h) (Or.inl ⟨by rfl, ?_⟩) hHeld ?_ ?_
  rotate_left
  · rintro w' ⟨s0, s1⟩
    go_simp
    with_reducible rfl
  rotate_left
  · simp only [Act.put, pkA, pkZ, pkS, i64_w, i32_w]
    rfl
  refine take_ (i := 5) (N := some 12) (v := ?_) (a' := ?_) #[true, true, true, false, true, true, true, false, false, false] rfl rfl (take_ofW HT_.out HW_.out (by kernel_rfl)) (fun _ _ _ h => h) (Or.inl ⟨by rfl, ?_⟩) hHeld ?_ ?_
  rotate_left
  · rintro w' ⟨s0, s1⟩
    go_simp
    with_reducible rfl
  rotate_left
  · simp only [Act.put, pkA, pkZ, pkS, i64_w, i32_w]
    rfl
  refine one_ (i := 3) (N := some 10) #[true, true, true, true, true, true, true, false, false, false] rfl rfl (one_of HT_.out (by kernel_rfl)) (by decide) (fun K hK => ?_)
  refine goes_ Tryz.func54 (by kernel_rfl) rfl #[.slice A0_0 l0_0.length c0_0, .int .i64 a2] (by rfl) rfl rfl (by (try simp only [List.map_toArray, List.map_cons, List.map_nil]); first | done | rfl | (simp only [List.length_drop, List.length_take]; rfl)) ?_
  with_reducible refine (owners_natural_times.calls k _ _ l0_0 a2 t261 _ ?side1 ?side2 A4.out).mono ?_
  (case side1 => repeat (first | exact (Kd.C_below HR0_0.out HB.out) | (with_reducible refine Kd.C_alloc ?_ _) | (with_reducible refine Kd.C_drewN ?_ _) | (with_reducible refine Kd.C_drew ?_)))
  (case side2 => exact HC0_0.out)
  rintro e w9 ⟨v262, rfl, ho0, hb⟩
  refine ⟨_, rfl, ?_⟩
  have n0_ := Aside0.mk (Kd.R_lower ho0 (below_size (by repeat (first | (with_reducible first | exact HB.out | apply below_alloc | apply pw_below_drewN | apply below_drew1 | refine below_set ?_ GE260.out) | exact HB.out))))
  have n1_ := Aside0.mk (blk_below (g := gb260) (o := .cells #[.slice A0_0 l0_0.length c0_0, .slice A0_1 l0_1.length c0_1] 67 (0, 0)) (by (with_reducible repeat (first | refine blk_drewN ?_ _ | refine blk_drew ?_ | refine blk_alloc ?_ _)); exact BK260.out) hb)
  have n2_ := Aside0.mk (below_step (by repeat (first | (with_reducible first | exact HB.out | apply below_alloc | apply pw_below_drewN | apply below_drew1 | refine below_set ?_ GE260.out) | exact HB.out)) hb)
  clear BK260
  clear HB
  have HO263 := n0_
  have BK260 := n1_
  have HB := n2_
  clear n0_ n1_ n2_
  (try clear hb)
  (try clear hb2)
  (try clear hk)
  (try clear hi)
  (try clear ho0)
  refine hK.out _ _ ⟨(blk_cell BK260.out 0).trans rfl, (blk_cell BK260.out 1).trans rfl⟩ (fun hHeld => ?_)
  clear hK K
  refine norm_ (a' := ?_) ?_ ?_
  rotate_left
  · show Act.put _ (some 10) _ = _
    simp only [Act.put, pkA, pkZ, pkS, i64_w, i32_w]
    rfl
  refine one_ (i := 7) (N := some 14) #[true, true, true, true, true, true, true, true, false, false] rfl rfl (one_of HT_.out (by kernel_rfl)) (by decide) (fun K hK => ?_)
  refine goes_ Tryz.func54 (by kernel_rfl) rfl #[.slice A0_1 l0_1.length c0_1, .int .i64 a1] (by rfl) rfl rfl (by (try simp only [List.map_toArray, List.map_cons, List.map_nil]); first | done | rfl | (simp only [List.length_drop, List.length_take]; rfl)) ?_
  with_reducible refine (owners_natural_times.calls k _ _ l0_1 a1 t264 _ ?side1 ?side2 A5.out).mono ?_
  (case side1 => repeat (first | exact (Kd.C_below HR0_1.out HB.out) | (with_reducible refine Kd.C_alloc ?_ _) | (with_reducible refine Kd.C_drewN ?_ _) | (with_reducible refine Kd.C_drew ?_)))
  (case side2 => exact HC0_1.out)
  rintro e w10 ⟨v265, rfl, ho0, hb⟩
  refine ⟨_, rfl, ?_⟩
  have n0_ := Aside0.mk (Kd.R_elder' (by (with_reducible repeat (first | apply Kd.R_alloc | apply Kd.R_drewN | apply Kd.R_drew)); exact HO263.out) (by first | exact Kd.R_base ho0 | exact Kd.R_base ho0 | exact Kd.S_base ho0 | exact Kd.N_base ho0) hb)
  have n1_ := Aside0.mk (Kd.R_lower (Kd.R_new' ho0 (Kd.R_lt (by (with_reducible repeat (first | apply Kd.R_alloc | apply Kd.R_drewN | apply Kd.R_drew)); exact HO263.out))) (below_size (by repeat (first | (with_reducible first | exact HB.out | apply below_alloc | apply pw_below_drewN | apply below_drew1 | refine below_set ?_ GE260.out) | exact HB.out))))
  have n2_ := Aside0.mk (blk_below (g := gb260) (o := .cells #[.slice A0_0 l0_0.length c0_0, .slice A0_1 l0_1.length c0_1] 67 (0, 0)) (by (with_reducible repeat (first | refine blk_drewN ?_ _ | refine blk_drew ?_ | refine blk_alloc ?_ _)); exact BK260.out) hb)
  have n3_ := Aside0.mk (below_step (by repeat (first | (with_reducible first | exact HB.out | apply below_alloc | apply pw_below_drewN | apply below_drew1 | refine below_set ?_ GE260.out) | exact HB.out)) hb)
  clear HO263
  clear BK260
  clear HB
  have HO263 := n0_
  have HO266 := n1_
  have BK260 := n2_
  have HB := n3_
  clear n0_ n1_ n2_ n3_
  (try clear hb)
  (try clear hb2)
  (try clear hk)
  (try clear hi)
  (try clear ho0)
  obtain ⟨Ao11, co11, eo11⟩ := Kd.R_slice HO263.out
  (first | subst eo11 | (injection eo11 with f1_ f2_ f3_; have f4_ := f1_.symm; have f5_ := f3_.symm; clear f1_ f2_ f3_; subst f4_; subst f5_))
  obtain ⟨Ao12, co12, eo12⟩ := Kd.R_slice HO266.out
  (first | subst eo12 | (injection eo12 with f1_ f2_ f3_; have f4_ := f1_.symm; have f5_ := f3_.symm; clear f1_ f2_ f3_; subst f4_; subst f5_))
  refine hK.out _ _ ⟨(blk_cell BK260.out 0).trans rfl, (blk_cell BK260.out 1).trans rfl⟩ (fun hHeld => ?_)
  clear hK K
  refine norm_ (a' := ?_) ?_ ?_
  rotate_left
  · show Act.put _ (some 14) _ = _
    simp only [Act.put, pkA, pkZ, pkS, i64_w, i32_w]
    rfl
  refine one_ (i := 8) (N := some 15) #[true, true, true, true, true, true, true, true, true, false] rfl rfl (one_of HT_.out (by kernel_rfl)) (by decide) (fun K hK => ?_)
  refine goes_ Tryz.func55 (by kernel_rfl) rfl #[.slice Ao11 t261.length co11, .slice Ao12 t264.length co12] (by rfl) rfl rfl (by (try simp only [List.map_toArray, List.map_cons, List.map_nil]); first | done | rfl | (simp only [List.length_drop, List.length_take]; rfl)) ?_
  with_reducible refine (owners_natural_greater.calls k _ _ t261 _ _ t264 t267 _ ?side1 ?side2 ?side3 ?side4 A6.out).mono ?_
  (case side1 => repeat (first | exact (Kd.R_reads' HO263.out).2.2 | (with_reducible refine Kd.C_alloc ?_ _) | (with_reducible refine Kd.C_drewN ?_ _) | (with_reducible refine Kd.C_drew ?_)))
  (case side2 => exact (Kd.R_reads' HO263.out).2.1)
  (case side3 => repeat (first | exact (Kd.R_reads' HO266.out).2.2 | (with_reducible refine Kd.C_alloc ?_ _) | (with_reducible refine Kd.C_drewN ?_ _) | (with_reducible refine Kd.C_drew ?_)))
  (case side4 => exact (Kd.R_reads' HO266.out).2.1)
  rintro e w' ⟨rfl, ⟨nd, rfl⟩⟩
  refine ⟨_, rfl, ?_⟩
  refine hK.out _ _ ⟨(blk_cell BK260.out 0).trans rfl, (blk_cell BK260.out 1).trans rfl⟩ (fun hHeld => ?_)
  clear hK K
  refine norm_ (a' := ?_) ?_ ?_
  rotate_left
  · show Act.put _ (some 15) _ = _
    simp only [Act.put, pkA, pkZ, pkS, i64_w, i32_w]
    rfl
  refine pure_ (i := 9) (N := some 6) (v := ?_) (a' := ?_) #[true, true, true, true, true, true, true, true, true, true] rfl rfl (any_of HT_.out (by kernel_rfl)) (fun _ _ _ h => h) (Or.inl ⟨by rfl, ?_⟩) ?_ ?_
  rotate_left
  · intro w'
    go_simp
    with_reducible rfl
  rotate_left
  · simp only [Act.put, pkA, pkZ, pkS, i64_w, i32_w]
    rfl
  refine done_ (done_of HT_.out (by kernel_rfl)) ?_
  try go_wp2
  go_ret
  exact ⟨by first | rfl | (simp [errW_none, errW_some] <;> rfl) | (simp [*, errW_none, errW_some] <;> rfl), by repeat (first | (with_reducible first | exact HB.out | apply below_alloc | apply pw_below_drewN | apply below_drew1 | refine below_set ?_ GE260.out) | exact HB.out)⟩
def V (b : Int) (f : Nat → Int) : Nat → Int
  | 0 => 0
  | n + 1 => V b f n + f n * b ^ n
def dg (l : List Int) (i : Nat) : Int := l.getD i 0
def val (b : Int) (l : List Int) : Int := V b (dg l) l.length
def Dg (b : Int) (l : List Int) : Prop := ∀ i, 0 ≤ dg l i ∧ dg l i < b
theorem V_congr {b : Int} {f g : Nat → Int} : ∀ {n : Nat}, (∀ i, i < n → f i = g i) → V b f n = V b g n
  | 0, _ => rfl
  | n + 1, h => by rw [V, V, V_congr (fun i hi => h i (by omega)), h n (by omega)]
theorem pow_pos_ {b : Int} (hb : 1 ≤ b) : ∀ n : Nat, 1 ≤ b ^ n
  | 0 => by simp
  | n + 1 => by
    have h := pow_pos_ hb n
    rw [Int.pow_succ]
    have : 1 * 1 ≤ b ^ n * b := Int.mul_le_mul h hb (by omega) (by omega)
    omega
theorem V_bounds {b : Int} (hb : 1 ≤ b) {f : Nat → Int} (hf : ∀ i, 0 ≤ f i ∧ f i < b) : ∀ n, 0 ≤ V b f n ∧ V b f n < b ^ n
  | 0 => by simp [V]
  | n + 1 => by
    obtain ⟨h1, h2⟩ := V_bounds hb hf n
    have hp := pow_pos_ hb n
    have h3 := Int.mul_nonneg (hf n).1 (show 0 ≤ b ^ n by omega)
    have h4 : f n * b ^ n ≤ (b - 1) * b ^ n := Int.mul_le_mul_of_nonneg_right (by have := (hf n).2; omega) (by omega)
    have h5 : (b - 1) * b ^ n = b ^ n * b - b ^ n := by rw [Int.sub_mul, Int.one_mul, Int.mul_comm]
    rw [V, Int.pow_succ]
    omega
theorem V_ext {b : Int} {l : List Int} : ∀ {n : Nat}, l.length ≤ n → V b (dg l) n = val b l
  | 0, h => by have : l.length = 0 := by omega
               unfold val; rw [this]
  | n + 1, h => by
    by_cases e : l.length = n + 1
    · unfold val; rw [e]
    · rw [V, V_ext (by omega)]
      have : dg l n = 0 := by unfold dg; rw [List.getD_eq_getElem?_getD, List.getElem?_eq_none (by omega)]; rfl
      rw [this]; omega
theorem dg_snoc (l : List Int) (d : Int) (i : Nat) : dg (l ++ [d]) i = if i < l.length then dg l i else if i = l.length then d else 0 := by
  unfold dg
  simp only [List.getD_eq_getElem?_getD]
  by_cases h : i < l.length
  · rw [if_pos h, List.getElem?_append_left h]
  · rw [if_neg h, List.getElem?_append_right (by omega)]
    by_cases e : i = l.length
    · subst e; simp
    · rw [if_neg e, List.getElem?_eq_none (by simp; omega)]; rfl
theorem val_snoc (b : Int) (l : List Int) (d : Int) : val b (l ++ [d]) = val b l + d * b ^ l.length := by
  unfold val
  rw [List.length_append]
  show V b (dg (l ++ [d])) (l.length + 1) = _
  rw [V, V_congr (g := dg l) (fun i hi => by rw [dg_snoc, if_pos hi]), dg_snoc, if_neg (by omega), if_pos rfl]
theorem Dg_snoc {b : Int} (hb : 1 ≤ b) {l : List Int} {d : Int} (h : Dg b l) (h0 : 0 ≤ d) (h1 : d < b) : Dg b (l ++ [d]) := by
  intro i
  rw [dg_snoc]
  split
  · exact h i
  · split
    · exact ⟨h0, h1⟩
    · omega
theorem Dg_nil {b : Int} (hb : 1 ≤ b) : Dg b [] := fun i => by unfold dg; simp; omega
theorem rd_dg (l : List Int) (i : Nat) : rd l (i : Int) = dg l i := by unfold rd dg; simp
theorem step_val {b c : Int} (hb : 1 ≤ b) (hc : 0 ≤ c) (hm : c ≤ 9223372036854775807) (out : List Int) : val b (out ++ [Int.tmod c b]) + wrap64 (Int.tdiv c b) * b ^ (out.length + 1) = val b out + c * b ^ out.length ∧ 0 ≤ Int.tmod c b ∧ Int.tmod c b < b ∧ wrap64 (Int.tdiv c b) = c / b ∧ 0 ≤ c / b ∧ c / b ≤ c := by
  have h1 : Int.tmod c b = c % b := Int.tmod_eq_emod_of_nonneg hc
  have h2 : Int.tdiv c b = c / b := Int.tdiv_eq_ediv_of_nonneg hc
  have h3 : 0 ≤ c / b := Int.ediv_nonneg hc (by omega)
  have h4 : c / b ≤ c := Int.ediv_le_self b hc
  have h5 : wrap64 (c / b) = c / b := IntWalk.wrap64_in _ (by omega)
  rw [h1, h2, h5, val_snoc]
  refine ⟨?_, Int.emod_nonneg _ (by omega), Int.emod_lt_of_pos _ (by omega), rfl, h3, h4⟩
  rw [Int.pow_succ, Int.mul_comm (b ^ out.length) b, ← Int.mul_assoc, Int.add_assoc, ← Int.add_mul]
  congr 2
  have := Int.emod_add_mul_ediv c b
  rw [Int.mul_comm (c / b) b]
  exact this
theorem wr_ {n : Int} (h : -9223372036854775808 ≤ n ∧ n ≤ 9223372036854775807) : wrap64 n = n := IntWalk.wrap64_in n h
theorem refTimes_tail (x0 : List Int) (n : Int) : ∀ (m : Nat) (c : Int) (out : List Int), 0 ≤ c → c < 10000 ^ m → c ≤ 9223372036854775807 → x0.length ≤ out.length → out.length + m ≤ 100000 → Dg 10000 out →
    ∃ k r, accountingref43_times.l0 k x0 n out c (out.length : Int) = some r ∧ val 10000 r = val 10000 out + c * 10000 ^ out.length ∧ Dg 10000 r ∧ r.length ≤ out.length + m
  | 0, c, out, h0, h1, _, hl, _, hd => by
    have : c = 0 := by simp at h1; omega
    subst this
    refine ⟨2, out, ?_, by omega, hd, by omega⟩
    rw [accountingref43_times.l0, if_neg (by omega), accountingref43_times.j1, if_neg (by simp)]
  | m + 1, c, out, h0, h1, h2, hl, hm, hd => by
    by_cases hc : c = 0
    · subst hc
      refine ⟨2, out, ?_, by omega, hd, by omega⟩
      rw [accountingref43_times.l0, if_neg (by omega), accountingref43_times.j1, if_neg (by simp)]
    · obtain ⟨s1, s2, s3, s4, s5, s6⟩ := step_val (b := 10000) (by omega) h0 h2 out
      have hlt : c / 10000 < 10000 ^ m := by rw [Int.pow_succ] at h1; exact Int.ediv_lt_of_lt_mul (by omega) h1
      have hlen : (out ++ [Int.tmod c 10000]).length = out.length + 1 := by simp
      obtain ⟨k, r, hr, hv, hdr, hrl⟩ := refTimes_tail x0 n m (c / 10000) (out ++ [Int.tmod c 10000]) s5 hlt (by omega) (by omega) (by omega) (Dg_snoc (by omega) hd s2 s3)
      rw [hlen] at hr hv hrl
      refine ⟨k + 2, r, ?_, ?_, hdr, by omega⟩
      · rw [accountingref43_times.l0, if_neg (by omega), accountingref43_times.j1, if_pos (by simp; omega), if_neg (by omega), if_pos (by omega), s4, wr_ (by omega)]
        exact hr
      · rw [hv, ← s4, ← s1]
theorem refTimes_main (x0 : List Int) (n : Int) (hn : 0 ≤ n ∧ n ≤ 1000000) (hd0 : Dg 10000 x0) (hl0 : x0.length ≤ 90000) : ∀ (g : Nat) (c : Int) (out : List Int), out.length + g = x0.length → 0 ≤ c → c ≤ n → Dg 10000 out → val 10000 out + c * 10000 ^ out.length = n * V 10000 (dg x0) out.length →
    ∃ k r, accountingref43_times.l0 k x0 n out c (out.length : Int) = some r ∧ val 10000 r = n * val 10000 x0 ∧ Dg 10000 r ∧ r.length ≤ x0.length + 2
  | 0, c, out, hg, h0, h1, hd, hv => by
    obtain ⟨k, r, hr, hvr, hdr, hrl⟩ := refTimes_tail x0 n 2 c out h0 (by rw [show (10000 : Int) ^ 2 = 100000000 from by decide]; omega) (by omega) (by omega) (by omega) hd
    refine ⟨k, r, hr, ?_, hdr, by omega⟩
    rw [hvr, hv, V_ext (by omega)]
  | g + 1, c, out, hg, h0, h1, hd, hv => by
    obtain ⟨d0, d1⟩ := hd0 out.length
    have hp0 := Int.mul_nonneg d0 hn.1
    have hp1 : dg x0 out.length * n ≤ 9999 * n := Int.mul_le_mul_of_nonneg_right (by omega) hn.1
    have hsum0 : 0 ≤ c + dg x0 out.length * n := by omega
    obtain ⟨s1, s2, s3, s4, s5, s6⟩ := step_val (b := 10000) (c := c + dg x0 out.length * n) (by omega) hsum0 (by omega) out
    have hcn : (c + dg x0 out.length * n) / 10000 ≤ n := by
      have : (c + dg x0 out.length * n) / 10000 ≤ (10000 * n) / 10000 := Int.ediv_le_ediv (by omega) (by omega)
      rw [Int.mul_ediv_cancel_left _ (by omega)] at this
      exact this
    have hlen : (out ++ [Int.tmod (c + dg x0 out.length * n) 10000]).length = out.length + 1 := by simp
    obtain ⟨k, r, hr, hvr, hdr, hrl⟩ := refTimes_main x0 n hn hd0 hl0 g ((c + dg x0 out.length * n) / 10000) (out ++ [Int.tmod (c + dg x0 out.length * n) 10000]) (by omega) s5 hcn (Dg_snoc (by omega) hd s2 s3) (by
      rw [hlen, ← s4, s1, V, Int.add_mul, ← Int.add_assoc, hv, Int.mul_add]
      congr 1
      rw [Int.mul_comm (dg x0 out.length) n, Int.mul_assoc])
    rw [hlen] at hr
    refine ⟨k + 2, r, ?_, hvr, hdr, hrl⟩
    rw [accountingref43_times.l0, if_pos (by omega), accountingref43_times.j1, if_pos rfl, if_pos (by omega), if_pos (by omega), if_pos (by omega), rd_dg, wr_ (n := dg x0 out.length * n) (by omega), wr_ (n := c + dg x0 out.length * n) (by omega), s4, wr_ (by omega)]
    exact hr
theorem ref_times_ex (x0 : List Int) (n : Int) (hn : 0 ≤ n ∧ n ≤ 1000000) (hd0 : Dg 10000 x0) (hl0 : x0.length ≤ 90000) : ∃ k r, accountingref43_times.f k x0 n = some r ∧ val 10000 r = n * val 10000 x0 ∧ Dg 10000 r ∧ r.length ≤ x0.length + 2 := by
  obtain ⟨k, r, h1, h2⟩ := refTimes_main x0 n hn hd0 hl0 x0.length 0 [] (by simp) (by omega) hn.1 (Dg_nil (by omega)) (by simp [val, V])
  exact ⟨k, r, h1, h2⟩
theorem natTimes_main (x9 : List Int) (n : Int) (hn : 0 ≤ n ∧ n ≤ 1000000) (hd0 : Dg 1000000000 x9) (hl0 : x9.length ≤ 90000) : ∀ (g : Nat) (c : Int) (out : List Int), out.length + g = x9.length → 0 ≤ c → c ≤ n → Dg 1000000000 out → val 1000000000 out + c * 1000000000 ^ out.length = n * V 1000000000 (dg x9) out.length →
    ∃ k r, owners_natural_times.l0 k n out c x9 (x9.length : Int) (out.length : Int) = some r ∧ val 1000000000 r = n * val 1000000000 x9 ∧ Dg 1000000000 r ∧ r.length ≤ x9.length + 1
  | 0, c, out, hg, h0, h1, hd, hv => by
    by_cases hc : c = 0
    · subst hc
      refine ⟨1, out, ?_, ?_, hd, by omega⟩
      · rw [owners_natural_times.l0, if_neg (by omega), if_neg (by omega)]
      · rw [V_ext (by omega)] at hv; rw [← hv]; omega
    · refine ⟨1, out ++ [c], ?_, ?_, Dg_snoc (by omega) hd h0 (by omega), by simp; omega⟩
      · rw [owners_natural_times.l0, if_neg (by omega), if_pos (by omega), if_pos (by omega)]
      · rw [val_snoc, hv, V_ext (by omega)]
  | g + 1, c, out, hg, h0, h1, hd, hv => by
    obtain ⟨d0, d1⟩ := hd0 out.length
    have hp0 := Int.mul_nonneg d0 hn.1
    have hp1 : dg x9 out.length * n ≤ 999999999 * n := Int.mul_le_mul_of_nonneg_right (by omega) hn.1
    have hsum0 : 0 ≤ c + dg x9 out.length * n := by omega
    obtain ⟨s1, s2, s3, s4, s5, s6⟩ := step_val (b := 1000000000) (c := c + dg x9 out.length * n) (by omega) hsum0 (by omega) out
    have hcn : (c + dg x9 out.length * n) / 1000000000 ≤ n := by
      have : (c + dg x9 out.length * n) / 1000000000 ≤ (1000000000 * n) / 1000000000 := Int.ediv_le_ediv (by omega) (by omega)
      rw [Int.mul_ediv_cancel_left _ (by omega)] at this
      exact this
    have hlen : (out ++ [Int.tmod (c + dg x9 out.length * n) 1000000000]).length = out.length + 1 := by simp
    obtain ⟨k, r, hr, hvr, hdr, hrl⟩ := natTimes_main x9 n hn hd0 hl0 g ((c + dg x9 out.length * n) / 1000000000) (out ++ [Int.tmod (c + dg x9 out.length * n) 1000000000]) (by omega) s5 hcn (Dg_snoc (by omega) hd s2 s3) (by
      rw [hlen, ← s4, s1, V, Int.add_mul, ← Int.add_assoc, hv, Int.mul_add]
      congr 1
      rw [Int.mul_comm (dg x9 out.length) n, Int.mul_assoc])
    rw [hlen] at hr
    refine ⟨k + 1, r, ?_, hvr, hdr, hrl⟩
    rw [owners_natural_times.l0, if_pos (by omega), if_pos (by omega), if_pos (by omega), if_pos (by omega), rd_dg, wr_ (n := dg x9 out.length * n) (by omega), wr_ (n := c + dg x9 out.length * n) (by omega), s4, wr_ (by omega)]
    exact hr
theorem nat_times_ex (x9 : List Int) (n : Int) (hn : 0 ≤ n ∧ n ≤ 1000000) (hd0 : Dg 1000000000 x9) (hl0 : x9.length ≤ 90000) : ∃ k r, owners_natural_times.f k x9 n = some r ∧ val 1000000000 r = n * val 1000000000 x9 ∧ Dg 1000000000 r ∧ r.length ≤ x9.length + 1 := by
  obtain ⟨k, r, h1, h2⟩ := natTimes_main x9 n hn hd0 hl0 x9.length 0 [] (by simp) (by omega) hn.1 (Dg_nil (by omega)) (by simp [val, V])
  exact ⟨k, r, h1, h2⟩
theorem refPlus_main (a b : List Int) (ha : Dg 10000 a) (hb : Dg 10000 b) (hla : a.length ≤ 90000) (hlb : b.length ≤ 90000) : ∀ (g : Nat) (c : Int) (out : List Int), out.length + g = max a.length b.length → 0 ≤ c → c ≤ 1 → Dg 10000 out → val 10000 out + c * 10000 ^ out.length = V 10000 (dg a) out.length + V 10000 (dg b) out.length →
    ∃ k r, accountingref43_plus.l0 k a b out c (out.length : Int) = some r ∧ val 10000 r = val 10000 a + val 10000 b ∧ Dg 10000 r ∧ r.length ≤ max a.length b.length + 1
  | 0, c, out, hg, h0, h1, hd, hv => by
    rw [V_ext (by omega), V_ext (by omega)] at hv
    by_cases hc : c = 0
    · subst hc
      refine ⟨2, out, ?_, by rw [← hv]; omega, hd, by omega⟩
      rw [accountingref43_plus.l0, if_neg (by omega), if_neg (by omega), accountingref43_plus.j1, if_neg (by simp)]
    · have hc1 : c = 1 := by omega
      subst hc1
      obtain ⟨s1, s2, s3, s4, s5, s6⟩ := step_val (b := 10000) (c := 1) (by omega) (by omega) (by omega) out
      refine ⟨4, out ++ [Int.tmod 1 10000], ?_, ?_, Dg_snoc (by omega) hd s2 s3, by simp; omega⟩
      · rw [accountingref43_plus.l0, if_neg (by omega), if_neg (by omega), accountingref43_plus.j1, if_pos (by simp), if_neg (by omega), if_neg (by omega), if_pos (by omega), s4, wr_ (n := (out.length : Int) + 1) (by omega), accountingref43_plus.l0, if_neg (by omega), if_neg (by omega), accountingref43_plus.j1, if_neg (by simp)]
      · rw [val_snoc, ← hv]; simp
  | g + 1, c, out, hg, h0, h1, hd, hv => by
    obtain ⟨a0, a1⟩ := ha out.length
    obtain ⟨b0, b1⟩ := hb out.length
    obtain ⟨s1, s2, s3, s4, s5, s6⟩ := step_val (b := 10000) (c := c + dg a out.length + dg b out.length) (by omega) (by omega) (by omega) out
    have hlen : (out ++ [Int.tmod (c + dg a out.length + dg b out.length) 10000]).length = out.length + 1 := by simp
    obtain ⟨k, r, hr, hvr, hdr, hrl⟩ := refPlus_main a b ha hb hla hlb g ((c + dg a out.length + dg b out.length) / 10000) (out ++ [Int.tmod (c + dg a out.length + dg b out.length) 10000]) (by omega) s5 (by omega) (Dg_snoc (by omega) hd s2 s3) (by
      rw [hlen, ← s4, s1, V, V, Int.add_mul, Int.add_mul]
      omega)
    rw [hlen] at hr
    refine ⟨k + 2, r, ?_, hvr, hdr, hrl⟩
    have hz : ∀ l : List Int, ¬ ((out.length : Int) < (l.length : Int)) → dg l out.length = 0 := fun l h => by unfold dg; rw [List.getD_eq_getElem?_getD, List.getElem?_eq_none (by omega)]; rfl
    by_cases c1 : (out.length : Int) < (a.length : Int)
    · by_cases c2 : (out.length : Int) < (b.length : Int)
      · rw [accountingref43_plus.l0, if_pos c1, accountingref43_plus.j1, if_pos rfl, if_pos c1, if_pos (by omega), if_pos c2, if_pos (by omega), rd_dg, rd_dg, wr_ (n := c + dg a out.length) (by omega), wr_ (n := c + dg a out.length + dg b out.length) (by omega), s4, wr_ (by omega)]
        exact hr
      · have hz2 := hz b c2
        rw [hz2, Int.add_zero] at s4 hr
        rw [accountingref43_plus.l0, if_pos c1, accountingref43_plus.j1, if_pos rfl, if_pos c1, if_pos (by omega), if_neg c2, if_pos (by omega), rd_dg, wr_ (n := c + dg a out.length) (by omega), s4, wr_ (by omega)]
        exact hr
    · have c2 : (out.length : Int) < (b.length : Int) := by omega
      have hz2 := hz a c1
      rw [hz2, Int.add_zero] at s4 hr
      rw [accountingref43_plus.l0, if_neg c1, if_pos c2, accountingref43_plus.j1, if_pos rfl, if_neg c1, if_pos c2, if_pos (by omega), if_pos (by omega), rd_dg, wr_ (n := c + dg b out.length) (by omega), s4, wr_ (by omega)]
      exact hr
theorem refPlus_ex (a b : List Int) (ha : Dg 10000 a) (hb : Dg 10000 b) (hla : a.length ≤ 90000) (hlb : b.length ≤ 90000) : ∃ k r, accountingref43_plus.f k a b = some r ∧ val 10000 r = val 10000 a + val 10000 b ∧ Dg 10000 r ∧ r.length ≤ max a.length b.length + 1 := by
  obtain ⟨k, r, h1, h2⟩ := refPlus_main a b ha hb hla hlb (max a.length b.length) 0 [] (by simp) (by omega) (by omega) (Dg_nil (by omega)) (by simp [val, V])
  exact ⟨k, r, h1, h2⟩
theorem natPlus_main (a b : List Int) (ha : Dg 1000000000 a) (hb : Dg 1000000000 b) (hla : a.length ≤ 90000) (hlb : b.length ≤ 90000) : ∀ (g : Nat) (c : Int) (out : List Int), out.length + g = max a.length b.length → 0 ≤ c → c ≤ 1 → Dg 1000000000 out → val 1000000000 out + c * 1000000000 ^ out.length = V 1000000000 (dg a) out.length + V 1000000000 (dg b) out.length →
    ∃ k r, owners_natural_plus.l0 k a b out c (out.length : Int) = some r ∧ val 1000000000 r = val 1000000000 a + val 1000000000 b ∧ Dg 1000000000 r ∧ r.length ≤ max a.length b.length + 1
  | 0, c, out, hg, h0, h1, hd, hv => by
    rw [V_ext (by omega), V_ext (by omega)] at hv
    by_cases hc : c = 0
    · subst hc
      refine ⟨2, out, ?_, by rw [← hv]; omega, hd, by omega⟩
      rw [owners_natural_plus.l0, if_neg (by omega), owners_natural_plus.j1, if_neg (by simp; omega), if_neg (by omega)]
    · have hc1 : c = 1 := by omega
      subst hc1
      refine ⟨2, out ++ [1], ?_, ?_, Dg_snoc (by omega) hd (by omega) (by omega), by simp; omega⟩
      · rw [owners_natural_plus.l0, if_neg (by omega), owners_natural_plus.j1, if_neg (by simp; omega), if_pos (by omega), if_pos (by omega)]
      · rw [val_snoc, ← hv]
  | g + 1, c, out, hg, h0, h1, hd, hv => by
    obtain ⟨a0, a1⟩ := ha out.length
    obtain ⟨b0, b1⟩ := hb out.length
    obtain ⟨s1, s2, s3, s4, s5, s6⟩ := step_val (b := 1000000000) (c := c + dg a out.length + dg b out.length) (by omega) (by omega) (by omega) out
    have hlen : (out ++ [Int.tmod (c + dg a out.length + dg b out.length) 1000000000]).length = out.length + 1 := by simp
    obtain ⟨k, r, hr, hvr, hdr, hrl⟩ := natPlus_main a b ha hb hla hlb g ((c + dg a out.length + dg b out.length) / 1000000000) (out ++ [Int.tmod (c + dg a out.length + dg b out.length) 1000000000]) (by omega) s5 (by omega) (Dg_snoc (by omega) hd s2 s3) (by
      rw [hlen, ← s4, s1, V, V, Int.add_mul, Int.add_mul]
      omega)
    rw [hlen] at hr
    refine ⟨k + 2, r, ?_, hvr, hdr, hrl⟩
    have hz : ∀ l : List Int, ¬ ((out.length : Int) < (l.length : Int)) → dg l out.length = 0 := fun l h => by unfold dg; rw [List.getD_eq_getElem?_getD, List.getElem?_eq_none (by omega)]; rfl
    by_cases c1 : (out.length : Int) < (a.length : Int)
    · by_cases c2 : (out.length : Int) < (b.length : Int)
      · rw [owners_natural_plus.l0, if_pos c1, owners_natural_plus.j1, if_pos rfl, if_pos c1, if_pos (by omega), if_pos c2, if_pos (by omega), rd_dg, rd_dg, wr_ (n := c + dg a out.length) (by omega), wr_ (n := c + dg a out.length + dg b out.length) (by omega), s4, wr_ (by omega)]
        exact hr
      · have hz2 := hz b c2
        rw [hz2, Int.add_zero] at s4 hr
        rw [owners_natural_plus.l0, if_pos c1, owners_natural_plus.j1, if_pos rfl, if_pos c1, if_pos (by omega), if_neg c2, if_pos (by omega), rd_dg, wr_ (n := c + dg a out.length) (by omega), s4, wr_ (by omega)]
        exact hr
    · have c2 : (out.length : Int) < (b.length : Int) := by omega
      have hz2 := hz a c1
      rw [hz2, Int.add_zero] at s4 hr
      rw [owners_natural_plus.l0, if_neg c1, owners_natural_plus.j1, if_pos (by simp; omega), if_neg c1, if_pos c2, if_pos (by omega), if_pos (by omega), rd_dg, wr_ (n := c + dg b out.length) (by omega), s4, wr_ (by omega)]
      exact hr
theorem natPlus_ex (a b : List Int) (ha : Dg 1000000000 a) (hb : Dg 1000000000 b) (hla : a.length ≤ 90000) (hlb : b.length ≤ 90000) : ∃ k r, owners_natural_plus.f k a b = some r ∧ val 1000000000 r = val 1000000000 a + val 1000000000 b ∧ Dg 1000000000 r ∧ r.length ≤ max a.length b.length + 1 := by
  obtain ⟨k, r, h1, h2⟩ := natPlus_main a b ha hb hla hlb (max a.length b.length) 0 [] (by simp) (by omega) (by omega) (Dg_nil (by omega)) (by simp [val, V])
  exact ⟨k, r, h1, h2⟩
theorem V_gt {b : Int} (hb : 1 ≤ b) {f g : Nat → Int} (hf : ∀ i, 0 ≤ f i ∧ f i < b) (hg : ∀ i, 0 ≤ g i ∧ g i < b) (n : Nat) (h : g n < f n) : V b g (n + 1) < V b f (n + 1) := by
  obtain ⟨f0, f1⟩ := V_bounds hb hf n
  obtain ⟨g0, g1⟩ := V_bounds hb hg n
  rw [V, V]
  have h1 : (g n + 1) * b ^ n ≤ f n * b ^ n := Int.mul_le_mul_of_nonneg_right (by omega) (by have := pow_pos_ hb n; omega)
  rw [Int.add_mul, Int.one_mul] at h1
  omega
theorem above_ex (a b : List Int) (ha : Dg 10000 a) (hb : Dg 10000 b) : ∀ n : Nat, n ≤ 90000 → ∃ k, accountingref43_above.l0 k a b ((n : Int) - 1) = some (decide (V 10000 (dg b) n < V 10000 (dg a) n))
  | 0, _ => ⟨1, by rw [accountingref43_above.l0, if_neg (by omega)]; simp [V]⟩
  | n + 1, hn => by
    obtain ⟨k, hk⟩ := above_ex a b ha hb n (by omega)
    have hz : ∀ l : List Int, ¬ ((n : Int) < (l.length : Int)) → dg l n = 0 := fun l h => by unfold dg; rw [List.getD_eq_getElem?_getD, List.getElem?_eq_none (by omega)]; rfl
    have e : ((n + 1 : Nat) : Int) - 1 = (n : Int) := by omega
    rw [e]
    have fin : ∀ x : Option Bool, (x = if dg a n = dg b n then accountingref43_above.l0 k a b (wrap64 ((n : Int) - 1)) else some (decide (dg a n > dg b n))) → x = some (decide (V 10000 (dg b) (n + 1) < V 10000 (dg a) (n + 1))) := by
      intro x hx
      rw [hx]
      by_cases he : dg a n = dg b n
      · rw [if_pos he, wr_ (by omega), hk]
        have : (V 10000 (dg b) n < V 10000 (dg a) n) ↔ (V 10000 (dg b) (n + 1) < V 10000 (dg a) (n + 1)) := by rw [V, V, he]; omega
        simp only [this]
      · rw [if_neg he]
        by_cases hg : dg b n < dg a n
        · rw [decide_eq_true hg, decide_eq_true (V_gt (by omega) ha hb n hg)]
        · have := V_gt (b := 10000) (by omega) hb ha n (by omega)
          rw [decide_eq_false hg, decide_eq_false (by omega)]
    refine ⟨k + 2, fin _ ?_⟩
    rw [accountingref43_above.l0, if_pos (by omega)]
    by_cases c1 : (n : Int) < (a.length : Int)
    · rw [if_pos c1, if_pos (by omega), accountingref43_above.j1, rd_dg]
      by_cases c2 : (n : Int) < (b.length : Int)
      · rw [if_pos c2, if_pos (by omega), rd_dg]
      · rw [if_neg c2, hz b c2]
    · rw [if_neg c1, accountingref43_above.j1, hz a c1]
      by_cases c2 : (n : Int) < (b.length : Int)
      · rw [if_pos c2, if_pos (by omega), rd_dg]
      · rw [if_neg c2, hz b c2]
theorem ref_above_ex (a b : List Int) (ha : Dg 10000 a) (hb : Dg 10000 b) (hla : a.length ≤ 90000) (hlb : b.length ≤ 90000) : ∃ k, accountingref43_above.f k a b = some (decide (val 10000 b < val 10000 a)) := by
  have e : mx (a.length : Int) (b.length : Int) = ((max a.length b.length : Nat) : Int) := by unfold mx; split <;> omega
  obtain ⟨k, hk⟩ := above_ex a b ha hb (max a.length b.length) (by omega)
  refine ⟨k, ?_⟩
  rw [accountingref43_above.f, e, wr_ (by omega), hk, V_ext (by omega), V_ext (by omega)]
theorem top_ex (l : List Int) (hl : l.length ≤ 90000) : ∀ n : Nat, n ≤ l.length → ∃ k t, owners_natural_top.l0 k l (n : Int) = some ((t : Nat) : Int) ∧ t ≤ n ∧ (∀ i, t ≤ i → i < n → dg l i = 0) ∧ (t = 0 ∨ dg l (t - 1) ≠ 0)
  | 0, _ => ⟨1, 0, by rw [owners_natural_top.l0, if_neg (by omega)], Nat.le_refl _, fun i _ h => by omega, .inl rfl⟩
  | n + 1, hn => by
    have e : wrap64 (((n + 1 : Nat) : Int) - 1) = (n : Int) := by rw [wr_ (by omega)]; omega
    by_cases h0 : dg l n = 0
    · obtain ⟨k, t, h1, h2, h3, h4⟩ := top_ex l hl n (by omega)
      refine ⟨k + 1, t, ?_, by omega, fun i hi hi2 => ?_, h4⟩
      · rw [owners_natural_top.l0, if_pos (by omega), e, if_pos (by omega), if_pos (by omega), rd_dg, if_pos h0]; exact h1
      · by_cases hin : i = n
        · rw [hin]; exact h0
        · exact h3 i hi (by omega)
    · refine ⟨1, n + 1, ?_, Nat.le_refl _, fun i hi hi2 => by omega, .inr (by simpa using h0)⟩
      rw [owners_natural_top.l0, if_pos (by omega), e, if_pos (by omega), if_pos (by omega), rd_dg, if_neg h0]
theorem V_top {b : Int} {f : Nat → Int} {t : Nat} : ∀ {n : Nat}, t ≤ n → (∀ i, t ≤ i → i < n → f i = 0) → V b f n = V b f t
  | 0, h, _ => by have : t = 0 := by omega
                  rw [this]
  | n + 1, h, h2 => by
    by_cases e : t = n + 1
    · rw [e]
    · rw [V, h2 n (by omega) (by omega), V_top (n := n) (by omega) (fun i h3 h4 => h2 i h3 (by omega))]; omega
theorem gr_ex (a b : List Int) (ha : Dg 1000000000 a) (hb : Dg 1000000000 b) : ∀ n : Nat, n ≤ a.length → n ≤ b.length → n ≤ 90000 → ∃ k, owners_natural_greater.l0 k a b ((n : Int) - 1) = some (decide (V 1000000000 (dg b) n < V 1000000000 (dg a) n))
  | 0, _, _, _ => ⟨1, by rw [owners_natural_greater.l0, if_neg (by omega)]; simp [V]⟩
  | n + 1, hna, hnb, hn => by
    obtain ⟨k, hk⟩ := gr_ex a b ha hb n (by omega) (by omega) (by omega)
    have e : ((n + 1 : Nat) : Int) - 1 = (n : Int) := by omega
    refine ⟨k + 1, ?_⟩
    rw [e, owners_natural_greater.l0, if_pos (by omega), if_pos (by omega), if_pos (by omega), if_pos (by omega), rd_dg, rd_dg]
    by_cases he : dg a n = dg b n
    · rw [if_pos he, wr_ (by omega), hk]
      have : (V 1000000000 (dg b) n < V 1000000000 (dg a) n) ↔ (V 1000000000 (dg b) (n + 1) < V 1000000000 (dg a) (n + 1)) := by rw [V, V, he]; omega
      simp only [this]
    · rw [if_neg he]
      by_cases hg : dg b n < dg a n
      · rw [decide_eq_true (show dg a n > dg b n from hg), decide_eq_true (V_gt (by omega) ha hb n hg)]
      · have := V_gt (b := 1000000000) (by omega) hb ha n (by omega)
        rw [decide_eq_false (show ¬ (dg a n > dg b n) from hg), decide_eq_false (by omega)]
theorem V_top_lt {b : Int} (hb : 1 ≤ b) {f g : Nat → Int} (hf : ∀ i, 0 ≤ f i ∧ f i < b) (hg : ∀ i, 0 ≤ g i ∧ g i < b) {s t : Nat} (hst : s < t) (ht : f (t - 1) ≠ 0) : V b g s < V b f t := by
  obtain ⟨u, rfl⟩ : ∃ u, t = u + 1 := ⟨t - 1, by omega⟩
  simp only [Nat.add_sub_cancel] at ht
  have h1 := (V_bounds hb hg s).2
  have h2 := (V_bounds hb hf u).1
  have h3 : 1 * b ^ u ≤ f u * b ^ u := Int.mul_le_mul_of_nonneg_right (by have := (hf u).1; omega) (by have := pow_pos_ hb u; omega)
  have h4 : b ^ s ≤ b ^ u := by
    obtain ⟨d, rfl⟩ : ∃ d, u = s + d := ⟨u - s, by omega⟩
    rw [Int.pow_add]
    have := Int.mul_le_mul_of_nonneg_left (pow_pos_ hb d) (show 0 ≤ b ^ s by have := pow_pos_ hb s; omega)
    omega
  rw [V]
  omega
theorem LeO_up {α : Type} {F : Nat → Option α} (h : ∀ k, LeO (F k) (F (k + 1))) {k : Nat} {r : α} (hk : F k = some r) : ∀ j, k ≤ j → F j = some r := by
  intro j hj
  obtain ⟨d, rfl⟩ : ∃ d, j = k + d := ⟨j - k, by omega⟩
  clear hj
  induction d with
  | zero => exact hk
  | succ d ih => exact h (k + d) r ih
theorem nat_greater_ex (a b : List Int) (ha : Dg 1000000000 a) (hb : Dg 1000000000 b) (hla : a.length ≤ 90000) (hlb : b.length ≤ 90000) : ∃ k, owners_natural_greater.f k a b = some (decide (val 1000000000 b < val 1000000000 a)) := by
  obtain ⟨k1, t1, h1, l1, z1, n1⟩ := top_ex a hla a.length (Nat.le_refl _)
  obtain ⟨k2, t2, h2, l2, z2, n2⟩ := top_ex b hlb b.length (Nat.le_refl _)
  have e1 : val 1000000000 a = V 1000000000 (dg a) t1 := V_top l1 z1
  have e2 : val 1000000000 b = V 1000000000 (dg b) t2 := V_top l2 z2
  have T1 : ∀ j, k1 ≤ j → owners_natural_top.f j a = some (t1 : Int) := fun j hj => LeO_up (F := fun k => owners_natural_top.f k a) (fun k => owners_natural_top.mono a k) h1 j hj
  have T2 : ∀ j, k2 ≤ j → owners_natural_top.f j b = some (t2 : Int) := fun j hj => LeO_up (F := fun k => owners_natural_top.f k b) (fun k => owners_natural_top.mono b k) h2 j hj
  rw [e1, e2]
  by_cases ht : t1 = t2
  · subst ht
    obtain ⟨k3, h3⟩ := gr_ex a b ha hb t1 l1 l2 (by omega)
    have T3 := fun j hj => LeO_up (F := fun k => owners_natural_greater.l0 k a b ((t1 : Int) - 1)) (fun k => owners_natural_greater.mono_l k a b _) h3 j hj
    refine ⟨k1 + k2 + k3, ?_⟩
    rw [owners_natural_greater.f, T1 _ (by omega), Option.bind_some, T2 _ (by omega), Option.bind_some, if_pos rfl, wr_ (by omega)]
    exact T3 _ (by omega)
  · refine ⟨k1 + k2, ?_⟩
    rw [owners_natural_greater.f, T1 _ (by omega), Option.bind_some, T2 _ (by omega), Option.bind_some, if_neg (by omega)]
    by_cases hg : t2 < t1
    · have := V_top_lt (b := 1000000000) (by omega) ha hb hg (n1.resolve_left (by omega))
      rw [decide_eq_true (show (t1 : Int) > t2 by omega), decide_eq_true this]
    · have := V_top_lt (b := 1000000000) (by omega) hb ha (show t1 < t2 by omega) (n2.resolve_left (by omega))
      rw [decide_eq_false (by omega), decide_eq_false (by omega)]
end Go.Proofs.YtikdiepcfdimgaaGreatDoor.POw
namespace Go.Proofs
open Go.Shelf
def Tryz.svInts_ren : Go.Shelf.Ren := ⟨fun | 14 => 51 | 22 => 82 | 16 => 81 | n => n, fun | 28 => 60 | 3 => 3 | 0 => 0 | 35 => 78 | 4 => 4 | 38 => 121 | n => n, fun | n => n⟩
theorem Tryz.svInts : Go.Proofs.SlLaysO.n14 Tryz.prog Tryz.svInts_ren := {
  mixed := by kernel_rfl
  f14 := Tryz.func51.trans (congrArg some (by kernel_rfl))
  f16 := Tryz.func81.trans (congrArg some (by kernel_rfl))
  f22 := Tryz.func82.trans (congrArg some (by kernel_rfl))
  t0 := Tryz.underlying0
  a0 := Tryz.isAgg0
  z0 := Tryz.sizeOf0
  v0 := Tryz.zeroValue0
  t3 := Tryz.underlying3
  a3 := Tryz.isAgg3
  z3 := Tryz.sizeOf3
  v3 := Tryz.zeroValue3
  t4 := Tryz.underlying4
  a4 := Tryz.isAgg4
  z4 := Tryz.sizeOf4
  v4 := Tryz.zeroValue4
  t28 := Tryz.underlying60
  a28 := Tryz.isAgg60
  z28 := Tryz.sizeOf60
  v28 := Tryz.zeroValue60
  t35 := Tryz.underlying78
  a35 := Tryz.isAgg78
  z35 := Tryz.sizeOf78
  v35 := Tryz.zeroValue78
  t38 := Tryz.underlying121
  a38 := Tryz.isAgg121
  z38 := Tryz.sizeOf121
  v38 := Tryz.zeroValue121 }
def Tryz.svStrings_ren : Go.Shelf.Ren := ⟨fun | 15 => 62 | 23 => 87 | 16 => 81 | n => n, fun | 30 => 37 | 9 => 9 | 3 => 3 | 0 => 0 | 35 => 78 | 4 => 4 | 38 => 121 | n => n, fun | n => n⟩
theorem Tryz.svStrings : Go.Proofs.SlLaysO.n15 Tryz.prog Tryz.svStrings_ren := {
  mixed := by kernel_rfl
  f15 := Tryz.func62.trans (congrArg some (by kernel_rfl))
  f16 := Tryz.func81.trans (congrArg some (by kernel_rfl))
  f23 := Tryz.func87.trans (congrArg some (by kernel_rfl))
  t0 := Tryz.underlying0
  a0 := Tryz.isAgg0
  z0 := Tryz.sizeOf0
  v0 := Tryz.zeroValue0
  t3 := Tryz.underlying3
  a3 := Tryz.isAgg3
  z3 := Tryz.sizeOf3
  v3 := Tryz.zeroValue3
  t4 := Tryz.underlying4
  a4 := Tryz.isAgg4
  z4 := Tryz.sizeOf4
  v4 := Tryz.zeroValue4
  t9 := Tryz.underlying9
  a9 := Tryz.isAgg9
  z9 := Tryz.sizeOf9
  v9 := Tryz.zeroValue9
  t30 := Tryz.underlying37
  a30 := Tryz.isAgg37
  z30 := Tryz.sizeOf37
  v30 := Tryz.zeroValue37
  t35 := Tryz.underlying78
  a35 := Tryz.isAgg78
  z35 := Tryz.sizeOf78
  v35 := Tryz.zeroValue78
  t38 := Tryz.underlying121
  a38 := Tryz.isAgg121
  z38 := Tryz.sizeOf121
  v38 := Tryz.zeroValue121 }
def Tryz.svSlice_ren : Go.Shelf.Ren := ⟨fun | 6 => 49 | 10 => 76 | 11 => 77 | 12 => 78 | 13 => 79 | 14 => 80 | 24 => 104 | 25 => 105 | 26 => 106 | 27 => 107 | 28 => 108 | 29 => 109 | 30 => 110 | 31 => 111 | 32 => 112 | 33 => 113 | 34 => 116 | 35 => 117 | 36 => 118 | 37 => 119 | 38 => 120 | 39 => 121 | n => n, fun | 20 => 20 | 26 => 70 | 35 => 115 | 0 => 0 | 37 => 117 | 3 => 3 | 41 => 121 | 44 => 124 | 49 => 138 | 51 => 105 | 4 => 4 | 54 => 142 | 53 => 141 | 58 => 47 | 5 => 5 | 9 => 9 | 60 => 149 | 64 => 153 | 66 => 155 | 67 => 29 | 17 => 17 | 32 => 112 | 33 => 113 | 82 => 170 | 12 => 12 | 75 => 163 | 76 => 164 | 77 => 165 | 78 => 166 | 79 => 167 | 80 => 168 | n => n, fun | n => n⟩
theorem Tryz.svSlice : Go.Proofs.LaysGg.n6 Tryz.prog Tryz.svSlice_ren := {
  mixed := by kernel_rfl
  f6 := Tryz.func49.trans (congrArg some (by kernel_rfl))
  f10 := Tryz.func76.trans (congrArg some (by kernel_rfl))
  f11 := Tryz.func77.trans (congrArg some (by kernel_rfl))
  f12 := Tryz.func78.trans (congrArg some (by kernel_rfl))
  f13 := Tryz.func79.trans (congrArg some (by kernel_rfl))
  f14 := Tryz.func80.trans (congrArg some (by kernel_rfl))
  f24 := Tryz.func104.trans (congrArg some (by kernel_rfl))
  f25 := Tryz.func105.trans (congrArg some (by kernel_rfl))
  f26 := Tryz.func106.trans (congrArg some (by kernel_rfl))
  f27 := Tryz.func107.trans (congrArg some (by kernel_rfl))
  f28 := Tryz.func108.trans (congrArg some (by kernel_rfl))
  f29 := Tryz.func109.trans (congrArg some (by kernel_rfl))
  f30 := Tryz.func110.trans (congrArg some (by kernel_rfl))
  f31 := Tryz.func111.trans (congrArg some (by kernel_rfl))
  f32 := Tryz.func112.trans (congrArg some (by kernel_rfl))
  f33 := Tryz.func113.trans (congrArg some (by kernel_rfl))
  f34 := Tryz.func116.trans (congrArg some (by kernel_rfl))
  f35 := Tryz.func117.trans (congrArg some (by kernel_rfl))
  f36 := Tryz.func118.trans (congrArg some (by kernel_rfl))
  f37 := Tryz.func119.trans (congrArg some (by kernel_rfl))
  f38 := Tryz.func120.trans (congrArg some (by kernel_rfl))
  f39 := Tryz.func121.trans (congrArg some (by kernel_rfl))
  t0 := Tryz.underlying0
  a0 := Tryz.isAgg0
  z0 := Tryz.sizeOf0
  v0 := Tryz.zeroValue0
  i0 := by kernel_rfl
  t3 := Tryz.underlying3
  a3 := Tryz.isAgg3
  z3 := Tryz.sizeOf3
  v3 := Tryz.zeroValue3
  i3 := by kernel_rfl
  t4 := Tryz.underlying4
  a4 := Tryz.isAgg4
  z4 := Tryz.sizeOf4
  v4 := Tryz.zeroValue4
  i4 := by kernel_rfl
  t5 := Tryz.underlying5
  a5 := Tryz.isAgg5
  z5 := Tryz.sizeOf5
  v5 := Tryz.zeroValue5
  i5 := by kernel_rfl
  t9 := Tryz.underlying9
  a9 := Tryz.isAgg9
  z9 := Tryz.sizeOf9
  v9 := Tryz.zeroValue9
  i9 := by kernel_rfl
  t12 := Tryz.underlying12
  a12 := Tryz.isAgg12
  z12 := Tryz.sizeOf12
  v12 := Tryz.zeroValue12
  i12 := by kernel_rfl
  t17 := Tryz.underlying17
  a17 := Tryz.isAgg17
  z17 := Tryz.sizeOf17
  v17 := Tryz.zeroValue17
  i17 := by kernel_rfl
  t20 := Tryz.underlying20
  a20 := Tryz.isAgg20
  z20 := Tryz.sizeOf20
  v20 := Tryz.zeroValue20
  i20 := by kernel_rfl
  t26 := Tryz.underlying70
  a26 := Tryz.isAgg70
  z26 := Tryz.sizeOf70
  v26 := Tryz.zeroValue70
  i26 := by kernel_rfl
  t32 := Tryz.underlying112
  a32 := Tryz.isAgg112
  z32 := Tryz.sizeOf112
  v32 := Tryz.zeroValue112
  i32 := by kernel_rfl
  t33 := Tryz.underlying113
  a33 := Tryz.isAgg113
  z33 := Tryz.sizeOf113
  v33 := Tryz.zeroValue113
  i33 := by kernel_rfl
  t35 := Tryz.underlying115
  a35 := Tryz.isAgg115
  z35 := Tryz.sizeOf115
  v35 := Tryz.zeroValue115
  i35 := by kernel_rfl
  t37 := Tryz.underlying117
  a37 := Tryz.isAgg117
  z37 := Tryz.sizeOf117
  v37 := Tryz.zeroValue117
  i37 := by kernel_rfl
  t41 := Tryz.underlying121
  a41 := Tryz.isAgg121
  z41 := Tryz.sizeOf121
  v41 := Tryz.zeroValue121
  i41 := by kernel_rfl
  t44 := Tryz.underlying124
  a44 := Tryz.isAgg124
  z44 := Tryz.sizeOf124
  v44 := Tryz.zeroValue124
  i44 := by kernel_rfl
  t49 := Tryz.underlying138
  a49 := Tryz.isAgg138
  z49 := Tryz.sizeOf138
  v49 := Tryz.zeroValue138
  i49 := by kernel_rfl
  t51 := Tryz.underlying105
  a51 := Tryz.isAgg105
  z51 := Tryz.sizeOf105
  v51 := Tryz.zeroValue105
  i51 := by kernel_rfl
  t53 := Tryz.underlying141
  a53 := Tryz.isAgg141
  z53 := Tryz.sizeOf141
  v53 := Tryz.zeroValue141
  i53 := by kernel_rfl
  t54 := Tryz.underlying142
  a54 := Tryz.isAgg142
  z54 := Tryz.sizeOf142
  v54 := Tryz.zeroValue142
  i54 := by kernel_rfl
  t58 := Tryz.underlying47
  a58 := Tryz.isAgg47
  z58 := Tryz.sizeOf47
  v58 := Tryz.zeroValue47
  i58 := by kernel_rfl
  t60 := Tryz.underlying149
  a60 := Tryz.isAgg149
  z60 := Tryz.sizeOf149
  v60 := Tryz.zeroValue149
  i60 := by kernel_rfl
  t64 := Tryz.underlying153
  a64 := Tryz.isAgg153
  z64 := Tryz.sizeOf153
  v64 := Tryz.zeroValue153
  i64 := by kernel_rfl
  t66 := Tryz.underlying155
  a66 := Tryz.isAgg155
  z66 := Tryz.sizeOf155
  v66 := Tryz.zeroValue155
  i66 := by kernel_rfl
  t67 := Tryz.underlying29
  a67 := Tryz.isAgg29
  z67 := Tryz.sizeOf29
  v67 := Tryz.zeroValue29
  i67 := by kernel_rfl
  t75 := Tryz.underlying163
  a75 := Tryz.isAgg163
  z75 := Tryz.sizeOf163
  v75 := Tryz.zeroValue163
  i75 := by kernel_rfl
  t76 := Tryz.underlying164
  a76 := Tryz.isAgg164
  z76 := Tryz.sizeOf164
  v76 := Tryz.zeroValue164
  i76 := by kernel_rfl
  t77 := Tryz.underlying165
  a77 := Tryz.isAgg165
  z77 := Tryz.sizeOf165
  v77 := Tryz.zeroValue165
  i77 := by kernel_rfl
  t78 := Tryz.underlying166
  a78 := Tryz.isAgg166
  z78 := Tryz.sizeOf166
  v78 := Tryz.zeroValue166
  i78 := by kernel_rfl
  t79 := Tryz.underlying167
  a79 := Tryz.isAgg167
  z79 := Tryz.sizeOf167
  v79 := Tryz.zeroValue167
  i79 := by kernel_rfl
  t80 := Tryz.underlying168
  a80 := Tryz.isAgg168
  z80 := Tryz.sizeOf168
  v80 := Tryz.zeroValue168
  i80 := by kernel_rfl
  t82 := Tryz.underlying170
  a82 := Tryz.isAgg170
  z82 := Tryz.sizeOf170
  v82 := Tryz.zeroValue170
  i82 := by kernel_rfl }
end Go.Proofs
namespace Go.Proofs.YtikdiepcfdimgaaGreatDoor
open Go.RowKit
open Go.Maps (Keyed)
def MapAt {κ : Type} (P : Program) (k : TypeId) (enc : κ → Value) (w : World) (b : Nat) (M : κ → Option Value) : Prop :=
  ∃ es clock, w.heap[b]? = some (.map es clock) ∧ MapKept.Stamped es clock ∧ (∀ e ∈ es.toList, ∃ x, e.key = enc x ∧ (∃ l, keyOf P k e.key = some l) ∧ M x = some e.val) ∧ ∀ x v, M x = some v → ∃ e ∈ es.toList, e.key = enc x ∧ e.val = v
theorem MapAt.lt {κ : Type} {P : Program} {k : TypeId} {enc : κ → Value} {w : World} {b : Nat} {M : κ → Option Value} (h : MapAt P k enc w b M) : b < w.heap.size := by
  obtain ⟨es, clock, hb, _⟩ := h
  exact (Array.getElem?_eq_some_iff.1 hb).1
theorem MapAt.of_block {κ : Type} {P : Program} {k : TypeId} {enc : κ → Value} {w w' : World} {b : Nat} {M : κ → Option Value} (h : MapAt P k enc w b M) (hb : w'.heap[b]? = w.heap[b]?) : MapAt P k enc w' b M := by
  obtain ⟨es, clock, h1, h2⟩ := h
  exact ⟨es, clock, hb.trans h1, h2⟩
theorem MapAt.below {κ : Type} {P : Program} {k : TypeId} {enc : κ → Value} {w w' : World} {b : Nat} {M : κ → Option Value} (h : MapAt P k enc w b M) (hB : Below w.heap.size w w') : MapAt P k enc w' b M :=
  h.of_block (hB.block b h.lt)
theorem MapAt.made {κ : Type} (P : Program) (k : TypeId) (enc : κ → Value) (w : World) : MapAt P k enc (w.alloc (.map #[] 0)) w.heap.size (fun _ => none) :=
  ⟨#[], 0, (MapKept.heap_alloc w _).1, MapKept.stamped_empty 0, by simp, by simp⟩
theorem MapAt.lookup {κ : Type} {P : Program} {k e t : TypeId} {enc : κ → Value} {w : World} {b : Nat} {M : κ → Option Value} (h : MapAt P k enc w b M) (K : Keyed P k) (inj : ∀ x y, enc x = enc y → x = y)
    (ht : P.underlying t = some (.map k e)) {z : Value} (hz : (zeroValue e).run P w = .ok z w) (c : Bool) (x : κ) {l : Lit} (hx : keyOf P k (enc x) = some l) :
    (Instr.lookup t (.map (some b)) (enc x) c).run P w = .ok (if c then .tuple #[(M x).getD z, .bool (M x).isSome] else (M x).getD z) w := by
  obtain ⟨es, clock, hb, hS, h1, h2⟩ := h
  rcases K.find w hx es.toList (fun e he => (h1 e he).choose_spec.2.1) with ⟨f1, f2⟩ | ⟨j, e0, f1, f2, f3⟩
  · have hM : M x = none := by
      cases hm : M x with
      | none => rfl
      | some v => obtain ⟨e, he, hk, _⟩ := h2 x v hm; exact absurd hk (f2 e he)
    cases c <;> simp [Instr.lookup, run_underlying ht, MapKept.run_getObj_map hb, K.check w _ hx, f1, hz, Result.andThen, hM]
  · have hM : M x = some e0.val := by
      obtain ⟨y, hy, _, hm⟩ := h1 e0 (List.mem_of_getElem? f2)
      rw [← inj y x (hy.symm.trans f3)]; exact hm
    cases c <;> simp [Instr.lookup, run_underlying ht, MapKept.run_getObj_map hb, K.check w _ hx, f1, Result.andThen, hM]
def putM {κ : Type} [DecidableEq κ] (M : κ → Option Value) (x : κ) (v : Value) : κ → Option Value := fun y => if y = x then some v else M y
theorem putM_self {κ : Type} [DecidableEq κ] (M : κ → Option Value) (x : κ) (v : Value) : putM M x v x = some v := by simp [putM]
theorem putM_ne {κ : Type} [DecidableEq κ] (M : κ → Option Value) {x y : κ} (v : Value) (h : y ≠ x) : putM M x v y = M y := by simp [putM, h]
theorem MapAt.store {κ : Type} [DecidableEq κ] {P : Program} {k e t : TypeId} {enc : κ → Value} {w : World} {b : Nat} {M : κ → Option Value} (h : MapAt P k enc w b M) (K : Keyed P k) (inj : ∀ x y, enc x = enc y → x = y)
    (ht : P.underlying t = some (.map k e)) (x : κ) (v : Value) {l : Lit} (hx : keyOf P k (enc x) = some l) :
    ∃ o, (Instr.mapUpdate t (.map (some b)) (enc x) v).run P w = .ok () (ChangeMaps.setBlock w b o) ∧ MapAt P k enc (ChangeMaps.setBlock w b o) b (putM M x v) := by
  have hlt := h.lt
  obtain ⟨es, clock, hb, hS, h1, h2⟩ := h
  rcases K.find w hx es.toList (fun e he => (h1 e he).choose_spec.2.1) with ⟨f1, f2⟩ | ⟨j, e0, f1, f2, f3⟩
  · refine ⟨.map (es.push ⟨enc x, v, clock⟩) (clock + 1), ?_, es.push ⟨enc x, v, clock⟩, clock + 1, ?_, MapKept.stamped_push hS f2, ?_, ?_⟩
    · simp [Instr.mapUpdate, run_underlying ht, MapKept.run_getObj_map hb, K.check w false hx, f1, MapKept.run_setObj_map _ hb, Result.andThen, ChangeMaps.setBlock]
    · simp [ChangeMaps.setBlock, hlt]
    · intro e he
      simp only [Array.toList_push, List.mem_append, List.mem_singleton] at he
      rcases he with he | rfl
      · obtain ⟨y, hy, hl, hm⟩ := h1 e he
        refine ⟨y, hy, hl, ?_⟩
        rw [putM_ne _ _ (fun c => f2 e he (by rw [hy, c]))]; exact hm
      · exact ⟨x, rfl, ⟨l, hx⟩, putM_self _ _ _⟩
    · intro y u hy
      simp only [Array.toList_push, List.mem_append, List.mem_singleton]
      by_cases c : y = x
      · rw [c, putM_self] at hy; cases hy; exact ⟨_, .inr rfl, by rw [c], rfl⟩
      · rw [putM_ne _ _ c] at hy
        obtain ⟨e, he, h3⟩ := h2 y u hy
        exact ⟨e, .inl he, h3⟩
  · have hj : es[j]? = some e0 := by simpa using f2
    have hjl : j < es.toList.length := (List.getElem?_eq_some_iff.1 f2).1
    have hlist : (es.modify j (fun e' => { e' with key := enc x, val := v })).toList = es.toList.set j { e0 with key := enc x, val := v } := by rw [Array.toList_modify, ChangeMaps.modify_eq_set _ _ _ _ f2]
    have hS' : MapKept.Stamped (es.modify j (fun e' => { e' with key := enc x, val := v })) clock :=
      MapKept.stamped_modify hS j _ (fun e' he' => rfl) (fun e' _ he' => by rw [hj] at he'; cases he'; exact f3.symm)
    have hpw := ((MapKept.stamped_iff es clock).1 hS).2.2
    have hne : ∀ i e', i ≠ j → es.toList[i]? = some e' → e'.key ≠ enc x := by
      intro i e' hij he' hk
      obtain ⟨hi, he2⟩ := List.getElem?_eq_some_iff.1 he'
      obtain ⟨hj2, he3⟩ := List.getElem?_eq_some_iff.1 f2
      have := List.pairwise_iff_getElem.1 hpw
      rcases Nat.lt_or_gt_of_ne hij with h | h
      · exact this i j hi hj2 h (by rw [he2, he3, hk, f3])
      · exact this j i hj2 hi h (by rw [he2, he3, hk, f3])
    refine ⟨.map (es.modify j (fun e' => { e' with key := enc x, val := v })) clock, ?_, _, clock, ?_, hS', ?_, ?_⟩
    · have hk : (Instr.keyThatStays (((es[j]?).map (·.key)).getD (enc x)) (enc x)).run P w = .ok (enc x) w := by rw [hj]; simp [f3, K.stays w hx]
      have hk' : (Instr.keyThatStays e0.key (enc x)).run P w = .ok (enc x) w := by rw [f3]; exact K.stays w hx
      simp [Instr.mapUpdate, run_underlying ht, MapKept.run_getObj_map hb, K.check w false hx, f1, hj, hk', MapKept.run_setObj_map _ hb, Result.andThen, ChangeMaps.setBlock]
    · simp [ChangeMaps.setBlock, hlt]
    · rw [hlist]
      intro e he
      obtain ⟨i, hi, rfl⟩ := List.getElem_of_mem he
      rw [List.getElem_set]
      split
      · exact ⟨x, rfl, ⟨l, hx⟩, putM_self _ _ _⟩
      · rename_i hij
        simp only [List.length_set] at hi
        have hm := List.getElem_mem (l := es.toList) hi
        obtain ⟨y, hy, hl, hmm⟩ := h1 _ hm
        refine ⟨y, hy, hl, ?_⟩
        rw [putM_ne _ _ (fun c => hne i _ (fun h => hij h.symm) (List.getElem?_eq_getElem hi) (by rw [hy, c]))]; exact hmm
    · intro y u hy
      rw [hlist]
      by_cases c : y = x
      · rw [c, putM_self] at hy; cases hy
        exact ⟨{ e0 with key := enc x, val := v }, List.mem_iff_getElem.2 ⟨j, by simpa using hjl, by simp⟩, by rw [c], rfl⟩
      · rw [putM_ne _ _ c] at hy
        obtain ⟨e, he, hk, hv⟩ := h2 y u hy
        obtain ⟨i, hi, rfl⟩ := List.getElem_of_mem he
        have hij : j ≠ i := by
          intro h
          subst h
          have : es.toList[j] = e0 := (List.getElem?_eq_some_iff.1 f2).2
          rw [this, f3] at hk
          exact c (inj x y hk).symm
        exact ⟨es.toList[i], List.mem_iff_getElem.2 ⟨i, by simpa using hi, by rw [List.getElem_set, if_neg hij]⟩, hk, hv⟩
open Go.Maps (Keyed)
open Go.ChangeMaps (setBlock)
open Go.MapKept (heap_set)
def RangeAt {κ : Type} (P : Program) (k : TypeId) (enc : κ → Value) (w : World) (b r : Nat) (M : κ → Option Value) (todo : List κ) : Prop :=
  ∃ es clock since seen c0, w.heap[b]? = some (.map es clock) ∧ MapKept.Stamped es clock ∧ (∀ e ∈ es.toList, ∃ x, e.key = enc x ∧ (∃ l, keyOf P k e.key = some l) ∧ M x = some e.val) ∧ (∀ x v, M x = some v → ∃ e ∈ es.toList, e.key = enc x ∧ e.val = v) ∧
    w.heap[r]? = some (.mapIter (some b) since seen c0) ∧ (∀ x ∈ es.toList, x.born < since) ∧ since ≤ c0 ∧ since ≤ clock ∧ (leftOf es seen).toList.map (·.key) = todo.map enc
section
variable {κ : Type} {P : Program} {k e t : TypeId} {enc : κ → Value} {w w' : World} {b r : Nat} {M : κ → Option Value} {todo : List κ}
theorem RangeAt.map (h : RangeAt P k enc w b r M todo) : MapAt P k enc w b M := by
  obtain ⟨es, clock, since, seen, c0, h1, h2, h3, h4, _⟩ := h
  exact ⟨es, clock, h1, h2, h3, h4⟩
theorem RangeAt.lt (h : RangeAt P k enc w b r M todo) : b < w.heap.size ∧ r < w.heap.size := by
  obtain ⟨es, clock, since, seen, c0, h1, h2, h3, h4, h5, _⟩ := h
  exact ⟨(Array.getElem?_eq_some_iff.1 h1).1, (Array.getElem?_eq_some_iff.1 h5).1⟩
theorem RangeAt.of_blocks (h : RangeAt P k enc w b r M todo) (hb : w'.heap[b]? = w.heap[b]?) (hr : w'.heap[r]? = w.heap[r]?) : RangeAt P k enc w' b r M todo := by
  obtain ⟨es, clock, since, seen, c0, h1, h2, h3, h4, h5, h6⟩ := h
  exact ⟨es, clock, since, seen, c0, hb.trans h1, h2, h3, h4, hr.trans h5, h6⟩
theorem RangeAt.below (h : RangeAt P k enc w b r M todo) (hB : Below w.heap.size w w') : RangeAt P k enc w' b r M todo := h.of_blocks (hB.block b h.lt.1) (hB.block r h.lt.2)
theorem nodup_of_left {es : Array MapEntry} {seen : Array Nat} {clock : Nat} (hS : MapKept.Stamped es clock) : ((leftOf es seen).toList.map (·.born)).Nodup ∧ (leftOf es seen).toList.Pairwise (fun x y => x.key ≠ y.key) := by
  obtain ⟨_, h2, h3⟩ := (MapKept.stamped_iff es clock).1 hS
  have hs : (leftOf es seen).toList.Sublist es.toList := by unfold leftOf; rw [Array.toList_filter]; exact List.filter_sublist
  exact ⟨(hs.map _).nodup h2, h3.sublist hs⟩
theorem todo_of : ∀ (l : List MapEntry), (∀ e ∈ l, ∃ x, e.key = enc x ∧ M x = some e.val) → ∃ todo : List κ, l.map (·.key) = todo.map enc ∧ ∀ x ∈ todo, (M x).isSome = true
  | [], _ => ⟨[], rfl, fun x hx => by cases hx⟩
  | a :: l, h => by
    obtain ⟨todo, h1, h2⟩ := todo_of l (fun e he => h e (List.mem_cons_of_mem _ he))
    obtain ⟨x, hx, hm⟩ := h a (List.mem_cons_self ..)
    refine ⟨x :: todo, by simp [h1, hx], fun y hy => ?_⟩
    rcases List.mem_cons.1 hy with rfl | hy
    · rw [hm]; rfl
    · exact h2 y hy
theorem MapAt.start (h : MapAt P k enc w b M) (inj : ∀ x y, enc x = enc y → x = y) (ht : P.underlying t = some (.map k e)) :
    ∃ (todo : List κ) (o : Obj), (Instr.range t (.map (some b))).run P w = .ok (.pointer (some ⟨w.heap.size, 0, none⟩)) (w.alloc o) ∧ RangeAt P k enc (w.alloc o) b w.heap.size M todo ∧ todo.Nodup ∧ ∀ x, x ∈ todo ↔ (M x).isSome = true := by
  have hlt := h.lt
  obtain ⟨es, clock, hb, hS, h1, h2⟩ := h
  have hl : (leftOf es #[]) = es := by simp [leftOf]
  obtain ⟨todo, ht1, ht2⟩ := todo_of (enc := enc) (M := M) es.toList (fun e he => by obtain ⟨x, a, _, c⟩ := h1 e he; exact ⟨x, a, c⟩)
  have hnd : todo.Nodup := by
    have h3 := ((MapKept.stamped_iff es clock).1 hS).2.2
    have h4 : (es.toList.map (·.key)).Nodup := List.pairwise_map.2 h3
    rw [ht1] at h4
    exact (List.pairwise_map.1 h4).imp (fun hne he => hne (by rw [he]))
  refine ⟨todo, .mapIter (some b) clock #[] clock, run_range_map w t k e b es clock ht hb, ⟨es, clock, clock, #[], clock, (Go.MapKept.heap_alloc w _).2 b hlt |>.trans hb, hS, h1, h2, (Go.MapKept.heap_alloc w _).1, hS.1, Nat.le_refl _, Nat.le_refl _, by rw [hl]; exact ht1⟩, hnd, fun x => ⟨ht2 x, fun hx => ?_⟩⟩
  obtain ⟨v, hv⟩ := Option.isSome_iff_exists.1 hx
  obtain ⟨e0, he, hk, _⟩ := h2 x v hv
  have : enc x ∈ todo.map enc := by rw [← ht1, ← hk]; exact List.mem_map.2 ⟨e0, he, rfl⟩
  obtain ⟨y, hy, hyx⟩ := List.mem_map.1 this
  rw [← inj y x hyx]; exact hy
theorem filter_one (l1 l2 : List MapEntry) (e : MapEntry) (h : ((l1 ++ e :: l2).map (·.born)).Nodup) : (l1 ++ e :: l2).filter (fun x => !(x.born == e.born)) = l1 ++ l2 := by
  rw [List.map_append, List.map_cons] at h
  obtain ⟨_, h2, h3⟩ := List.nodup_append.1 h
  have hn1 : ∀ x ∈ l1, x.born ≠ e.born := fun x hx => h3 _ (List.mem_map.2 ⟨x, hx, rfl⟩) _ (List.mem_cons_self ..)
  have hn2 : ∀ x ∈ l2, x.born ≠ e.born := fun x hx he => (List.nodup_cons.1 h2).1 (List.mem_map.2 ⟨x, hx, he⟩)
  rw [List.filter_append, List.filter_cons]
  simp only [beq_self_eq_true, Bool.not_true, Bool.false_eq_true, if_false]
  rw [List.filter_eq_self.2 (fun x hx => by simpa using hn1 x hx), List.filter_eq_self.2 (fun x hx => by simpa using hn2 x hx)]
theorem RangeAt.next (h : RangeAt P k enc w b r M todo) (inj : ∀ x y, enc x = enc y → x = y) (ty : TypeId) :
    (todo = [] ∧ (Instr.next (.pointer (some ⟨r, 0, none⟩)) false ty).run P w = .ok (.tuple #[.bool false]) w) ∨
    ∃ l1 x l2 v w', todo = l1 ++ x :: l2 ∧ M x = some v ∧ (Instr.next (.pointer (some ⟨r, 0, none⟩)) false ty).run P w = .ok (.tuple #[.bool true, enc x, v]) w' ∧ RangeAt P k enc w' b r M (l1 ++ l2) ∧
      w.grownBy w' (some r) ∧ w'.heap.size = w.heap.size ∧ (Instr.entry (.pointer (some ⟨r, 0, none⟩))).run P w' = .ok (.tuple #[enc x, v]) w' := by
  obtain ⟨es, clock, since, seen, c0, hb, hS, h1, h2, hr, hold, hsc, hsk, hk⟩ := h
  have hne : r ≠ b := by intro e; rw [e, hb] at hr; cases hr
  rcases run_next_at (P := P) w ty r b since c0 seen es clock hr hb hold hsc with ⟨h0, hrun⟩ | ⟨e, he, w1, hal, hrun⟩
  · left
    refine ⟨?_, hrun⟩
    have hl : (leftOf es seen).toList = [] := List.eq_nil_of_length_eq_zero (by simpa using h0)
    rw [hl] at hk
    exact (List.map_eq_nil_iff.1 hk.symm)
  · right
    obtain ⟨hem, hes⟩ := mem_left he
    obtain ⟨y, hy, hyl, hym⟩ := h1 e hem
    obtain ⟨L1, L2, hL⟩ := List.append_of_mem he
    rw [hL, List.map_append, List.map_cons] at hk
    obtain ⟨l1, l2', rfl, hk1, hk2⟩ := List.map_eq_append_iff.1 hk.symm
    obtain ⟨x, l2, rfl, hx, hk3⟩ := List.map_eq_cons_iff.1 hk2
    obtain ⟨x', hx', _, hm'⟩ := h1 e hem
    have hr1 : w1.heap[r]? = some (.mapIter (some b) since seen c0) := by rcases hal with rfl | rfl <;> exact hr
    have hb1 : w1.heap[b]? = some (.map es clock) := by rcases hal with rfl | rfl <;> exact hb
    have hset := heap_set (o' := .mapIter (some b) since (seen.push e.born) clock) hr1
    have hb' : (setBlock w1 r (.mapIter (some b) since (seen.push e.born) clock)).heap[b]? = some (.map es clock) := (hset.2 b (fun e1 => hne e1.symm)).trans hb1
    have hmx : M x = some e.val := by rw [inj x x' (hx.trans hx')]; exact hm'
    refine ⟨l1, x, l2, e.val, _, rfl, hmx, by rw [hx]; exact hrun, ⟨es, clock, since, seen.push e.born, clock, hb', hS, h1, h2, hset.1, hold, hsk, hsk, ?_⟩, ?_, ?_, by rw [hx]; exact run_entry_at _ r b since seen es clock e hset.1 hb' hem ((MapKept.stamped_iff es clock).1 hS).2.1⟩
    · have hlf : (leftOf es (seen.push e.born)).toList = (leftOf es seen).toList.filter (fun x => !(x.born == e.born)) := by
        unfold leftOf
        rw [Array.toList_filter, Array.toList_filter, List.filter_filter]
        congr 1
        funext z
        rw [Array.contains_push]
        cases seen.contains z.born <;> cases (z.born == e.born) <;> rfl
      rw [hlf, hL, filter_one L1 L2 e (by rw [← hL]; exact (nodup_of_left hS).1), List.map_append, List.map_append, hk1, hk3]
    · rcases hal with rfl | rfl <;> exact ⟨rfl, rfl, rfl, by simp [setBlock], fun i _ hi => hset.2 i (fun e1 => hi (by rw [e1]))⟩
    · rcases hal with rfl | rfl <;> simp [setBlock]
end
end Go.Proofs.YtikdiepcfdimgaaGreatDoor
namespace Go.Proofs.YtikdiepcfdimgaaGreatDoor
open Go.RowKit Go.Lib Go.Proofs.YtikdiepcfdimgaaGreatDoorW.PrintWords Go.Proofs.YtikdiepcfdimgaaGreatDoorW.PrintLast
section
variable {P : Program} {w : World}
theorem run_append_any (t ty : TypeId) (base : Nat) (e : TypeId) (i : TypeInfo) (z : Value) (size bytes : Nat) (ht : P.underlying t = some (.slice e)) (hi : P.info? e = some i) (hz : i.zero = some z)
    (hsize : i.size = size) (hby : i.bytes = bytes) (hzs : z.cells.size = size) (hsz : 0 < size)
    (v : Value) (n : Nat) (xs : List Value) (hown : w.ownsRow base e size v n xs)
    (A : Option Addr) (m c : Nat) (news : List Value) (hl : news.length = m * size) (hnews : ∀ j u, news[j]? = some u → ∃ ad, A = some ad ∧ w.cell? (ad.add j) = some u) (h1 : ∀ u ∈ news, u.oneCell' = true)
    (h63 : n + m ≤ maxLen) (hbytes : (n + m) * bytes ≤ 140737488355328) (hbase : base ≤ w.heap.size) :
    ∃ v' w', (Builtin.append_ #[t, t] ty #[v, .slice A m c]).run P w = .ok v' w' ∧ w'.ownsRow base e size v' (n + m) (xs ++ news) ∧ w.grownBy w' v.ownBlock ∧ (v'.ownBlock = v.ownBlock ∨ v'.ownBlock = some w.heap.size) := by
  cases A with
  | some ad =>
    obtain ⟨v', w', hr, h2, h3, _, h5⟩ := run_append_own_at (P := P) w base t ty e i z size bytes ht hi hz hsize hby hzs hsz v n xs hown ad m c news hl (fun j u hu => by obtain ⟨ad', h, hc⟩ := hnews j u hu; cases h; exact hc) h1 h63 hbytes hbase
    exact ⟨v', w', hr, h2, h3, h5⟩
  | none =>
    have hn : news = [] := by
      cases news with
      | nil => rfl
      | cons u r => obtain ⟨_, h, _⟩ := hnews 0 u rfl; cases h
    subst hn
    have hm : m = 0 := by
      have h2 : m * size = 0 := hl.symm
      rcases Nat.mul_eq_zero.1 h2 with h | h
      · exact h
      · omega
    subst hm
    refine ⟨v, w, ?_, by simpa using hown, World.grownBy.refl w _, .inl rfl⟩
    rcases hown.2 with ⟨rfl, rfl⟩ | ⟨g, cap, cur, rfl, _, _, hnc, _⟩
    · simp [Builtin.append_, run_underlying ht, sizeOf, typeInfo, hi, Builtin.lenOf, Builtin.firstCells]
    · simp [Builtin.append_, run_underlying ht, sizeOf, typeInfo, hi, Builtin.lenOf, Builtin.firstCells, hnc, storeCells]
theorem step_append_any {ops : Array Oper} {o : Oper} {a : Act} {K : Act → World → Prop} {Q : Exit → Act → World → Prop} {E : Prop} (hgd : o.guard = none) (s x : Operand) (t : TypeId)
    (ho : o.op = .call { callee := .builtin .append, args := #[s, x], argTypes := #[t, t] })
    (base : Nat) (e : TypeId) (i : TypeInfo) (z : Value) (size bytes : Nat) (ht : P.underlying t = some (.slice e)) (hi : P.info? e = some i) (hz : i.zero = some z)
    (hsize : i.size = size) (hby : i.bytes = bytes) (hzs : z.cells.size = size) (hsz : 0 < size)
    (v : Value) (n : Nat) (xs : List Value) (hs : a.eval s = v) (hown : w.ownsRow base e size v n xs)
    (A : Option Addr) (m c : Nat) (news : List Value) (hx : a.eval x = .slice A m c) (hl : news.length = m * size) (hnews : ∀ j u, news[j]? = some u → ∃ ad, A = some ad ∧ w.cell? (ad.add j) = some u) (h1 : ∀ u ∈ news, u.oneCell' = true)
    (h63 : n + m ≤ maxLen) (hbytes : (n + m) * bytes ≤ 140737488355328) (hbase : base ≤ w.heap.size)
    (h : ∀ v' w', w'.ownsRow base e size v' (n + m) (xs ++ news) → w.grownBy w' v.ownBlock → (v'.ownBlock = v.ownBlock ∨ v'.ownBlock = some w.heap.size) → K (a.put o.dst v') w') :
    if Region.wanted o (yielded ops a.tmps) = true then Oper.wp P o a w K Q else E := by
  have hw : Region.wanted o (yielded ops a.tmps) = true := by simp [Region.wanted, hgd]
  rw [if_pos hw]
  obtain ⟨v', w', hr, h2, h3, h4⟩ := run_append_any (P := P) (w := w) t o.type base e i z size bytes ht hi hz hsize hby hzs hsz v n xs hown A m c news hl hnews h1 h63 hbytes hbase
  unfold Oper.wp execOp
  simp only [ho, resolve, invoke, builtin, Sem.run_bind, Sem.run_pure, Result.andThen_ok, List.map_toArray, List.map_cons, List.map_nil, hs, hx, hr]
  exact h v' w' h2 h3 h4
theorem wpList_append_any {ops : Array Oper} {rest : List Oper} {o : Oper} {a : Act} {Q : Exit → Act → World → Prop} (hgd : o.guard = none) (s x : Operand) (t : TypeId)
    (ho : o.op = .call { callee := .builtin .append, args := #[s, x], argTypes := #[t, t] })
    (base : Nat) (e : TypeId) (i : TypeInfo) (z : Value) (size bytes : Nat) (ht : P.underlying t = some (.slice e)) (hi : P.info? e = some i) (hz : i.zero = some z)
    (hsize : i.size = size) (hby : i.bytes = bytes) (hzs : z.cells.size = size) (hsz : 0 < size)
    (v : Value) (n : Nat) (xs : List Value) (hs : a.eval s = v) (hown : w.ownsRow base e size v n xs)
    (A : Option Addr) (m c : Nat) (news : List Value) (hx : a.eval x = .slice A m c) (hl : news.length = m * size) (hnews : ∀ j u, news[j]? = some u → ∃ ad, A = some ad ∧ w.cell? (ad.add j) = some u) (h1 : ∀ u ∈ news, u.oneCell' = true)
    (h63 : n + m ≤ maxLen) (hbytes : (n + m) * bytes ≤ 140737488355328) (hbase : base ≤ w.heap.size)
    (h : ∀ v' w', w'.ownsRow base e size v' (n + m) (xs ++ news) → w.grownBy w' v.ownBlock → (v'.ownBlock = v.ownBlock ∨ v'.ownBlock = some w.heap.size) → wpList P ops Q rest (a.put o.dst v') w') :
    wpList P ops Q (o :: rest) a w := by
  obtain ⟨v', w', hr, h2, h3, h4⟩ := run_append_any (P := P) (w := w) t o.type base e i z size bytes ht hi hz hsize hby hzs hsz v n xs hown A m c news hl hnews h1 h63 hbytes hbase
  refine Kd.event_run hgd (v := v') (w1 := w') ?_ (h v' w' h2 h3 h4)
  unfold execOp
  simp only [ho, resolve, invoke, builtin, Sem.run_bind, Sem.run_pure, Result.andThen_ok, List.map_toArray, List.map_cons, List.map_nil, hs, hx, hr]
theorem run_append_full (t ty : TypeId) (e : TypeId) (i : TypeInfo) (z : Value) (size bytes : Nat) (ht : P.underlying t = some (.slice e)) (hi : P.info? e = some i) (hz : i.zero = some z)
    (hsize : i.size = size) (hby : i.bytes = bytes) (hzs : z.cells.size = size)
    (A : Option Addr) (n : Nat) (xs : List Value) (hxl : xs.length = n * size) (hxs : ∀ j u, xs[j]? = some u → ∃ ad, A = some ad ∧ w.cell? (ad.add j) = some u) (hA : A = none → n = 0)
    (b : Addr) (m c : Nat) (news : List Value) (hl : news.length = m * size) (hnews : ∀ j u, news[j]? = some u → w.cell? (b.add j) = some u) (hm : 0 < m)
    (h63 : n + m ≤ maxLen) (hbytes : (n + m) * bytes ≤ 140737488355328) :
    ∃ cap w', (Builtin.append_ #[t, t] ty #[.slice A n n, .slice (some b) m c]).run P w = .ok (.slice (some ⟨w.heap.size, 0, none⟩) (n + m) cap) w' ∧ w'.ownsRow w.heap.size e size (.slice (some ⟨w.heap.size, 0, none⟩) (n + m) cap) (n + m) (xs ++ news) ∧ Below w.heap.size w w' := by
  subst hsize
  subst hby
  have hsmall : n + m ≤ 9223372036854775807 := by simp only [maxLen] at h63; omega
  have hlen : (xs ++ news).length = (n + m) * i.size := by rw [List.length_append, hxl, hl, Nat.add_mul]
  have grown : ∀ (old : Nat), old < n + m →
      (w.drew.alloc (.cells (xs.toArray ++ news.toArray ++ Builtin.zeroCells z.cells (grownCap w (n + m) old e - (n + m))) e)).ownsRow w.heap.size e i.size
        (.slice (some ⟨w.heap.size, 0, none⟩) (n + m) (grownCap w (n + m) old e)) (n + m) (xs ++ news) ∧
      Below w.heap.size w (w.drew.alloc (.cells (xs.toArray ++ news.toArray ++ Builtin.zeroCells z.cells (grownCap w (n + m) old e - (n + m))) e)) := by
    intro old ho
    have hge := grownCap_ge w (n + m) old e
    have hcm : grownCap w (n + m) old e ≤ maxLen := grownCap_le_maxLen w (n + m) old e h63
    refine ⟨⟨hlen, .inr ⟨w.heap.size, _, _, rfl, Nat.le_refl _, heap_alloc_new w.drew _, hge, hcm, ?_, ?_⟩⟩, (Below.refl _ w).drew.alloc (Nat.le_refl _) _⟩
    · simp only [Array.size_append, List.size_toArray, size_zeroCells, hzs, hxl, hl, ← Nat.add_mul]
      congr 1
      omega
    · simp only [Array.toList_append, List.append_assoc]
      rw [← List.append_assoc, ← hlen]
      exact List.take_left
  cases A with
  | none =>
    have hn := hA rfl
    subst hn
    have hx : xs = [] := List.eq_nil_of_length_eq_zero (by simpa using hxl)
    subst hx
    have hr := run_append_nil (P := P) w t ty e i z ht hi hz b m c news hl hnews hm (by omega) (by have hb := hbytes; simp only [Nat.zero_add] at hb; omega)
    have hgr := grown 0 (by omega)
    simp only [Nat.zero_add, List.nil_append, Array.empty_append] at hgr ⊢
    exact ⟨_, _, hr, hgr.1, hgr.2⟩
  | some a =>
    have hr := run_append_grow (P := P) w t ty e i z ht hi hz a n n xs hxl (fun j u hu => by obtain ⟨ad, h, hc⟩ := hxs j u hu; cases h; exact hc) b m c news hl hnews (by omega) (by omega) (growslice_fits (by omega) hbytes)
    have hgr := grown n (by omega)
    exact ⟨_, _, hr, hgr.1, hgr.2⟩
theorem step_append_full {ops : Array Oper} {o : Oper} {a : Act} {K : Act → World → Prop} {Q : Exit → Act → World → Prop} {E : Prop} (hgd : o.guard = none) (s x : Operand) (t : TypeId)
    (ho : o.op = .call { callee := .builtin .append, args := #[s, x], argTypes := #[t, t] })
    (e : TypeId) (i : TypeInfo) (z : Value) (size bytes : Nat) (ht : P.underlying t = some (.slice e)) (hi : P.info? e = some i) (hz : i.zero = some z)
    (hsize : i.size = size) (hby : i.bytes = bytes) (hzs : z.cells.size = size)
    (A : Option Addr) (n : Nat) (xs : List Value) (hs : a.eval s = .slice A n n) (hxl : xs.length = n * size) (hxs : ∀ j u, xs[j]? = some u → ∃ ad, A = some ad ∧ w.cell? (ad.add j) = some u) (hA : A = none → n = 0)
    (b : Addr) (m c : Nat) (news : List Value) (hx : a.eval x = .slice (some b) m c) (hl : news.length = m * size) (hnews : ∀ j u, news[j]? = some u → w.cell? (b.add j) = some u) (hm : 0 < m)
    (h63 : n + m ≤ maxLen) (hbytes : (n + m) * bytes ≤ 140737488355328)
    (h : ∀ cap w', w'.ownsRow w.heap.size e size (.slice (some ⟨w.heap.size, 0, none⟩) (n + m) cap) (n + m) (xs ++ news) → Below w.heap.size w w' → K (a.put o.dst (.slice (some ⟨w.heap.size, 0, none⟩) (n + m) cap)) w') :
    if Region.wanted o (yielded ops a.tmps) = true then Oper.wp P o a w K Q else E := by
  have hw : Region.wanted o (yielded ops a.tmps) = true := by simp [Region.wanted, hgd]
  rw [if_pos hw]
  obtain ⟨cap, w', hr, h2, h3⟩ := run_append_full (P := P) (w := w) t o.type e i z size bytes ht hi hz hsize hby hzs A n xs hxl hxs hA b m c news hl hnews hm h63 hbytes
  unfold Oper.wp execOp
  simp only [ho, resolve, invoke, builtin, Sem.run_bind, Sem.run_pure, Result.andThen_ok, List.map_toArray, List.map_cons, List.map_nil, hs, hx, hr]
  exact h cap w' h2 h3
theorem cut_full (t e : TypeId) {i : TypeInfo} (ht : P.underlying t = some (.slice e)) (hi : P.info? e = some i) (A : Option Addr) (n c : Nat) (j : Int) (h0 : 0 ≤ j) (hm : j ≤ c) :
    ∀ W : World, (Instr.slice t (.slice A n c) none (some (.int .i64 j)) (some (.int .i64 j))).run P W = .ok (.slice A j.toNat j.toNat) W := by
  intro W
  have hel : P.elem t = e := by simp [Program.elem, ht]
  have hu : P.underlying t = some (.slice (P.elem t)) := by rw [hel]; exact ht
  have ha : (A.map fun x => x.add 0) = A := by cases A <;> simp [Addr.add]
  rw [run_slice_hm W t A n c hu .i64 .i64 j j h0 (Int.le_refl _) hm, hel]
  simp [sizeOf, typeInfo, hi, sliced, Result.andThen, ha]
end
section
variable {w W : World} {base e size n c m : Nat} {A : Option Addr} {xs : List Value}
theorem slice_room (h : w.ownsRow base e size (.slice A n c) n xs) : n ≤ c := by
  rcases h.2 with ⟨hv, h0⟩ | ⟨g, cap, cur, hv, _, _, hnc, _⟩
  · omega
  · injection hv with _ _ hc
    subst hc; exact hnc
theorem own_news_take (h : w.ownsRow base e size (.slice A n c) n xs) (hm : m ≤ n) (hW : ∀ g, (Value.slice A n c).ownBlock = some g → W.heap[g]? = w.heap[g]?) :
    ∀ j u, (xs.take (m * size))[j]? = some u → ∃ ad, A = some ad ∧ W.cell? (ad.add j) = some u := fun j u hu => by
  have hj := (List.getElem?_eq_some_iff.1 hu).1
  rw [List.length_take] at hj
  rw [List.getElem?_take, if_pos (by omega)] at hu
  rcases h.2 with ⟨hv, h0⟩ | ⟨g, cap, cur, hv, _, hh, _, _, _, ht⟩
  · have := h.1; subst h0; omega
  · injection hv with ha _ hc
    subst ha; subst hc
    refine ⟨_, rfl, ?_⟩
    rw [Addr.add_lit, Nat.zero_add]
    have h2 := (List.getElem?_eq_some_iff.1 hu).1
    rw [h.1] at h2
    rw [← ht, List.getElem?_take, if_pos h2, Array.getElem?_toList] at hu
    simp [World.cell?, hW g rfl, hh, hu]
theorem own_news_drop (h : w.ownsRow base e size (.slice A n c) n xs) (hm : m ≤ n) (hW : ∀ g, (Value.slice A n c).ownBlock = some g → W.heap[g]? = w.heap[g]?) :
    ∀ j u, (xs.drop (m * size))[j]? = some u → ∃ ad, (if c = m then A else A.map (·.add (m * size))) = some ad ∧ W.cell? (ad.add j) = some u := fun j u hu => by
  rw [List.getElem?_drop] at hu
  have h2 := (List.getElem?_eq_some_iff.1 hu).1
  rw [h.1] at h2
  rcases h.2 with ⟨hv, h0⟩ | ⟨g, cap, cur, hv, _, hh, hnc, _, _, ht⟩
  · subst h0; omega
  · injection hv with ha _ hc
    subst ha; subst hc
    rw [← ht, List.getElem?_take, if_pos h2, Array.getElem?_toList] at hu
    by_cases hcm : c = m
    · subst hcm
      have : n = c := by omega
      subst this
      omega
    · rw [if_neg hcm]
      refine ⟨_, rfl, ?_⟩
      show W.cell? (((⟨g, 0, none⟩ : Addr).add (m * size)).add j) = some u
      rw [Addr.add_lit, Addr.add_lit, Nat.zero_add]
      simp [World.cell?, hW g rfl, hh, hu]
end
theorem own_lower_ {w : World} {b b' : Nat} {e : TypeId} {size n : Nat} {v : Value} {xs : List Value} (h : w.ownsRow b e size v n xs) (hb : b' ≤ b) : w.ownsRow b' e size v n xs := by
  refine ⟨h.1, ?_⟩
  rcases h.2 with h2 | ⟨g, cap, cur, h1, h2, h3⟩
  · exact .inl h2
  · exact .inr ⟨g, cap, cur, h1, Nat.le_trans hb h2, h3⟩
theorem two_new (w : World) (o1 o2 : Obj) : (((w.alloc o1).alloc o2).drew).heap[w.heap.size]? = some o1 ∧ (((w.alloc o1).alloc o2).drew).heap[w.heap.size + 1]? = some o2 ∧ Below w.heap.size w (((w.alloc o1).alloc o2).drew) := by
  refine ⟨?_, ?_, (((Below.refl _ w).alloc (Nat.le_refl _) _).alloc (by simp) _).drew⟩
  · show ((w.alloc o1).alloc o2).heap[w.heap.size]? = _
    rw [heap_alloc_old (w.alloc o1) o2 (by simp)]
    exact (Go.MapKept.heap_alloc w o1).1
  · show ((w.alloc o1).alloc o2).heap[w.heap.size + 1]? = _
    have := (Go.MapKept.heap_alloc (w.alloc o1) o2).1
    simpa using this
theorem empty_row {w : World} {base g e size : Nat} (hb : base ≤ g) (h : w.heap[g]? = some (.cells #[] e (0, 0))) : w.ownsRow base e size (.slice (some ⟨g, 0, none⟩) 0 0) 0 [] :=
  ⟨by simp, .inr ⟨g, 0, #[], rfl, hb, h, Nat.le_refl _, Nat.zero_le _, by simp, by simp⟩⟩
end Go.Proofs.YtikdiepcfdimgaaGreatDoor
namespace Go.Proofs.YtikdiepcfdimgaaGreatDoor.POw
open Go.RowKit Go.Proofs.YtikdiepcfdimgaaGreatDoorW.PrintWords Go.Proofs.YtikdiepcfdimgaaGreatDoorW.PrintLast
theorem bless_eq : ∀ (x y : List UInt8), Op.bytesLess x y = decide (x < y)
  | [], [] => by simp [Op.bytesLess]
  | _ :: _, [] => by simp [Op.bytesLess]
  | [], _ :: _ => by simp [Op.bytesLess]
  | a :: x, b :: y => by
    rw [Op.bytesLess, bless_eq x y]
    simp only [List.cons_lt_cons_iff]
    by_cases h1 : a < b <;> by_cases h2 : a = b <;> by_cases h3 : x < y <;> simp [h1, h2, h3]
theorem bytes_ext {a b : ByteArray} (h : a.toList = b.toList) : a = b := by
  rw [ByteArray.toList_eq, ByteArray.toList_eq] at h
  exact WideShapes.bytes_inj h
theorem blist_tri (x y : List UInt8) : x = y ∨ x < y ∨ y < x := by
  by_cases h1 : x < y
  · exact Or.inr (Or.inl h1)
  · by_cases h2 : y < x
    · exact Or.inr (Or.inr h2)
    · exact Or.inl (List.le_antisymm (List.not_lt.1 h2) (List.not_lt.1 h1))
section
variable {α : Type} {lt : α → α → Bool}
def posG (lt : α → α → Bool) (ks : List α) (k : α) : Nat := ks.countP (fun a => lt a k)
theorem posG_le (ks : List α) (k : α) : posG lt ks k ≤ ks.length := List.countP_le_length
theorem posG_zero {ks : List α} {k : α} (h : ∀ a ∈ ks, lt a k = false) : posG lt ks k = 0 := by
  unfold posG
  rw [List.countP_eq_zero]
  intro a ha
  simp [h a ha]
theorem posG_cons_lt {ks : List α} {a k : α} (h : lt a k = true) : posG lt (a :: ks) k = posG lt ks k + 1 := by
  unfold posG; rw [List.countP_cons_of_pos (by simpa using h)]
theorem posG_cons_ge {ks : List α} {a k : α} (h : lt a k = false) (hs : ∀ b ∈ ks, lt b k = false) : posG lt (a :: ks) k = 0 :=
  posG_zero (fun b hb => by rcases List.mem_cons.1 hb with rfl | hb; exact h; exact hs b hb)
structure StrictO (lt : α → α → Bool) : Prop where
  irr : ∀ a, lt a a = false
  tra : ∀ a b c, lt a b = true → lt b c = true → lt a c = true
  tri : ∀ a b, a = b ∨ lt a b = true ∨ lt b a = true
theorem StrictO.asy (o : StrictO lt) {a b : α} (h : lt a b = true) : lt b a = false := by
  cases h2 : lt b a with
  | false => rfl
  | true => have := o.tra _ _ _ h h2; rw [o.irr] at this; cases this
theorem StrictO.ge (o : StrictO lt) {a k b : α} (h : lt a k = false) (h2 : lt a b = true) : lt b k = false := by
  cases h3 : lt b k with
  | false => rfl
  | true => rw [o.tra _ _ _ h2 h3] at h; cases h
theorem pos_at (o : StrictO lt) (k : α) : ∀ {ks : List α}, ks.Pairwise (fun a b => lt a b = true) → ∀ i (hi : i < ks.length), lt ks[i] k = decide (i < posG lt ks k)
  | a :: ks, h, i, hi => by
    obtain ⟨ha, h'⟩ := List.pairwise_cons.1 h
    cases hk : lt a k with
    | true =>
      rw [posG_cons_lt hk]
      cases i with
      | zero => simp [hk]
      | succ i => simp [pos_at o k h' i (by simpa using hi)]
    | false =>
      have hall : ∀ b ∈ ks, lt b k = false := fun b hb => o.ge hk (ha b hb)
      rw [posG_cons_ge hk hall]
      cases i with
      | zero => simp [hk]
      | succ i => simp; exact hall _ (List.getElem_mem _)
theorem pos_mem (o : StrictO lt) (k : α) : ∀ {ks : List α}, ks.Pairwise (fun a b => lt a b = true) → k ∈ ks → ks[posG lt ks k]? = some k
  | a :: ks, h, hm => by
    obtain ⟨ha, h'⟩ := List.pairwise_cons.1 h
    rcases List.mem_cons.1 hm with rfl | hm
    · rw [posG_cons_ge (o.irr k) (fun b hb => o.asy (ha b hb))]; rfl
    · rw [posG_cons_lt (ha k hm)]
      simpa using pos_mem o k h' hm
def insG (lt : α → α → Bool) (ks : List α) (k : α) : List α := ks.take (posG lt ks k) ++ k :: ks.drop (posG lt ks k)
theorem insG_mem (ks : List α) (k x : α) : x ∈ insG lt ks k ↔ x = k ∨ x ∈ ks := by
  unfold insG
  have : x ∈ ks ↔ x ∈ ks.take (posG lt ks k) ∨ x ∈ ks.drop (posG lt ks k) := by rw [← List.mem_append, List.take_append_drop]
  rw [List.mem_append, List.mem_cons, this]
  constructor
  · rintro (h | h | h)
    · exact Or.inr (Or.inl h)
    · exact Or.inl h
    · exact Or.inr (Or.inr h)
  · rintro (h | h | h)
    · exact Or.inr (Or.inl h)
    · exact Or.inl h
    · exact Or.inr (Or.inr h)
theorem insG_sorted (o : StrictO lt) (k : α) : ∀ {ks : List α}, ks.Pairwise (fun a b => lt a b = true) → k ∉ ks → (insG lt ks k).Pairwise (fun a b => lt a b = true)
  | [], _, _ => by simp [insG]
  | a :: ks, h, hk => by
    obtain ⟨ha, h'⟩ := List.pairwise_cons.1 h
    cases hak : lt a k with
    | true =>
      have e : insG lt (a :: ks) k = a :: insG lt ks k := by
        unfold insG; rw [posG_cons_lt hak]; rfl
      rw [e, List.pairwise_cons]
      refine ⟨fun x hx => ?_, insG_sorted o k h' (fun hm => hk (List.mem_cons_of_mem _ hm))⟩
      rcases (insG_mem ks k x).1 hx with rfl | hx
      · exact hak
      · exact ha x hx
    | false =>
      have hka : lt k a = true := by
        rcases o.tri k a with e | e | e
        · exact (hk (e ▸ List.mem_cons_self ..)).elim
        · exact e
        · rw [hak] at e; cases e
      have e : insG lt (a :: ks) k = k :: a :: ks := by
        unfold insG; rw [posG_cons_ge hak (fun b hb => o.ge hak (ha b hb))]; rfl
      rw [e, List.pairwise_cons]
      refine ⟨fun x hx => ?_, h⟩
      rcases List.mem_cons.1 hx with rfl | hx
      · exact hka
      · exact o.tra _ _ _ hka (ha x hx)
end
theorem insG_length {α : Type} {lt : α → α → Bool} (ks : List α) (k : α) : (insG lt ks k).length = ks.length + 1 := by
  unfold insG
  have := posG_le (lt := lt) ks k
  simp; omega
theorem sorted_ext_ {α : Type} {lt : α → α → Bool} (o : StrictO lt) : ∀ {l1 l2 : List α}, l1.Pairwise (fun a b => lt a b = true) → l2.Pairwise (fun a b => lt a b = true) → (∀ x, x ∈ l1 ↔ x ∈ l2) → l1 = l2
  | [], [], _, _, _ => rfl
  | [], b :: l2, _, _, h => by have := (h b).2 (List.mem_cons_self ..); cases this
  | a :: l1, [], _, _, h => by have := (h a).1 (List.mem_cons_self ..); cases this
  | a :: l1, b :: l2, h1, h2, h => by
    obtain ⟨ha, h1'⟩ := List.pairwise_cons.1 h1
    obtain ⟨hb, h2'⟩ := List.pairwise_cons.1 h2
    have hab : a = b := by
      rcases List.mem_cons.1 ((h a).1 (List.mem_cons_self ..)) with e | e
      · exact e
      · rcases List.mem_cons.1 ((h b).2 (List.mem_cons_self ..)) with e2 | e2
        · exact e2.symm
        · have k1 := hb a e
          have k2 := ha b e2
          rw [o.asy k1] at k2; cases k2
    subst hab
    have na1 : a ∉ l1 := fun hm => by have := ha a hm; rw [o.irr] at this; cases this
    have na2 : a ∉ l2 := fun hm => by have := hb a hm; rw [o.irr] at this; cases this
    rw [sorted_ext_ o h1' h2' (fun x => ?_)]
    constructor
    · intro hx
      rcases List.mem_cons.1 ((h x).1 (List.mem_cons_of_mem _ hx)) with e | e
      · exact absurd (e ▸ hx) na1
      · exact e
    · intro hx
      rcases List.mem_cons.1 ((h x).2 (List.mem_cons_of_mem _ hx)) with e | e
      · exact absurd (e ▸ hx) na2
      · exact e
def sLt (a b : ByteArray) : Bool := Op.bytesLess a.data.toList b.data.toList
theorem sLt_eq (a b : ByteArray) : sLt a b = Op.bytesLess a.toList b.toList := by unfold sLt; rw [ByteArray.toList_eq, ByteArray.toList_eq]
theorem sLt_iff (a b : ByteArray) : sLt a b = true ↔ a.toList < b.toList := by
  rw [sLt_eq, bless_eq]
  simp
theorem sO : StrictO sLt where
  irr a := by
    rw [Bool.eq_false_iff]
    intro h
    exact List.lt_irrefl _ ((sLt_iff a a).1 h)
  tra a b c h1 h2 := by
    rw [sLt_iff] at h1 h2 ⊢
    exact List.lt_trans h1 h2
  tri a b := by
    rw [sLt_iff, sLt_iff]
    rcases blist_tri a.toList b.toList with h | h | h
    · exact Or.inl (bytes_ext h)
    · exact Or.inr (Or.inl h)
    · exact Or.inr (Or.inr h)
def iLt (a b : Int) : Bool := decide (a < b)
theorem iO : StrictO iLt where
  irr a := by simp [iLt]
  tra a b c h1 h2 := by simp [iLt] at *; omega
  tri a b := by simp [iLt]; omega
def withG {α : Type} [DecidableEq α] (lt : α → α → Bool) (l : List α) (s : α) : List α := if l[posG lt l s]? = some s then l else insG lt l s
theorem withG_mem {α : Type} [DecidableEq α] {lt : α → α → Bool} (l : List α) (s x : α) : x ∈ withG lt l s ↔ x = s ∨ x ∈ l := by
  unfold withG
  split
  · rename_i h
    constructor
    · exact Or.inr
    · rintro (rfl | h2)
      · exact List.mem_of_getElem? h
      · exact h2
  · exact insG_mem l s x
theorem withG_sorted {α : Type} [DecidableEq α] {lt : α → α → Bool} (o : StrictO lt) {l : List α} (s : α) (h : l.Pairwise (fun a b => lt a b = true)) : (withG lt l s).Pairwise (fun a b => lt a b = true) := by
  unfold withG
  split
  · exact h
  · rename_i hn
    exact insG_sorted o s h (fun hm => hn (pos_mem o s h hm))
theorem withG_length {α : Type} [DecidableEq α] {lt : α → α → Bool} (l : List α) (s : α) : (withG lt l s).length ≤ l.length + 1 := by
  unfold withG
  split
  · omega
  · rw [insG_length]; omega
def strs (l : List ByteArray) : List Value := l.map .string
def intVs (l : List Int) : List Value := l.map (.int .i64)
theorem strs_length (l : List ByteArray) : (strs l).length = l.length := by simp [strs]
theorem strs_one (l : List ByteArray) : ∀ u ∈ strs l, u.oneCell' = true := by
  intro u hu
  simp only [strs, List.mem_map] at hu
  obtain ⟨x, _, rfl⟩ := hu; rfl
theorem ints_one (l : List Int) : ∀ u ∈ intVs l, u.oneCell' = true := by
  intro u hu
  simp only [intVs, List.mem_map] at hu
  obtain ⟨x, _, rfl⟩ := hu; rfl
theorem own_str_at {w : World} {B c : Nat} {A : Option Addr} {l : List ByteArray} (h : w.ownsRow B 9 1 (.slice A l.length c) l.length (strs l)) (i : Nat) (hi : i < l.length) :
    ∃ g, A = some ⟨g, 0, none⟩ ∧ g < w.heap.size ∧ w.cell? ⟨g, i, none⟩ = some (.string l[i]) := by
  rcases h.2 with ⟨hv, h0⟩ | ⟨g, cap, cur, hv, _, hh, _, _, _, ht⟩
  · omega
  · injection hv with ha _ hc
    subst ha; subst hc
    refine ⟨g, rfl, (Array.getElem?_eq_some_iff.1 hh).1, ?_⟩
    have : (strs l)[i]? = some (.string l[i]) := by simp [strs, hi]
    rw [← ht, List.getElem?_take, if_pos (by omega), Array.getElem?_toList] at this
    simp [World.cell?, hh, this]
theorem own_int_at {w : World} {B c : Nat} {A : Option Addr} {l : List Int} (h : w.ownsRow B 3 1 (.slice A l.length c) l.length (intVs l)) (i : Nat) (hi : i < l.length) :
    ∃ g, A = some ⟨g, 0, none⟩ ∧ g < w.heap.size ∧ w.cell? ⟨g, i, none⟩ = some (.int .i64 l[i]) := by
  rcases h.2 with ⟨hv, h0⟩ | ⟨g, cap, cur, hv, _, hh, _, _, _, ht⟩
  · omega
  · injection hv with ha _ hc
    subst ha; subst hc
    refine ⟨g, rfl, (Array.getElem?_eq_some_iff.1 hh).1, ?_⟩
    have : (intVs l)[i]? = some (.int .i64 l[i]) := by simp [intVs, hi]
    rw [← ht, List.getElem?_take, if_pos (by omega), Array.getElem?_toList] at this
    simp [World.cell?, hh, this]
theorem own_form {w : World} {B n sz e : Nat} {v : Value} {xs : List Value} (h : w.ownsRow B e sz v n xs) : ∃ A c, v = .slice A n c ∧ n ≤ c ∧ (A = none → n = 0 ∧ c = 0) ∧ c ≤ maxLen := by
  rcases h.2 with ⟨hv, h0⟩ | ⟨g, cap, cur, hv, _, hh, hnc, hcm, _⟩
  · exact ⟨none, 0, by rw [hv, h0], by omega, fun _ => ⟨h0, rfl⟩, by omega⟩
  · exact ⟨some ⟨g, 0, none⟩, cap, hv, hnc, (fun h => by cases h), hcm⟩
end Go.Proofs.YtikdiepcfdimgaaGreatDoor.POw
namespace Go.Proofs.YtikdiepcfdimgaaGreatDoor.POw
open Go.RowKit Go.Shelf Go.Lib Go.Proofs.YtikdiepcfdimgaaGreatDoorW.PrintWords Go.Proofs.YtikdiepcfdimgaaGreatDoorW.PrintLast
theorem toArr_get {α : Type} [Inhabited α] (l : List α) (i : Nat) (h : i < l.length) : l.toArray[i]! = l[i] := by simp [h]
theorem sorted_below {α : Type} {lt : α → α → Bool} (o : StrictO lt) {l : List α} (hs : l.Pairwise (fun a b => lt a b = true)) {s : α} {i j : Nat} (hij : i ≤ j) (hj : j < l.length) (h : lt l[i] s = false) : lt l[j] s = false := by
  rcases Nat.eq_or_lt_of_le hij with rfl | hlt
  · exact h
  · exact o.ge h (List.pairwise_iff_getElem.1 hs i j (by omega) hj hlt)
theorem search_strs {w : World} {B c : Nat} {A : Option Addr} (l : List ByteArray) (s : ByteArray) (h : w.ownsRow B 9 1 (.slice A l.length c) l.length (strs l)) (hs : l.Pairwise (fun a b => sLt a b = true)) (hl : l.length ≤ 10000) :
    Calls Tryz.prog 62 #[.slice A l.length c, .string s] w fun e w' => e = .returned (.int .i64 (posG sLt l s : Nat)) ∧ Below w.heap.size w w' := by
  by_cases h0 : l.length = 0
  · have hr := Any.sort_SearchStrings_none Tryz.svStrings A c s w
    have hl0 : l = [] := List.eq_nil_of_length_eq_zero h0
    subst hl0
    exact hr
  · obtain ⟨g, rfl, hg, _⟩ := own_str_at h 0 (by omega)
    have hr := Any.sort_SearchStrings Tryz.svStrings g 0 c l.toArray s w
      (fun i hi => by
        have hi' : i < l.length := by simpa using hi
        obtain ⟨g', hA, _, hc⟩ := own_str_at h i hi'
        injection hA with hA; injection hA with hA; subst hA
        rw [Nat.zero_add, hc, toArr_get l i hi'])
      hg (by simp; omega)
      (fun a b hab hb ha => by
        have hb' : b < l.length := by simpa using hb
        rw [toArr_get l a (by omega)] at ha
        rw [toArr_get l b hb']
        have e : ∀ x : ByteArray, (!decide (x.data.toList < s.data.toList)) = !sLt x s := fun x => by rw [sLt_eq, bless_eq, ByteArray.toList_eq, ByteArray.toList_eq]
        rw [e] at ha ⊢
        have := sorted_below sO hs (s := s) hab hb' (by simpa using ha)
        simp [this])
    rw [List.size_toArray] at hr
    refine hr.mono ?_
    rintro e w' ⟨rfl, hb⟩
    refine ⟨?_, hb⟩
    congr 3
    unfold posG
    apply List.countP_congr
    intro x _
    rw [sLt_eq, bless_eq, ByteArray.toList_eq, ByteArray.toList_eq]
    simp
theorem search_ints {w : World} {B c : Nat} {A : Option Addr} (l : List Int) (s : Int) (h : w.ownsRow B 3 1 (.slice A l.length c) l.length (intVs l)) (hs : l.Pairwise (fun a b => iLt a b = true)) (hl : l.length ≤ 10000) :
    Calls Tryz.prog 51 #[.slice A l.length c, .int .i64 s] w fun e w' => e = .returned (.int .i64 (posG iLt l s : Nat)) ∧ Below w.heap.size w w' := by
  by_cases h0 : l.length = 0
  · have hr := Any.sort_SearchInts_none Tryz.svInts A c s w
    have hl0 : l = [] := List.eq_nil_of_length_eq_zero h0
    subst hl0
    exact hr
  · obtain ⟨g, rfl, hg, _⟩ := own_int_at h 0 (by omega)
    have hr := Any.sort_SearchInts Tryz.svInts g 0 c l.toArray s w
      (fun i hi => by
        have hi' : i < l.length := by simpa using hi
        obtain ⟨g', hA, _, hc⟩ := own_int_at h i hi'
        injection hA with hA; injection hA with hA; subst hA
        rw [Nat.zero_add, hc, toArr_get l i hi'])
      hg (by simp; omega)
      (fun a b hab hb ha => by
        have hb' : b < l.length := by simpa using hb
        rw [toArr_get l a (by omega)] at ha
        rw [toArr_get l b hb']
        have := sorted_below iO hs (s := s) hab hb' (by simp [iLt]; simp at ha; omega)
        simp [iLt] at this
        simp; omega)
    rw [List.size_toArray] at hr
    refine hr.mono ?_
    rintro e w' ⟨rfl, hb⟩
    refine ⟨?_, hb⟩
    congr 3
    unfold posG
    apply List.countP_congr
    intro x _
    simp [iLt]
end Go.Proofs.YtikdiepcfdimgaaGreatDoor.POw
namespace Go.Proofs.YtikdiepcfdimgaaGreatDoor.POw
open Go.RowKit Go.Lib Go.Proofs.YtikdiepcfdimgaaGreatDoorW.PrintWords Go.Proofs.YtikdiepcfdimgaaGreatDoorW.PrintLast
theorem info_str : (Tryz.prog.info? 9).map (fun i => (i.zero, i.size, i.bytes)) = some (some (.string ⟨#[]⟩), 1, 16) := by kernel_rfl
theorem info_int_ : (Tryz.prog.info? 3).map (fun i => (i.zero, i.size, i.bytes)) = some (some (.int .i64 0), 1, 8) := by kernel_rfl
theorem str_bool {a b : ByteArray} (h : a ≠ b) : (a.toList == b.toList) = false := by
  simp only [beq_eq_false_iff_ne, ne_eq]
  exact fun e => h (bytes_ext e)
set_option maxRecDepth 100000 in
set_option maxHeartbeats 8000000 in
theorem go_with (l : List ByteArray) (s : ByteArray) (v : Value) (B : Nat) (w : World) (hown : w.ownsRow B 9 1 v l.length (strs l)) (hB : B ≤ w.heap.size) (hs : l.Pairwise (fun a b => sLt a b = true)) (hl : l.length ≤ 9000) :
    Calls Tryz.prog 38 #[v, .string s] w fun e w' => ∃ v', e = .returned v' ∧ w'.ownsRow B 9 1 v' (withG sLt l s).length (strs (withG sLt l s)) ∧ Below w.heap.size w w' := by
  obtain ⟨A, c, rfl, hlc, hnil, hcm⟩ := own_form hown
  have hsr := fun (W : World) (hW : Below w.heap.size w W) => search_strs (w := W) l s (pw_own_below hown hW) hs (by omega)
  obtain ⟨P, hP⟩ : ∃ P, posG sLt l s = P := ⟨_, rfl⟩
  have hPl : P ≤ l.length := by rw [← hP]; exact posG_le _ _
  rw [hP] at hsr
  have HSR := Lib.hid hsr
  have HW := Lib.hid (show withG sLt l s = if l[P]? = some s then l else l.take P ++ s :: l.drop P by unfold withG insG; rw [hP])
  have HOWN := Lib.hid hown
  obtain ⟨L, hL⟩ : ∃ L, withG sLt l s = L := ⟨_, rfl⟩
  rw [hL] at HW ⊢
  clear hsr hP hL hs
  go_enter Tryz.func38, Tryz.ntmps38
  go_upto_region 2 with (go_at_call 62; refine (HSR.out _ (Below.refl _ _)).mono ?_; rintro e w1 ⟨rfl, hb1⟩)
  have hown1 := pw_own_below HOWN.out hb1
  by_cases hsame : l[P]? = some s
  · have hlt : P < l.length := (List.getElem?_eq_some_iff.1 hsame).1
    obtain ⟨g, rfl, hg, hc⟩ := own_str_at hown1 P hlt
    rw [(List.getElem?_eq_some_iff.1 hsame).2] at hc
    have hPi : (P : Int) < (l.length : Int) := by omega
    have HL := Lib.hid (show L = l by rw [HW.out, if_pos hsame])
    clear hsame hown1 hown
    go_wp2
    go_ret
    exact ⟨_, rfl, by rw [HL.out]; exact pw_own_below HOWN.out hb1, hb1⟩
  · have HL := Lib.hid (show L = l.take P ++ s :: l.drop P by rw [HW.out, if_neg hsame])
    obtain ⟨i0, hi0, hi1, hi2, hi3⟩ := info_parts info_str
    have hcf := cut_full (P := Tryz.prog) 37 9 Tryz.underlying37 hi0 A l.length c (P : Int) (by omega) (by omega)
    have hcd := cut_from (P := Tryz.prog) 37 9 .i64 Tryz.underlying37 hi0 1 hi2 A l.length c (P : Int) (by omega) (by omega)
    rw [Int.toNat_natCast] at hcf hcd
    rw [Nat.mul_one] at hcd
    obtain ⟨D, hD⟩ : ∃ D, (if c = P then A else A.map (·.add P)) = D := ⟨_, rfl⟩
    rw [hD] at hcd
    have TAKE := Lib.hid (show ∀ W, Below w1.heap.size w1 W → ∀ j u, (strs (l.take P))[j]? = some u → ∃ ad, A = some ad ∧ W.cell? (ad.add j) = some u from fun W hW => by
      have := own_news_take (W := W) hown1 hPl (fun g hg => hW.block g (own_lt hown1 g hg))
      rw [Nat.mul_one] at this
      unfold strs at this ⊢
      rw [← List.map_take] at this
      exact this)
    have DROP := Lib.hid (show ∀ W, Below w1.heap.size w1 W → ∀ j u, (strs (l.drop P))[j]? = some u → ∃ ad, D = some ad ∧ W.cell? (ad.add j) = some u from fun W hW => by
      have := own_news_drop (W := W) hown1 hPl (fun g hg => hW.block g (own_lt hown1 g hg))
      unfold strs at this ⊢
      rw [Nat.mul_one, ← List.map_drop, hD] at this
      exact this)
    have hnone : A = none → P = 0 := fun h => by have := (hnil h).1; omega
    have HCUT := Lib.hid (show ∀ i (h : i < l.length), ∃ g, A = some ⟨g, 0, none⟩ ∧ w1.cell? ⟨g, i, none⟩ = some (.string l[i]) from fun i hi => by obtain ⟨g, h1, _, h2⟩ := own_str_at hown1 i hi; exact ⟨g, h1, h2⟩)
    clear hown hown1 hnil hD
    have HEND := Lib.hid (show ∀ (v32 : Value) (w32 : World), w32.ownsRow w1.heap.size 9 1 v32 (P + 1 + (l.length - P)) (strs (l.take P) ++ [.string s] ++ strs (l.drop P)) → w32.ownsRow B 9 1 v32 L.length (strs L) from fun v32 w32 h => by
      rw [HL.out]
      have e1 : (l.take P ++ s :: l.drop P).length = P + 1 + (l.length - P) := by simp; omega
      have e2 : strs (l.take P ++ s :: l.drop P) = strs (l.take P) ++ [.string s] ++ strs (l.drop P) := by simp [strs]
      rw [e1, e2]
      exact own_lower_ h (Nat.le_trans hB hb1.size))
    by_cases hlt : P < l.length
    · obtain ⟨g, hAg, hc⟩ := HCUT.out P hlt
      have hPi : (P : Int) < (l.length : Int) := by omega
      have hne : l[P] ≠ s := fun e => hsame (by rw [List.getElem?_eq_getElem hlt, e])
      have hneb := str_bool hne
      clear hne hsame
      have HAG := Lib.hid hAg
      subst hAg
      go_upto_region 4 with fail
      have hB0 : Below w1.heap.size w1 w1.drew := (Below.refl _ w1).drew
      refine start_ (n := 12) (S := fun w' => True) (ds := []) #[false, false, false, false, false, false, false, false, false, false, false, false] (by kernel_rfl) rfl rfl trivial (fun hHeld => ?_)
      refine pure_ (i := 0) (N := some 22) (v := ?_) (a' := ?_) #[true, false, false, false, false, false, false, false, false, false, false, false] rfl rfl (by kernel_rfl) (fun _ _ _ h => h) (Or.inl ⟨by rfl, ?_⟩) ?_ ?_
      rotate_left
      · intro w'
        go_simp
        with_reducible rfl
      rotate_left
      · simp only [Act.put, pkA, pkZ, pkS, i64_w, i32_w]
        rfl
      refine pure_ (i := 1) (N := some 23) (v := ?_) (a' := ?_) #[true, true, false, false, false, false, false, false, false, false, false, false] rfl rfl (by kernel_rfl) (fun _ _ _ h => h) (Or.inl ⟨by rfl, ?_⟩) ?_ ?_
      rotate_left
      · intro w'
        go_simp
        with_reducible rfl
      rotate_left
      · simp only [Act.put, pkA, pkZ, pkS, i64_w, i32_w]
        rfl
      refine pure_ (i := 2) (N := some 24) (v := ?_) (a' := ?_) #[true, true, true, false, false, false, false, false, false, false, false, false] rfl rfl (by kernel_rfl) (fun _ _ _ h => h) (Or.inl ⟨by rfl, ?_⟩) ?_ ?_
      rotate_left
      · intro w'
        go_simp
        with_reducible rfl
      rotate_left
      · simp only [Act.put, pkA, pkZ, pkS, i64_w, i32_w]
        rfl
      refine pure_ (i := 3) (N := some 25) (v := ?_) (a' := ?_) #[true, true, true, true, false, false, false, false, false, false, false, false] rfl rfl (by kernel_rfl) (fun _ _ _ h => h) (Or.inl ⟨by rfl, ?_⟩) ?_ ?_
      rotate_left
      · intro w'
        go_simp
        with_reducible rfl
      rotate_left
      · simp only [Act.put, pkA, pkZ, pkS, i64_w, i32_w]
        rfl
      refine pure_ (i := 4) (N := some 26) (v := ?_) (a' := ?_) #[true, true, true, true, true, false, false, false, false, false, false, false] rfl rfl (by kernel_rfl) (fun _ _ _ h => h) (Or.inl ⟨by rfl, ?_⟩) ?_ ?_
      rotate_left
      · intro w'
        go_simp
        with_reducible rfl
      rotate_left
      · simp only [Act.put, pkA, pkZ, pkS, i64_w, i32_w]
        rfl
      refine pure_ (i := 7) (N := some 29) (v := ?_) (a' := ?_) #[true, true, true, true, true, false, false, true, false, false, false, false] rfl rfl (by kernel_rfl) (fun _ _ _ h => h) (Or.inl ⟨by rfl, ?_⟩) ?_ ?_
      rotate_left
      · intro w'
        go_simp
        with_reducible rfl
      rotate_left
      · simp only [Act.put, pkA, pkZ, pkS, i64_w, i32_w]
        rfl
      refine pure_ (i := 8) (N := some 30) (v := ?_) (a' := ?_) #[true, true, true, true, true, false, false, true, true, false, false, false] rfl rfl (by kernel_rfl) (fun _ _ _ h => h) (Or.inl ⟨by rfl, ?_⟩) ?_ ?_
      rotate_left
      · intro w'
        go_simp
        with_reducible rfl
      rotate_left
      · simp only [Act.put, pkA, pkZ, pkS, i64_w, i32_w]
        rfl
      refine pure_ (i := 9) (N := some 31) (v := ?_) (a' := ?_) #[true, true, true, true, true, false, false, true, true, true, false, false] rfl rfl (by kernel_rfl) (fun _ _ _ h => h) (Or.inl ⟨by rfl, ?_⟩) ?_ ?_
      rotate_left
      · intro w'
        go_simp
        with_reducible rfl
      rotate_left
      · simp only [Act.put, pkA, pkZ, pkS, i64_w, i32_w]
        rfl
      refine one_ (i := 5) (N := some 27) #[true, true, true, true, true, true, false, true, true, true, false, false] rfl rfl (by kernel_rfl) (by decide) (fun K hK => ?_)
      refine value_ (w1 := ?_) (v := ?_) (by rfl) rfl ?_ ?_
      rotate_left 2
      · go_simp
        constructor
        · rfl
        · rfl
      have hB1 := hB0.alloc hB0.size (.cells #[.string s] 9)
      have hone := (Go.MapKept.heap_alloc w1.drew (.cells #[.string s] 9)).1
      refine hK.out _ _ trivial (fun hHeld => ?_)
      clear hK K
      refine norm_ (a' := ?_) ?_ ?_
      rotate_left
      · show Act.put _ (some 27) _ = _
        simp only [Act.put, pkA, pkZ, pkS, i64_w, i32_w]
        rfl
      refine one_ (i := 6) (N := some 28) #[true, true, true, true, true, true, true, true, true, true, false, false] rfl rfl (by kernel_rfl) (by decide) (fun K hK => ?_)
      refine step_append_full (by rfl) (.tmp 25) (.tmp 27) 37 (by rfl) 9 i0 _ 1 16 Tryz.underlying37 hi0 hi1 hi2 hi3 rfl _ P (strs (l.take P)) (by rfl) (by simp [strs, List.length_take, Nat.min_eq_left hPl]) (fun j u hu => TAKE.out _ hB1 j u hu) hnone _ 1 1 [.string s] (by rfl) rfl (fun j u hu => World.news_of_block hone j u hu) (by omega) (by unfold maxLen; omega) (by omega) ?_
      intro c28 w28 own28 hb28
      have hB2 := hB1.trans (hb28.mono hB1.size)
      refine hK.out _ _ trivial (fun hHeld => ?_)
      clear hK K
      refine norm_ (a' := ?_) ?_ ?_
      rotate_left
      · show Act.put _ (some 28) _ = _
        simp only [Act.put, pkA, pkZ, pkS, i64_w, i32_w]
        rfl
      refine one_ (i := 10) (N := some 32) #[true, true, true, true, true, true, true, true, true, true, true, false] rfl rfl (by kernel_rfl) (by decide) (fun K hK => ?_)
      refine step_append_any (by rfl) (.tmp 28) (.tmp 31) 37 (by rfl) w1.heap.size 9 i0 _ 1 16 Tryz.underlying37 hi0 hi1 hi2 hi3 rfl (by omega) _ (P + 1) (strs (l.take P) ++ [.string s]) (by rfl) (own_lower_ own28 hB1.size) _ (l.length - P) _ (strs (l.drop P)) (by rfl) (by simp [strs]) (fun j u hu => DROP.out _ hB2 j u hu) (strs_one _) (by unfold maxLen; omega) (by omega) hB2.size ?_
      intro v32 w32 own32 gr32 fr32
      have hB3 := pw_below_grown hB2 _ hB2.size gr32 (own_base (own_lower_ own28 hB1.size))
      refine hK.out _ _ trivial (fun hHeld => ?_)
      clear hK K
      refine norm_ (a' := ?_) ?_ ?_
      rotate_left
      · show Act.put _ (some 32) _ = _
        simp only [Act.put, pkA, pkZ, pkS, i64_w, i32_w]
        rfl
      refine pure_ (i := 11) (N := some 4) (v := ?_) (a' := ?_) #[true, true, true, true, true, true, true, true, true, true, true, true] rfl rfl (by kernel_rfl) (fun _ _ _ h => h) (Or.inl ⟨by rfl, ?_⟩) ?_ ?_
      rotate_left
      · intro w'
        go_simp
        with_reducible rfl
      rotate_left
      · simp only [Act.put, pkA, pkZ, pkS, i64_w, i32_w]
        rfl
      refine done_ (by kernel_rfl) ?_
      go_wp2
      go_ret
      exact ⟨_, rfl, HEND.out _ _ own32, hb1.trans (hB3.mono hb1.size)⟩
    · have hPi : ¬ (P : Int) < (l.length : Int) := by omega
      go_upto_region 4 with fail
      have hB0 : Below w1.heap.size w1 w1.drew := (Below.refl _ w1).drew
      refine start_ (n := 12) (S := fun w' => True) (ds := []) #[false, false, false, false, false, false, false, false, false, false, false, false] (by kernel_rfl) rfl rfl trivial (fun hHeld => ?_)
      refine pure_ (i := 0) (N := some 22) (v := ?_) (a' := ?_) #[true, false, false, false, false, false, false, false, false, false, false, false] rfl rfl (by kernel_rfl) (fun _ _ _ h => h) (Or.inl ⟨by rfl, ?_⟩) ?_ ?_
      rotate_left
      · intro w'
        go_simp
        with_reducible rfl
      rotate_left
      · simp only [Act.put, pkA, pkZ, pkS, i64_w, i32_w]
        rfl
      refine pure_ (i := 1) (N := some 23) (v := ?_) (a' := ?_) #[true, true, false, false, false, false, false, false, false, false, false, false] rfl rfl (by kernel_rfl) (fun _ _ _ h => h) (Or.inl ⟨by rfl, ?_⟩) ?_ ?_
      rotate_left
      · intro w'
        go_simp
        with_reducible rfl
      rotate_left
      · simp only [Act.put, pkA, pkZ, pkS, i64_w, i32_w]
        rfl
      refine pure_ (i := 2) (N := some 24) (v := ?_) (a' := ?_) #[true, true, true, false, false, false, false, false, false, false, false, false] rfl rfl (by kernel_rfl) (fun _ _ _ h => h) (Or.inl ⟨by rfl, ?_⟩) ?_ ?_
      rotate_left
      · intro w'
        go_simp
        with_reducible rfl
      rotate_left
      · simp only [Act.put, pkA, pkZ, pkS, i64_w, i32_w]
        rfl
      refine pure_ (i := 3) (N := some 25) (v := ?_) (a' := ?_) #[true, true, true, true, false, false, false, false, false, false, false, false] rfl rfl (by kernel_rfl) (fun _ _ _ h => h) (Or.inl ⟨by rfl, ?_⟩) ?_ ?_
      rotate_left
      · intro w'
        go_simp
        with_reducible rfl
      rotate_left
      · simp only [Act.put, pkA, pkZ, pkS, i64_w, i32_w]
        rfl
      refine pure_ (i := 4) (N := some 26) (v := ?_) (a' := ?_) #[true, true, true, true, true, false, false, false, false, false, false, false] rfl rfl (by kernel_rfl) (fun _ _ _ h => h) (Or.inl ⟨by rfl, ?_⟩) ?_ ?_
      rotate_left
      · intro w'
        go_simp
        with_reducible rfl
      rotate_left
      · simp only [Act.put, pkA, pkZ, pkS, i64_w, i32_w]
        rfl
      refine pure_ (i := 7) (N := some 29) (v := ?_) (a' := ?_) #[true, true, true, true, true, false, false, true, false, false, false, false] rfl rfl (by kernel_rfl) (fun _ _ _ h => h) (Or.inl ⟨by rfl, ?_⟩) ?_ ?_
      rotate_left
      · intro w'
        go_simp
        with_reducible rfl
      rotate_left
      · simp only [Act.put, pkA, pkZ, pkS, i64_w, i32_w]
        rfl
      refine pure_ (i := 8) (N := some 30) (v := ?_) (a' := ?_) #[true, true, true, true, true, false, false, true, true, false, false, false] rfl rfl (by kernel_rfl) (fun _ _ _ h => h) (Or.inl ⟨by rfl, ?_⟩) ?_ ?_
      rotate_left
      · intro w'
        go_simp
        with_reducible rfl
      rotate_left
      · simp only [Act.put, pkA, pkZ, pkS, i64_w, i32_w]
        rfl
      refine pure_ (i := 9) (N := some 31) (v := ?_) (a' := ?_) #[true, true, true, true, true, false, false, true, true, true, false, false] rfl rfl (by kernel_rfl) (fun _ _ _ h => h) (Or.inl ⟨by rfl, ?_⟩) ?_ ?_
      rotate_left
      · intro w'
        go_simp
        with_reducible rfl
      rotate_left
      · simp only [Act.put, pkA, pkZ, pkS, i64_w, i32_w]
        rfl
      refine one_ (i := 5) (N := some 27) #[true, true, true, true, true, true, false, true, true, true, false, false] rfl rfl (by kernel_rfl) (by decide) (fun K hK => ?_)
      refine value_ (w1 := ?_) (v := ?_) (by rfl) rfl ?_ ?_
      rotate_left 2
      · go_simp
        constructor
        · rfl
        · rfl
      have hB1 := hB0.alloc hB0.size (.cells #[.string s] 9)
      have hone := (Go.MapKept.heap_alloc w1.drew (.cells #[.string s] 9)).1
      refine hK.out _ _ trivial (fun hHeld => ?_)
      clear hK K
      refine norm_ (a' := ?_) ?_ ?_
      rotate_left
      · show Act.put _ (some 27) _ = _
        simp only [Act.put, pkA, pkZ, pkS, i64_w, i32_w]
        rfl
      refine one_ (i := 6) (N := some 28) #[true, true, true, true, true, true, true, true, true, true, false, false] rfl rfl (by kernel_rfl) (by decide) (fun K hK => ?_)
      refine step_append_full (by rfl) (.tmp 25) (.tmp 27) 37 (by rfl) 9 i0 _ 1 16 Tryz.underlying37 hi0 hi1 hi2 hi3 rfl _ P (strs (l.take P)) (by rfl) (by simp [strs, List.length_take, Nat.min_eq_left hPl]) (fun j u hu => TAKE.out _ hB1 j u hu) hnone _ 1 1 [.string s] (by rfl) rfl (fun j u hu => World.news_of_block hone j u hu) (by omega) (by unfold maxLen; omega) (by omega) ?_
      intro c28 w28 own28 hb28
      have hB2 := hB1.trans (hb28.mono hB1.size)
      refine hK.out _ _ trivial (fun hHeld => ?_)
      clear hK K
      refine norm_ (a' := ?_) ?_ ?_
      rotate_left
      · show Act.put _ (some 28) _ = _
        simp only [Act.put, pkA, pkZ, pkS, i64_w, i32_w]
        rfl
      refine one_ (i := 10) (N := some 32) #[true, true, true, true, true, true, true, true, true, true, true, false] rfl rfl (by kernel_rfl) (by decide) (fun K hK => ?_)
      refine step_append_any (by rfl) (.tmp 28) (.tmp 31) 37 (by rfl) w1.heap.size 9 i0 _ 1 16 Tryz.underlying37 hi0 hi1 hi2 hi3 rfl (by omega) _ (P + 1) (strs (l.take P) ++ [.string s]) (by rfl) (own_lower_ own28 hB1.size) _ (l.length - P) _ (strs (l.drop P)) (by rfl) (by simp [strs]) (fun j u hu => DROP.out _ hB2 j u hu) (strs_one _) (by unfold maxLen; omega) (by omega) hB2.size ?_
      intro v32 w32 own32 gr32 fr32
      have hB3 := pw_below_grown hB2 _ hB2.size gr32 (own_base (own_lower_ own28 hB1.size))
      refine hK.out _ _ trivial (fun hHeld => ?_)
      clear hK K
      refine norm_ (a' := ?_) ?_ ?_
      rotate_left
      · show Act.put _ (some 32) _ = _
        simp only [Act.put, pkA, pkZ, pkS, i64_w, i32_w]
        rfl
      refine pure_ (i := 11) (N := some 4) (v := ?_) (a' := ?_) #[true, true, true, true, true, true, true, true, true, true, true, true] rfl rfl (by kernel_rfl) (fun _ _ _ h => h) (Or.inl ⟨by rfl, ?_⟩) ?_ ?_
      rotate_left
      · intro w'
        go_simp
        with_reducible rfl
      rotate_left
      · simp only [Act.put, pkA, pkZ, pkS, i64_w, i32_w]
        rfl
      refine done_ (by kernel_rfl) ?_
      go_wp2
      go_ret
      exact ⟨_, rfl, HEND.out _ _ own32, hb1.trans (hB3.mono hb1.size)⟩
end Go.Proofs.YtikdiepcfdimgaaGreatDoor.POw
namespace Go.Proofs.YtikdiepcfdimgaaGreatDoor
open Go.RowKit
theorem bcell {W w1 : World} (hb : Below W.heap.size W w1) : (∀ b o, b < W.heap.size → w1.cell? ⟨b, o, none⟩ = W.cell? ⟨b, o, none⟩) ∧ (∀ b o, b < W.heap.size → w1.frozen? ⟨b, o, none⟩ = W.frozen? ⟨b, o, none⟩) :=
  ⟨fun b o h => hb.cell (p := ⟨b, o, none⟩) h, fun b o h => hb.frozen (p := ⟨b, o, none⟩) h⟩
def lenL : List Int := [31, 28, 31, 30, 31, 30, 31, 31, 30, 31, 30, 31]
def DaysLaid (w : World) : Prop := ∀ i : Nat, i < 12 → w.cell? ⟨0, i, none⟩ = some (.int .i64 (lenL.getD i 0))
theorem DaysLaid.pos {w : World} (h : DaysLaid w) : 0 < w.heap.size := by
  have h0 := h 0 (by omega)
  rcases Nat.lt_or_ge 0 w.heap.size with h1 | h1
  · exact h1
  · simp [World.cell?, Array.getElem?_eq_none h1] at h0
theorem DaysLaid.below {w w' : World} (h : DaysLaid w) (hb : Below w.heap.size w w') : DaysLaid w' :=
  fun i hi => (hb.cell (p := ⟨0, i, none⟩) h.pos).trans (h i hi)
def leapB (y : Int) : Bool := decide (y % 4 = 0) && !decide (y % 100 = 0) || decide (y % 400 = 0)
def bef (y : Int) : Int := 365 * (y - 1900) + ((y - 1) / 4 - (y - 1) / 100 + (y - 1) / 400 - 460)
def lenM (y m : Int) : Int := if m = 2 then (if leapB y then 29 else 28) else lenL.getD (m - 1).toNat 0
def isDay (n : Int) : Bool := decide (0 ≤ n) && decide (n ≤ 109572)
theorem bef_succ (y : Int) (_h : 1900 ≤ y) : bef (y + 1) = bef y + 365 + (if leapB y then 1 else 0) := by
  unfold bef leapB
  by_cases h4 : y % 4 = 0 <;> by_cases h100 : y % 100 = 0 <;> by_cases h400 : y % 400 = 0 <;> simp [h4, h100, h400] <;> omega
theorem bef_guess (n : Int) (h0 : 0 ≤ n) : bef (1900 + n / 366) ≤ n := by unfold bef; omega
theorem bef_bd (y : Int) (h0 : 1900 ≤ y) (h1 : y ≤ 2200) : 0 ≤ bef y ∧ bef y ≤ 109573 := by unfold bef; omega
def cumM (y m : Int) : Int := if m ≤ 1 then 0 else if m = 2 then 31 else (if m = 3 then 59 else if m = 4 then 90 else if m = 5 then 120 else if m = 6 then 151 else if m = 7 then 181 else if m = 8 then 212 else if m = 9 then 243 else if m = 10 then 273 else if m = 11 then 304 else if m = 12 then 334 else 365) + (if leapB y then 1 else 0)
theorem cumM_succ (y m : Int) (h1 : 1 ≤ m) (h2 : m ≤ 12) : cumM y (m + 1) = cumM y m + lenM y m := by
  have : m = 1 ∨ m = 2 ∨ m = 3 ∨ m = 4 ∨ m = 5 ∨ m = 6 ∨ m = 7 ∨ m = 8 ∨ m = 9 ∨ m = 10 ∨ m = 11 ∨ m = 12 := by omega
  rcases this with rfl | rfl | rfl | rfl | rfl | rfl | rfl | rfl | rfl | rfl | rfl | rfl <;> cases h : leapB y <;> simp [cumM, lenM, lenL, h]
theorem lenM_bd (y m : Int) (h1 : 1 ≤ m) (h2 : m ≤ 12) : 28 ≤ lenM y m ∧ lenM y m ≤ 31 := by
  have : m = 1 ∨ m = 2 ∨ m = 3 ∨ m = 4 ∨ m = 5 ∨ m = 6 ∨ m = 7 ∨ m = 8 ∨ m = 9 ∨ m = 10 ∨ m = 11 ∨ m = 12 := by omega
  rcases this with rfl | rfl | rfl | rfl | rfl | rfl | rfl | rfl | rfl | rfl | rfl | rfl <;> cases h : leapB y <;> simp [lenM, lenL, h]
theorem cumM_nn (y m : Int) : 0 ≤ cumM y m := by
  unfold cumM
  (repeat' split) <;> omega
theorem cumM_13 (y : Int) : cumM y 13 = 365 + (if leapB y then 1 else 0) := by simp [cumM]
set_option maxHeartbeats 400000 in
theorem days_is.calls (n : Int) (w : World) :
    Calls Tryz.prog 92 #[.int .i64 n] w fun e w' => e = .returned (.bool (isDay n)) ∧ w = w' := by
  by_cases h : 0 ≤ n
  all_goals
    go_enter Tryz.func92, Tryz.ntmps92
    go_wp2
    go_ret
    exact ⟨by simp [isDay, h]; try omega, rfl⟩
set_option maxHeartbeats 400000 in
theorem days_before.calls (y : Int) (w : World) (h0 : 1900 ≤ y) (h1 : y ≤ 2200) :
    Calls Tryz.prog 93 #[.int .i64 y] w fun e w' => e = .returned (.int .i64 (bef y)) ∧ w = w' := by
  go_enter Tryz.func93, Tryz.ntmps93
  go_wp2
  go_ret
  exact ⟨by show Ending.returned (.int .i64 _) = _; congr 2; unfold bef; omega, rfl⟩
set_option maxHeartbeats 400000 in
theorem days_Leap.calls (y : Int) (w : World) (h0 : 0 ≤ y) :
    Calls Tryz.prog 115 #[.int .i64 y] w fun e w' => e = .returned (.bool (leapB y)) ∧ w = w' := by
  by_cases h4 : y % 4 = 0 <;> by_cases h100 : y % 100 = 0
  all_goals
    have a1 : (y % 4 == 0) = decide (y % 4 = 0) := rfl
    have a2 : (y % 100 != 0) = !decide (y % 100 = 0) := rfl
    simp only [h4, h100] at a1 a2
    go_enter Tryz.func115, Tryz.ntmps115
    go_wp2
    go_ret
    refine ⟨?_, rfl⟩
    show Ending.returned (.bool _) = _
    congr 2
    simp [leapB, h4, h100]
    try rfl
set_option maxHeartbeats 400000 in
theorem days_Length.calls (y m : Int) (w : World) (hl : DaysLaid w) (h0 : 0 ≤ y) (h1 : 1 ≤ m) (h2 : m ≤ 12) :
    Calls Tryz.prog 94 #[.int .i64 y, .int .i64 m] w fun e w' => e = .returned (.int .i64 (lenM y m)) ∧ w = w' := by
  have b1 : m - 1 < 12 := by omega
  have b0 : 0 ≤ m - 1 := by omega
  by_cases hm : m = 2
  · subst hm
    have hc : w.cell? ⟨0, 1, none⟩ = some (.int .i64 28) := hl 1 (by omega)
    clear hl
    cases hL : leapB y
    all_goals
      have HL := Lib.hid hL; clear hL
      go_enter Tryz.func94, Tryz.ntmps94
      go_wp2_with (go_at_call 115; refine (days_Leap.calls _ _ (by omega)).mono ?_; rintro e w' ⟨rfl, rfl⟩; rw [HL.out])
      go_ret
      exact ⟨by simp [lenM, HL.out], rfl⟩
  · have hb : (m == 2) = false := by simp [hm]
    have hc : w.cell? ⟨0, m.toNat - 1, none⟩ = some (.int .i64 (lenM y m)) := by
      rw [hl _ (by omega)]
      unfold lenM
      rw [if_neg hm, show (m - 1).toNat = m.toNat - 1 by omega]
    clear hl
    go_enter Tryz.func94, Tryz.ntmps94
    go_wp2
    go_ret
    exact ⟨rfl, rfl⟩
def DateOk (n : Int) (e : Ending) : Prop := ∃ y m d : Int, e = .returned (.tuple #[.agg #[.int .i64 y, .int .i64 m, .int .i64 d], .int .i64 (if isDay n then 0 else 11)])
set_option maxRecDepth 100000 in
set_option maxHeartbeats 1000000 in
theorem days_Date.calls (n : Int) (w : World) (hl : DaysLaid w) :
    Calls Tryz.prog 75 #[.int .i64 n] w fun e w' => DateOk n e ∧ Below w.heap.size w w' := by
  by_cases hd : isDay n = true
  · have hn : 0 ≤ n ∧ n ≤ 109572 := by simpa [isDay] using hd
    have HD := Lib.hid hd; clear hd
    obtain ⟨n0, n1⟩ := hn
    have g0 := bef_guess n n0
    have HL := Lib.hid hl; clear hl
    go_enter Tryz.func75, Tryz.ntmps75
    go_wp2_with (go_at_call 92; refine (days_is.calls _ _).mono ?_; rintro e w' ⟨rfl, rfl⟩; rw [HD.out])
    go_loopg [] 400 (fun k wr => ∃ y : Int, 1900 ≤ y ∧ y ≤ 2199 ∧ 2199 - y < (k : Int) ∧ bef y ≤ n ∧ wr = w.alloc (.cells #[.int .i64 y, .int .i64 0, .int .i64 0] 109))
    case atStart => exact ⟨1900 + n / 366, by omega, by omega, by omega, g0, rfl⟩
    case round =>
      obtain ⟨y, hy1, hy2, hk, hy3, rfl⟩ := hrel
      clear g0
      have hle := fun (o : Obj) => (HL.out.below ((Below.refl w.heap.size w).alloc (Nat.le_refl _) o))
      have HLA := Lib.hid hle; clear hle
      by_cases hc : y < 2199 ∧ bef (y + 1) ≤ n
      · obtain ⟨hc, hd⟩ := hc
        go_wp2_with (go_at_call 93; refine (days_before.calls _ _ (by omega) (by omega)).mono ?_; rintro e w' ⟨rfl, rfl⟩)
        go_roundg (gk - 1)
        case rel => exact ⟨y + 1, by omega, by omega, by omega, hd, rfl⟩
        case measure => omega
      · have hz : n < bef (y + 1) := by
          by_cases e : y = 2199
          · have := bef_bd 2200 (by omega) (by omega); subst e; have : bef (2199 + 1) = 109573 := rfl; omega
          · omega
        have hb := bef_bd y hy1 (by omega)
        have hs := bef_succ y hy1
        have h13 := cumM_13 y
        have HS := Lib.hid hs; have H13 := Lib.hid h13
        clear hc hs h13
        by_cases hlt : y < 2199
        all_goals
          go_wp2_with (go_at_call 93; refine (days_before.calls _ _ (by omega) (by omega)).mono ?_; rintro e w' ⟨rfl, rfl⟩)
          go_loopg [0] 12 (fun k t wr => ∃ m : Int, 1 ≤ m ∧ m ≤ 12 ∧ 12 - m < (k : Int) ∧ 0 ≤ n - bef y - cumM y m ∧ t = .int .i64 (n - bef y - cumM y m) ∧ wr = w.alloc (.cells #[.int .i64 y, .int .i64 m, .int .i64 0] 109))
          case atStart => exact ⟨1, by omega, by omega, by omega, by simp [cumM]; omega, by simp [cumM], rfl⟩
          case round =>
            obtain ⟨m, hm1, hm2, hgk, hr, rfl, rfl⟩ := hrel
            have cs := cumM_succ y m hm1 hm2
            have lb := lenM_bd y m hm1 hm2
            have cp := cumM_nn y m
            have HCS := Lib.hid cs; clear cs
            by_cases hge : lenM y m ≤ n - bef y - cumM y m
            · have hm12 : m < 12 := by
                rcases Int.lt_or_le m 12 with h | h
                · exact h
                · exfalso
                  obtain rfl : m = 12 := by omega
                  have := HCS.out; have := HS.out; have h3 := H13.out
                  rw [show (12 : Int) + 1 = 13 from rfl] at *
                  omega
              go_wp2_with (go_at_call 94; refine (days_Length.calls _ _ _ (HLA.out _) (by omega) (by omega) (by omega)).mono ?_; rintro e w' ⟨rfl, rfl⟩)
              go_roundg (gk - 1)
              case rel => exact ⟨m + 1, by omega, by omega, by omega, by rw [HCS.out]; omega, by rw [HCS.out]; go_num, rfl⟩
              case measure => omega
            · go_wp2_with (go_at_call 94; refine (days_Length.calls _ _ _ (HLA.out _) (by omega) (by omega) (by omega)).mono ?_; rintro e w' ⟨rfl, rfl⟩)
              refine bodyPost_ret (v := .tuple #[.agg #[.int .i64 y, .int .i64 m, .int .i64 (n - bef y - cumM y m + 1)], .int .i64 0]) (by simp [results, Tryz.results75, go_sem]) rfl ⟨⟨y, m, _, by rw [HD.out]; rfl⟩, (Below.refl _ _).alloc (Nat.le_refl _) _⟩
  · have hd0 : isDay n = false := by simpa using hd
    have HD := Lib.hid hd0; clear hd hd0 hl
    go_enter Tryz.func75, Tryz.ntmps75
    go_wp2_with (go_at_call 92; refine (days_is.calls _ _).mono ?_; rintro e w' ⟨rfl, rfl⟩; rw [HD.out])
    refine bodyPost_ret (v := .tuple #[.agg #[.int .i64 0, .int .i64 0, .int .i64 0], .int .i64 11]) (by simp [results, Tryz.results75, go_sem]) rfl ⟨⟨0, 0, 0, by rw [HD.out]; rfl⟩, (Below.refl _ _).alloc (Nat.le_refl _) _⟩
end Go.Proofs.YtikdiepcfdimgaaGreatDoor
namespace Go.Proofs.YtikdiepcfdimgaaGreatDoor.POw
open Go.RowKit Go.Lib Go.Proofs.YtikdiepcfdimgaaGreatDoorW.PrintWords Go.Proofs.YtikdiepcfdimgaaGreatDoorW.PrintLast
abbrev Hold := S56
abbrev Frc := S42
abbrev Pr := ByteArray × ByteArray
def Hold.pr (h : Hold) : Pr := (h.f0, h.f1)
def encP (k : Pr) : Value := .agg #[.string k.1, .string k.2]
def encS (s : ByteArray) : Value := .string s
theorem encP_inj : ∀ x y, encP x = encP y → x = y := by
  rintro ⟨a, b⟩ ⟨c, d⟩ h
  simp [encP] at h
  simp [h]
theorem encS_inj : ∀ x y, encS x = encS y → x = y := by
  intro a b h
  simpa [encS] using h
theorem ow_laidOut : laidOutB Tryz.prog = true := by kernel_rfl
theorem pair_keyed : Go.Maps.Keyed Tryz.prog 86 := Go.Maps.Keyed.of_law (deep_law_laid ow_laidOut (m := 2) (by omega) (of_decide_eq_true (by kernel_rfl)) (by kernel_rfl) (by kernel_rfl))
theorem str_keyed : Go.Maps.Keyed Tryz.prog 9 := Go.Maps.string_keyed Tryz.underlying9
theorem keyLits_str {P : Program} {t : TypeId} (h : P.underlying t = some .string) {s : ByteArray} (hs : s.size ≤ maxLen) (d : Nat) : P.keyLits (d + 1) t [.string s] = some [.string s.data.toList] := by
  unfold Program.keyLits; simp [h, hs]
theorem key_pair (s t : ByteArray) (h1 : s.size ≤ maxLen) (h2 : t.size ≤ maxLen) : keyOf Tryz.prog 86 (.agg #[.string s, .string t]) = some (.string (keyBytes [.string s.data.toList, .string t.data.toList])) := by
  have e0 : Tryz.prog.keyType 86 = true := by kernel_rfl
  have c62 : Tryz.prog.cellsOf 86 = 2 := by kernel_rfl
  have c9 : Tryz.prog.cellsOf 9 = 1 := by kernel_rfl
  obtain ⟨m, hm⟩ : ∃ m, Tryz.prog.types.size = m + 1 := ⟨_, (by kernel_rfl : Tryz.prog.types.size = (Tryz.prog.types.size - 1) + 1)⟩
  unfold keyOf
  simp only [Tryz.underlying86]
  rw [if_pos (by simp [e0, Value.formed, Tryz.underlying86, c62]), hm]
  unfold Program.keyLits
  simp only [Tryz.underlying86, Value.cells]
  rw [if_pos (by rw [c62]; exact ⟨rfl, by simp⟩)]
  simp only [List.mapM_cons, List.mapM_nil]
  simp [keyLits_str Tryz.underlying9 h1, keyLits_str Tryz.underlying9 h2, c9]
theorem key_pr {k : Pr} (h1 : k.1.size ≤ 1000) (h2 : k.2.size ≤ 1000) : ∃ l, keyOf Tryz.prog 86 (encP k) = some l := ⟨_, key_pair k.1 k.2 (by unfold maxLen; omega) (by unfold maxLen; omega)⟩
theorem key_s {s : ByteArray} (h : s.size ≤ 1000) : ∃ l, keyOf Tryz.prog 9 (encS s) = some l := by
  have hm : s.size ≤ maxLen := by unfold maxLen; omega
  refine ⟨.string s.data.toList, ?_⟩
  unfold keyOf encS
  simp [Tryz.underlying9, mapKey, hm]
def cellsH (h : Hold) : List Value := [.string h.f0, .string h.f1, .int .i64 h.f2.f0, .int .i64 h.f2.f1, .int .i64 h.f3]
def flatH (l : List Hold) : List Value := l.flatMap cellsH
theorem flatH_length (l : List Hold) : (flatH l).length = l.length * 5 := by
  induction l with
  | nil => rfl
  | cons a l ih => simp only [flatH, List.flatMap_cons, List.length_append, List.length_cons] at ih ⊢; rw [ih]; simp [cellsH]; omega
theorem flatH_at : ∀ (l : List Hold) (j t : Nat) (hj : j < l.length), t < 5 → (flatH l)[j * 5 + t]? = (cellsH l[j])[t]?
  | a :: l, 0, t, _, ht => by
    simp only [flatH, List.flatMap_cons, Nat.zero_mul, Nat.zero_add, List.getElem_cons_zero]
    rw [List.getElem?_append_left (by simp [cellsH]; omega)]
  | a :: l, j + 1, t, hj, ht => by
    simp only [flatH, List.flatMap_cons, List.getElem_cons_succ]
    rw [List.getElem?_append_right (by simp [cellsH]; omega)]
    have := flatH_at l j t (by simpa using hj) ht
    simp only [flatH] at this
    rw [← this]
    congr 1
    simp [cellsH]; omega
structure Gr where
  sh : Pr → Option (List Hold)
  ow : ByteArray → Option (List ByteArray)
  en : List ByteArray
  ch : List Int
def Gr.shL (s : Gr) (k : Pr) : List Hold := (s.sh k).getD []
def Gr.owL (s : Gr) (x : ByteArray) : List ByteArray := (s.ow x).getD []
structure GrAt (w : World) (B g m1 m2 : Nat) (V : Pr → Value) (U : ByteArray → Value) (vE vC : Value) (s : Gr) : Prop where
  blk : w.heap[g]? = some (.cells #[.map (some m1), .map (some m2), vE, vC] 62 (0, 0))
  hg : B ≤ g
  h1 : B ≤ m1
  h2 : B ≤ m2
  sh : MapAt Tryz.prog 86 encP w m1 (fun k => (s.sh k).map fun _ => V k)
  ow : MapAt Tryz.prog 9 encS w m2 (fun x => (s.ow x).map fun _ => U x)
  shr : ∀ k l, s.sh k = some l → l ≠ [] ∧ w.ownsRow B 56 5 (V k) l.length (flatH l)
  shd : ∀ k k' l l', s.sh k = some l → s.sh k' = some l' → (V k).ownBlock = (V k').ownBlock → k = k'
  owr : ∀ x l, s.ow x = some l → w.ownsRow B 9 1 (U x) l.length (strs l)
  enr : w.ownsRow B 9 1 vE s.en.length (strs s.en)
  chr : w.ownsRow B 3 1 vC s.ch.length (intVs s.ch)
section
variable {w W : World} {B g m1 m2 : Nat} {V : Pr → Value} {U : ByteArray → Value} {vE vC : Value} {s : Gr}
theorem GrAt.lt (h : GrAt w B g m1 m2 V U vE vC s) : g < w.heap.size := (Array.getElem?_eq_some_iff.1 h.blk).1
theorem GrAt.below (h : GrAt w B g m1 m2 V U vE vC s) (hb : Below w.heap.size w W) : GrAt W B g m1 m2 V U vE vC s where
  blk := (hb.block g h.lt).trans h.blk
  hg := h.hg
  h1 := h.h1
  h2 := h.h2
  sh := h.sh.below hb
  ow := h.ow.below hb
  shr k l hk := ⟨(h.shr k l hk).1, pw_own_below (h.shr k l hk).2 hb⟩
  shd := h.shd
  owr x l hx := pw_own_below (h.owr x l hx) hb
  enr := pw_own_below h.enr hb
  chr := pw_own_below h.chr hb
theorem GrAt.facts (h : GrAt w B g m1 m2 V U vE vC s) : w.cell? ⟨g, 0, none⟩ = some (.map (some m1)) ∧ w.cell? ⟨g, 1, none⟩ = some (.map (some m2)) ∧ w.cell? ⟨g, 2, none⟩ = some vE ∧ w.cell? ⟨g, 3, none⟩ = some vC :=
  ⟨blk_cell h.blk 0, blk_cell h.blk 1, blk_cell h.blk 2, blk_cell h.blk 3⟩
theorem GrAt.look_sh (h : GrAt w B g m1 m2 V U vE vC s) (k : Pr) (hk1 : k.1.size ≤ 1000) (hk2 : k.2.size ≤ 1000) : ∃ A c, w.ownsRow B 56 5 (.slice A (s.shL k).length c) (s.shL k).length (flatH (s.shL k)) ∧
    (∀ W, Below w.heap.size w W → (Instr.lookup 58 (.map (some m1)) (.agg #[.string k.1, .string k.2]) false).run Tryz.prog W = .ok (.slice A (s.shL k).length c) W) ∧ ((s.sh k).map fun _ => V k).getD (.slice none 0 0) = .slice A (s.shL k).length c := by
  obtain ⟨kl, hkl⟩ := key_pr hk1 hk2
  have hr := fun (W : World) (hW : Below w.heap.size w W) => (h.sh.below hW).lookup pair_keyed encP_inj Tryz.underlying58 (z := .slice none 0 0) (by kernel_rfl) false k hkl
  have e1 : encP k = .agg #[.string k.1, .string k.2] := rfl
  simp only [e1, Bool.false_eq_true, if_false] at hr
  cases hs : s.sh k with
  | none =>
    simp only [hs, Option.map_none, Option.getD_none] at hr
    refine ⟨none, 0, ?_, ?_, ?_⟩
    · unfold Gr.shL; rw [hs]; exact World.ownsRow_nil _ _ _ _
    · unfold Gr.shL; rw [hs]; exact hr
    · unfold Gr.shL; rw [hs]; rfl
  | some l =>
    obtain ⟨hne, ho⟩ := h.shr k l hs
    obtain ⟨A, c, hv, _⟩ := own_form ho
    simp only [hs, Option.map_some, Option.getD_some, hv] at hr
    refine ⟨A, c, ?_, ?_, ?_⟩
    · unfold Gr.shL; rw [hs]; rw [hv] at ho; exact ho
    · unfold Gr.shL; rw [hs]; exact hr
    · unfold Gr.shL; rw [hs]; exact hv
theorem GrAt.look_ow (h : GrAt w B g m1 m2 V U vE vC s) (x : ByteArray) (hx : x.size ≤ 1000) : ∃ A c, w.ownsRow B 9 1 (.slice A (s.owL x).length c) (s.owL x).length (strs (s.owL x)) ∧
    ∀ W, Below w.heap.size w W → (Instr.lookup 59 (.map (some m2)) (.string x) false).run Tryz.prog W = .ok (.slice A (s.owL x).length c) W := by
  obtain ⟨kl, hkl⟩ := key_s hx
  have hr := fun (W : World) (hW : Below w.heap.size w W) => (h.ow.below hW).lookup str_keyed encS_inj Tryz.underlying59 (z := .slice none 0 0) (by kernel_rfl) false x hkl
  have e1 : encS x = .string x := rfl
  simp only [e1, Bool.false_eq_true, if_false] at hr
  cases hs : s.ow x with
  | none =>
    simp only [hs, Option.map_none, Option.getD_none] at hr
    refine ⟨none, 0, ?_, ?_⟩
    · unfold Gr.owL; rw [hs]; exact World.ownsRow_nil _ _ _ _
    · unfold Gr.owL; rw [hs]; exact hr
  | some l =>
    have ho := h.owr x l hs
    obtain ⟨A, c, hv, _⟩ := own_form ho
    simp only [hs, Option.map_some, Option.getD_some, hv] at hr
    refine ⟨A, c, ?_, ?_⟩
    · unfold Gr.owL; rw [hs]; rw [hv] at ho; exact ho
    · unfold Gr.owL; rw [hs]; exact hr
end
theorem own_hold_at {w : World} {B c : Nat} {A : Option Addr} {l : List Hold} (h : w.ownsRow B 56 5 (.slice A l.length c) l.length (flatH l)) (i : Nat) (hi : i < l.length) :
    ∃ g, A = some ⟨g, 0, none⟩ ∧ g < w.heap.size ∧ w.cell? ⟨g, i * 5, none⟩ = some (.string l[i].f0) ∧ w.cell? ⟨g, i * 5 + 1, none⟩ = some (.string l[i].f1) ∧ w.cell? ⟨g, i * 5 + 2, none⟩ = some (.int .i64 l[i].f2.f0) ∧ w.cell? ⟨g, i * 5 + 3, none⟩ = some (.int .i64 l[i].f2.f1) ∧ w.cell? ⟨g, i * 5 + 4, none⟩ = some (.int .i64 l[i].f3) := by
  rcases h.2 with ⟨hv, h0⟩ | ⟨g, cap, cur, hv, _, hh, _, _, _, ht⟩
  · omega
  · injection hv with ha _ hc
    subst ha; subst hc
    have key : ∀ t, t < 5 → w.cell? ⟨g, i * 5 + t, none⟩ = (cellsH l[i])[t]? := fun t ht5 => by
      have h2 := flatH_at l i t hi ht5
      rw [← ht, List.getElem?_take, if_pos (by omega), Array.getElem?_toList] at h2
      rw [← h2]
      simp [World.cell?, hh]
    exact ⟨g, rfl, (Array.getElem?_eq_some_iff.1 hh).1, key 0 (by omega), key 1 (by omega), key 2 (by omega), key 3 (by omega), key 4 (by omega)⟩
end Go.Proofs.YtikdiepcfdimgaaGreatDoor.POw
namespace Go.Proofs.YtikdiepcfdimgaaGreatDoor.POw
open Go.RowKit Go.Lib Go.Proofs.YtikdiepcfdimgaaGreatDoorW.PrintWords Go.Proofs.YtikdiepcfdimgaaGreatDoorW.PrintLast
def shareL (l : List Hold) (day : Int) : Frc := l.foldl (fun f h => if h.f3 ≤ day then h.f2 else f) ⟨0, 1⟩
theorem shareL_snoc (l : List Hold) (h : Hold) (day : Int) : shareL (l ++ [h]) day = if h.f3 ≤ day then h.f2 else shareL l day := by
  unfold shareL; rw [List.foldl_append]; rfl
def FrcAt (w : World) (z : Nat) (f : Frc) : Prop := w.heap[z]? = some (.cells #[.int .i64 f.f0, .int .i64 f.f1] 42 (0, 0))
theorem FrcAt.facts {w : World} {z : Nat} {f : Frc} (h : FrcAt w z f) : w.cell? ⟨z, 0, none⟩ = some (.int .i64 f.f0) ∧ w.cell? ⟨z, 1, none⟩ = some (.int .i64 f.f1) ∧ w.frozen? ⟨z, 0, none⟩ = false ∧ w.frozen? ⟨z, 1, none⟩ = false ∧ z < w.heap.size :=
  ⟨blk_cell h 0, blk_cell h 1, blk_frozen h 0, blk_frozen h 1, (Array.getElem?_eq_some_iff.1 h).1⟩
theorem FrcAt.below {w W : World} {z : Nat} {f : Frc} (h : FrcAt w z f) (hb : Below w.heap.size w W) : FrcAt W z f := (hb.block z (Array.getElem?_eq_some_iff.1 h).1).trans h
theorem FrcAt.set {w : World} {z : Nat} {f : Frc} (h : FrcAt w z f) (a b : Int) : FrcAt ((w.setCell ⟨z, 0, none⟩ (.int .i64 a)).setCell ⟨z, 1, none⟩ (.int .i64 b)) z ⟨a, b⟩ := blk_set (blk_set h 0 (.int .i64 a)) 1 (.int .i64 b)
theorem FrcAt.made (w : World) (f : Frc) : FrcAt (w.alloc (.cells #[.int .i64 f.f0, .int .i64 f.f1] 42)) w.heap.size f := (Go.MapKept.heap_alloc w _).1
section
variable {w : World} {B g m1 m2 : Nat} {V : Pr → Value} {U : ByteArray → Value} {vE vC : Value} {s : Gr}
set_option maxRecDepth 100000 in
set_option maxHeartbeats 8000000 in
theorem go_Share (h : GrAt w B g m1 m2 V U vE vC s) (a b : ByteArray) (day : Int) (ha : a.size ≤ 1000) (hb : b.size ≤ 1000) (hl : (s.shL (a, b)).length ≤ 10000) :
    Calls Tryz.prog 26 #[.pointer (some ⟨g, 0, none⟩), .string a, .string b, .int .i64 day] w fun e w' => e = .returned (.agg #[.int .i64 (shareL (s.shL (a, b)) day).f0, .int .i64 (shareL (s.shL (a, b)) day).f1]) ∧ Below w.heap.size w w' := by
  obtain ⟨A, c, hown, hlook, _⟩ := h.look_sh (a, b) ha hb
  obtain ⟨l, hle⟩ : ∃ l, s.shL (a, b) = l := ⟨_, rfl⟩
  rw [hle] at hown hlook hl ⊢
  have hlc := slice_room hown
  have hbb := fun (W : World) (hW : Below w.heap.size w W) => (h.below hW).facts.1
  have hg := h.lt
  have HLOOK := Lib.hid hlook; have HBB := Lib.hid hbb; have HOWN := Lib.hid hown
  clear hlook hbb hown h hle ha hb
  obtain ⟨FR, hFR⟩ : ∃ FR, shareL l day = FR := ⟨_, rfl⟩
  have HFR := Lib.hid hFR
  rw [hFR]
  clear hFR
  have hb1 : Below w.heap.size w (w.alloc (.cells #[.int .i64 0, .int .i64 1] 42)) := (Below.refl _ _).alloc (Nat.le_refl _) _
  have hz1 := FrcAt.made w ⟨0, 1⟩
  have hlt1 : w.heap.size < (w.alloc (.cells #[.int .i64 0, .int .i64 1] 42)).heap.size := by simp
  go_enter Tryz.func26, Tryz.ntmps26
  go_upto_region 4 with fail
  obtain ⟨w1, hw1⟩ : ∃ W, (w.alloc (.cells #[.int .i64 0, .int .i64 1] 42)) = W := ⟨_, rfl⟩
  rw [hw1] at hb1 hz1 hlt1 ⊢
  clear hw1
  have hg1 := HBB.out w1 hb1
  have hl1 := HLOOK.out w1 hb1
  go_wp2
  clear hg1 hl1
  go_loopg [24] l.length (fun n t wr => ∃ k : Nat, n = l.length - k ∧ k ≤ l.length ∧ t = .int .i64 k ∧ Below w.heap.size w wr ∧ Hid (FrcAt wr w.heap.size (shareL (l.take k) day)))
  case atStart => exact ⟨0, rfl, Nat.zero_le _, rfl, hb1, Lib.hid hz1⟩
  case round =>
    obtain ⟨k, rfl, hk, rfl, hbr, HZ⟩ := hrel
    by_cases hlt : k < l.length
    · obtain ⟨gb, rfl, hgb, q0, q1, q2, q3, q4⟩ := own_hold_at (pw_own_below HOWN.out hbr) k hlt
      obtain ⟨x, hx⟩ : ∃ x, l[k] = x := ⟨_, rfl⟩
      have HS := Lib.hid (show shareL (l.take (k + 1)) day = if x.f3 ≤ day then x.f2 else shareL (l.take k) day by rw [List.take_succ_eq_append_getElem hlt, hx, shareL_snoc])
      rw [hx] at q0 q1 q2 q3 q4
      clear hx
      obtain ⟨f, hf⟩ : ∃ f, shareL (l.take k) day = f := ⟨_, rfl⟩
      rw [hf] at HZ HS
      clear hf
      have hki : (k : Int) < (l.length : Int) := by omega
      by_cases hle : x.f3 ≤ day
      · have HT := Lib.hid (HS.out.trans (if_pos hle))
        obtain ⟨p0, p1, p2, p3, p4⟩ := HZ.out.facts
        go_wp2
        go_roundg (l.length - (k + 1))
        case measure => omega
        case rel => exact ⟨k + 1, rfl, by omega, by go_num, ((hbr.setCell (Nat.le_refl _) _).setCell (Nat.le_refl _) _).alloc (by simp; omega) _, Lib.hid (by rw [HT.out]; exact (HZ.out.set x.f2.f0 x.f2.f1).below ((Below.refl _ _).alloc (Nat.le_refl _) _))⟩
      · have HT := Lib.hid (HS.out.trans (if_neg hle))
        have hleb : decide (x.f3 ≤ day) = false := decide_eq_false hle
        go_wp2
        go_roundg (l.length - (k + 1))
        case measure => omega
        case rel => exact ⟨k + 1, rfl, by omega, by go_num, hbr.alloc hbr.size _, Lib.hid (by rw [HT.out]; exact HZ.out.below ((Below.refl _ _).alloc (Nat.le_refl _) _))⟩
    · have hke : k = l.length := by omega
      subst hke
      rw [List.take_length] at HZ
      obtain ⟨p0, p1, p2, p3, p4⟩ := HZ.out.facts
      rw [HFR.out] at p0 p1 HZ
      go_wp2
      have hF := HZ.out.set FR.f0 FR.f1
      refine bodyPost_ret (v := .agg #[.int .i64 FR.f0, .int .i64 FR.f1]) (by simp [results, Tryz.results26, go_sem, hF.facts.1, hF.facts.2.1]) rfl ⟨rfl, (hbr.setCell (Nat.le_refl _) _).setCell (Nat.le_refl _) _⟩
set_option maxRecDepth 100000 in
set_option maxHeartbeats 8000000 in
theorem go_Entities (h : GrAt w B g m1 m2 V U vE vC s) (hl : s.en.length ≤ 10000) : Calls Tryz.prog 24 #[.pointer (some ⟨g, 0, none⟩)] w fun e w' => ∃ v, e = .returned v ∧ w'.ownsRow w.heap.size 9 1 v s.en.length (strs s.en) ∧ Below w.heap.size w w' := by
  obtain ⟨A, c, rfl, hlc, hnil, hcm⟩ := own_form h.enr
  have hown := h.enr
  have hgb := h.facts.2.2.1
  have hg := h.lt
  obtain ⟨i0, hi0, hi1, hi2, hi3⟩ := info_parts info_str
  have hnews := own_news_take (W := w) hown (Nat.le_refl _) (fun _ _ => rfl)
  rw [List.take_of_length_le (by rw [strs_length]; omega)] at hnews
  have HN := Lib.hid hnews
  clear h hown hnews hnil
  go_enter Tryz.func24, Tryz.ntmps24
  go_wp2_with (at_builtin; (refine wpList_append_any rfl (.tmp 5) (.tmp 9) 37 rfl w.heap.size 9 i0 _ 1 16 Tryz.underlying37 hi0 hi1 hi2 hi3 rfl (by omega) _ 0 [] rfl (World.ownsRow_nil _ _ _ _) _ s.en.length _ (strs s.en) rfl (by simp [strs]) HN.out (strs_one _) (by unfold maxLen; omega) (by omega) (Nat.le_refl _) ?_; intro v1 w1 own1 gr1 fr1))
  go_ret
  rw [Nat.zero_add, List.nil_append] at own1
  exact ⟨_, rfl, own1, pw_below_grown (Below.refl _ w) _ (Nat.le_refl _) gr1 (own_base (World.ownsRow_nil w w.heap.size 9 1))⟩
end
end Go.Proofs.YtikdiepcfdimgaaGreatDoor.POw
namespace Go.Proofs.YtikdiepcfdimgaaGreatDoor.POw
open Go.RowKit Go.Lib Go.Proofs.YtikdiepcfdimgaaGreatDoorW.PrintWords Go.Proofs.YtikdiepcfdimgaaGreatDoorW.PrintLast
def sumR (kf : Nat) (p : ByteArray → Bool) (sh : ByteArray → Frc) : List ByteArray → List Int × List Int → Option (List Int × List Int)
  | [], st => some st
  | o :: l, st => if p o = true then (owners_sum_plus.f kf st.1 st.2 (sh o).f0 (sh o).f1).bind fun st' => sumR kf p sh l st' else sumR kf p sh l st
def sumF (kf : Nat) (p : ByteArray → Bool) (s : Gr) (x : ByteArray) (day : Int) : Option (List Int × List Int) := sumR kf p (fun o => shareL (s.shL (o, x)) day) (s.owL x) ([0], [1])
def SumAt (w : World) (v : Value) (st : List Int × List Int) : Prop := ∃ A0 c0 A1 c1, v = .agg #[.slice A0 st.1.length c0, .slice A1 st.2.length c1] ∧ Kd.C (Kd.int .i64) w A0 st.1.length st.1 ∧ st.1.length ≤ c0 ∧ Kd.C (Kd.int .i64) w A1 st.2.length st.2 ∧ st.2.length ≤ c1
def IR (w : World) (v : Value) (xs : List Int) : Prop := ∃ b, Kd.R (Kd.int .i64) 3 w b (fun _ => True) v xs
theorem int_sum : ∀ q, q ∈ 3 :: (Kd.int .i64).E → q ≠ 67 := by
  intro q hq
  rcases List.mem_cons.1 hq with rfl | hq
  · decide
  · cases hq
theorem IR.below {w W : World} {v : Value} {xs : List Int} (h : IR w v xs) (hb : Below w.heap.size w W) : IR W v xs := h.imp (fun _ h => Kd.R_below h hb)
theorem IR.set {w : World} {v : Value} {xs : List Int} (h : IR w v xs) {g : Nat} {cells : Array Value} (hb : w.heap[g]? = some (.cells cells 67 (0, 0))) (j : Nat) (u : Value) : IR (w.setCell ⟨g, j, none⟩ u) v xs := h.imp (fun _ h => Kd.R_set h hb int_sum j u)
theorem IR.reads {w : World} {v : Value} {xs : List Int} (h : IR w v xs) : ∃ A c, v = .slice A xs.length c ∧ xs.length ≤ c ∧ Kd.C (Kd.int .i64) w A xs.length xs := by
  obtain ⟨b, h⟩ := h
  exact Kd.R_reads h
theorem IR.C {w : World} {A : Option Addr} {c : Nat} {xs : List Int} (h : IR w (.slice A xs.length c) xs) : xs.length ≤ c ∧ Kd.C (Kd.int .i64) w A xs.length xs := by
  obtain ⟨A', c', e, h1, h2⟩ := h.reads
  injection e with ea _ ec
  subst ea ec
  exact ⟨h1, h2⟩
def SumBox (w : World) (z : Nat) (st : List Int × List Int) : Prop := ∃ A0 c0 A1 c1, w.heap[z]? = some (.cells #[.slice A0 st.1.length c0, .slice A1 st.2.length c1] 67 (0, 0)) ∧ IR w (.slice A0 st.1.length c0) st.1 ∧ IR w (.slice A1 st.2.length c1) st.2
theorem SumBox.below {w W : World} {z : Nat} {st : List Int × List Int} (h : SumBox w z st) (hb : Below w.heap.size w W) : SumBox W z st := by
  obtain ⟨A0, c0, A1, c1, h1, h2, h3⟩ := h
  exact ⟨A0, c0, A1, c1, (hb.block z (Array.getElem?_eq_some_iff.1 h1).1).trans h1, h2.below hb, h3.below hb⟩
theorem SumBox.lt {w : World} {z : Nat} {st : List Int × List Int} (h : SumBox w z st) : z < w.heap.size := by
  obtain ⟨A0, c0, A1, c1, h1, _⟩ := h
  exact (Array.getElem?_eq_some_iff.1 h1).1
section
variable {w : World} {B g m1 m2 : Nat} {V : Pr → Value} {U : ByteArray → Value} {vE vC : Value} {s : Gr}
set_option maxRecDepth 100000 in
set_option maxHeartbeats 8000000 in
theorem go_sumAll (h : GrAt w B g m1 m2 V U vE vC s) (kf : Nat) (x : ByteArray) (day : Int) (p : ByteArray → Bool) (st0 : List Int × List Int) (hx : x.size ≤ 1000) (hsz : ∀ o ∈ s.owL x, o.size ≤ 1000 ∧ (s.shL (o, x)).length ≤ 10000) (hl : (s.owL x).length ≤ 10000)
    (hof : ∀ W, Below w.heap.size w W → ∀ o ∈ s.owL x, Calls Tryz.prog 32 #[.string o] W fun e w' => e = .returned (.bool (p o)) ∧ W = w') (hF : sumF kf p s x day = some st0) :
    Calls Tryz.prog 31 #[.pointer (some ⟨g, 0, none⟩), .string x, .int .i64 day, .func (.func 32) #[] #[]] w fun e w' => ∃ v, e = .returned v ∧ SumAt w' v st0 ∧ Below w.heap.size w w' := by
  obtain ⟨A, c, hown, hlook⟩ := h.look_ow x hx
  obtain ⟨l, hle⟩ : ∃ l, s.owL x = l := ⟨_, rfl⟩
  obtain ⟨sh, hsh⟩ : ∃ sh, (fun o => shareL (s.shL (o, x)) day) = sh := ⟨_, rfl⟩
  have hshare := fun (W : World) (hW : Below w.heap.size w W) (o : ByteArray) (ho : o ∈ s.owL x) => go_Share (h.below hW) o x day (hsz o ho).1 hx (hsz o ho).2
  have hshare2 : ∀ W, Below w.heap.size w W → ∀ o ∈ l, Calls Tryz.prog 26 #[.pointer (some ⟨g, 0, none⟩), .string o, .string x, .int .i64 day] W fun e w' => e = .returned (.agg #[.int .i64 (sh o).f0, .int .i64 (sh o).f1]) ∧ Below W.heap.size W w' := by
    intro W hW o ho
    rw [← hsh]
    exact hshare W hW o (hle ▸ ho)
  unfold sumF at hF
  rw [hsh, hle] at hF
  rw [hle] at hown hlook hl hof
  have hlc := slice_room hown
  have hbb := fun (W : World) (hW : Below w.heap.size w W) => (h.below hW).facts.2.1
  have hg := h.lt
  have HLOOK := Lib.hid hlook; have HBB := Lib.hid hbb; have HOWN := Lib.hid hown; have HOF := Lib.hid hof; have HSHARE := Lib.hid hshare2; have HF := Lib.hid hF
  clear hlook hbb hown h hle hx hsh hshare hshare2 hsz hof hF
  have hb1 : Below w.heap.size w (w.alloc (.cells #[.slice none 0 0, .slice none 0 0] 67)) := (Below.refl _ _).alloc (Nat.le_refl _) _
  have hz1 := (Go.MapKept.heap_alloc w (.cells #[.slice none 0 0, .slice none 0 0] 67)).1
  go_enter Tryz.func31, Tryz.ntmps31
  go_upto_region 2 with (go_at_call 52; refine (owners_zero.calls [0] [1] _ rfl).mono ?_; rintro e w1 ⟨v0, v1, rfl, hR0, hR1, hbz⟩; have hI0 : IR w1 v0 [0] := ⟨_, Kd.R_mono hR0 (fun _ _ => trivial)⟩; have hI1 : IR w1 v1 [1] := ⟨_, Kd.R_mono hR1 (fun _ _ => trivial)⟩; obtain ⟨A0, c0, hv0, _, _⟩ := hI0.reads; obtain ⟨A1, c1, hv1, _, _⟩ := hI1.reads; subst hv0 hv1; clear hR0 hR1; have hz1' := (hbz.block _ (Array.getElem?_eq_some_iff.1 hz1).1).trans hz1; have hb1' := hb1.trans (hbz.mono hb1.size); clear hz1 hb1 hbz)
  have hbx := (Go.MapKept.heap_alloc w1 (.cells #[.slice A0 1 c0, .slice A1 1 c1] 67)).1
  have hba := (Below.refl _ w1).alloc (Nat.le_refl _) (.cells #[.slice A0 1 c0, .slice A1 1 c1] 67)
  have hz8 := (hba.block _ (Array.getElem?_eq_some_iff.1 hz1').1).trans hz1'
  have hb8 := hb1'.trans (hba.mono hb1'.size)
  have hs9 : SumBox (w1.alloc (.cells #[.slice A0 1 c0, .slice A1 1 c1] 67)) w1.heap.size ([0], [1]) := ⟨A0, c0, A1, c1, hbx, hI0.below hba, hI1.below hba⟩
  have hzz := hb1'.size
  have hzl : w.heap.size < w1.heap.size := (Array.getElem?_eq_some_iff.1 hz1').1
  obtain ⟨w2, hw2⟩ : ∃ W, w1.alloc (.cells #[.slice A0 1 c0, .slice A1 1 c1] 67) = W := ⟨_, rfl⟩
  obtain ⟨z9, hz9⟩ : ∃ z, w1.heap.size = z := ⟨_, rfl⟩
  rw [hw2, hz9] at hs9
  rw [hz9] at hzl
  rw [hw2] at hz8 hb8 ⊢
  rw [hz9]
  clear hbx hba hz1' hb1' hI0 hI1 hw2 hz9 hzz
  have hg1 := HBB.out w2 hb8
  have hl1 := HLOOK.out w2 hb8
  have HS9 := Lib.hid hs9; have HZ8 := Lib.hid hz8
  clear hs9 hz8
  go_wp2
  clear hg1 hl1
  go_loopg [20, 11, 32, 33] l.length (fun n t t11 t32 t33 wr => ∃ (k : Nat) (st : List Int × List Int), n = l.length - k ∧ k ≤ l.length ∧ t = .int .i64 k ∧ Below w.heap.size w wr ∧ Hid (wr.heap[w.heap.size]? = some (.cells #[.slice none 0 0, .slice none 0 0] 67 (0, 0))) ∧ Hid (SumBox wr z9 st) ∧ Hid (sumR kf p sh (l.drop k) st = some st0))
  case atStart => exact ⟨0, ([0], [1]), rfl, Nat.zero_le _, rfl, hb8, HZ8, HS9, by rw [List.drop_zero]; exact HF⟩
  case round =>
    obtain ⟨k, st, rfl, hk, rfl, hbr, HZ, HS, HR⟩ := hrel
    by_cases hlt : k < l.length
    · obtain ⟨gb, rfl, hgb, q0⟩ := own_str_at (pw_own_below HOWN.out hbr) k hlt
      obtain ⟨o, ho⟩ : ∃ o, l[k] = o := ⟨_, rfl⟩
      have hom : o ∈ l := ho ▸ List.getElem_mem hlt
      have hR := HR.out
      rw [List.drop_eq_getElem_cons hlt, ho] at hR
      rw [ho] at q0
      have HOM := Lib.hid hom
      clear ho hom
      have hki : (k : Int) < (l.length : Int) := by omega
      simp only [sumR] at hR
      have hcl := HOF.out wr hbr o HOM.out
      cases hp : p o with
      | false =>
        rw [hp] at hR hcl
        have HR2 := Lib.hid (show sumR kf p sh (l.drop (k + 1)) st = some st0 by simpa using hR)
        have HCL := Lib.hid hcl
        clear hR hcl hp
        go_wp2_with (go_at_call 32; refine HCL.out.mono ?_; rintro e w3 ⟨rfl, rfl⟩)
        go_roundg (l.length - (k + 1))
        case measure => omega
        case rel => exact ⟨k + 1, st, rfl, by omega, by go_num, hbr, HZ, HS, HR2⟩
      | true =>
        rw [hp] at hR hcl
        rw [if_pos rfl] at hR
        obtain ⟨st', hP, hR'⟩ := Option.bind_eq_some_iff.1 hR
        have HP := Lib.hid hP; have HR2 := Lib.hid hR'
        have HCL := Lib.hid hcl
        clear hR hcl hp hP hR'
        go_upto_region 6 with (go_at_call 32; refine HCL.out.mono ?_; rintro e w3 ⟨rfl, rfl⟩)
        obtain ⟨A0, c0, A1, c1, hbx, hI0, hI1⟩ := HS.out
        obtain ⟨hc0, hC0⟩ := hI0.C
        obtain ⟨hc1, hC1⟩ := hI1.C
        have HI := Lib.hid (And.intro hI0 hI1); clear hI0 hI1
        have k0 := blk_cell hbx 0
        have k1 := blk_cell hbx 1
        have hz9 : z9 < wr.heap.size := HS.out.lt
        have hBW := hbr.drew
        have hom := HOM.out
        have hBd : Below wr.heap.size wr wr.drew := (Below.refl _ wr).drew
        refine start_ (n := 8) (S := fun w' => w'.cell? ⟨z9, 0, none⟩ = some (.slice A0 st.1.length c0) ∧ w'.cell? ⟨z9, 1, none⟩ = some (.slice A1 st.2.length c1)) (ds := [7]) #[false, false, false, false, false, false, false, false] (by kernel_rfl) rfl rfl ⟨k0, k1⟩ (fun hHeld => ?_)
        refine pure_ (i := 1) (N := some 28) (v := ?_) (a' := ?_) #[false, true, false, false, false, false, false, false] rfl rfl (by kernel_rfl) (fun _ _ _ h => h) (Or.inl ⟨by rfl, ?_⟩) ?_ ?_
        rotate_left
        · intro w'
          go_simp
          with_reducible rfl
        rotate_left
        · simp only [Act.put, pkA, pkZ, pkS, i64_w, i32_w]
          rfl
        refine pure_ (i := 2) (N := some 29) (v := ?_) (a' := ?_) #[false, true, true, false, false, false, false, false] rfl rfl (by kernel_rfl) (fun _ _ _ h => h) (Or.inl ⟨by rfl, ?_⟩) ?_ ?_
        rotate_left
        · intro w'
          go_simp
          with_reducible rfl
        rotate_left
        · simp only [Act.put, pkA, pkZ, pkS, i64_w, i32_w]
          rfl
        refine pure_ (i := 3) (N := some 30) (v := ?_) (a' := ?_) #[false, true, true, true, false, false, false, false] rfl rfl (by kernel_rfl) (fun _ _ _ h => h) (Or.inl ⟨by rfl, ?_⟩) ?_ ?_
        rotate_left
        · intro w'
          go_simp
          with_reducible rfl
        rotate_left
        · simp only [Act.put, pkA, pkZ, pkS, i64_w, i32_w]
          rfl
        refine pure_ (i := 4) (N := some 31) (v := ?_) (a' := ?_) #[false, true, true, true, true, false, false, false] rfl rfl (by kernel_rfl) (fun _ _ _ h => h) (Or.inl ⟨by rfl, ?_⟩) ?_ ?_
        rotate_left
        · intro w'
          go_simp
          with_reducible rfl
        rotate_left
        · simp only [Act.put, pkA, pkZ, pkS, i64_w, i32_w]
          rfl
        refine take_ (i := 0) (N := some 27) (v := ?_) (a' := ?_) #[true, true, true, true, true, false, false, false] rfl rfl (by kernel_rfl) (fun _ _ _ h => h) (Or.inl ⟨by rfl, ?_⟩) hHeld ?_ ?_
        rotate_left
        · rintro w' ⟨s0, s1⟩
          go_simp
          with_reducible rfl
        rotate_left
        · simp only [Act.put, pkA, pkZ, pkS, i64_w, i32_w]
          rfl
        refine one_ (i := 5) (N := some 32) #[true, true, true, true, true, true, false, false] rfl rfl (by kernel_rfl) (by decide) (fun K hK => ?_)
        refine goes_ Tryz.func26 (by kernel_rfl) rfl #[.pointer (some ⟨g, 0, none⟩), .string o, .string x, .int .i64 day] (by rfl) rfl rfl (by simp only [List.map_toArray, List.map_cons, List.map_nil]; rfl) ?_
        refine (HSHARE.out _ hBW o hom).mono ?_
        rintro e w5 ⟨rfl, hb5⟩
        refine ⟨_, rfl, ?_⟩
        have hB5 := hBd.trans (hb5.mono hBd.size)
        refine hK.out _ _ ⟨(hB5.cell (p := ⟨z9, 0, none⟩) hz9).trans k0, (hB5.cell (p := ⟨z9, 1, none⟩) hz9).trans k1⟩ (fun hHeld => ?_)
        clear hK K
        refine norm_ (a' := ?_) ?_ ?_
        rotate_left
        · show Act.put _ (some 32) _ = _
          simp only [Act.put, pkA, pkZ, pkS, i64_w, i32_w]
          rfl
        refine one_ (i := 6) (N := some 33) #[true, true, true, true, true, true, true, false] rfl rfl (by kernel_rfl) (by decide) (fun K hK => ?_)
        refine goes_ Tryz.func53 (by kernel_rfl) rfl #[.agg #[.slice A0 st.1.length c0, .slice A1 st.2.length c1], .agg #[.int .i64 (sh o).f0, .int .i64 (sh o).f1]] (by rfl) rfl rfl (by simp only [List.map_toArray, List.map_cons, List.map_nil]; rfl) ?_
        refine (owners_sum_plus.calls kf A0 c0 st.1 A1 c1 st.2 (sh o).f0 (sh o).f1 st'.1 st'.2 _ (Kd.C_below hC0 hB5) hc0 (Kd.C_below hC1 hB5) hc1 HP.out).mono ?_
        rintro e w6 ⟨v0, v1, rfl, hR0, hR1, hb6⟩
        obtain ⟨B0, d0, hv0, hd0, _⟩ := Kd.R_reads hR0
        obtain ⟨B1, d1, hv1, hd1, _⟩ := Kd.R_reads hR1
        subst hv0 hv1
        refine ⟨_, rfl, ?_⟩
        have hB6 := hB5.trans (hb6.mono hB5.size)
        refine hK.out _ _ ⟨(hB6.cell (p := ⟨z9, 0, none⟩) hz9).trans k0, (hB6.cell (p := ⟨z9, 1, none⟩) hz9).trans k1⟩ (fun hHeld => ?_)
        clear hK K
        refine norm_ (a' := ?_) ?_ ?_
        rotate_left
        · show Act.put _ (some 33) _ = _
          simp only [Act.put, pkA, pkZ, pkS, i64_w, i32_w]
          rfl
        refine last_ (i := 7) (N := none) #[true, true, true, true, true, true, true, true] rfl rfl (by kernel_rfl) (by decide) (fun K hK => ?_)
        have hbx6 := (hB6.block z9 hz9).trans hbx
        have e0 : w6.cell? ⟨z9, 0, none⟩ = some (.slice A0 st.1.length c0) := blk_cell hbx6 0
        have e1 : w6.cell? ⟨z9, 1, none⟩ = some (.slice A1 st.2.length c1) := blk_cell hbx6 1
        have f0 := blk_frozen hbx6 0
        have f1 := blk_frozen hbx6 1
        refine skip_ (w1 := ?_) (by rfl) rfl ?_ ?_
        rotate_left
        · go_simp
          rfl
        refine hK.out _ _ ?_
        clear hK K
        refine done_ (by kernel_rfl) ?_
        go_wp2
        go_roundg (l.length - (k + 1))
        case measure => omega
        case rel =>
          have hI0 : IR w6 (.slice B0 st'.1.length d0) st'.1 := ⟨_, Kd.R_mono hR0 (fun _ _ => trivial)⟩
          have hI1 : IR w6 (.slice B1 st'.2.length d1) st'.2 := ⟨_, Kd.R_mono hR1 (fun _ _ => trivial)⟩
          have hJ0 := (hI0.set hbx6 0 (.slice B0 st'.1.length d0)).set (blk_set hbx6 0 (.slice B0 st'.1.length d0)) 1 (.slice B1 st'.2.length d1)
          have hJ1 := (hI1.set hbx6 0 (.slice B0 st'.1.length d0)).set (blk_set hbx6 0 (.slice B0 st'.1.length d0)) 1 (.slice B1 st'.2.length d1)
          have hb6w := hbr.trans (hB6.mono hbr.size)
          have hlt9 : w.heap.size < z9 := hzl
          refine ⟨k + 1, st', rfl, by omega, by go_num, (hb6w.setCell (by simp; omega) _).setCell (by simp; omega) _, Lib.hid ?_, Lib.hid ⟨B0, d0, B1, d1, ?_, hJ0, hJ1⟩, HR2⟩
          · rw [Below.heap_setCell _ _ _ _ (by simp; omega), Below.heap_setCell _ _ _ _ (by simp; omega), hB6.block _ (Array.getElem?_eq_some_iff.1 HZ.out).1]
            exact HZ.out
          · exact blk_set (blk_set hbx6 0 _) 1 _
    · have hke : k = l.length := by omega
      subst hke
      have hR := HR.out
      rw [List.drop_length] at hR
      have hst : st = st0 := by simpa [sumR] using hR
      subst hst
      clear hR HR
      obtain ⟨A0, c0, A1, c1, hbx, hI0, hI1⟩ := HS.out
      have k0 := blk_cell hbx 0
      have k1 := blk_cell hbx 1
      have f0 := blk_cell HZ.out 0
      have f1 := blk_cell HZ.out 1
      have f2 := blk_frozen HZ.out 0
      have f3 := blk_frozen HZ.out 1
      have HI0 := Lib.hid hI0; have HI1 := Lib.hid hI1; have HBX := Lib.hid hbx
      clear hI0 hI1 hbx
      go_wp2
      have hF := blk_set (blk_set HZ.out 0 (.slice A0 st.1.length c0)) 1 (.slice A1 st.2.length c1)
      have hJ0 := ((HI0.out.set HZ.out 0 (.slice A0 st.1.length c0)).set (blk_set HZ.out 0 (.slice A0 st.1.length c0)) 1 (.slice A1 st.2.length c1)).C
      have hJ1 := ((HI1.out.set HZ.out 0 (.slice A0 st.1.length c0)).set (blk_set HZ.out 0 (.slice A0 st.1.length c0)) 1 (.slice A1 st.2.length c1)).C
      refine bodyPost_ret (v := .agg #[.slice A0 st.1.length c0, .slice A1 st.2.length c1]) (by simp [results, Tryz.results31, go_sem, blk_cell hF 0, blk_cell hF 1]) rfl ⟨_, rfl, ?_, (hbr.setCell (Nat.le_refl _) _).setCell (Nat.le_refl _) _⟩
      exact ⟨A0, c0, A1, c1, rfl, hJ0.2, hJ0.1, hJ1.2, hJ1.1⟩
set_option maxRecDepth 100000 in
set_option maxHeartbeats 8000000 in
theorem go_sumIn (h : GrAt w B g m1 m2 V U vE vC s) (kf : Nat) (x : ByteArray) (day : Int) (p : ByteArray → Bool) (st0 : List Int × List Int) (zc : Nat) (hx : x.size ≤ 1000) (hsz : ∀ o ∈ s.owL x, o.size ≤ 1000 ∧ (s.shL (o, x)).length ≤ 10000) (hl : (s.owL x).length ≤ 10000)
    (hof : ∀ W, Below w.heap.size w W → ∀ o ∈ s.owL x, Calls Tryz.prog 61 #[.string o, .pointer (some ⟨zc, 0, none⟩)] W fun e w' => e = .returned (.bool (p o)) ∧ W = w') (hF : sumF kf p s x day = some st0) :
    Calls Tryz.prog 31 #[.pointer (some ⟨g, 0, none⟩), .string x, .int .i64 day, .func (.func 61) #[] #[.pointer (some ⟨zc, 0, none⟩)]] w fun e w' => ∃ v, e = .returned v ∧ SumAt w' v st0 ∧ Below w.heap.size w w' := by
  obtain ⟨A, c, hown, hlook⟩ := h.look_ow x hx
  obtain ⟨l, hle⟩ : ∃ l, s.owL x = l := ⟨_, rfl⟩
  obtain ⟨sh, hsh⟩ : ∃ sh, (fun o => shareL (s.shL (o, x)) day) = sh := ⟨_, rfl⟩
  have hshare := fun (W : World) (hW : Below w.heap.size w W) (o : ByteArray) (ho : o ∈ s.owL x) => go_Share (h.below hW) o x day (hsz o ho).1 hx (hsz o ho).2
  have hshare2 : ∀ W, Below w.heap.size w W → ∀ o ∈ l, Calls Tryz.prog 26 #[.pointer (some ⟨g, 0, none⟩), .string o, .string x, .int .i64 day] W fun e w' => e = .returned (.agg #[.int .i64 (sh o).f0, .int .i64 (sh o).f1]) ∧ Below W.heap.size W w' := by
    intro W hW o ho
    rw [← hsh]
    exact hshare W hW o (hle ▸ ho)
  unfold sumF at hF
  rw [hsh, hle] at hF
  rw [hle] at hown hlook hl hof
  have hlc := slice_room hown
  have hbb := fun (W : World) (hW : Below w.heap.size w W) => (h.below hW).facts.2.1
  have hg := h.lt
  have HLOOK := Lib.hid hlook; have HBB := Lib.hid hbb; have HOWN := Lib.hid hown; have HOF := Lib.hid hof; have HSHARE := Lib.hid hshare2; have HF := Lib.hid hF
  clear hlook hbb hown h hle hx hsh hshare hshare2 hsz hof hF
  have hb1 : Below w.heap.size w (w.alloc (.cells #[.slice none 0 0, .slice none 0 0] 67)) := (Below.refl _ _).alloc (Nat.le_refl _) _
  have hz1 := (Go.MapKept.heap_alloc w (.cells #[.slice none 0 0, .slice none 0 0] 67)).1
  go_enter Tryz.func31, Tryz.ntmps31
  go_upto_region 2 with (go_at_call 52; refine (owners_zero.calls [0] [1] _ rfl).mono ?_; rintro e w1 ⟨v0, v1, rfl, hR0, hR1, hbz⟩; have hI0 : IR w1 v0 [0] := ⟨_, Kd.R_mono hR0 (fun _ _ => trivial)⟩; have hI1 : IR w1 v1 [1] := ⟨_, Kd.R_mono hR1 (fun _ _ => trivial)⟩; obtain ⟨A0, c0, hv0, _, _⟩ := hI0.reads; obtain ⟨A1, c1, hv1, _, _⟩ := hI1.reads; subst hv0 hv1; clear hR0 hR1; have hz1' := (hbz.block _ (Array.getElem?_eq_some_iff.1 hz1).1).trans hz1; have hb1' := hb1.trans (hbz.mono hb1.size); clear hz1 hb1 hbz)
  have hbx := (Go.MapKept.heap_alloc w1 (.cells #[.slice A0 1 c0, .slice A1 1 c1] 67)).1
  have hba := (Below.refl _ w1).alloc (Nat.le_refl _) (.cells #[.slice A0 1 c0, .slice A1 1 c1] 67)
  have hz8 := (hba.block _ (Array.getElem?_eq_some_iff.1 hz1').1).trans hz1'
  have hb8 := hb1'.trans (hba.mono hb1'.size)
  have hs9 : SumBox (w1.alloc (.cells #[.slice A0 1 c0, .slice A1 1 c1] 67)) w1.heap.size ([0], [1]) := ⟨A0, c0, A1, c1, hbx, hI0.below hba, hI1.below hba⟩
  have hzz := hb1'.size
  have hzl : w.heap.size < w1.heap.size := (Array.getElem?_eq_some_iff.1 hz1').1
  obtain ⟨w2, hw2⟩ : ∃ W, w1.alloc (.cells #[.slice A0 1 c0, .slice A1 1 c1] 67) = W := ⟨_, rfl⟩
  obtain ⟨z9, hz9⟩ : ∃ z, w1.heap.size = z := ⟨_, rfl⟩
  rw [hw2, hz9] at hs9
  rw [hz9] at hzl
  rw [hw2] at hz8 hb8 ⊢
  rw [hz9]
  clear hbx hba hz1' hb1' hI0 hI1 hw2 hz9 hzz
  have hg1 := HBB.out w2 hb8
  have hl1 := HLOOK.out w2 hb8
  have HS9 := Lib.hid hs9; have HZ8 := Lib.hid hz8
  clear hs9 hz8
  go_wp2
  clear hg1 hl1
  go_loopg [20, 11, 32, 33] l.length (fun n t t11 t32 t33 wr => ∃ (k : Nat) (st : List Int × List Int), n = l.length - k ∧ k ≤ l.length ∧ t = .int .i64 k ∧ Below w.heap.size w wr ∧ Hid (wr.heap[w.heap.size]? = some (.cells #[.slice none 0 0, .slice none 0 0] 67 (0, 0))) ∧ Hid (SumBox wr z9 st) ∧ Hid (sumR kf p sh (l.drop k) st = some st0))
  case atStart => exact ⟨0, ([0], [1]), rfl, Nat.zero_le _, rfl, hb8, HZ8, HS9, by rw [List.drop_zero]; exact HF⟩
  case round =>
    obtain ⟨k, st, rfl, hk, rfl, hbr, HZ, HS, HR⟩ := hrel
    by_cases hlt : k < l.length
    · obtain ⟨gb, rfl, hgb, q0⟩ := own_str_at (pw_own_below HOWN.out hbr) k hlt
      obtain ⟨o, ho⟩ : ∃ o, l[k] = o := ⟨_, rfl⟩
      have hom : o ∈ l := ho ▸ List.getElem_mem hlt
      have hR := HR.out
      rw [List.drop_eq_getElem_cons hlt, ho] at hR
      rw [ho] at q0
      have HOM := Lib.hid hom
      clear ho hom
      have hki : (k : Int) < (l.length : Int) := by omega
      simp only [sumR] at hR
      have hcl := HOF.out wr hbr o HOM.out
      cases hp : p o with
      | false =>
        rw [hp] at hR hcl
        have HR2 := Lib.hid (show sumR kf p sh (l.drop (k + 1)) st = some st0 by simpa using hR)
        have HCL := Lib.hid hcl
        clear hR hcl hp
        go_wp2_with (go_at_call 61; refine HCL.out.mono ?_; rintro e w3 ⟨rfl, rfl⟩)
        go_roundg (l.length - (k + 1))
        case measure => omega
        case rel => exact ⟨k + 1, st, rfl, by omega, by go_num, hbr, HZ, HS, HR2⟩
      | true =>
        rw [hp] at hR hcl
        rw [if_pos rfl] at hR
        obtain ⟨st', hP, hR'⟩ := Option.bind_eq_some_iff.1 hR
        have HP := Lib.hid hP; have HR2 := Lib.hid hR'
        have HCL := Lib.hid hcl
        clear hR hcl hp hP hR'
        go_upto_region 6 with (go_at_call 61; refine HCL.out.mono ?_; rintro e w3 ⟨rfl, rfl⟩)
        obtain ⟨A0, c0, A1, c1, hbx, hI0, hI1⟩ := HS.out
        obtain ⟨hc0, hC0⟩ := hI0.C
        obtain ⟨hc1, hC1⟩ := hI1.C
        have HI := Lib.hid (And.intro hI0 hI1); clear hI0 hI1
        have k0 := blk_cell hbx 0
        have k1 := blk_cell hbx 1
        have hz9 : z9 < wr.heap.size := HS.out.lt
        have hBW := hbr.drew
        have hom := HOM.out
        have hBd : Below wr.heap.size wr wr.drew := (Below.refl _ wr).drew
        refine start_ (n := 8) (S := fun w' => w'.cell? ⟨z9, 0, none⟩ = some (.slice A0 st.1.length c0) ∧ w'.cell? ⟨z9, 1, none⟩ = some (.slice A1 st.2.length c1)) (ds := [7]) #[false, false, false, false, false, false, false, false] (by kernel_rfl) rfl rfl ⟨k0, k1⟩ (fun hHeld => ?_)
        refine pure_ (i := 1) (N := some 28) (v := ?_) (a' := ?_) #[false, true, false, false, false, false, false, false] rfl rfl (by kernel_rfl) (fun _ _ _ h => h) (Or.inl ⟨by rfl, ?_⟩) ?_ ?_
        rotate_left
        · intro w'
          go_simp
          with_reducible rfl
        rotate_left
        · simp only [Act.put, pkA, pkZ, pkS, i64_w, i32_w]
          rfl
        refine pure_ (i := 2) (N := some 29) (v := ?_) (a' := ?_) #[false, true, true, false, false, false, false, false] rfl rfl (by kernel_rfl) (fun _ _ _ h => h) (Or.inl ⟨by rfl, ?_⟩) ?_ ?_
        rotate_left
        · intro w'
          go_simp
          with_reducible rfl
        rotate_left
        · simp only [Act.put, pkA, pkZ, pkS, i64_w, i32_w]
          rfl
        refine pure_ (i := 3) (N := some 30) (v := ?_) (a' := ?_) #[false, true, true, true, false, false, false, false] rfl rfl (by kernel_rfl) (fun _ _ _ h => h) (Or.inl ⟨by rfl, ?_⟩) ?_ ?_
        rotate_left
        · intro w'
          go_simp
          with_reducible rfl
        rotate_left
        · simp only [Act.put, pkA, pkZ, pkS, i64_w, i32_w]
          rfl
        refine pure_ (i := 4) (N := some 31) (v := ?_) (a' := ?_) #[false, true, true, true, true, false, false, false] rfl rfl (by kernel_rfl) (fun _ _ _ h => h) (Or.inl ⟨by rfl, ?_⟩) ?_ ?_
        rotate_left
        · intro w'
          go_simp
          with_reducible rfl
        rotate_left
        · simp only [Act.put, pkA, pkZ, pkS, i64_w, i32_w]
          rfl
        refine take_ (i := 0) (N := some 27) (v := ?_) (a' := ?_) #[true, true, true, true, true, false, false, false] rfl rfl (by kernel_rfl) (fun _ _ _ h => h) (Or.inl ⟨by rfl, ?_⟩) hHeld ?_ ?_
        rotate_left
        · rintro w' ⟨s0, s1⟩
          go_simp
          with_reducible rfl
        rotate_left
        · simp only [Act.put, pkA, pkZ, pkS, i64_w, i32_w]
          rfl
        refine one_ (i := 5) (N := some 32) #[true, true, true, true, true, true, false, false] rfl rfl (by kernel_rfl) (by decide) (fun K hK => ?_)
        refine goes_ Tryz.func26 (by kernel_rfl) rfl #[.pointer (some ⟨g, 0, none⟩), .string o, .string x, .int .i64 day] (by rfl) rfl rfl (by simp only [List.map_toArray, List.map_cons, List.map_nil]; rfl) ?_
        refine (HSHARE.out _ hBW o hom).mono ?_
        rintro e w5 ⟨rfl, hb5⟩
        refine ⟨_, rfl, ?_⟩
        have hB5 := hBd.trans (hb5.mono hBd.size)
        refine hK.out _ _ ⟨(hB5.cell (p := ⟨z9, 0, none⟩) hz9).trans k0, (hB5.cell (p := ⟨z9, 1, none⟩) hz9).trans k1⟩ (fun hHeld => ?_)
        clear hK K
        refine norm_ (a' := ?_) ?_ ?_
        rotate_left
        · show Act.put _ (some 32) _ = _
          simp only [Act.put, pkA, pkZ, pkS, i64_w, i32_w]
          rfl
        refine one_ (i := 6) (N := some 33) #[true, true, true, true, true, true, true, false] rfl rfl (by kernel_rfl) (by decide) (fun K hK => ?_)
        refine goes_ Tryz.func53 (by kernel_rfl) rfl #[.agg #[.slice A0 st.1.length c0, .slice A1 st.2.length c1], .agg #[.int .i64 (sh o).f0, .int .i64 (sh o).f1]] (by rfl) rfl rfl (by simp only [List.map_toArray, List.map_cons, List.map_nil]; rfl) ?_
        refine (owners_sum_plus.calls kf A0 c0 st.1 A1 c1 st.2 (sh o).f0 (sh o).f1 st'.1 st'.2 _ (Kd.C_below hC0 hB5) hc0 (Kd.C_below hC1 hB5) hc1 HP.out).mono ?_
        rintro e w6 ⟨v0, v1, rfl, hR0, hR1, hb6⟩
        obtain ⟨B0, d0, hv0, hd0, _⟩ := Kd.R_reads hR0
        obtain ⟨B1, d1, hv1, hd1, _⟩ := Kd.R_reads hR1
        subst hv0 hv1
        refine ⟨_, rfl, ?_⟩
        have hB6 := hB5.trans (hb6.mono hB5.size)
        refine hK.out _ _ ⟨(hB6.cell (p := ⟨z9, 0, none⟩) hz9).trans k0, (hB6.cell (p := ⟨z9, 1, none⟩) hz9).trans k1⟩ (fun hHeld => ?_)
        clear hK K
        refine norm_ (a' := ?_) ?_ ?_
        rotate_left
        · show Act.put _ (some 33) _ = _
          simp only [Act.put, pkA, pkZ, pkS, i64_w, i32_w]
          rfl
        refine last_ (i := 7) (N := none) #[true, true, true, true, true, true, true, true] rfl rfl (by kernel_rfl) (by decide) (fun K hK => ?_)
        have hbx6 := (hB6.block z9 hz9).trans hbx
        have e0 : w6.cell? ⟨z9, 0, none⟩ = some (.slice A0 st.1.length c0) := blk_cell hbx6 0
        have e1 : w6.cell? ⟨z9, 1, none⟩ = some (.slice A1 st.2.length c1) := blk_cell hbx6 1
        have f0 := blk_frozen hbx6 0
        have f1 := blk_frozen hbx6 1
        refine skip_ (w1 := ?_) (by rfl) rfl ?_ ?_
        rotate_left
        · go_simp
          rfl
        refine hK.out _ _ ?_
        clear hK K
        refine done_ (by kernel_rfl) ?_
        go_wp2
        go_roundg (l.length - (k + 1))
        case measure => omega
        case rel =>
          have hI0 : IR w6 (.slice B0 st'.1.length d0) st'.1 := ⟨_, Kd.R_mono hR0 (fun _ _ => trivial)⟩
          have hI1 : IR w6 (.slice B1 st'.2.length d1) st'.2 := ⟨_, Kd.R_mono hR1 (fun _ _ => trivial)⟩
          have hJ0 := (hI0.set hbx6 0 (.slice B0 st'.1.length d0)).set (blk_set hbx6 0 (.slice B0 st'.1.length d0)) 1 (.slice B1 st'.2.length d1)
          have hJ1 := (hI1.set hbx6 0 (.slice B0 st'.1.length d0)).set (blk_set hbx6 0 (.slice B0 st'.1.length d0)) 1 (.slice B1 st'.2.length d1)
          have hb6w := hbr.trans (hB6.mono hbr.size)
          have hlt9 : w.heap.size < z9 := hzl
          refine ⟨k + 1, st', rfl, by omega, by go_num, (hb6w.setCell (by simp; omega) _).setCell (by simp; omega) _, Lib.hid ?_, Lib.hid ⟨B0, d0, B1, d1, ?_, hJ0, hJ1⟩, HR2⟩
          · rw [Below.heap_setCell _ _ _ _ (by simp; omega), Below.heap_setCell _ _ _ _ (by simp; omega), hB6.block _ (Array.getElem?_eq_some_iff.1 HZ.out).1]
            exact HZ.out
          · exact blk_set (blk_set hbx6 0 _) 1 _
    · have hke : k = l.length := by omega
      subst hke
      have hR := HR.out
      rw [List.drop_length] at hR
      have hst : st = st0 := by simpa [sumR] using hR
      subst hst
      clear hR HR
      obtain ⟨A0, c0, A1, c1, hbx, hI0, hI1⟩ := HS.out
      have k0 := blk_cell hbx 0
      have k1 := blk_cell hbx 1
      have f0 := blk_cell HZ.out 0
      have f1 := blk_cell HZ.out 1
      have f2 := blk_frozen HZ.out 0
      have f3 := blk_frozen HZ.out 1
      have HI0 := Lib.hid hI0; have HI1 := Lib.hid hI1; have HBX := Lib.hid hbx
      clear hI0 hI1 hbx
      go_wp2
      have hF := blk_set (blk_set HZ.out 0 (.slice A0 st.1.length c0)) 1 (.slice A1 st.2.length c1)
      have hJ0 := ((HI0.out.set HZ.out 0 (.slice A0 st.1.length c0)).set (blk_set HZ.out 0 (.slice A0 st.1.length c0)) 1 (.slice A1 st.2.length c1)).C
      have hJ1 := ((HI1.out.set HZ.out 0 (.slice A0 st.1.length c0)).set (blk_set HZ.out 0 (.slice A0 st.1.length c0)) 1 (.slice A1 st.2.length c1)).C
      refine bodyPost_ret (v := .agg #[.slice A0 st.1.length c0, .slice A1 st.2.length c1]) (by simp [results, Tryz.results31, go_sem, blk_cell hF 0, blk_cell hF 1]) rfl ⟨_, rfl, ?_, (hbr.setCell (Nat.le_refl _) _).setCell (Nat.le_refl _) _⟩
      exact ⟨A0, c0, A1, c1, rfl, hJ0.2, hJ0.1, hJ1.2, hJ1.1⟩
end
end Go.Proofs.YtikdiepcfdimgaaGreatDoor.POw
namespace Go.Proofs.YtikdiepcfdimgaaGreatDoor.POw
open Go.RowKit Go.Proofs.YtikdiepcfdimgaaGreatDoorW.PrintWords Go.Proofs.YtikdiepcfdimgaaGreatDoorW.PrintLast
def Ev {α : Type} (F : Nat → Option α) (r : α) : Prop := ∃ k0, ∀ k, k0 ≤ k → F k = some r
theorem Ev.up {α : Type} {F : Nat → Option α} (h : ∀ k, LeO (F k) (F (k + 1))) {k : Nat} {r : α} (hk : F k = some r) : Ev F r := ⟨k, LeO_up h hk⟩
theorem Ev.const {α : Type} (r : α) : Ev (fun _ => some r) r := ⟨0, fun _ _ => rfl⟩
theorem Ev.bind {α β : Type} {F : Nat → Option α} {G : Nat → α → Option β} {a : α} {r : β} (h1 : Ev F a) (h2 : Ev (fun k => G k a) r) : Ev (fun k => (F k).bind (G k)) r := by
  obtain ⟨k1, h1⟩ := h1
  obtain ⟨k2, h2⟩ := h2
  refine ⟨k1 + k2, fun k hk => ?_⟩
  show (F k).bind (G k) = _
  rw [h1 k (by omega)]
  exact h2 k (by omega)
theorem Ev.succ {α : Type} {F : Nat → Option α} {r : α} (h : Ev (fun k => F (k + 1)) r) : Ev F r := by
  obtain ⟨k0, h⟩ := h
  exact ⟨k0 + 1, fun k hk => by obtain ⟨j, rfl⟩ : ∃ j, k = j + 1 := ⟨k - 1, by omega⟩; exact h j (by omega)⟩
theorem Ev.congr {α : Type} {F G : Nat → Option α} {r : α} (h : Ev F r) (e : ∀ k, G k = F k) : Ev G r := by
  obtain ⟨k0, h⟩ := h
  exact ⟨k0, fun k hk => (e k).trans (h k hk)⟩
theorem Ev.get {α : Type} {F : Nat → Option α} {r : α} (h : Ev F r) : ∃ k, F k = some r := by
  obtain ⟨k0, h⟩ := h
  exact ⟨k0, h k0 (Nat.le_refl _)⟩
theorem Ev.unique {α : Type} {F : Nat → Option α} {r r' : α} (h : Ev F r) (h' : Ev F r') : r = r' := by
  obtain ⟨k, h⟩ := h
  obtain ⟨k', h'⟩ := h'
  have := (h (k + k') (by omega)).symm.trans (h' (k + k') (by omega))
  exact Option.some.inj this
def exF : List Frc → Int → Int → Int × Int
  | [], N, D => (N, D)
  | f :: fs, N, D => exF fs (N * f.f1 + D * f.f0) (D * f.f1)
def Part (f : Frc) : Prop := 0 ≤ f.f0 ∧ f.f0 ≤ 1000000 ∧ 0 ≤ f.f1 ∧ f.f1 ≤ 1000000
theorem refExceeds_main (l : List Frc) (n : Int) (hn : 0 ≤ n ∧ n ≤ 1000000) (hp : ∀ f ∈ l, Part f) (hl : l.length ≤ 20000) : ∀ (g i : Nat) (x5 x6 : List Int), i + g = l.length → Dg 10000 x5 → Dg 10000 x6 → x5.length ≤ 1 + 3 * i → x6.length ≤ 1 + 3 * i →
    Ev (fun k => accountingref43_Exceeds.l0 k l n x5 x6 (i : Int)) (decide ((exF (l.drop i) (val 10000 x5) (val 10000 x6)).2 < n * (exF (l.drop i) (val 10000 x5) (val 10000 x6)).1))
  | 0, i, x5, x6, hg, h5, h6, l5, l6 => by
    obtain ⟨k, r, e1, e2, e3, e4⟩ := ref_times_ex x5 n hn h5 (by omega)
    obtain ⟨k', e5⟩ := ref_above_ex r x6 e3 h6 (by omega) (by omega)
    have E1 := Ev.up (F := fun k => accountingref43_times.f k x5 n) (fun k => accountingref43_times.mono x5 n k) e1
    have E2 := Ev.up (F := fun k => accountingref43_above.f k r x6) (fun k => accountingref43_above.mono r x6 k) e5
    have hd : l.drop i = [] := List.drop_eq_nil_of_le (by omega)
    rw [hd]
    simp only [exF]
    rw [e2] at E2
    obtain ⟨m1, E1⟩ := E1
    obtain ⟨m2, E2⟩ := E2
    refine ⟨m1 + m2 + 1, fun k hk => ?_⟩
    obtain ⟨j, rfl⟩ : ∃ j, k = j + 1 := ⟨k - 1, by omega⟩
    have F1 := E1 j (by omega)
    have F2 := E2 j (by omega)
    simp only at F1 F2
    show accountingref43_Exceeds.l0 (j + 1) l n x5 x6 (i : Int) = _
    rw [accountingref43_Exceeds.l0, if_neg (by omega), F1, Option.bind_some, F2, Option.bind_some]
    rfl
  | g + 1, i, x5, x6, hg, h5, h6, l5, l6 => by
    have hi : i < l.length := by omega
    obtain ⟨f, hf⟩ : ∃ f, l[i] = f := ⟨_, rfl⟩
    have hfp := hp f (hf ▸ List.getElem_mem hi)
    have hrd : rd_T42 l (i : Int) = f := by unfold rd_T42; simp [List.getD_eq_getElem?_getD, List.getElem?_eq_getElem hi, hf]
    obtain ⟨k1, r1, a1, a2, a3, a4⟩ := ref_times_ex x5 f.f1 ⟨hfp.2.2.1, hfp.2.2.2⟩ h5 (by omega)
    obtain ⟨k2, r2, b1, b2, b3, b4⟩ := ref_times_ex x6 f.f0 ⟨hfp.1, hfp.2.1⟩ h6 (by omega)
    obtain ⟨k3, r3, c1, c2, c3, c4⟩ := refPlus_ex r1 r2 a3 b3 (by omega) (by omega)
    obtain ⟨k4, r4, d1, d2, d3, d4⟩ := ref_times_ex x6 f.f1 ⟨hfp.2.2.1, hfp.2.2.2⟩ h6 (by omega)
    have E1 := Ev.up (F := fun k => accountingref43_times.f k x5 f.f1) (fun k => accountingref43_times.mono _ _ k) a1
    have E2 := Ev.up (F := fun k => accountingref43_times.f k x6 f.f0) (fun k => accountingref43_times.mono _ _ k) b1
    have E3 := Ev.up (F := fun k => accountingref43_plus.f k r1 r2) (fun k => accountingref43_plus.mono _ _ k) c1
    have E4 := Ev.up (F := fun k => accountingref43_times.f k x6 f.f1) (fun k => accountingref43_times.mono _ _ k) d1
    have E5 := refExceeds_main l n hn hp hl g (i + 1) r3 r4 (by omega) c3 d3 (by omega) (by omega)
    rw [List.drop_eq_getElem_cons hi, hf]
    simp only [exF]
    rw [c2, a2, b2, d2, Int.mul_comm f.f1, Int.mul_comm f.f0, Int.mul_comm f.f1 (val 10000 x6)] at E5
    obtain ⟨m1, E1⟩ := E1
    obtain ⟨m2, E2⟩ := E2
    obtain ⟨m3, E3⟩ := E3
    obtain ⟨m4, E4⟩ := E4
    obtain ⟨m5, E5⟩ := E5
    refine ⟨m1 + m2 + m3 + m4 + m5 + 1, fun k hk => ?_⟩
    obtain ⟨j, rfl⟩ : ∃ j, k = j + 1 := ⟨k - 1, by omega⟩
    have F1 := E1 j (by omega)
    have F2 := E2 j (by omega)
    have F3 := E3 j (by omega)
    have F4 := E4 j (by omega)
    have F5 := E5 j (by omega)
    simp only at F1 F2 F3 F4 F5
    show accountingref43_Exceeds.l0 (j + 1) l n x5 x6 (i : Int) = _
    rw [accountingref43_Exceeds.l0, if_pos (by omega), if_pos (by omega), hrd, wr_ (by omega), F1, Option.bind_some, F2, Option.bind_some, F3, Option.bind_some, F4, Option.bind_some, show (i : Int) + 1 = ((i + 1 : Nat) : Int) by omega]
    exact F5
theorem ref_Exceeds_ev (l : List Frc) (n : Int) (hn : 0 ≤ n ∧ n ≤ 1000000) (hp : ∀ f ∈ l, Part f) (hl : l.length ≤ 20000) : Ev (fun k => accountingref43_Exceeds.f k l n) (decide ((exF l 0 1).2 < n * (exF l 0 1).1)) := by
  have := refExceeds_main l n hn hp hl l.length 0 [0] [1] (by omega) (Dg_snoc (l := []) (by omega) (Dg_nil (by omega)) (by omega) (by omega)) (Dg_snoc (l := []) (by omega) (Dg_nil (by omega)) (by omega) (by omega)) (by simp) (by simp)
  have e0 : val 10000 [0] = 0 := by simp [val, V, dg]
  have e1 : val 10000 [1] = 1 := by simp [val, V, dg]
  rw [e0, e1, List.drop_zero] at this
  exact this
theorem nat_plus_ev {st : List Int × List Int} {f : Frc} (hp : Part f) (h1 : Dg 1000000000 st.1) (h2 : Dg 1000000000 st.2) {m : Nat} (l1 : st.1.length ≤ m) (l2 : st.2.length ≤ m) (hm : m ≤ 80000) :
    ∃ st' : List Int × List Int, Ev (fun k => owners_sum_plus.f k st.1 st.2 f.f0 f.f1) st' ∧ val 1000000000 st'.1 = val 1000000000 st.1 * f.f1 + val 1000000000 st.2 * f.f0 ∧ val 1000000000 st'.2 = val 1000000000 st.2 * f.f1 ∧ Dg 1000000000 st'.1 ∧ Dg 1000000000 st'.2 ∧ st'.1.length ≤ m + 2 ∧ st'.2.length ≤ m + 2 := by
  obtain ⟨k1, r1, a1, a2, a3, a4⟩ := nat_times_ex st.1 f.f1 ⟨hp.2.2.1, hp.2.2.2⟩ h1 (by omega)
  obtain ⟨k2, r2, b1, b2, b3, b4⟩ := nat_times_ex st.2 f.f0 ⟨hp.1, hp.2.1⟩ h2 (by omega)
  obtain ⟨k3, r3, c1, c2, c3, c4⟩ := natPlus_ex r1 r2 a3 b3 (by omega) (by omega)
  obtain ⟨k4, r4, d1, d2, d3, d4⟩ := nat_times_ex st.2 f.f1 ⟨hp.2.2.1, hp.2.2.2⟩ h2 (by omega)
  obtain ⟨m1, E1⟩ := Ev.up (F := fun k => owners_natural_times.f k st.1 f.f1) (fun k => owners_natural_times.mono _ _ k) a1
  obtain ⟨m2, E2⟩ := Ev.up (F := fun k => owners_natural_times.f k st.2 f.f0) (fun k => owners_natural_times.mono _ _ k) b1
  obtain ⟨m3, E3⟩ := Ev.up (F := fun k => owners_natural_plus.f k r1 r2) (fun k => owners_natural_plus.mono _ _ k) c1
  obtain ⟨m4, E4⟩ := Ev.up (F := fun k => owners_natural_times.f k st.2 f.f1) (fun k => owners_natural_times.mono _ _ k) d1
  refine ⟨(r3, r4), ⟨m1 + m2 + m3 + m4, fun k hk => ?_⟩, ?_, ?_, c3, d3, by simp only; omega, by simp only; omega⟩
  · have F1 := E1 k (by omega)
    have F2 := E2 k (by omega)
    have F3 := E3 k (by omega)
    have F4 := E4 k (by omega)
    simp only at F1 F2 F3 F4
    show owners_sum_plus.f k st.1 st.2 f.f0 f.f1 = _
    rw [owners_sum_plus.f, F1, Option.bind_some, F2, Option.bind_some, F3, Option.bind_some, F4, Option.bind_some]
  · simp only
    rw [c2, a2, b2, Int.mul_comm f.f1, Int.mul_comm f.f0]
  · simp only
    rw [d2, Int.mul_comm]
theorem sumR_ev (p : ByteArray → Bool) (sh : ByteArray → Frc) : ∀ (l : List ByteArray) (st : List Int × List Int) (m : Nat), (∀ o ∈ l, Part (sh o)) → Dg 1000000000 st.1 → Dg 1000000000 st.2 → st.1.length ≤ m → st.2.length ≤ m → m + 2 * l.length ≤ 80000 →
    ∃ st' : List Int × List Int, Ev (fun k => sumR k p sh l st) st' ∧ (val 1000000000 st'.1, val 1000000000 st'.2) = exF ((l.filter p).map sh) (val 1000000000 st.1) (val 1000000000 st.2) ∧ Dg 1000000000 st'.1 ∧ Dg 1000000000 st'.2 ∧ st'.1.length ≤ m + 2 * l.length ∧ st'.2.length ≤ m + 2 * l.length
  | [], st, m, _, h1, h2, l1, l2, _ => ⟨st, Ev.const _, rfl, h1, h2, by simpa using l1, by simpa using l2⟩
  | o :: l, st, m, hp, h1, h2, l1, l2, hm => by
    simp only [List.length_cons] at hm
    by_cases c : p o = true
    · obtain ⟨s1, e1, v1, v2, d1, d2, n1, n2⟩ := nat_plus_ev (hp o (List.mem_cons_self ..)) h1 h2 l1 l2 (by omega)
      obtain ⟨s2, e2, v3, d3, d4, n3, n4⟩ := sumR_ev p sh l s1 (m + 2) (fun o ho => hp o (List.mem_cons_of_mem _ ho)) d1 d2 n1 n2 (by omega)
      refine ⟨s2, ?_, ?_, d3, d4, by simp only [List.length_cons]; omega, by simp only [List.length_cons]; omega⟩
      · obtain ⟨m1, E1⟩ := e1
        obtain ⟨m2, E2⟩ := e2
        refine ⟨m1 + m2, fun k hk => ?_⟩
        show sumR k p sh (o :: l) st = _
        have F1 := E1 k (by omega)
        simp only at F1
        rw [sumR, if_pos c, F1, Option.bind_some]
        exact E2 k (by omega)
      · rw [v3, v1, v2, List.filter_cons_of_pos c]; rfl
    · obtain ⟨s2, e2, v3, d3, d4, n3, n4⟩ := sumR_ev p sh l st m (fun o ho => hp o (List.mem_cons_of_mem _ ho)) h1 h2 l1 l2 (by omega)
      refine ⟨s2, ?_, ?_, d3, d4, by simp only [List.length_cons]; omega, by simp only [List.length_cons]; omega⟩
      · refine Ev.congr e2 (fun k => ?_)
        rw [sumR, if_neg c]
      · rw [v3, List.filter_cons_of_neg c]
theorem exceeds_ev {st : List Int × List Int} (h1 : Dg 1000000000 st.1) (h2 : Dg 1000000000 st.2) (l1 : st.1.length ≤ 80000) (l2 : st.2.length ≤ 80000) (a b : Int) (ha : 0 ≤ a ∧ a ≤ 1000000) (hb : 0 ≤ b ∧ b ≤ 1000000) :
    Ev (fun k => owners_sum_exceeds.f k st.1 st.2 a b) (decide (a * val 1000000000 st.2 < b * val 1000000000 st.1)) := by
  obtain ⟨k1, r1, a1, a2, a3, a4⟩ := nat_times_ex st.1 b hb h1 (by omega)
  obtain ⟨k2, r2, b1, b2, b3, b4⟩ := nat_times_ex st.2 a ha h2 (by omega)
  obtain ⟨k3, c1⟩ := nat_greater_ex r1 r2 a3 b3 (by omega) (by omega)
  rw [a2, b2] at c1
  obtain ⟨m1, E1⟩ := Ev.up (F := fun k => owners_natural_times.f k st.1 b) (fun k => owners_natural_times.mono _ _ k) a1
  obtain ⟨m2, E2⟩ := Ev.up (F := fun k => owners_natural_times.f k st.2 a) (fun k => owners_natural_times.mono _ _ k) b1
  obtain ⟨m3, E3⟩ := Ev.up (F := fun k => owners_natural_greater.f k r1 r2) (fun k => owners_natural_greater.mono _ _ k) c1
  refine ⟨m1 + m2 + m3, fun k hk => ?_⟩
  have F1 := E1 k (by omega)
  have F2 := E2 k (by omega)
  have F3 := E3 k (by omega)
  simp only at F1 F2 F3
  show owners_sum_exceeds.f k st.1 st.2 a b = _
  rw [owners_sum_exceeds.f, F1, Option.bind_some, F2, Option.bind_some, F3, Option.bind_some]
theorem sumF_ev (p : ByteArray → Bool) (s : Gr) (x : ByteArray) (day : Int) (hp : ∀ o ∈ s.owL x, Part (shareL (s.shL (o, x)) day)) (hl : (s.owL x).length ≤ 30000) (a b : Int) (ha : 0 ≤ a ∧ a ≤ 1000000) (hb : 0 ≤ b ∧ b ≤ 1000000) :
    ∃ st : List Int × List Int, Ev (fun k => sumF k p s x day) st ∧ Ev (fun k => owners_sum_exceeds.f k st.1 st.2 a b)
      (decide (a * (exF (((s.owL x).filter p).map fun o => shareL (s.shL (o, x)) day) 0 1).2 < b * (exF (((s.owL x).filter p).map fun o => shareL (s.shL (o, x)) day) 0 1).1)) := by
  obtain ⟨st, e1, v, d1, d2, n1, n2⟩ := sumR_ev p (fun o => shareL (s.shL (o, x)) day) (s.owL x) ([0], [1]) 1 hp (Dg_snoc (l := []) (by omega) (Dg_nil (by omega)) (by omega) (by omega)) (Dg_snoc (l := []) (by omega) (Dg_nil (by omega)) (by omega) (by omega)) (by simp) (by simp) (by omega)
  have e0 : val 1000000000 [0] = 0 := by simp [val, V, dg]
  have e2 : val 1000000000 [1] = 1 := by simp [val, V, dg]
  simp only at v
  rw [e0, e2] at v
  refine ⟨st, e1, ?_⟩
  have := exceeds_ev d1 d2 (by omega) (by omega) a b ha hb
  rw [← v]
  exact this
end Go.Proofs.YtikdiepcfdimgaaGreatDoor.POw
namespace Go.Proofs.YtikdiepcfdimgaaGreatDoor.POw
open Go.RowKit Go.Lib Go.Proofs.YtikdiepcfdimgaaGreatDoorW.PrintWords Go.Proofs.YtikdiepcfdimgaaGreatDoorW.PrintLast
set_option maxRecDepth 100000 in
set_option maxHeartbeats 8000000 in
theorem go_put (l : List ByteArray) (s : ByteArray) (v : Value) (B : Nat) (w : World) (hown : w.ownsRow B 9 1 v l.length (strs l)) (hB : B ≤ w.heap.size) (hs : l.Pairwise (fun a b => sLt a b = true)) (hl : l.length ≤ 9000) :
    Calls Tryz.prog 42 #[v, .string s] w fun e w' => ∃ v', e = .returned v' ∧ w'.ownsRow B 9 1 v' (withG sLt l s).length (strs (withG sLt l s)) ∧ Below w.heap.size w w' := by
  obtain ⟨A, c, rfl, hlc, hnil, hcm⟩ := own_form hown
  have hpos := fun i hi => pos_at sO s hs i hi
  obtain ⟨P, hP⟩ : ∃ P, posG sLt l s = P := ⟨_, rfl⟩
  have hPl : P ≤ l.length := by rw [← hP]; exact posG_le _ _
  rw [hP] at hpos
  have HPOS := Lib.hid hpos
  have HW := Lib.hid (show withG sLt l s = if l[P]? = some s then l else l.take P ++ s :: l.drop P by unfold withG insG; rw [hP])
  have HOWN := Lib.hid hown
  obtain ⟨L, hL⟩ : ∃ L, withG sLt l s = L := ⟨_, rfl⟩
  rw [hL] at HW ⊢
  clear hpos hP hL hs
  have HAT := Lib.hid (show ∀ i (h : i < l.length), ∃ g, A = some ⟨g, 0, none⟩ ∧ w.cell? ⟨g, i, none⟩ = some (.string l[i]) from fun i hi => by obtain ⟨g, h1, _, h2⟩ := own_str_at hown i hi; exact ⟨g, h1, h2⟩)
  clear hown
  go_enter Tryz.func42, Tryz.ntmps42
  go_wp2
  go_loopg [5] P (fun n t5 wr => ∃ k : Nat, n = P - k ∧ k ≤ P ∧ t5 = .int .i64 k ∧ wr = w)
  case atStart => exact ⟨0, rfl, Nat.zero_le _, rfl, rfl⟩
  case round =>
    obtain ⟨k, rfl, hk, rfl, rfl⟩ := hrel
    by_cases hkP : k < P
    · have hkl : k < l.length := by omega
      obtain ⟨g, hAg, hc⟩ := HAT.out k hkl
      subst hAg
      have hlt := HPOS.out k hkl
      rw [decide_eq_true hkP] at hlt
      have hki : (k : Int) < (l.length : Int) := by omega
      rw [sLt_eq] at hlt
      go_wp2
      go_roundg (P - (k + 1))
      case measure => omega
      case rel => exact ⟨k + 1, rfl, by omega, by go_num, rfl⟩
    · have hkP2 : k = P := by omega
      subst hkP2
      clear hkP
      rename World => w
      by_cases hsame : l[k]? = some s
      · have hlt : k < l.length := (List.getElem?_eq_some_iff.1 hsame).1
        obtain ⟨g, hAg, hc⟩ := HAT.out k hlt
        have hno := HPOS.out k hlt
        rw [(List.getElem?_eq_some_iff.1 hsame).2] at hc hno
        rw [decide_eq_false (Nat.lt_irrefl _)] at hno
        rw [sLt_eq] at hno
        have hPi : (k : Int) < (l.length : Int) := by omega
        have HL := Lib.hid (show L = l by rw [HW.out, if_pos hsame])
        subst hAg
        clear hsame
        go_wp2
        go_ret
        exact ⟨_, rfl, by rw [HL.out]; exact HOWN.out, Below.refl _ _⟩
      · have HL := Lib.hid (show L = l.take k ++ s :: l.drop k by rw [HW.out, if_neg hsame])
        obtain ⟨i0, hi0, hi1, hi2, hi3⟩ := info_parts info_str
        have hcl : l.length ≤ c := hlc
        have hct := cut_to (P := Tryz.prog) 37 9 .i64 Tryz.underlying37 hi0 A l.length c (k : Int) (by omega) (by omega) hcl
        have hcd := cut_from (P := Tryz.prog) 37 9 .i64 Tryz.underlying37 hi0 1 hi2 A l.length c (k : Int) (by omega) (by omega)
        rw [Int.toNat_natCast] at hct hcd
        rw [Nat.mul_one] at hcd
        obtain ⟨D, hD⟩ : ∃ D, (if c = k then A else A.map (·.add k)) = D := ⟨_, rfl⟩
        rw [hD] at hcd
        have TAKE := Lib.hid (show ∀ W, Below w.heap.size w W → ∀ j u, (strs (l.take k))[j]? = some u → ∃ ad, A = some ad ∧ W.cell? (ad.add j) = some u from fun W hW => by
          have := own_news_take (W := W) HOWN.out hPl (fun g hg => hW.block g (own_lt HOWN.out g hg))
          rw [Nat.mul_one] at this
          unfold strs at this ⊢
          rw [← List.map_take] at this
          exact this)
        have DROP := Lib.hid (show ∀ W, Below w.heap.size w W → ∀ j u, (strs (l.drop k))[j]? = some u → ∃ ad, D = some ad ∧ W.cell? (ad.add j) = some u from fun W hW => by
          have := own_news_drop (W := W) HOWN.out hPl (fun g hg => hW.block g (own_lt HOWN.out g hg))
          unfold strs at this ⊢
          rw [Nat.mul_one, ← List.map_drop, hD] at this
          exact this)
        have HEND := Lib.hid (show ∀ (v44 : Value) (w44 : World), w44.ownsRow w.heap.size 9 1 v44 (k + 1 + (l.length - k)) (strs (l.take k) ++ [.string s] ++ strs (l.drop k)) → w44.ownsRow B 9 1 v44 L.length (strs L) from fun v44 w44 h => by
          rw [HL.out]
          have e1 : (l.take k ++ s :: l.drop k).length = k + 1 + (l.length - k) := by simp; omega
          have e2 : strs (l.take k ++ s :: l.drop k) = strs (l.take k) ++ [.string s] ++ strs (l.drop k) := by simp [strs]
          rw [e1, e2]
          exact own_lower_ h hB)
        have hB_ : Below w.heap.size w w.drew := (Below.refl _ w).drew
        by_cases hlt : k < l.length
        · obtain ⟨g, hAg, hc⟩ := HAT.out k hlt
          have hno := HPOS.out k hlt
          rw [decide_eq_false (Nat.lt_irrefl _)] at hno
          rw [sLt_eq] at hno
          have hPi : (k : Int) < (l.length : Int) := by omega
          have hne : l[k] ≠ s := fun e => hsame (by rw [List.getElem?_eq_getElem hlt, e])
          have hneb := str_bool hne
          have HAG := Lib.hid hAg
          subst hAg
          clear hne hsame
          go_upto_region 6 with fail
          refine start_ (n := 13) (S := fun w' => w'.heap.size = w'.heap.size) (ds := []) #[false, false, false, false, false, false, false, false, false, false, false, false, false] (by kernel_rfl) rfl rfl (rfl) (fun hHeld => ?_)
          refine pure_ (i := 1) (N := some 34) (v := ?_) (a' := ?_) #[false, true, false, false, false, false, false, false, false, false, false, false, false] rfl rfl (by kernel_rfl) (fun _ _ _ h => h) (Or.inl ⟨by rfl, ?_⟩) ?_ ?_
          rotate_left
          · intro w'
            go_simp
            with_reducible rfl
          rotate_left
          · simp only [Act.put, pkA, pkZ, pkS, i64_w, i32_w]
            rfl
          refine pure_ (i := 2) (N := some 35) (v := ?_) (a' := ?_) #[false, true, true, false, false, false, false, false, false, false, false, false, false] rfl rfl (by kernel_rfl) (fun _ _ _ h => h) (Or.inl ⟨by rfl, ?_⟩) ?_ ?_
          rotate_left
          · intro w'
            go_simp
            with_reducible rfl
          rotate_left
          · simp only [Act.put, pkA, pkZ, pkS, i64_w, i32_w]
            rfl
          refine pure_ (i := 3) (N := some 36) (v := ?_) (a' := ?_) #[false, true, true, true, false, false, false, false, false, false, false, false, false] rfl rfl (by kernel_rfl) (fun _ _ _ h => h) (Or.inl ⟨by rfl, ?_⟩) ?_ ?_
          rotate_left
          · intro w'
            go_simp
            with_reducible rfl
          rotate_left
          · simp only [Act.put, pkA, pkZ, pkS, i64_w, i32_w]
            rfl
          refine pure_ (i := 5) (N := some 38) (v := ?_) (a' := ?_) #[false, true, true, true, false, true, false, false, false, false, false, false, false] rfl rfl (by kernel_rfl) (fun _ _ _ h => h) (Or.inl ⟨by rfl, ?_⟩) ?_ ?_
          rotate_left
          · intro w'
            go_simp
            with_reducible rfl
          rotate_left
          · simp only [Act.put, pkA, pkZ, pkS, i64_w, i32_w]
            rfl
          refine pure_ (i := 8) (N := some 41) (v := ?_) (a' := ?_) #[false, true, true, true, false, true, false, false, true, false, false, false, false] rfl rfl (by kernel_rfl) (fun _ _ _ h => h) (Or.inl ⟨by rfl, ?_⟩) ?_ ?_
          rotate_left
          · intro w'
            go_simp
            with_reducible rfl
          rotate_left
          · simp only [Act.put, pkA, pkZ, pkS, i64_w, i32_w]
            rfl
          refine pure_ (i := 9) (N := some 42) (v := ?_) (a' := ?_) #[false, true, true, true, false, true, false, false, true, true, false, false, false] rfl rfl (by kernel_rfl) (fun _ _ _ h => h) (Or.inl ⟨by rfl, ?_⟩) ?_ ?_
          rotate_left
          · intro w'
            go_simp
            with_reducible rfl
          rotate_left
          · simp only [Act.put, pkA, pkZ, pkS, i64_w, i32_w]
            rfl
          refine pure_ (i := 10) (N := some 43) (v := ?_) (a' := ?_) #[false, true, true, true, false, true, false, false, true, true, true, false, false] rfl rfl (by kernel_rfl) (fun _ _ _ h => h) (Or.inl ⟨by rfl, ?_⟩) ?_ ?_
          rotate_left
          · intro w'
            go_simp
            with_reducible rfl
          rotate_left
          · simp only [Act.put, pkA, pkZ, pkS, i64_w, i32_w]
            rfl
          refine join_ (σ := Nat × Value × Nat) 3 #[true, true, true, true, true, true, true, false, true, true, true, false, false] (fun q => [(33, .slice (some ⟨q.1, 0, none⟩) 0 0), (37, q.2.1), (39, .slice (some ⟨q.2.2, 0, none⟩) 1 1)]) (fun q w' => Below w.heap.size w w' ∧ w'.ownsRow w.heap.size 9 1 q.2.1 k (strs (l.take k)) ∧ w'.heap[q.2.2]? = some (.cells #[.string s] 9 (0, 0)) ∧ w.heap.size ≤ q.2.2 ∧ ¬ (some q.2.2 = q.2.1.ownBlock)) ?_ ?_
          rotate_left
          · intro hCont
            refine two_ (i := 0) (j := 6) (Ni := some 33) (Nj := some 39) #[true, true, true, true, false, true, false, false, true, true, true, false, false] #[false, true, true, true, false, true, true, false, true, true, true, false, false] rfl rfl rfl rfl (by kernel_rfl) (by decide) (by decide) (fun K hK => ?_) (fun K hK => ?_)
            · skip
              refine value_ (w1 := ?_) (v := ?_) (by rfl) rfl ?_ ?_
              rotate_left 2
              · go_simp
                constructor
                · rfl
                · rfl
              have hB0_ := hB_.alloc hB_.size (.cells #[] 9)
              have own0 := empty_row (size := 1) (e := 9) (g := w.heap.size) (w := w.drew.alloc (.cells #[] 9)) (base := w.heap.size) (by omega) (by have h_ := (Go.MapKept.heap_alloc w.drew (.cells #[] 9)).1; simpa using h_)
              refine hK.out _ _ (rfl) (fun hHeld => ?_)
              clear hK K
              refine norm_ (a' := ?_) ?_ ?_
              rotate_left
              · show Act.put _ (some 33) _ = _
                simp only [Act.put, pkA, pkZ, pkS, i64_w, i32_w]
                rfl
              refine two_ (i := 4) (j := 6) (Ni := some 37) (Nj := some 39) #[true, true, true, true, true, true, false, false, true, true, true, false, false] #[true, true, true, true, false, true, true, false, true, true, true, false, false] rfl rfl rfl rfl (by kernel_rfl) (by decide) (by decide) (fun K hK => ?_) (fun K hK => ?_)
              · skip
                refine step_append_any (by rfl) (.tmp 33) (.tmp 36) 37 (by rfl) w.heap.size 9 i0 _ 1 16 Tryz.underlying37 hi0 hi1 hi2 hi3 rfl (by omega) _ 0 [] (by rfl) own0 _ k _ (strs (l.take k)) (by rfl) (by simp [strs, List.length_take, Nat.min_eq_left hPl]) (fun j u hu => TAKE.out _ hB0_ j u hu) (strs_one _) (by unfold maxLen; omega) (by omega) hB0_.size ?_
                intro v37 w37 own37 gr37 fr37
                have hB0_4_ := pw_below_grown hB0_ _ hB0_.size gr37 (own_base own0)
                rw [Nat.zero_add, List.nil_append] at own37
                refine hK.out _ _ (rfl) (fun hHeld => ?_)
                clear hK K
                refine norm_ (a' := ?_) ?_ ?_
                rotate_left
                · show Act.put _ (some 37) _ = _
                  simp only [Act.put, pkA, pkZ, pkS, i64_w, i32_w]
                  rfl
                refine one_ (i := 6) (N := some 39) #[true, true, true, true, true, true, true, false, true, true, true, false, false] rfl rfl (by kernel_rfl) (by decide) (fun K hK => ?_)
                refine value_ (w1 := ?_) (v := ?_) (by rfl) rfl ?_ ?_
                rotate_left 2
                · go_simp
                  constructor
                  · rfl
                  · rfl
                have hB0_4_6_ := hB0_4_.alloc hB0_4_.size (.cells #[.string s] 9)
                have hg39 := (Go.MapKept.heap_alloc w37 (.cells #[.string s] 9)).1
                refine hK.out _ _ (rfl) (fun hHeld => ?_)
                clear hK K
                refine norm_ (a' := ?_) ?_ ?_
                rotate_left
                · show Act.put _ (some 39) _ = _
                  simp only [Act.put, pkA, pkZ, pkS, i64_w, i32_w]
                  rfl
                exact norm_ (by simp only [putAll, Act.put, pkA, pkZ, pkS]) (hCont (w.heap.size, v37, w37.heap.size) _ ⟨hB0_4_6_, own37.alloc _, hg39, hB0_4_.size, fun he => absurd (own_lt own37 _ (Eq.symm he)) (Nat.lt_irrefl _)⟩)
              · skip
                refine value_ (w1 := ?_) (v := ?_) (by rfl) rfl ?_ ?_
                rotate_left 2
                · go_simp
                  constructor
                  · rfl
                  · rfl
                have hB0_6_ := hB0_.alloc hB0_.size (.cells #[.string s] 9)
                have hg39 := (Go.MapKept.heap_alloc (w.drew.alloc (.cells #[] 9)) (.cells #[.string s] 9)).1
                refine hK.out _ _ (rfl) (fun hHeld => ?_)
                clear hK K
                refine norm_ (a' := ?_) ?_ ?_
                rotate_left
                · show Act.put _ (some 39) _ = _
                  simp only [Act.put, pkA, pkZ, pkS, i64_w, i32_w]
                  rfl
                refine one_ (i := 4) (N := some 37) #[true, true, true, true, true, true, true, false, true, true, true, false, false] rfl rfl (by kernel_rfl) (by decide) (fun K hK => ?_)
                refine step_append_any (by rfl) (.tmp 33) (.tmp 36) 37 (by rfl) w.heap.size 9 i0 _ 1 16 Tryz.underlying37 hi0 hi1 hi2 hi3 rfl (by omega) _ 0 [] (by rfl) (own0.alloc (.cells #[.string s] 9)) _ k _ (strs (l.take k)) (by rfl) (by simp [strs, List.length_take, Nat.min_eq_left hPl]) (fun j u hu => TAKE.out _ hB0_6_ j u hu) (strs_one _) (by unfold maxLen; omega) (by omega) hB0_6_.size ?_
                intro v37 w37 own37 gr37 fr37
                have hB0_6_4_ := pw_below_grown hB0_6_ _ hB0_6_.size gr37 (own_base (own0.alloc (.cells #[.string s] 9)))
                rw [Nat.zero_add, List.nil_append] at own37
                refine hK.out _ _ (rfl) (fun hHeld => ?_)
                clear hK K
                refine norm_ (a' := ?_) ?_ ?_
                rotate_left
                · show Act.put _ (some 37) _ = _
                  simp only [Act.put, pkA, pkZ, pkS, i64_w, i32_w]
                  rfl
                exact norm_ (by simp only [putAll, Act.put, pkA, pkZ, pkS]) (hCont (w.heap.size, v37, w.heap.size + 1) _ ⟨hB0_6_4_, own37, (gr37.block (w.heap.size + 1) (by rw [show ∀ W : World, W.drew.heap.size = W.heap.size from fun _ => rfl, World.size_alloc, World.size_alloc]; omega) (fun he => by have e : w.heap.size + 1 = w.heap.size := Option.some.inj he; omega)).trans (two_new w (.cells #[] 9) (.cells #[.string s] 9)).2.1, Nat.le_succ _, fun he => fr37.elim (fun h => by have e : w.heap.size + 1 = w.heap.size := Option.some.inj (he.trans h); omega) (fun h => by have e : w.heap.size + 1 = ((w.alloc (.cells #[] 9)).alloc (.cells #[.string s] 9)).heap.size := Option.some.inj (he.trans h); rw [World.size_alloc, World.size_alloc] at e; omega)⟩)
            · skip
              refine value_ (w1 := ?_) (v := ?_) (by rfl) rfl ?_ ?_
              rotate_left 2
              · go_simp
                constructor
                · rfl
                · rfl
              have hB6_ := hB_.alloc hB_.size (.cells #[.string s] 9)
              have hg39 := (Go.MapKept.heap_alloc w.drew (.cells #[.string s] 9)).1
              refine hK.out _ _ (rfl) (fun hHeld => ?_)
              clear hK K
              refine norm_ (a' := ?_) ?_ ?_
              rotate_left
              · show Act.put _ (some 39) _ = _
                simp only [Act.put, pkA, pkZ, pkS, i64_w, i32_w]
                rfl
              refine one_ (i := 0) (N := some 33) #[true, true, true, true, false, true, true, false, true, true, true, false, false] rfl rfl (by kernel_rfl) (by decide) (fun K hK => ?_)
              refine value_ (w1 := ?_) (v := ?_) (by rfl) rfl ?_ ?_
              rotate_left 2
              · go_simp
                constructor
                · rfl
                · rfl
              have hB6_0_ := hB6_.alloc hB6_.size (.cells #[] 9)
              have own0 := empty_row (size := 1) (e := 9) (g := w.heap.size + 1) (w := (w.drew.alloc (.cells #[.string s] 9)).alloc (.cells #[] 9)) (base := w.heap.size) (by omega) (by have h_ := (Go.MapKept.heap_alloc (w.drew.alloc (.cells #[.string s] 9)) (.cells #[] 9)).1; simpa using h_)
              refine hK.out _ _ (rfl) (fun hHeld => ?_)
              clear hK K
              refine norm_ (a' := ?_) ?_ ?_
              rotate_left
              · show Act.put _ (some 33) _ = _
                simp only [Act.put, pkA, pkZ, pkS, i64_w, i32_w]
                rfl
              refine one_ (i := 4) (N := some 37) #[true, true, true, true, true, true, true, false, true, true, true, false, false] rfl rfl (by kernel_rfl) (by decide) (fun K hK => ?_)
              refine step_append_any (by rfl) (.tmp 33) (.tmp 36) 37 (by rfl) w.heap.size 9 i0 _ 1 16 Tryz.underlying37 hi0 hi1 hi2 hi3 rfl (by omega) _ 0 [] (by rfl) own0 _ k _ (strs (l.take k)) (by rfl) (by simp [strs, List.length_take, Nat.min_eq_left hPl]) (fun j u hu => TAKE.out _ hB6_0_ j u hu) (strs_one _) (by unfold maxLen; omega) (by omega) hB6_0_.size ?_
              intro v37 w37 own37 gr37 fr37
              have hB6_0_4_ := pw_below_grown hB6_0_ _ hB6_0_.size gr37 (own_base own0)
              rw [Nat.zero_add, List.nil_append] at own37
              refine hK.out _ _ (rfl) (fun hHeld => ?_)
              clear hK K
              refine norm_ (a' := ?_) ?_ ?_
              rotate_left
              · show Act.put _ (some 37) _ = _
                simp only [Act.put, pkA, pkZ, pkS, i64_w, i32_w]
                rfl
              exact norm_ (by simp only [putAll, Act.put, pkA, pkZ, pkS]) (hCont (w.heap.size + 1, v37, w.heap.size) _ ⟨hB6_0_4_, own37, (gr37.block w.heap.size (by rw [show ∀ W : World, W.drew.heap.size = W.heap.size from fun _ => rfl, World.size_alloc, World.size_alloc]; omega) (fun he => by have e : w.heap.size = w.heap.size + 1 := Option.some.inj he; omega)).trans (two_new w (.cells #[.string s] 9) (.cells #[] 9)).1, Nat.le_refl _, fun he => fr37.elim (fun h => by have e : w.heap.size = w.heap.size + 1 := Option.some.inj (he.trans h); omega) (fun h => by have e : w.heap.size = ((w.alloc (.cells #[.string s] 9)).alloc (.cells #[] 9)).heap.size := Option.some.inj (he.trans h); rw [World.size_alloc, World.size_alloc] at e; omega)⟩)
          rintro ⟨g33, v37, g39⟩ w1 ⟨hB1, own1, hg39, hz39, hne39⟩
          have hHeld : w1.heap.size = w1.heap.size := rfl
          refine norm_ (a' := ?_) ?_ ?_
          rotate_left
          · simp only [putAll, Act.put, pkA, pkZ, pkS]
            rfl
          refine one_ (i := 7) (N := some 40) #[true, true, true, true, true, true, true, true, true, true, true, false, false] rfl rfl (by kernel_rfl) (by decide) (fun K hK => ?_)
          refine step_append_any (by rfl) (.tmp 37) (.tmp 39) 37 (by rfl) w.heap.size 9 i0 _ 1 16 Tryz.underlying37 hi0 hi1 hi2 hi3 rfl (by omega) v37 k (strs (l.take k)) (by rfl) own1 _ 1 _ [.string s] (by rfl) rfl (fun j u hu => ⟨_, rfl, World.news_of_block hg39 j u hu⟩) (by intro u hu; simp at hu; subst hu; rfl) (by unfold maxLen; omega) (by omega) hB1.size ?_
          intro v40 w40 own40 gr40 fr40
          have hB2 := pw_below_grown hB1 _ hB1.size gr40 (own_base own1)
          refine hK.out _ _ (rfl) (fun hHeld => ?_)
          clear hK K
          refine norm_ (a' := ?_) ?_ ?_
          rotate_left
          · show Act.put _ (some 40) _ = _
            simp only [Act.put, pkA, pkZ, pkS, i64_w, i32_w]
            rfl
          refine one_ (i := 11) (N := some 44) #[true, true, true, true, true, true, true, true, true, true, true, true, false] rfl rfl (by kernel_rfl) (by decide) (fun K hK => ?_)
          refine step_append_any (by rfl) (.tmp 40) (.tmp 43) 37 (by rfl) w.heap.size 9 i0 _ 1 16 Tryz.underlying37 hi0 hi1 hi2 hi3 rfl (by omega) v40 (k + 1) (strs (l.take k) ++ [.string s]) (by rfl) own40 _ (l.length - k) _ (strs (l.drop k)) (by rfl) (by simp [strs]) (fun j u hu => DROP.out _ hB2 j u hu) (strs_one _) (by unfold maxLen; omega) (by omega) hB2.size ?_
          intro v44 w44 own44 gr44 fr44
          have hB3 := pw_below_grown hB2 _ hB2.size gr44 (own_base own40)
          refine hK.out _ _ (rfl) (fun hHeld => ?_)
          clear hK K
          refine norm_ (a' := ?_) ?_ ?_
          rotate_left
          · show Act.put _ (some 44) _ = _
            simp only [Act.put, pkA, pkZ, pkS, i64_w, i32_w]
            rfl
          refine pure_ (i := 12) (N := some 4) (v := ?_) (a' := ?_) #[true, true, true, true, true, true, true, true, true, true, true, true, true] rfl rfl (by kernel_rfl) (fun _ _ _ h => h) (Or.inl ⟨by rfl, ?_⟩) ?_ ?_
          rotate_left
          · intro w'
            go_simp
            with_reducible rfl
          rotate_left
          · simp only [Act.put, pkA, pkZ, pkS, i64_w, i32_w]
            rfl
          refine done_ (by kernel_rfl) ?_
          go_wp2
          go_ret
          exact ⟨_, rfl, HEND.out _ _ own44, hB3⟩
        · have hke : k = l.length := by omega
          have hPn : ¬ ((k : Int) < (l.length : Int)) := by omega
          have HKE := Lib.hid hke
          clear hsame hlt hke
          go_upto_region 6 with fail
          refine start_ (n := 13) (S := fun w' => w'.heap.size = w'.heap.size) (ds := []) #[false, false, false, false, false, false, false, false, false, false, false, false, false] (by kernel_rfl) rfl rfl (rfl) (fun hHeld => ?_)
          refine pure_ (i := 1) (N := some 34) (v := ?_) (a' := ?_) #[false, true, false, false, false, false, false, false, false, false, false, false, false] rfl rfl (by kernel_rfl) (fun _ _ _ h => h) (Or.inl ⟨by rfl, ?_⟩) ?_ ?_
          rotate_left
          · intro w'
            go_simp
            with_reducible rfl
          rotate_left
          · simp only [Act.put, pkA, pkZ, pkS, i64_w, i32_w]
            rfl
          refine pure_ (i := 2) (N := some 35) (v := ?_) (a' := ?_) #[false, true, true, false, false, false, false, false, false, false, false, false, false] rfl rfl (by kernel_rfl) (fun _ _ _ h => h) (Or.inl ⟨by rfl, ?_⟩) ?_ ?_
          rotate_left
          · intro w'
            go_simp
            with_reducible rfl
          rotate_left
          · simp only [Act.put, pkA, pkZ, pkS, i64_w, i32_w]
            rfl
          refine pure_ (i := 3) (N := some 36) (v := ?_) (a' := ?_) #[false, true, true, true, false, false, false, false, false, false, false, false, false] rfl rfl (by kernel_rfl) (fun _ _ _ h => h) (Or.inl ⟨by rfl, ?_⟩) ?_ ?_
          rotate_left
          · intro w'
            go_simp
            with_reducible rfl
          rotate_left
          · simp only [Act.put, pkA, pkZ, pkS, i64_w, i32_w]
            rfl
          refine pure_ (i := 5) (N := some 38) (v := ?_) (a' := ?_) #[false, true, true, true, false, true, false, false, false, false, false, false, false] rfl rfl (by kernel_rfl) (fun _ _ _ h => h) (Or.inl ⟨by rfl, ?_⟩) ?_ ?_
          rotate_left
          · intro w'
            go_simp
            with_reducible rfl
          rotate_left
          · simp only [Act.put, pkA, pkZ, pkS, i64_w, i32_w]
            rfl
          refine pure_ (i := 8) (N := some 41) (v := ?_) (a' := ?_) #[false, true, true, true, false, true, false, false, true, false, false, false, false] rfl rfl (by kernel_rfl) (fun _ _ _ h => h) (Or.inl ⟨by rfl, ?_⟩) ?_ ?_
          rotate_left
          · intro w'
            go_simp
            with_reducible rfl
          rotate_left
          · simp only [Act.put, pkA, pkZ, pkS, i64_w, i32_w]
            rfl
          refine pure_ (i := 9) (N := some 42) (v := ?_) (a' := ?_) #[false, true, true, true, false, true, false, false, true, true, false, false, false] rfl rfl (by kernel_rfl) (fun _ _ _ h => h) (Or.inl ⟨by rfl, ?_⟩) ?_ ?_
          rotate_left
          · intro w'
            go_simp
            with_reducible rfl
          rotate_left
          · simp only [Act.put, pkA, pkZ, pkS, i64_w, i32_w]
            rfl
          refine pure_ (i := 10) (N := some 43) (v := ?_) (a' := ?_) #[false, true, true, true, false, true, false, false, true, true, true, false, false] rfl rfl (by kernel_rfl) (fun _ _ _ h => h) (Or.inl ⟨by rfl, ?_⟩) ?_ ?_
          rotate_left
          · intro w'
            go_simp
            with_reducible rfl
          rotate_left
          · simp only [Act.put, pkA, pkZ, pkS, i64_w, i32_w]
            rfl
          refine join_ (σ := Nat × Value × Nat) 3 #[true, true, true, true, true, true, true, false, true, true, true, false, false] (fun q => [(33, .slice (some ⟨q.1, 0, none⟩) 0 0), (37, q.2.1), (39, .slice (some ⟨q.2.2, 0, none⟩) 1 1)]) (fun q w' => Below w.heap.size w w' ∧ w'.ownsRow w.heap.size 9 1 q.2.1 k (strs (l.take k)) ∧ w'.heap[q.2.2]? = some (.cells #[.string s] 9 (0, 0)) ∧ w.heap.size ≤ q.2.2 ∧ ¬ (some q.2.2 = q.2.1.ownBlock)) ?_ ?_
          rotate_left
          · intro hCont
            refine two_ (i := 0) (j := 6) (Ni := some 33) (Nj := some 39) #[true, true, true, true, false, true, false, false, true, true, true, false, false] #[false, true, true, true, false, true, true, false, true, true, true, false, false] rfl rfl rfl rfl (by kernel_rfl) (by decide) (by decide) (fun K hK => ?_) (fun K hK => ?_)
            · skip
              refine value_ (w1 := ?_) (v := ?_) (by rfl) rfl ?_ ?_
              rotate_left 2
              · go_simp
                constructor
                · rfl
                · rfl
              have hB0_ := hB_.alloc hB_.size (.cells #[] 9)
              have own0 := empty_row (size := 1) (e := 9) (g := w.heap.size) (w := w.drew.alloc (.cells #[] 9)) (base := w.heap.size) (by omega) (by have h_ := (Go.MapKept.heap_alloc w.drew (.cells #[] 9)).1; simpa using h_)
              refine hK.out _ _ (rfl) (fun hHeld => ?_)
              clear hK K
              refine norm_ (a' := ?_) ?_ ?_
              rotate_left
              · show Act.put _ (some 33) _ = _
                simp only [Act.put, pkA, pkZ, pkS, i64_w, i32_w]
                rfl
              refine two_ (i := 4) (j := 6) (Ni := some 37) (Nj := some 39) #[true, true, true, true, true, true, false, false, true, true, true, false, false] #[true, true, true, true, false, true, true, false, true, true, true, false, false] rfl rfl rfl rfl (by kernel_rfl) (by decide) (by decide) (fun K hK => ?_) (fun K hK => ?_)
              · skip
                refine step_append_any (by rfl) (.tmp 33) (.tmp 36) 37 (by rfl) w.heap.size 9 i0 _ 1 16 Tryz.underlying37 hi0 hi1 hi2 hi3 rfl (by omega) _ 0 [] (by rfl) own0 _ k _ (strs (l.take k)) (by rfl) (by simp [strs, List.length_take, Nat.min_eq_left hPl]) (fun j u hu => TAKE.out _ hB0_ j u hu) (strs_one _) (by unfold maxLen; omega) (by omega) hB0_.size ?_
                intro v37 w37 own37 gr37 fr37
                have hB0_4_ := pw_below_grown hB0_ _ hB0_.size gr37 (own_base own0)
                rw [Nat.zero_add, List.nil_append] at own37
                refine hK.out _ _ (rfl) (fun hHeld => ?_)
                clear hK K
                refine norm_ (a' := ?_) ?_ ?_
                rotate_left
                · show Act.put _ (some 37) _ = _
                  simp only [Act.put, pkA, pkZ, pkS, i64_w, i32_w]
                  rfl
                refine one_ (i := 6) (N := some 39) #[true, true, true, true, true, true, true, false, true, true, true, false, false] rfl rfl (by kernel_rfl) (by decide) (fun K hK => ?_)
                refine value_ (w1 := ?_) (v := ?_) (by rfl) rfl ?_ ?_
                rotate_left 2
                · go_simp
                  constructor
                  · rfl
                  · rfl
                have hB0_4_6_ := hB0_4_.alloc hB0_4_.size (.cells #[.string s] 9)
                have hg39 := (Go.MapKept.heap_alloc w37 (.cells #[.string s] 9)).1
                refine hK.out _ _ (rfl) (fun hHeld => ?_)
                clear hK K
                refine norm_ (a' := ?_) ?_ ?_
                rotate_left
                · show Act.put _ (some 39) _ = _
                  simp only [Act.put, pkA, pkZ, pkS, i64_w, i32_w]
                  rfl
                exact norm_ (by simp only [putAll, Act.put, pkA, pkZ, pkS]) (hCont (w.heap.size, v37, w37.heap.size) _ ⟨hB0_4_6_, own37.alloc _, hg39, hB0_4_.size, fun he => absurd (own_lt own37 _ (Eq.symm he)) (Nat.lt_irrefl _)⟩)
              · skip
                refine value_ (w1 := ?_) (v := ?_) (by rfl) rfl ?_ ?_
                rotate_left 2
                · go_simp
                  constructor
                  · rfl
                  · rfl
                have hB0_6_ := hB0_.alloc hB0_.size (.cells #[.string s] 9)
                have hg39 := (Go.MapKept.heap_alloc (w.drew.alloc (.cells #[] 9)) (.cells #[.string s] 9)).1
                refine hK.out _ _ (rfl) (fun hHeld => ?_)
                clear hK K
                refine norm_ (a' := ?_) ?_ ?_
                rotate_left
                · show Act.put _ (some 39) _ = _
                  simp only [Act.put, pkA, pkZ, pkS, i64_w, i32_w]
                  rfl
                refine one_ (i := 4) (N := some 37) #[true, true, true, true, true, true, true, false, true, true, true, false, false] rfl rfl (by kernel_rfl) (by decide) (fun K hK => ?_)
                refine step_append_any (by rfl) (.tmp 33) (.tmp 36) 37 (by rfl) w.heap.size 9 i0 _ 1 16 Tryz.underlying37 hi0 hi1 hi2 hi3 rfl (by omega) _ 0 [] (by rfl) (own0.alloc (.cells #[.string s] 9)) _ k _ (strs (l.take k)) (by rfl) (by simp [strs, List.length_take, Nat.min_eq_left hPl]) (fun j u hu => TAKE.out _ hB0_6_ j u hu) (strs_one _) (by unfold maxLen; omega) (by omega) hB0_6_.size ?_
                intro v37 w37 own37 gr37 fr37
                have hB0_6_4_ := pw_below_grown hB0_6_ _ hB0_6_.size gr37 (own_base (own0.alloc (.cells #[.string s] 9)))
                rw [Nat.zero_add, List.nil_append] at own37
                refine hK.out _ _ (rfl) (fun hHeld => ?_)
                clear hK K
                refine norm_ (a' := ?_) ?_ ?_
                rotate_left
                · show Act.put _ (some 37) _ = _
                  simp only [Act.put, pkA, pkZ, pkS, i64_w, i32_w]
                  rfl
                exact norm_ (by simp only [putAll, Act.put, pkA, pkZ, pkS]) (hCont (w.heap.size, v37, w.heap.size + 1) _ ⟨hB0_6_4_, own37, (gr37.block (w.heap.size + 1) (by rw [show ∀ W : World, W.drew.heap.size = W.heap.size from fun _ => rfl, World.size_alloc, World.size_alloc]; omega) (fun he => by have e : w.heap.size + 1 = w.heap.size := Option.some.inj he; omega)).trans (two_new w (.cells #[] 9) (.cells #[.string s] 9)).2.1, Nat.le_succ _, fun he => fr37.elim (fun h => by have e : w.heap.size + 1 = w.heap.size := Option.some.inj (he.trans h); omega) (fun h => by have e : w.heap.size + 1 = ((w.alloc (.cells #[] 9)).alloc (.cells #[.string s] 9)).heap.size := Option.some.inj (he.trans h); rw [World.size_alloc, World.size_alloc] at e; omega)⟩)
            · skip
              refine value_ (w1 := ?_) (v := ?_) (by rfl) rfl ?_ ?_
              rotate_left 2
              · go_simp
                constructor
                · rfl
                · rfl
              have hB6_ := hB_.alloc hB_.size (.cells #[.string s] 9)
              have hg39 := (Go.MapKept.heap_alloc w.drew (.cells #[.string s] 9)).1
              refine hK.out _ _ (rfl) (fun hHeld => ?_)
              clear hK K
              refine norm_ (a' := ?_) ?_ ?_
              rotate_left
              · show Act.put _ (some 39) _ = _
                simp only [Act.put, pkA, pkZ, pkS, i64_w, i32_w]
                rfl
              refine one_ (i := 0) (N := some 33) #[true, true, true, true, false, true, true, false, true, true, true, false, false] rfl rfl (by kernel_rfl) (by decide) (fun K hK => ?_)
              refine value_ (w1 := ?_) (v := ?_) (by rfl) rfl ?_ ?_
              rotate_left 2
              · go_simp
                constructor
                · rfl
                · rfl
              have hB6_0_ := hB6_.alloc hB6_.size (.cells #[] 9)
              have own0 := empty_row (size := 1) (e := 9) (g := w.heap.size + 1) (w := (w.drew.alloc (.cells #[.string s] 9)).alloc (.cells #[] 9)) (base := w.heap.size) (by omega) (by have h_ := (Go.MapKept.heap_alloc (w.drew.alloc (.cells #[.string s] 9)) (.cells #[] 9)).1; simpa using h_)
              refine hK.out _ _ (rfl) (fun hHeld => ?_)
              clear hK K
              refine norm_ (a' := ?_) ?_ ?_
              rotate_left
              · show Act.put _ (some 33) _ = _
                simp only [Act.put, pkA, pkZ, pkS, i64_w, i32_w]
                rfl
              refine one_ (i := 4) (N := some 37) #[true, true, true, true, true, true, true, false, true, true, true, false, false] rfl rfl (by kernel_rfl) (by decide) (fun K hK => ?_)
              refine step_append_any (by rfl) (.tmp 33) (.tmp 36) 37 (by rfl) w.heap.size 9 i0 _ 1 16 Tryz.underlying37 hi0 hi1 hi2 hi3 rfl (by omega) _ 0 [] (by rfl) own0 _ k _ (strs (l.take k)) (by rfl) (by simp [strs, List.length_take, Nat.min_eq_left hPl]) (fun j u hu => TAKE.out _ hB6_0_ j u hu) (strs_one _) (by unfold maxLen; omega) (by omega) hB6_0_.size ?_
              intro v37 w37 own37 gr37 fr37
              have hB6_0_4_ := pw_below_grown hB6_0_ _ hB6_0_.size gr37 (own_base own0)
              rw [Nat.zero_add, List.nil_append] at own37
              refine hK.out _ _ (rfl) (fun hHeld => ?_)
              clear hK K
              refine norm_ (a' := ?_) ?_ ?_
              rotate_left
              · show Act.put _ (some 37) _ = _
                simp only [Act.put, pkA, pkZ, pkS, i64_w, i32_w]
                rfl
              exact norm_ (by simp only [putAll, Act.put, pkA, pkZ, pkS]) (hCont (w.heap.size + 1, v37, w.heap.size) _ ⟨hB6_0_4_, own37, (gr37.block w.heap.size (by rw [show ∀ W : World, W.drew.heap.size = W.heap.size from fun _ => rfl, World.size_alloc, World.size_alloc]; omega) (fun he => by have e : w.heap.size = w.heap.size + 1 := Option.some.inj he; omega)).trans (two_new w (.cells #[.string s] 9) (.cells #[] 9)).1, Nat.le_refl _, fun he => fr37.elim (fun h => by have e : w.heap.size = w.heap.size + 1 := Option.some.inj (he.trans h); omega) (fun h => by have e : w.heap.size = ((w.alloc (.cells #[.string s] 9)).alloc (.cells #[] 9)).heap.size := Option.some.inj (he.trans h); rw [World.size_alloc, World.size_alloc] at e; omega)⟩)
          rintro ⟨g33, v37, g39⟩ w1 ⟨hB1, own1, hg39, hz39, hne39⟩
          have hHeld : w1.heap.size = w1.heap.size := rfl
          refine norm_ (a' := ?_) ?_ ?_
          rotate_left
          · simp only [putAll, Act.put, pkA, pkZ, pkS]
            rfl
          refine one_ (i := 7) (N := some 40) #[true, true, true, true, true, true, true, true, true, true, true, false, false] rfl rfl (by kernel_rfl) (by decide) (fun K hK => ?_)
          refine step_append_any (by rfl) (.tmp 37) (.tmp 39) 37 (by rfl) w.heap.size 9 i0 _ 1 16 Tryz.underlying37 hi0 hi1 hi2 hi3 rfl (by omega) v37 k (strs (l.take k)) (by rfl) own1 _ 1 _ [.string s] (by rfl) rfl (fun j u hu => ⟨_, rfl, World.news_of_block hg39 j u hu⟩) (by intro u hu; simp at hu; subst hu; rfl) (by unfold maxLen; omega) (by omega) hB1.size ?_
          intro v40 w40 own40 gr40 fr40
          have hB2 := pw_below_grown hB1 _ hB1.size gr40 (own_base own1)
          refine hK.out _ _ (rfl) (fun hHeld => ?_)
          clear hK K
          refine norm_ (a' := ?_) ?_ ?_
          rotate_left
          · show Act.put _ (some 40) _ = _
            simp only [Act.put, pkA, pkZ, pkS, i64_w, i32_w]
            rfl
          refine one_ (i := 11) (N := some 44) #[true, true, true, true, true, true, true, true, true, true, true, true, false] rfl rfl (by kernel_rfl) (by decide) (fun K hK => ?_)
          refine step_append_any (by rfl) (.tmp 40) (.tmp 43) 37 (by rfl) w.heap.size 9 i0 _ 1 16 Tryz.underlying37 hi0 hi1 hi2 hi3 rfl (by omega) v40 (k + 1) (strs (l.take k) ++ [.string s]) (by rfl) own40 _ (l.length - k) _ (strs (l.drop k)) (by rfl) (by simp [strs]) (fun j u hu => DROP.out _ hB2 j u hu) (strs_one _) (by unfold maxLen; omega) (by omega) hB2.size ?_
          intro v44 w44 own44 gr44 fr44
          have hB3 := pw_below_grown hB2 _ hB2.size gr44 (own_base own40)
          refine hK.out _ _ (rfl) (fun hHeld => ?_)
          clear hK K
          refine norm_ (a' := ?_) ?_ ?_
          rotate_left
          · show Act.put _ (some 44) _ = _
            simp only [Act.put, pkA, pkZ, pkS, i64_w, i32_w]
            rfl
          refine pure_ (i := 12) (N := some 4) (v := ?_) (a' := ?_) #[true, true, true, true, true, true, true, true, true, true, true, true, true] rfl rfl (by kernel_rfl) (fun _ _ _ h => h) (Or.inl ⟨by rfl, ?_⟩) ?_ ?_
          rotate_left
          · intro w'
            go_simp
            with_reducible rfl
          rotate_left
          · simp only [Act.put, pkA, pkZ, pkS, i64_w, i32_w]
            rfl
          refine done_ (by kernel_rfl) ?_
          go_wp2
          go_ret
          exact ⟨_, rfl, HEND.out _ _ own44, hB3⟩
end Go.Proofs.YtikdiepcfdimgaaGreatDoor.POw
namespace Go.Proofs.YtikdiepcfdimgaaGreatDoor.POw
open Go.RowKit Go.Shelf Go.Lib Go.Sort
noncomputable def svT : TypeInfo := (Tryz.prog.info? 22).get (by kernel_rfl)
noncomputable def svE : TypeInfo := (Tryz.prog.info? 56).get (by kernel_rfl)
theorem svK (n : Nat) (h2 : 2 ≤ n) : Lib.swapperK n svE 25 = 9 := by
  have a : svE.hasPointers = true := by kernel_rfl
  have b : svE.bytes = 56 := by kernel_rfl
  have c : (n == 0) = false := by simp; omega
  have d : (n == 1) = false := by simp; omega
  simp [Lib.swapperK, a, b, c, d]
def hLt (a b : Hold) : Bool := decide (a.f3 < b.f3)
theorem swo_hold : SWO hLt := ⟨fun a => by simp [hLt], fun a b c h1 h2 => by simp [hLt] at *; omega, fun a b c h1 h2 => by simp [hLt] at *; omega⟩
instance : Inhabited Hold := ⟨⟨⟨#[]⟩, ⟨#[]⟩, ⟨0, 0⟩, 0⟩⟩
set_option maxHeartbeats 2000000 in
theorem go_less (blk c Bs size : Nat) (W : World) (d : Nat → Hold) (hs : W.cell? ⟨Bs, 0, none⟩ = some (.slice (some ⟨blk, 0, none⟩) size c))
    (hc : ∀ t, t < size → W.cell? ⟨blk, t * 5 + 4, none⟩ = some (.int .i64 (d t).f3)) (i j : Nat) (hi : i < size) (hj : j < size) (_hsz : size < 4611686018427387904) :
    Calls Tryz.prog 50 #[.int .i64 i, .int .i64 j, .pointer (some ⟨Bs, 0, none⟩)] W fun e w' => e = .returned (.bool (hLt (d i) (d j))) ∧ ∃ q, w' = W.drewN q := by
  have ci := hc i hi
  have cj := hc j hj
  obtain ⟨a, ha⟩ : ∃ a, d i = a := ⟨_, rfl⟩
  obtain ⟨b, hb⟩ : ∃ b, d j = b := ⟨_, rfl⟩
  rw [ha] at ci ⊢
  rw [hb] at cj ⊢
  clear hc ha hb
  unfold hLt
  go_enter Tryz.func50, Tryz.ntmps50
  go_wp2
  go_quiet (fail)
  go_wp2
  go_ret
  exact ⟨rfl, nq, rfl⟩
theorem go_sort (blk c Bs : Nat) (d : Array Hold) (h2 : 2 ≤ d.size) (hsz : d.size < 4611686018427387904) (w : World) (hH : HoldsK cellsH 5 w blk 0 d) (hblk : blk < w.heap.size)
    (hBs : w.cell? ⟨Bs, 0, none⟩ = some (.slice (some ⟨blk, 0, none⟩) d.size c)) (hB1 : Bs < w.heap.size) (hB2 : Bs ≠ blk) :
    Calls Tryz.prog 49 #[.iface 22 (.slice (some ⟨blk, 0, none⟩) d.size c), .func (.func 50) #[] #[.pointer (some ⟨Bs, 0, none⟩)]] w fun e w' =>
      e = .returned (.tuple #[]) ∧ ∃ d' m os, PermIn 0 d.size d d' ∧ SortedIn hLt 0 d.size d' ∧ w' = grow (putRowK cellsH 5 (Sort.ahead w m) blk 0 d') os := by
  have hless : LessReadsK Tryz.prog 50 #[.pointer (some ⟨Bs, 0, none⟩)] cellsH 5 hLt blk 0 d.size w := by
    intro m os dk hs i j hi hj
    have e : sortWorldK cellsH 5 w blk 0 m dk os = putRowK cellsH 5 (grow (Sort.ahead w m) os) blk 0 dk := by
      unfold sortWorldK; rw [putRowK_grow _ _ (Sort.ahead w m) _ blk 0 _ hblk]
    have hHg : HoldsK cellsH 5 (grow (Sort.ahead w m) os) blk 0 d := holdsK_grow _ _ _ _ blk 0 d hblk (holdsK_ahead _ _ _ _ _ _ _ hH)
    have hP := holdsK_putRowK _ _ _ blk 0 d dk hHg hs
    refine go_less blk c Bs d.size _ (fun t => dk[t]!) ?_ (fun t ht => ?_) i j hi hj (by omega)
    · rw [e, cell?_putRowK_other _ _ _ blk 0 dk _ (by exact hB2), cell?_grow _ _ _ (by exact hB1)]; exact hBs
    · rw [e]; have := (hP.cell (i := t) (c := 4) (by omega) (by omega)).1; simpa [cellsH] using this
  exact Any.sort_Slice_cells_sorted Tryz.svSlice 22 56 svT svE (by kernel_rfl) (by kernel_rfl) (by kernel_rfl) (by kernel_rfl) 25 (fun _ => by kernel_rfl) cellsH 5 (fun _ => rfl) (by kernel_rfl) (fun _ => by kernel_rfl)
    (fun x v hv => by simp [cellsH] at hv; rcases hv with rfl | rfl | rfl | rfl | rfl <;> rfl) hLt swo_hold 50 _
    (enters_of Tryz.func50 (by kernel_rfl) rfl) blk 0 c d h2 hsz 103 (by rw [svK _ h2]; kernel_rfl) false
    (fun args W => run_callFunc_extern Tryz.func103 (by kernel_rfl) (by kernel_rfl) (by kernel_rfl) (e := Extern.ReflectliteSwapper.swap false) (by kernel_rfl) args W) w hless hH hblk
theorem go_sort_tiny (p : Option Addr) (n c : Nat) (h1 : n ≤ 1) (lb : Array Value) (w : World) :
    Calls Tryz.prog 49 #[.iface 22 (.slice p n c), .func (.func 50) #[] lb] w fun e w' => e = .returned (.tuple #[]) ∧ ∃ os, w' = grow w os := by
  rcases (by omega : n = 0 ∨ n = 1) with rfl | rfl
  · exact Any.sort_Slice_tiny Tryz.svSlice 22 56 svT svE (by kernel_rfl) (by kernel_rfl) (by kernel_rfl) (by kernel_rfl) 25 (fun _ => by kernel_rfl) p 0 c (by omega) 95 (by kernel_rfl) _ _ _ w
  · exact Any.sort_Slice_tiny Tryz.svSlice 22 56 svT svE (by kernel_rfl) (by kernel_rfl) (by kernel_rfl) (by kernel_rfl) 25 (fun _ => by kernel_rfl) p 1 c (by omega) 96 (by kernel_rfl) _ _ _ w
theorem flatK_list (ks : List Hold) : (flatK cellsH 5 ks.toArray).toList = flatH ks := by
  apply List.ext_getElem?
  intro t
  by_cases ht : t < ks.length * 5
  · have h1 := get_flatK cellsH 5 ks.toArray t (by simpa using ht)
    have hi : t / 5 < ks.length := by omega
    have h2 := flatH_at ks (t / 5) (t % 5) hi (by omega)
    rw [show t / 5 * 5 + t % 5 = t by omega] at h2
    rw [h2]
    have hsz : t < (flatK cellsH 5 ks.toArray).size := by simpa using ht
    rw [getElem!_pos _ t hsz] at h1
    rw [Array.getElem?_toList, Array.getElem?_eq_getElem hsz, h1]
    have e : (ks.toArray)[t / 5]! = ks[t / 5] := by
      rw [getElem!_pos _ _ (by simpa using hi)]; simp
    rw [e]
    have h3 : t % 5 < (cellsH ks[t / 5]).length := by simp [cellsH]; omega
    rw [List.getElem?_eq_getElem h3, getElem!_pos (cellsH ks[t / 5]) (t % 5) h3]
  · rw [List.getElem?_eq_none (by simp; omega), List.getElem?_eq_none (by rw [flatH_length]; omega)]
theorem holds_of_hold {w : World} {base : Nat} {blk cap : Nat} {ks : List Hold} {cur : Array Value} (hh : w.heap[blk]? = some (.cells cur 56 (0, 0))) (hcs : cur.size = cap * 5) (hkc : ks.length ≤ cap) (htk : cur.toList.take (ks.length * 5) = flatH ks) : HoldsK cellsH 5 w blk 0 ks.toArray := by
  intro j hj
  have hj' : j < ks.length * 5 := by simpa using hj
  have h1 : cur.toList[j]? = (flatH ks)[j]? := by rw [← htk, List.getElem?_take, if_pos hj']
  have h2 : (flatH ks)[j]? = some ((flatK cellsH 5 ks.toArray)[j]!) := by
    rw [← flatK_list, Array.getElem?_toList, Array.getElem?_eq_getElem hj, getElem!_pos (flatK cellsH 5 ks.toArray) j hj]
  have hc : j < cur.size := by rw [hcs]; omega
  refine ⟨?_, by simp [World.frozen?, hh]⟩
  have h3 : cur[j]? = some ((flatK cellsH 5 ks.toArray)[j]!) := by rw [← Array.getElem?_toList, h1, h2]
  simp [World.cell?, hh, h3]
theorem heap_putRowK {w : World} {m blk cap : Nat} {ks : List Hold} {cur : Array Value} (os : Array Obj) (hh : w.heap[blk]? = some (.cells cur 56 (0, 0))) (hcs : cur.size = cap * 5) (hkc : ks.length ≤ cap) :
    ∃ cur', (grow (putRowK cellsH 5 (Sort.ahead w m) blk 0 ks.toArray) os).heap[blk]? = some (.cells cur' 56 (0, 0)) ∧ cur'.size = cap * 5 ∧ cur'.toList.take (ks.length * 5) = flatH ks := by
  have hlt : blk < w.heap.size := (Array.getElem?_eq_some_iff.1 hh).1
  refine ⟨putCells id 0 (flatK cellsH 5 ks.toArray) cur, ?_, by simp [putCells, hcs], ?_⟩
  · have e : (grow (putRowK cellsH 5 (Sort.ahead w m) blk 0 ks.toArray) os).heap[blk]? = (putRowK cellsH 5 (Sort.ahead w m) blk 0 ks.toArray).heap[blk]? := by
      simp only [grow]
      rw [Array.getElem?_append_left (by rw [size_putRowK]; exact hlt)]
    rw [e]
    simp only [putRowK, Go.Sort.putRow, mapBlock, Sort.ahead, Array.getElem?_modify, hh]
    simp [onCells]
  · apply List.ext_getElem?
    intro t
    rw [List.getElem?_take]
    by_cases ht : t < ks.length * 5
    · rw [if_pos ht, Array.getElem?_toList]
      have hc : t < cur.size := by rw [hcs]; omega
      have hsz : t < (flatK cellsH 5 ks.toArray).size := by simpa using ht
      rw [← flatK_list, Array.getElem?_toList, Array.getElem?_eq_getElem hsz]
      simp only [putCells, Array.getElem?_mapIdx, Array.getElem?_eq_getElem hc, Option.map_some]
      rw [if_pos ⟨Nat.zero_le _, by simpa using ht⟩]
      simp only [id, Nat.sub_zero]
      rw [getElem!_pos (flatK cellsH 5 ks.toArray) t hsz]
    · rw [if_neg ht, List.getElem?_eq_none (by rw [flatH_length]; omega)]
theorem sorted_rows {w : World} {base : Nat} {Bs : Nat} {done : List Hold} {v : Value} (hown : w.ownsRow base 56 5 v done.length (flatH done)) (hBs : w.cell? ⟨Bs, 0, none⟩ = some v) (hB1 : Bs < w.heap.size) (hB2 : some Bs ≠ v.ownBlock) (hbase : base ≤ w.heap.size) (hnd : (done.map (·.f3)).Nodup) (hlen : done.length ≤ 10000) :
    Calls Tryz.prog 49 #[.iface 22 v, .func (.func 50) #[] #[.pointer (some ⟨Bs, 0, none⟩)]] w fun e w' =>
      e = .returned (.tuple #[]) ∧ ∃ ks : List Hold, ks.Perm done ∧ ks.Pairwise (fun a b => hLt a b = true) ∧ w'.ownsRow base 56 5 v ks.length (flatH ks) ∧ Below base w w' ∧ (∀ g, g < w.heap.size → some g ≠ v.ownBlock → w'.heap[g]? = w.heap[g]?) := by
  have hgrow : ∀ os : Array Obj, (∀ g, g < w.heap.size → (grow w os).heap[g]? = w.heap[g]?) := fun os g hg => by simp only [grow]; rw [Array.getElem?_append_left hg]
  by_cases h1 : done.length ≤ 1
  · have hpw : done.Pairwise (fun a b => hLt a b = true) := by
      match done, h1 with
      | [], _ => exact List.Pairwise.nil
      | [a], _ => exact List.pairwise_singleton _ _
    obtain ⟨p, c, rfl⟩ : ∃ p c, v = .slice p done.length c := by
      rcases hown.2 with ⟨rfl, h⟩ | ⟨g, cap, cur, rfl, _⟩
      · exact ⟨none, 0, by rw [h]⟩
      · exact ⟨_, _, rfl⟩
    refine (go_sort_tiny p done.length c h1 _ w).mono ?_
    rintro e w' ⟨rfl, os, rfl⟩
    refine ⟨rfl, done, List.Perm.refl _, hpw, ?_, ⟨rfl, rfl, rfl, by simp [grow], fun k hk => hgrow os k (by omega)⟩, fun g hg _ => hgrow os g hg⟩
    obtain ⟨a, b⟩ := hown
    refine ⟨a, ?_⟩
    rcases b with b | ⟨g, cap, cur, hv, hg, hh, r⟩
    · exact .inl b
    · exact .inr ⟨g, cap, cur, hv, hg, (hgrow os g (Array.getElem?_eq_some_iff.1 hh).1).trans hh, r⟩
  · obtain ⟨hl, hr⟩ := hown
    rcases hr with ⟨_, h0⟩ | ⟨blk, cap, cur, rfl, hg, hh, hnc, hcm, hcs, htk⟩
    · omega
    · have hlt : blk < w.heap.size := (Array.getElem?_eq_some_iff.1 hh).1
      have hs := go_sort blk cap Bs done.toArray (by simp; omega) (by simp; omega) w (holds_of_hold (base := base) hh hcs hnc htk) hlt (by simpa using hBs) hB1 (fun e => hB2 (by rw [e]; rfl))
      rw [show done.toArray.size = done.length by simp] at hs
      refine hs.mono ?_
      rintro e w' ⟨rfl, d', m, os, ⟨hp1, _, hp3⟩, hso, rfl⟩
      have hp1' : d'.size = done.length := by simpa using hp1
      have hperm : d'.toList.Perm done := by
        have e1 : d'.extract 0 done.length = d' := by rw [← hp1']; simp
        have e2 : done.toArray.extract 0 done.length = done.toArray := by simp
        rw [e1, e2] at hp3
        simpa using hp3
      have hnd' : (d'.toList.map (·.f3)).Nodup := (hperm.map _).nodup_iff.2 hnd
      have hpw : d'.toList.Pairwise (fun a b => hLt a b = true) := by
        rw [List.pairwise_iff_getElem]
        intro i j hi hj hij
        simp only [Array.length_toList] at hi hj
        have h2 := hso i j (Nat.zero_le _) hij (by omega)
        rw [getElem!_pos _ i hi, getElem!_pos _ j hj] at h2
        simp only [Array.getElem_toList]
        have h3 := (List.pairwise_iff_getElem.1 hnd') i j (by simpa using hi) (by simpa using hj) hij
        simp only [List.getElem_map, Array.getElem_toList] at h3
        simp only [hLt, decide_eq_false_iff_not] at h2
        simp only [hLt, decide_eq_true_eq]
        omega
      have hlen' : d'.toList.length = done.length := by simpa using hp1'
      obtain ⟨cur', hh', hcs', htk'⟩ := heap_putRowK (w := w) (m := m) (ks := d'.toList) os hh hcs (by omega)
      rw [show d'.toList.toArray = d' by simp] at hh'
      have hoth : ∀ g, g < w.heap.size → g ≠ blk → (grow (putRowK cellsH 5 (Sort.ahead w m) blk 0 d') os).heap[g]? = w.heap[g]? := fun g hg hne => by
        simp only [grow]
        rw [Array.getElem?_append_left (by rw [size_putRowK]; exact hg)]
        simp only [putRowK, Go.Sort.putRow, mapBlock, Sort.ahead, Array.getElem?_modify]
        rw [if_neg (fun e => hne e.symm)]
      refine ⟨rfl, d'.toList, hperm, hpw, ⟨by rw [flatH_length], .inr ⟨blk, cap, cur', by rw [hlen'], hg, hh', by omega, hcm, hcs', htk'⟩⟩, ⟨rfl, rfl, rfl, by simp [grow, size_putRowK, Sort.ahead], fun k hk => hoth k (by omega) (by omega)⟩, fun g hg hne => hoth g hg (fun e => hne (by rw [e]; rfl))⟩
end Go.Proofs.YtikdiepcfdimgaaGreatDoor.POw
namespace Go.Proofs.YtikdiepcfdimgaaGreatDoor.POw
open Go.RowKit Go.Lib Go.Proofs.YtikdiepcfdimgaaGreatDoorW.PrintWords Go.Proofs.YtikdiepcfdimgaaGreatDoorW.PrintLast
def putB (p : ByteArray → Bool) (x : ByteArray) : ByteArray → Bool := fun y => decide (y = x) || p y
def SetAt (w : World) (mb : Nat) (p : ByteArray → Bool) : Prop := MapAt Tryz.prog 9 encS w mb (fun x => if p x = true then some (.bool true) else none)
theorem SetAt.lt {w : World} {mb : Nat} {p : ByteArray → Bool} (h : SetAt w mb p) : mb < w.heap.size := MapAt.lt h
theorem SetAt.of_block {w W : World} {mb : Nat} {p : ByteArray → Bool} (h : SetAt w mb p) (hb : W.heap[mb]? = w.heap[mb]?) : SetAt W mb p := MapAt.of_block h hb
theorem SetAt.below {w W : World} {mb : Nat} {p : ByteArray → Bool} (h : SetAt w mb p) (hb : Below w.heap.size w W) : SetAt W mb p := MapAt.below h hb
theorem SetAt.made (w : World) : SetAt (w.alloc (.map #[] 0)) w.heap.size (fun _ => false) := by
  have := MapAt.made Tryz.prog 9 encS w
  unfold SetAt
  simpa using this
theorem SetAt.look {w : World} {mb : Nat} {p : ByteArray → Bool} (h : SetAt w mb p) (x : ByteArray) (hx : x.size ≤ 1000) : (Instr.lookup 75 (.map (some mb)) (.string x) false).run Tryz.prog w = .ok (.bool (p x)) w := by
  obtain ⟨kl, hkl⟩ := key_s hx
  have := h.lookup str_keyed encS_inj Tryz.underlying75 (z := .bool false) (by kernel_rfl) false x hkl
  simp only [Bool.false_eq_true, if_false] at this
  have e1 : encS x = .string x := rfl
  rw [e1] at this
  rw [this]
  cases p x <;> rfl
theorem SetAt.put {w : World} {mb : Nat} {p : ByteArray → Bool} (h : SetAt w mb p) (x : ByteArray) (hx : x.size ≤ 1000) :
    ∃ o, (Instr.mapUpdate 75 (.map (some mb)) (.string x) (.bool true)).run Tryz.prog w = .ok () (ChangeMaps.setBlock w mb o) ∧ SetAt (ChangeMaps.setBlock w mb o) mb (putB p x) := by
  obtain ⟨kl, hkl⟩ := key_s hx
  obtain ⟨o, ho, hm⟩ := h.store str_keyed encS_inj Tryz.underlying75 x (.bool true) hkl
  refine ⟨o, ho, ?_⟩
  unfold SetAt
  have e : (fun y => if putB p x y = true then some (Value.bool true) else none) = putM (fun y => if p y = true then some (Value.bool true) else none) x (.bool true) := by
    funext y
    unfold putB putM
    by_cases hy : y = x
    · simp [hy]
    · simp [hy]
  rw [e]; exact hm
theorem setBlock_heap (W : World) (b g : Nat) (o : Obj) (h : g ≠ b) : (ChangeMaps.setBlock W b o).heap[g]? = W.heap[g]? := by simp [ChangeMaps.setBlock, h.symm]
theorem setBlock_size (W : World) (b : Nat) (o : Obj) : (ChangeMaps.setBlock W b o).heap.size = W.heap.size := by simp [ChangeMaps.setBlock]
theorem setBlock_below {B b : Nat} {w W : World} {o : Obj} (h : Below B w W) (hb : B ≤ b) : Below B w (ChangeMaps.setBlock W b o) :=
  ⟨h.os, h.tape, h.output, by simpa [ChangeMaps.setBlock] using h.size, fun k hk => (show (ChangeMaps.setBlock W b o).heap[k]? = W.heap[k]? by simp [ChangeMaps.setBlock, show b ≠ k by omega]).trans (h.block k hk)⟩
structure GrOk (s : Gr) : Prop where
  ows : ∀ x, ∀ o ∈ s.owL x, o.size ≤ 1000
  owl : ∀ x, (s.owL x).length ≤ 1000
  owo : ∀ x, (s.owL x).Pairwise (fun a b => sLt a b = true)
  shl : ∀ k, (s.shL k).length ≤ 1000
  sho : ∀ k, (s.shL k).Pairwise (fun a b => a.f3 < b.f3)
  ens : ∀ o ∈ s.en, o.size ≤ 1000
  enl : s.en.length ≤ 1000
  eno : s.en.Pairwise (fun a b => sLt a b = true)
  chl : s.ch.length ≤ 1000
  cho : s.ch.Pairwise (fun a b => iLt a b = true)
def ownsIn (owner : ByteArray) : List ByteArray → (ByteArray → Bool) → List ByteArray → Option (Option ((ByteArray → Bool) × List ByteArray))
  | [], seen, todo => some (some (seen, todo))
  | o :: os, seen, todo => if o = owner then some none else if seen o = true then ownsIn owner os seen todo else if todo.length < 100000 then ownsIn owner os (putB seen o) (todo ++ [o]) else none
def ownsL (owner : ByteArray) (ow : ByteArray → List ByteArray) : Nat → (ByteArray → Bool) → List ByteArray → Option Bool
  | 0, _, _ => none
  | _ + 1, _, [] => some false
  | k + 1, seen, x :: todo => (ownsIn owner (ow x) seen todo).bind fun r => match r with
    | none => some true
    | some (s, t) => ownsL owner ow k s t
def ownsF (k : Nat) (s : Gr) (owner owned : ByteArray) : Option Bool := ownsL owner s.owL k (putB (fun _ => false) owned) [owned]
theorem q_str_at {w : World} {B c : Nat} {A : Option Addr} {l : List ByteArray} (h : QRow w B 9 1 (.slice A l.length c) l.length (strs l)) (i : Nat) (hi : i < l.length) :
    ∃ g o, A = some ⟨g, o, none⟩ ∧ g < w.heap.size ∧ w.cell? ⟨g, o + i, none⟩ = some (.string l[i]) := by
  rcases h.2 with ⟨h0, _⟩ | ⟨g, off, cap, cur, he, hg, hh, hnc, hm, hcs, ht⟩
  · omega
  · injection he with ha _ hc
    subst ha; subst hc
    refine ⟨g, off * 1, rfl, (Array.getElem?_eq_some_iff.1 hh).1, ?_⟩
    have : (strs l)[i]? = some (.string l[i]) := by simp [strs, hi]
    rw [← ht, List.getElem?_take, if_pos (by omega), List.getElem?_drop, Array.getElem?_toList] at this
    rw [Nat.mul_one] at this ⊢
    simp [World.cell?, hh, this]
theorem q_form {w : World} {B n sz e : Nat} {v : Value} {xs : List Value} (h : QRow w B e sz v n xs) : ∃ A c, v = .slice A n c ∧ n ≤ c := q_slice h
theorem wpList_append_q {P : Program} {w : World} {ops : Array Oper} {rest : List Oper} {o : Oper} {a : Act} {Q : Exit → Act → World → Prop} (hgd : o.guard = none) (s x : Operand) (t : TypeId)
    (ho : o.op = .call { callee := .builtin .append, args := #[s, x], argTypes := #[t, t] })
    (base : Nat) (e : TypeId) (i : TypeInfo) (z : Value) (size bytes : Nat) (ht : P.underlying t = some (.slice e)) (hi : P.info? e = some i) (hz : i.zero = some z)
    (hsize : i.size = size) (hby : i.bytes = bytes) (hzs : z.cells.size = size) (hsz : 0 < size)
    (v : Value) (n : Nat) (xs : List Value) (hs : a.eval s = v) (hown : QRow w base e size v n xs)
    (b : Addr) (m c : Nat) (news : List Value) (hx : a.eval x = .slice (some b) m c) (hl : news.length = m * size) (hnews : ∀ j u, news[j]? = some u → w.cell? (b.add j) = some u) (h1 : ∀ u ∈ news, u.oneCell' = true) (hm : 0 < m)
    (h63 : n + m ≤ maxLen) (hbytes : (n + m) * bytes ≤ 140737488355328) (hbase : base ≤ w.heap.size)
    (h : ∀ v' w', QRow w' base e size v' (n + m) (xs ++ news) → w.grownBy w' v.ownBlock → (v'.ownBlock = v.ownBlock ∨ ∃ b, v'.ownBlock = some b ∧ w.heap.size ≤ b) → wpList P ops Q rest (a.put o.dst v') w') :
    wpList P ops Q (o :: rest) a w := by
  obtain ⟨v', w', hr, h2, h3, h4⟩ := q_append (P := P) w base t o.type e i z size bytes ht hi hz hsize hby hzs hsz v n xs hown b m c news hl hnews h1 hm h63 hbytes hbase
  refine Kd.event_run hgd (v := v') (w1 := w') ?_ (h v' w' h2 h3 h4)
  unfold execOp
  simp only [ho, resolve, invoke, builtin, Sem.run_bind, Sem.run_pure, Result.andThen_ok, List.map_toArray, List.map_cons, List.map_nil, hs, hx, hr]
theorem q_not_map {w : World} {B n sz e mb : Nat} {v : Value} {xs : List Value} {p : ByteArray → Bool} (h : QRow w B e sz v n xs) (hs : SetAt w mb p) : v.ownBlock ≠ some mb := by
  intro he
  obtain ⟨_, cells, hc⟩ := q_typed h mb he
  obtain ⟨es, clock, hm, _⟩ := hs
  rw [hm] at hc; cases hc
section
variable {w : World} {B g m1 m2 : Nat} {V : Pr → Value} {U : ByteArray → Value} {vE vC : Value} {s : Gr}
set_option maxRecDepth 100000 in
set_option maxHeartbeats 8000000 in
theorem go_owns (h : GrAt w B g m1 m2 V U vE vC s) (ok : GrOk s) (kf : Nat) (owner owned : ByteArray) (r : Bool) (hx : owned.size ≤ 1000) (hF : ownsF kf s owner owned = some r) :
    Calls Tryz.prog 48 #[.pointer (some ⟨g, 0, none⟩), .string owner, .string owned] w fun e w' => e = .returned (.bool r) ∧ Below w.heap.size w w' := by
  have HG := Lib.hid h; have HOK := Lib.hid ok
  have hbb := fun (W : World) (hW : Below w.heap.size w W) => (h.below hW).facts.2.1
  have hg := h.lt
  have HBB := Lib.hid hbb
  have HF := Lib.hid (show ownsL owner s.owL kf (putB (fun _ => false) owned) [owned] = some r from hF)
  clear h ok hbb hF
  have hmm := @run_makeMap Tryz.prog
  have hm0 := SetAt.made w
  obtain ⟨ob, hput, hm1⟩ := hm0.put owned hx
  have hB0 : Below w.heap.size w (w.alloc (.map #[] 0)) := (Below.refl _ _).alloc (Nat.le_refl _) _
  have hB1 := setBlock_below (o := ob) hB0 (Nat.le_refl _)
  have HM1 := Lib.hid hm1; have HB1 := Lib.hid hB1
  clear hm0 hm1 hB1 hB0
  go_enter Tryz.func48, Tryz.ntmps48
  go_upto_region 2 with fail
  obtain ⟨w1, hw1⟩ : ∃ W, ChangeMaps.setBlock (w.alloc (.map #[] 0)) w.heap.size ob = W := ⟨_, rfl⟩
  have hz1 : w1.heap.size = w.heap.size + 1 := by rw [← hw1, setBlock_size]; simp
  rw [hw1] at HM1 HB1 ⊢
  clear hw1 hput hmm ob
  have hBa := (Below.refl _ w1).alloc (Nat.le_refl _) (.cells #[.string owned] 9)
  have hrow1 : (w1.alloc (.cells #[.string owned] 9)).ownsRow w.heap.size 9 1 (.slice (some ⟨w1.heap.size, 0, none⟩) 1 1) 1 [.string owned] :=
    ⟨rfl, .inr ⟨_, 1, #[.string owned], rfl, by omega, (Go.MapKept.heap_alloc w1 _).1, Nat.le_refl _, by unfold maxLen; omega, rfl, rfl⟩⟩
  have HQ1 := Lib.hid (q_of_own hrow1)
  have HB2 := Lib.hid (HB1.out.trans (hBa.mono HB1.out.size))
  have HM2 := Lib.hid (HM1.out.below hBa)
  have HZ1 := Lib.hid hz1
  clear hBa hrow1 hz1
  obtain ⟨i0, hi0, hi1, hi2, hi3⟩ := info_parts info_str
  have hcut := fun (A : Option Addr) (n c : Nat) (hn : (1 : Int) ≤ (n : Int)) => cut_from (P := Tryz.prog) 37 9 .i64 Tryz.underlying37 hi0 1 hi2 A n c 1 (by omega) hn
  have HCUT := Lib.hid hcut; clear hcut
  go_wp2
  go_loopg [8] kf (fun n t8 wr => ∃ (seen : ByteArray → Bool) (todo : List ByteArray), Below w.heap.size w wr ∧ Hid (QRow wr w.heap.size 9 1 t8 todo.length (strs todo)) ∧ Hid (SetAt wr w.heap.size seen) ∧ Hid (∀ o ∈ todo, o.size ≤ 1000) ∧ Hid (ownsL owner s.owL n seen todo = some r))
  case atStart => exact ⟨_, [owned], HB2.out, HQ1, HM2, Lib.hid (fun o ho => by rw [List.mem_singleton.1 ho]; exact hx), HF⟩
  case round =>
    obtain ⟨seen, todo, hbr, HQ, HS, HZ, HR⟩ := hrel
    cases gk with
    | zero => exact absurd HR.out (by simp [ownsL])
    | succ kf' =>
    obtain ⟨A, c, rfl, hnc⟩ := q_form HQ.out
    cases todo with
    | nil =>
      have HT := Lib.hid (show r = false by have := HR.out; simp [ownsL] at this; exact this)
      go_wp2
      go_ret
      exact ⟨by rw [HT.out]; rfl, hbr⟩
    | cons x todo =>
      obtain ⟨gq, oq, rfl, hgq, q0⟩ := q_str_at HQ.out 0 (by simp)
      rw [Nat.add_zero, List.getElem_cons_zero] at q0
      have hxs : x.size ≤ 1000 := HZ.out x (List.mem_cons_self ..)
      have hR := HR.out
      simp only [ownsL] at hR
      obtain ⟨F, hFe⟩ : ∃ F : Option ((ByteArray → Bool) × List ByteArray) → Option Bool, (fun r => match r with | none => some true | some (s_1, t) => ownsL owner s.owL kf' s_1 t) = F := ⟨_, rfl⟩
      have hR2 : (ownsIn owner (s.owL x) seen todo).bind F = some r := by rw [← hFe]; exact hR
      have HFN := Lib.hid (show F none = some true by rw [← hFe])
      have HFS := Lib.hid (show ∀ a b, F (some (a, b)) = ownsL owner s.owL kf' a b by intro a b; rw [← hFe])
      obtain ⟨A2, c2, hos, hlk⟩ := HG.out.look_ow x hxs
      have hlk0 := hlk _ hbr
      have hosl := HOK.out.owl x
      have hoss := HOK.out.ows x
      obtain ⟨os, hose⟩ : ∃ os, s.owL x = os := ⟨_, rfl⟩
      rw [hose] at hos hlk0 hosl hoss hR2
      have HOS := Lib.hid hos; have HOSS := Lib.hid hoss; have HR2 := Lib.hid hR2
      have hq1 := q_drop (k := 1) HQ.out (by simp)
      obtain ⟨m, hm⟩ : ∃ m, (x :: todo).length = m := ⟨_, rfl⟩
      have hml : todo.length + 1 = m := by rw [← hm]; simp
      have hm0 : (0 : Int) < (m : Int) := by omega
      have hm1 : (1 : Int) ≤ (m : Int) := by omega
      have hm2 : 0 < m := by omega
      rw [hm] at hq1 hnc ⊢
      have hcd := HCUT.out (some ⟨gq, oq, none⟩) m c hm1
      have eT : (1 : Int).toNat = 1 := rfl
      rw [eT] at hcd
      obtain ⟨A3, hA3⟩ : ∃ A3, (if c = 1 then (some ⟨gq, oq, none⟩ : Option Addr) else (some ⟨gq, oq, none⟩ : Option Addr).map (·.add (1 * 1))) = A3 := ⟨_, rfl⟩
      rw [hA3] at hq1 hcd
      have el : m - 1 = todo.length := by omega
      rw [el] at hq1 hcd
      have HQ3 := Lib.hid (show QRow wr w.heap.size 9 1 (.slice A3 todo.length (c - 1)) todo.length (strs todo) from hq1)
      have hgc := HBB.out wr hbr
      have HML := Lib.hid hml
      have HZ3 := Lib.hid (show ∀ o ∈ todo, o.size ≤ 1000 from fun o ho => HZ.out o (List.mem_cons_of_mem _ ho))
      have hos2 := slice_room hos
      clear hR hR2 hFe hlk hose hos hoss hq1 hA3 el eT HZ HR HQ hm hml
      rename World => wo
      go_wp2
      clear hcd hlk0 q0 hgc
      go_loopg [8, 32] os.length (fun n t8 t32 wq => ∃ (k : Nat) (seen : ByteArray → Bool) (todo : List ByteArray), n = os.length - k ∧ k ≤ os.length ∧ t32 = .int .i64 k ∧ Below w.heap.size w wq ∧ Hid (QRow wq w.heap.size 9 1 t8 todo.length (strs todo)) ∧ Hid (SetAt wq w.heap.size seen) ∧ Hid (∀ o ∈ todo, o.size ≤ 1000) ∧ Hid ((ownsIn owner (os.drop k) seen todo).bind F = some r))
      case atStart => exact ⟨0, seen, todo, rfl, Nat.zero_le _, rfl, hbr, HQ3, HS, HZ3, by rw [List.drop_zero]; exact HR2⟩
      case round =>
        obtain ⟨k, seen, todo, rfl, hk, rfl, hbq, HQ, HS, HZ, HR⟩ := hrel
        obtain ⟨A4, c4, rfl, hnc4⟩ := q_form HQ.out
        by_cases hlt : k < os.length
        · obtain ⟨gb, hA2, hgb, q0⟩ := own_str_at (pw_own_below HOS.out hbq) k hlt
          subst hA2
          obtain ⟨o, ho⟩ : ∃ o, os[k] = o := ⟨_, rfl⟩
          have hoz : o.size ≤ 1000 := HOSS.out o (ho ▸ List.getElem_mem hlt)
          have hR := HR.out
          rw [List.drop_eq_getElem_cons hlt, ho] at hR
          rw [ho] at q0
          simp only [ownsIn] at hR
          clear ho HR
          have hki : (k : Int) < (os.length : Int) := by omega
          by_cases he : o = owner
          · rw [if_pos he, Option.bind_some, HFN.out] at hR
            have HT := Lib.hid (Option.some.inj hR)
            have heb : (o.toList == owner.toList) = true := by rw [he]; simp
            clear he hR
            go_wp2
            go_ret
            exact ⟨by rw [← HT.out]; rfl, hbq⟩
          · rw [if_neg he] at hR
            have heb := str_bool he
            clear he
            have hlk2 := HS.out.look o hoz
            by_cases hse : seen o = true
            · rw [if_pos hse] at hR
              rw [hse] at hlk2
              have HR2 := Lib.hid hR
              clear hR hse
              go_wp2
              go_roundg (os.length - (k + 1))
              case measure => omega
              case rel => exact ⟨k + 1, seen, todo, rfl, by omega, by go_num, hbq, HQ, HS, HZ, HR2⟩
            · rw [if_neg hse] at hR
              have hse2 : seen o = false := by simpa using hse
              rw [hse2] at hlk2
              by_cases htl : todo.length < 100000
              · rw [if_pos htl] at hR
                have HR2 := Lib.hid hR
                obtain ⟨ob, hput, hS2⟩ := HS.out.put o hoz
                have hnm := q_not_map HQ.out HS.out
                have hmb := HS.out.lt
                have hz := hbq.size
                have hbs := setBlock_below (o := ob) hbq (Nat.le_refl w.heap.size)
                have hQ2 : QRow (ChangeMaps.setBlock wr w.heap.size ob) w.heap.size 9 1 (.slice A4 todo.length c4) todo.length (strs todo) := q_move HQ.out (fun g hg => setBlock_heap _ _ _ _ (fun e => hnm (by rw [hg, e])))
                have hba := (Below.refl _ (ChangeMaps.setBlock wr w.heap.size ob)).alloc (Nat.le_refl _) (.cells #[.string o] 9)
                have hQ3 : QRow ((ChangeMaps.setBlock wr w.heap.size ob).alloc (.cells #[.string o] 9)) w.heap.size 9 1 (.slice A4 todo.length c4) todo.length (strs todo) := q_move hQ2 (fun g hg => hba.block g (q_lt hQ2 g hg))
                have hone := (Go.MapKept.heap_alloc (ChangeMaps.setBlock wr w.heap.size ob) (.cells #[.string o] 9)).1
                have hS3 := hS2.below hba
                have HB3 := Lib.hid (hbs.trans (hba.mono (by rw [setBlock_size]; exact hz)))
                have hnm3 := q_not_map hQ3 hS3
                have HQ3 := Lib.hid hQ3; have HS3 := Lib.hid hS3; have HONE := Lib.hid hone; have HNM := Lib.hid hnm3
                have HSZ := Lib.hid (setBlock_size wr w.heap.size ob)
                clear hR hse hse2 hS2 hnm hbs hQ2 hba hQ3 hone hS3 hnm3
                go_wp2_with (at_builtin; (refine wpList_append_q rfl (.tmp 45) (.tmp 47) 37 rfl w.heap.size 9 i0 _ 1 16 Tryz.underlying37 hi0 hi1 hi2 hi3 rfl (by omega) _ todo.length (strs todo) rfl HQ3.out _ 1 1 [.string o] rfl rfl (fun j u hu => World.news_of_block HONE.out j u hu) (by intro u hu; simp at hu; rw [hu]; rfl) (by omega) (by unfold maxLen; omega) (by omega) HB3.out.size ?_; intro v5 w5 q5 gr5 fr5; have Q5 := Lib.hid q5; have GR5 := Lib.hid gr5; clear q5 gr5 fr5))
                go_roundg (os.length - (k + 1))
                case measure => omega
                case rel =>
                  refine ⟨k + 1, putB seen o, todo ++ [o], rfl, by omega, by go_num, pw_below_grown HB3.out _ HB3.out.size GR5.out (fun g hg => (q_typed HQ3.out g hg).1), ?_, ?_, ?_, HR2⟩
                  · refine Lib.hid ?_
                    have e1 : (todo ++ [o]).length = todo.length + 1 := by simp
                    have e2 : strs (todo ++ [o]) = strs todo ++ [.string o] := by simp [strs]
                    rw [e1, e2]; exact Q5.out
                  · exact Lib.hid (HS3.out.of_block (GR5.out.block _ HS3.out.lt (fun e => HNM.out e.symm)))
                  · refine Lib.hid (fun y hy => ?_)
                    rcases List.mem_append.1 hy with hy | hy
                    · exact HZ.out y hy
                    · rw [List.mem_singleton.1 hy]; exact hoz
              · rw [if_neg htl] at hR; cases hR
        · have hke : k = os.length := by omega
          subst hke
          have hR := HR.out
          rw [List.drop_length] at hR
          simp only [ownsIn, Option.bind_some] at hR
          rw [HFS.out] at hR
          have HR2 := Lib.hid hR
          clear hR HR
          go_wp2
          go_roundg kf'
          case measure => omega
          case rel => exact ⟨seen, todo, hbq, HQ, HS, HZ, HR2⟩
end
end Go.Proofs.YtikdiepcfdimgaaGreatDoor.POw
namespace Go.Proofs.YtikdiepcfdimgaaGreatDoor
open Go.RowKit
def absI (a : Int) : Int := if a < 0 then -a else a
theorem absI_nn (a : Int) : 0 ≤ absI a := by unfold absI; split <;> omega
theorem absI_le (a : Int) (h0 : -9223372036854775808 ≤ a) (h1 : a ≤ 9223372036854775807) : absI a ≤ 9223372036854775808 := by unfold absI; split <;> omega
end Go.Proofs.YtikdiepcfdimgaaGreatDoor
namespace Go.Proofs.YtikdiepcfdimgaaGreatDoor
open Go.RowKit Go.Lib
def gcdI (a b : Int) : Int := (Nat.gcd a.toNat b.toNat : Nat)
def rightB (n d : Int) : Bool := decide (1 ≤ d) && decide (d ≤ 1000000) && decide (absI n ≤ 1000000) && decide (gcdI (absI n) d = 1)
def inI (n : Int) : Prop := -9223372036854775808 ≤ n ∧ n ≤ 9223372036854775807
set_option maxHeartbeats 1000000 in
theorem frac_size.calls (a : Int) (w : World) (h : inI a) :
    Calls Tryz.prog 73 #[.int .i64 a] w fun e w' => e = .returned (.int .u64 (absI a)) ∧ w = w' := by
  obtain ⟨h0, h1⟩ := h
  by_cases h : a < 0
  all_goals
    go_enter Tryz.func73, Tryz.ntmps73
    go_wp2
    go_ret
    refine ⟨?_, rfl⟩
    show Ending.returned (.int .u64 _) = _
    congr 2
    simp only [absI, IntKind.wrap_u64, h, if_true]
    try simp only [if_false]
    omega
set_option maxHeartbeats 1000000 in
theorem ref03_size.calls (a : Int) (w : World) (h : inI a) :
    Calls Tryz.prog 86 #[.int .i64 a] w fun e w' => e = .returned (.int .u64 (absI a)) ∧ w = w' := by
  obtain ⟨h0, h1⟩ := h
  by_cases h : a < 0
  all_goals
    go_enter Tryz.func86, Tryz.ntmps86
    go_wp2
    go_ret
    refine ⟨?_, rfl⟩
    show Ending.returned (.int .u64 _) = _
    congr 2
    simp only [absI, IntKind.wrap_u64, h, if_true]
    try simp only [if_false]
    omega
theorem gcd_step (x y : Int) (_hx : 0 ≤ x) (hy : 0 < y) : gcdI y (x % y) = gcdI x y := by
  unfold gcdI
  rw [Int.toNat_emod _hx (by omega), Nat.gcd_comm y.toNat, ← Nat.gcd_rec, Nat.gcd_comm]
theorem gcd_zero (x : Int) (hx : 0 ≤ x) : gcdI x 0 = x := by unfold gcdI; simp; omega
set_option maxHeartbeats 1000000 in
theorem frac_gcd.calls (a b : Int) (w : World) (a0 : 0 ≤ a) (b0 : 0 ≤ b) :
    Calls Tryz.prog 74 #[.int .u64 a, .int .u64 b] w fun e w' => e = .returned (.int .u64 (gcdI a b)) ∧ Below w.heap.size w w' := by
  go_enter Tryz.func74, Tryz.ntmps74
  go_wp2
  go_loopw [0, 1] (fun s t wr => ∃ x y : Int, 0 ≤ x ∧ 0 ≤ y ∧ s = .int .u64 x ∧ t = .int .u64 y ∧ Hid (gcdI x y = gcdI a b) ∧ ∃ n, wr = w.drewN n) (fun _ t _ => (intOf t).toNat)
  case atStart => exact ⟨a, b, a0, b0, rfl, rfl, rfl, 0, rfl⟩
  case round =>
    obtain ⟨x, y, x0, y0, rfl, rfl, hg, n, rfl⟩ := hrel
    by_cases hy : y = 0
    · subst hy
      go_wp2
      go_ret
      exact ⟨by rw [← hg.out, gcd_zero x x0]; rfl, ⟨rfl, rfl, rfl, Nat.le_refl _, fun _ _ => rfl⟩⟩
    · have hb : (y != 0) = true := by simp [hy]
      have hlt := Int.emod_lt_of_pos x (by omega : 0 < y)
      have hge := Int.emod_nonneg x hy
      have HG := Lib.hid (gcd_step x y x0 (by omega))
      go_wp2
      go_quiet (fail)
      go_wp2
      go_roundw
      case rel => exact ⟨y, x % y, y0, hge, rfl, rfl, by show gcdI y (x % y) = _; rw [HG.out, hg.out], n + nq, by rw [World.drewN_drewN]⟩
      case measure => simp [intOf]; omega
theorem below_drewN (w : World) (n : Nat) : Below w.heap.size w (w.drewN n) := ⟨rfl, rfl, rfl, Nat.le_refl _, fun _ _ => rfl⟩
set_option maxHeartbeats 1000000 in
theorem ref03_divisor.calls (a b : Int) (w : World) (a0 : 0 ≤ a) (b0 : 0 ≤ b) :
    Calls Tryz.prog 85 #[.int .u64 a, .int .u64 b] w fun e w' => e = .returned (.int .u64 (gcdI a b)) ∧ Below w.heap.size w w' := by
  go_enter Tryz.func85, Tryz.ntmps85
  go_wp2
  go_loopw [0, 1] (fun s t wr => ∃ x y : Int, 0 ≤ x ∧ 0 ≤ y ∧ s = .int .u64 x ∧ t = .int .u64 y ∧ Hid (gcdI x y = gcdI a b) ∧ ∃ n, wr = w.drewN n) (fun _ t _ => (intOf t).toNat)
  case atStart => exact ⟨a, b, a0, b0, rfl, rfl, rfl, 0, rfl⟩
  case round =>
    obtain ⟨x, y, x0, y0, rfl, rfl, hg, n, rfl⟩ := hrel
    by_cases hy : y = 0
    · subst hy
      go_wp2
      go_ret
      exact ⟨by rw [← hg.out, gcd_zero x x0]; rfl, below_drewN _ _⟩
    · have hb : (y != 0) = true := by simp [hy]
      have hlt := Int.emod_lt_of_pos x (by omega : 0 < y)
      have hge := Int.emod_nonneg x hy
      have HG := Lib.hid (gcd_step x y x0 (by omega))
      go_wp2
      go_quiet (fail)
      go_wp2
      go_roundw
      case rel => exact ⟨y, x % y, y0, hge, rfl, rfl, by show gcdI y (x % y) = _; rw [HG.out, hg.out], n + nq, by rw [World.drewN_drewN]⟩
      case measure => simp [intOf]; omega
theorem gcdI_pos (a b : Int) (hb : 1 ≤ b) : 1 ≤ gcdI a b := by
  unfold gcdI; have : 0 < Nat.gcd a.toNat b.toNat := Nat.gcd_pos_of_pos_right _ (by omega); omega
set_option maxHeartbeats 1000000 in
theorem frac_Right.calls (n d : Int) (w : World) (hn : inI n) (hd : inI d) :
    Calls Tryz.prog 46 #[.agg #[.int .i64 n, .int .i64 d]] w fun e w' => e = .returned (.bool (rightB n d)) ∧ Below w.heap.size w w' := by
  by_cases h1 : d < 1
  · have HF := Lib.hid (show rightB n d = false by simp [rightB]; omega)
    go_enter Tryz.func46, Tryz.ntmps46
    go_wp2
    go_ret
    exact ⟨by rw [HF.out]; rfl, (Below.refl _ _).alloc (Nat.le_refl _) _⟩
  · by_cases h2 : 1000000 < d
    · have HF := Lib.hid (show rightB n d = false by simp [rightB]; omega)
      go_enter Tryz.func46, Tryz.ntmps46
      go_wp2
      go_ret
      exact ⟨by rw [HF.out]; rfl, (Below.refl _ _).alloc (Nat.le_refl _) _⟩
    · by_cases h3 : 1000000 < absI n
      · have HF := Lib.hid (show rightB n d = false by simp [rightB]; omega)
        go_enter Tryz.func46, Tryz.ntmps46
        go_wp2_with (go_at_call 73; refine (frac_size.calls _ _ hn).mono ?_; rintro e w' ⟨rfl, rfl⟩)
        go_ret
        exact ⟨by rw [HF.out]; rfl, (Below.refl _ _).alloc (Nat.le_refl _) _⟩
      · have ed : absI d = d := by unfold absI; rw [if_neg (by omega)]
        have HF := Lib.hid (show rightB n d = (gcdI (absI n) d == 1) by unfold rightB; rw [decide_eq_true (by omega : 1 ≤ d), decide_eq_true (by omega : d ≤ 1000000), decide_eq_true (by omega : absI n ≤ 1000000)]; rfl)
        have nn := absI_nn n
        have HE := Lib.hid ed
        clear ed
        go_enter Tryz.func46, Tryz.ntmps46
        go_upto_region 3 with (go_at_call 73; refine (frac_size.calls _ _ hn).mono ?_; rintro e w' ⟨rfl, rfl⟩)
        go_region_held3 (fun w' => w'.cell? ⟨w.heap.size, 0, none⟩ = some (.int .i64 n) ∧ w'.cell? ⟨w.heap.size, 1, none⟩ = some (.int .i64 d)) (first | go_keep | (refine ⟨?_, ?_⟩ <;> (rw [hcc _ _ (by simp <;> omega)]; simp)))
          (first
            | (go_at_call_of 73 (Value.int IntKind.i64 n); refine (frac_size.calls _ _ hn).mono ?_; rintro e w' ⟨rfl, rfl⟩)
            | (go_at_call_of 73 (Value.int IntKind.i64 d); refine (frac_size.calls _ _ hd).mono ?_; rintro e w' ⟨rfl, rfl⟩)
            | (go_at_call 74; refine (frac_gcd.calls _ _ _ nn (by rw [HE.out]; omega)).mono ?_; rintro e w2 ⟨rfl, hb2⟩; obtain ⟨hcc, hff⟩ := bcell hb2))
        go_wp2
        go_ret
        exact ⟨by rw [HF.out, HE.out]; rfl, (((Below.refl _ _).alloc (Nat.le_refl _) _).drew).trans (hb2.mono (by simp))⟩
theorem absI_mil (n : Int) : absI n ≤ 1000000 ↔ -1000000 ≤ n ∧ n ≤ 1000000 := by unfold absI; split <;> omega
set_option maxRecDepth 100000 in
set_option maxHeartbeats 4000000 in
theorem ref03_Right.calls (n d : Int) (w : World) (hn : inI n) (hd : inI d) :
    Calls Tryz.prog 56 #[.agg #[.int .i64 n, .int .i64 d]] w fun e w' => e = .returned (.bool (rightB n d)) ∧ Below w.heap.size w w' := by
  by_cases h1 : 1 ≤ d
  · by_cases h2 : d ≤ 1000000
    · by_cases h3 : -1000000 ≤ n
      · by_cases h4 : n ≤ 1000000
        · have ed : absI d = d := by unfold absI; rw [if_neg (by omega)]
          have HF := Lib.hid (show rightB n d = (gcdI (absI n) d == 1) by unfold rightB; rw [decide_eq_true h1, decide_eq_true h2, decide_eq_true ((absI_mil n).2 ⟨h3, h4⟩)]; simp [Bool.beq_eq_decide_eq])
          have nn := absI_nn n
          have HE := Lib.hid ed
          clear ed
          go_enter Tryz.func56, Tryz.ntmps56
          go_wp2
          go_region_held3 (fun w' => w'.cell? ⟨w.heap.size, 0, none⟩ = some (.int .i64 n) ∧ w'.cell? ⟨w.heap.size, 1, none⟩ = some (.int .i64 d)) (first | go_keep | (refine ⟨?_, ?_⟩ <;> (rw [hcc _ _ (by simp <;> omega)]; simp)))
            (first
              | (go_at_call_of 86 (Value.int IntKind.i64 n); refine (ref03_size.calls _ _ hn).mono ?_; rintro e w' ⟨rfl, rfl⟩)
              | (go_at_call_of 86 (Value.int IntKind.i64 d); refine (ref03_size.calls _ _ hd).mono ?_; rintro e w' ⟨rfl, rfl⟩)
              | (go_at_call 85; refine (ref03_divisor.calls _ _ _ nn (by rw [HE.out]; omega)).mono ?_; rintro e w2 ⟨rfl, hb2⟩; obtain ⟨hcc, hff⟩ := bcell hb2))
          go_wp2
          go_ret
          exact ⟨by rw [HF.out, HE.out]; rfl, (((Below.refl _ _).alloc (Nat.le_refl _) _).drew).trans (hb2.mono (by simp))⟩
        · have hd4 : decide (n ≤ 1000000) = false := decide_eq_false h4
          have HF := Lib.hid (show rightB n d = false by unfold rightB; rw [decide_eq_false (fun h => h4 ((absI_mil n).1 h).2)]; simp)
          go_enter Tryz.func56, Tryz.ntmps56
          go_wp2
          go_quiet (fail)
          go_wp2
          go_ret
          exact ⟨by rw [HF.out]; rfl, ((Below.refl _ _).alloc (Nat.le_refl _) _).trans ((below_drewN _ _).mono (by simp))⟩
      · have hd4 : decide (-1000000 ≤ n) = false := decide_eq_false h3
        have HF := Lib.hid (show rightB n d = false by unfold rightB; rw [decide_eq_false (fun h => h3 ((absI_mil n).1 h).1)]; simp)
        go_enter Tryz.func56, Tryz.ntmps56
        go_wp2
        go_quiet (fail)
        go_wp2
        go_ret
        exact ⟨by rw [HF.out]; rfl, ((Below.refl _ _).alloc (Nat.le_refl _) _).trans ((below_drewN _ _).mono (by simp))⟩
    · have hd4 : decide (d ≤ 1000000) = false := decide_eq_false h2
      have HF := Lib.hid (show rightB n d = false by unfold rightB; rw [decide_eq_false h2]; simp)
      go_enter Tryz.func56, Tryz.ntmps56
      go_wp2
      go_quiet (fail)
      go_wp2
      go_ret
      exact ⟨by rw [HF.out]; rfl, ((Below.refl _ _).alloc (Nat.le_refl _) _).trans ((below_drewN _ _).mono (by simp))⟩
  · have hd4 : decide (1 ≤ d) = false := decide_eq_false h1
    have HF := Lib.hid (show rightB n d = false by unfold rightB; rw [decide_eq_false h1]; simp)
    go_enter Tryz.func56, Tryz.ntmps56
    go_wp2
    go_quiet (fail)
    go_wp2
    go_ret
    exact ⟨by rw [HF.out]; rfl, ((Below.refl _ _).alloc (Nat.le_refl _) _).trans ((below_drewN _ _).mono (by simp))⟩
end Go.Proofs.YtikdiepcfdimgaaGreatDoor
