/- The walk of the program and the plain laws behind the statements of this seat, part 3. -/
import Derived.Test.YtdlilbleohlmnaaZdb
import Derived.Lib.Hide
import Derived.WalkMore
import Derived.WalkSpells
import Derived.Laws.Externs
import Derived.Shelf.SlSortCmp.QuietGrown
import Derived.Sort.Statements
import Derived.Shelf.SlSortCmp.Insertion
import Derived.Sort.LotA
import Derived.Shelf.SlSortCmp.InsertionK
import Derived.Test.YtdlilbleohlmnaaProg
import Derived.KernelRfl
import Derived.Deep.DeepCutAuto
import Derived.Deep.CutBlock
set_option linter.all false
namespace Go.Proofs.Ytdlilbleohlmnaa.PAq
open Go.RowKit Go.Proofs.YtdlilbleohlmnaaW.PrintWords Go.Proofs.YtdlilbleohlmnaaW.PrintLast
set_option linter.unusedVariables false
set_option linter.unusedSimpArgs false
def frac_size.f (a0 : Int) : Option (Int) := if a0 < 0 then (some (IntKind.u64.wrap (-(IntKind.u64.wrap (a0))))) else (some (IntKind.u64.wrap (a0)))
set_option maxHeartbeats 8000000 in
set_option maxRecDepth 100000 in
theorem frac_size.calls (a0 : Int) (r : Int) (w : World) (h : frac_size.f a0 = some r) :
    Calls Try.prog 58 #[.int .i64 a0] w fun e w' => e = .returned (.int .u64 r) ∧ Drawn0 w w' := by
  have H : (if a0 < 0 then (some (IntKind.u64.wrap (-(IntKind.u64.wrap (a0))))) else (some (IntKind.u64.wrap (a0)))) = some r := h
  clear h
  by_cases c2 : a0 < 0
  · rw [if_pos c2] at H
    have c2b0 : decide (a0 < 0) = true := decide_eq_true c2
    clear c2
    obtain rfl := Option.some.inj H
    go_enter Try.func58, Try.ntmps58
    go_wp2
    go_ret
    exact ⟨by first | rfl | (simp; done) | (simp [*]; done), by repeat (first | exact Drawn0.refl _ | apply Drawn0.step)⟩
  · rw [if_neg c2] at H
    have c2b0 : decide (a0 < 0) = false := decide_eq_false c2
    clear c2
    obtain rfl := Option.some.inj H
    go_enter Try.func58, Try.ntmps58
    go_wp2
    go_ret
    exact ⟨by first | rfl | (simp; done) | (simp [*]; done), by repeat (first | exact Drawn0.refl _ | apply Drawn0.step)⟩
def frac_gcd.l0 : Nat → Int → Int → Option (Int)
  | 0, _, _ => none
  | k + 1, x0, x1 => if x1 = 0 then (some x0) else (frac_gcd.l0 k x1 (Int.tmod x0 x1))
def frac_gcd.f (k : Nat) (a0 : Int) (a1 : Int) : Option (Int) := frac_gcd.l0 k a0 a1
set_option maxHeartbeats 8000000 in
set_option maxRecDepth 100000 in
theorem frac_gcd.calls (k : Nat) (a0 : Int) (a1 : Int) (r : Int) (w : World) (h : frac_gcd.f k a0 a1 = some r) :
    Calls Try.prog 59 #[.int .u64 a0, .int .u64 a1] w fun e w' => e = .returned (.int .u64 r) ∧ Drawn0 w w' := by
  have H : (frac_gcd.l0 k a0 a1) = some r := h
  clear h
  have H' := Aside0.mk H
  clear H
  go_enter Try.func59, Try.ntmps59
  go_wp2
  repeat (go_quiet (fail); try go_wp2)
  go_loopg [0, 1] k (fun kq v0 v1 w' => ∃ (x0_1 : Int) (x1_1 : Int), v0 = .int .u64 x0_1 ∧ v1 = .int .u64 x1_1 ∧ Aside0 (frac_gcd.l0 kq x0_1 x1_1 = some r) ∧ Aside0 (kq ≤ k) ∧ Drawn0 w w')
  case atStart => exact ⟨(a0), (a1), (by first | rfl | (simp; done) | (simp [*]; done)), (by first | rfl | (simp; done) | (simp [*]; done)), H', ⟨Nat.le_refl _⟩, by repeat (first | exact Drawn0.refl _ | apply Drawn0.step)⟩
  case round =>
    clear H'
    try clear p2
    obtain ⟨x0_1, x1_1, rfl, rfl, HA, HK1, ⟨m1, rfl⟩⟩ := hrel
    cases gk with
    | zero => exact absurd HA.out (by simp [frac_gcd.l0])
    | succ k1 =>
      have H := HA.out
      clear HA
      simp only [frac_gcd.l0] at H
      by_cases c3 : x1_1 = 0
      · rw [if_pos c3] at H
        have c3b0 : (x1_1 == 0) = true := beq_iff_eq.mpr c3
        have c3b1 : (x1_1 != 0) = false := bne_eq_false_iff_eq.mpr c3
        clear c3
        obtain rfl := Option.some.inj H
        go_wp2
        repeat (go_quiet (fail); try go_wp2)
        go_ret
        exact ⟨by first | rfl | (simp; done) | (simp [*]; done), by repeat (first | exact Drawn0.refl _ | apply Drawn0.step)⟩
      · rw [if_neg c3] at H
        have c3b0 : (x1_1 == 0) = false := beq_eq_false_iff_ne.mpr c3
        have c3b1 : (x1_1 != 0) = true := bne_iff_ne.mpr c3
        have H' := Aside0.mk H
        clear H
        go_wp2
        repeat (go_quiet (fail); try go_wp2)
        go_roundg k1
        case measure => have := HK1.out; omega
        case rel => exact ⟨(x1_1), (Int.tmod x0_1 x1_1), (by first | rfl | (simp; done) | (simp [*]; done)), (by first | rfl | (simp; done) | (simp [*]; done)), H', ⟨by have := HK1.out; omega⟩, by repeat (first | exact Drawn0.refl _ | apply Drawn0.step)⟩
def frac_Right.j0 : Nat → Bool → Int → Int → Option (Bool)
  | 0, _, _, _ => none
  | k + 1, x16, x159000, x159001 => if x16 = true then (some false) else ((frac_size.f x159000).bind fun t160 => ((frac_size.f x159001).bind fun t161 => ((frac_gcd.f k t160 t161).bind fun t162 => (some (t162 == 1)))))
def frac_Right.f (k : Nat) (a0_0 : Int) (a0_1 : Int) : Option (Bool) := if a0_1 < 1 then (frac_Right.j0 k true a0_0 a0_1) else (if a0_1 > 1000000 then (frac_Right.j0 k true a0_0 a0_1) else ((frac_size.f a0_0).bind fun t159 => (frac_Right.j0 k (decide (t159 > 1000000)) a0_0 a0_1)))
set_option maxHeartbeats 8000000 in
set_option maxRecDepth 100000 in
theorem frac_Right.calls (k : Nat) (a0_0 : Int) (a0_1 : Int) (r : Bool) (w : World) (h : frac_Right.f k a0_0 a0_1 = some r) :
    Calls Try.prog 37 #[.agg #[.int .i64 a0_0, .int .i64 a0_1]] w fun e w' => e = .returned (.bool r) ∧ Below w.heap.size w w' := by
  have hu23 := Try.underlying23
  have HB := Aside0.mk (Below.refl w.heap.size w)
  have H : (if a0_1 < 1 then (frac_Right.j0 k true a0_0 a0_1) else (if a0_1 > 1000000 then (frac_Right.j0 k true a0_0 a0_1) else ((frac_size.f a0_0).bind fun t159 => (frac_Right.j0 k (decide (t159 > 1000000)) a0_0 a0_1)))) = some r := h
  clear h
  have HC2 := Aside0.mk H
  clear H
  go_enter Try.func37, Try.ntmps37
  go_upto_region 1 with (first | ((with_reducible refine gate_dst (N := 1) rfl ?_); refine box_event ?hg (N := 1) ?hd (cs := #[.int .i64 a0_0, .int .i64 a0_1]) (t := 23) ?hr ?_; (case hd => rfl); (case hg => rfl); (case hr => first | (go_simp; done) | (go_simp; rfl)); intro gb158 hg w3 hbox hb; have n0_ := Aside0.mk (below_step (by repeat (first | (with_reducible first | exact HB.out | apply below_alloc | apply pw_below_drewN | apply below_drew1) | exact HB.out)) hb); have n1_ := Aside0.mk (hbox); have n2_ := Aside0.mk ((by rw [hg]; exact (below_size (by repeat (first | (with_reducible first | exact HB.out | apply below_alloc | apply pw_below_drewN | apply below_drew1) | exact HB.out))) : w.heap.size ≤ gb158)); have n3_ := Aside0.mk ((by rw [hg]; exact (below_size (by repeat (first | (with_reducible first | exact HB.out | apply below_alloc | apply pw_below_drewN | apply below_drew1) | exact HB.out))) : w.heap.size ≤ gb158)); clear HB; have HB := n0_; have BK158 := n1_; have GW158 := n2_; have GE158 := n3_; clear n0_ n1_ n2_ n3_; clear hb hbox hg))
  repeat (go_quiet (first | ((with_reducible refine gate_dst (N := 1) rfl ?_); refine box_event ?hg (N := 1) ?hd (cs := #[.int .i64 a0_0, .int .i64 a0_1]) (t := 23) ?hr ?_; (case hd => rfl); (case hg => rfl); (case hr => first | (go_simp; done) | (go_simp; rfl)); intro gb158 hg w3 hbox hb; have n0_ := Aside0.mk (below_step (by repeat (first | (with_reducible first | exact HB.out | apply below_alloc | apply pw_below_drewN | apply below_drew1) | exact HB.out)) hb); have n1_ := Aside0.mk (hbox); have n2_ := Aside0.mk ((by rw [hg]; exact (below_size (by repeat (first | (with_reducible first | exact HB.out | apply below_alloc | apply pw_below_drewN | apply below_drew1) | exact HB.out))) : w.heap.size ≤ gb158)); have n3_ := Aside0.mk ((by rw [hg]; exact (below_size (by repeat (first | (with_reducible first | exact HB.out | apply below_alloc | apply pw_below_drewN | apply below_drew1) | exact HB.out))) : w.heap.size ≤ gb158)); clear HB; have HB := n0_; have BK158 := n1_; have GW158 := n2_; have GE158 := n3_; clear n0_ n1_ n2_ n3_; clear hb hbox hg)); go_upto_region 1 with (first | ((with_reducible refine gate_dst (N := 1) rfl ?_); refine box_event ?hg (N := 1) ?hd (cs := #[.int .i64 a0_0, .int .i64 a0_1]) (t := 23) ?hr ?_; (case hd => rfl); (case hg => rfl); (case hr => first | (go_simp; done) | (go_simp; rfl)); intro gb158 hg w3 hbox hb; have n0_ := Aside0.mk (below_step (by repeat (first | (with_reducible first | exact HB.out | apply below_alloc | apply pw_below_drewN | apply below_drew1) | exact HB.out)) hb); have n1_ := Aside0.mk (hbox); have n2_ := Aside0.mk ((by rw [hg]; exact (below_size (by repeat (first | (with_reducible first | exact HB.out | apply below_alloc | apply pw_below_drewN | apply below_drew1) | exact HB.out))) : w.heap.size ≤ gb158)); have n3_ := Aside0.mk ((by rw [hg]; exact (below_size (by repeat (first | (with_reducible first | exact HB.out | apply below_alloc | apply pw_below_drewN | apply below_drew1) | exact HB.out))) : w.heap.size ≤ gb158)); clear HB; have HB := n0_; have BK158 := n1_; have GW158 := n2_; have GE158 := n3_; clear n0_ n1_ n2_ n3_; clear hb hbox hg)))
  (try simp only [Act.put, pkA, pkZ, pkS])
  go_cut [16] (fun v16 wc => ∃ (kq : Nat) (x16_1 : Bool), v16 = .bool x16_1 ∧ Aside0 (frac_Right.j0 kq x16_1 a0_0 a0_1 = some r) ∧ Aside0 (kq ≤ k) ∧ Aside0 (wc.heap[gb158]? = some (.cells #[.int .i64 a0_0, .int .i64 a0_1] 23 (0, 0))) ∧ Aside0 (Below w.heap.size w wc))
  case first =>
    have H := HC2.out
    clear HC2
    by_cases c4 : a0_1 < 1
    · rw [if_pos c4] at H
      have c4b0 : decide (a0_1 < 1) = true := decide_eq_true c4
      clear c4
      (first | rw [c4b0] | (simp only [i64_w, i32_w]; rw [c4b0]) | skip)
      have H' := Aside0.mk H
      clear H
      have hcz5_0 : w3.cell? ⟨gb158, 0, none⟩ = some (.int .i64 a0_0) := (blk_cell BK158.out 0).trans rfl
      have hcz5_1 : w3.cell? ⟨gb158, 1, none⟩ = some (.int .i64 a0_1) := (blk_cell BK158.out 1).trans rfl
      have hfz5_0 := blk_frozen BK158.out 0
      have hfz5_1 := blk_frozen BK158.out 1
      go_wp2
      repeat (go_quiet (fail); try go_wp2)
      go_meet
      case rel => exact ⟨_, (true), (by first | rfl | (simp; done) | (simp [*]; done)), H', ⟨by first | omega | exact Nat.le_refl _⟩, ⟨by (with_reducible repeat (first | refine blk_drewN ?_ _ | refine blk_drew ?_ | refine blk_alloc ?_ _)); exact BK158.out⟩, ⟨by repeat (first | (with_reducible first | exact HB.out | apply below_alloc | apply pw_below_drewN | apply below_drew1 | refine below_set ?_ GE158.out) | exact HB.out)⟩⟩
    · rw [if_neg c4] at H
      have c4b0 : decide (a0_1 < 1) = false := decide_eq_false c4
      clear c4
      (first | rw [c4b0] | (simp only [i64_w, i32_w]; rw [c4b0]) | skip)
      by_cases c6 : a0_1 > 1000000
      · rw [if_pos c6] at H
        have c6b0 : decide (1000000 < a0_1) = true := decide_eq_true c6
        clear c6
        have H' := Aside0.mk H
        clear H
        have hcz7_0 : w3.cell? ⟨gb158, 0, none⟩ = some (.int .i64 a0_0) := (blk_cell BK158.out 0).trans rfl
        have hcz7_1 : w3.cell? ⟨gb158, 1, none⟩ = some (.int .i64 a0_1) := (blk_cell BK158.out 1).trans rfl
        have hfz7_0 := blk_frozen BK158.out 0
        have hfz7_1 := blk_frozen BK158.out 1
        go_wp2
        repeat (go_quiet (fail); try go_wp2)
        go_meet
        case rel => exact ⟨_, (true), (by first | rfl | (simp; done) | (simp [*]; done)), H', ⟨by first | omega | exact Nat.le_refl _⟩, ⟨by (with_reducible repeat (first | refine blk_drewN ?_ _ | refine blk_drew ?_ | refine blk_alloc ?_ _)); exact BK158.out⟩, ⟨by repeat (first | (with_reducible first | exact HB.out | apply below_alloc | apply pw_below_drewN | apply below_drew1 | refine below_set ?_ GE158.out) | exact HB.out)⟩⟩
      · rw [if_neg c6] at H
        have c6b0 : decide (1000000 < a0_1) = false := decide_eq_false c6
        clear c6
        replace H := Option.bind_eq_some_iff.mp H
        obtain ⟨t159, A80, H⟩ := H
        replace H : (frac_Right.j0 k (decide (t159 > 1000000)) a0_0 a0_1) = some r := H
        have A8 := Aside0.mk A80
        clear A80
        have H' := Aside0.mk H
        clear H
        have hcz9_0 : w3.cell? ⟨gb158, 0, none⟩ = some (.int .i64 a0_0) := (blk_cell BK158.out 0).trans rfl
        have hcz9_1 : w3.cell? ⟨gb158, 1, none⟩ = some (.int .i64 a0_1) := (blk_cell BK158.out 1).trans rfl
        have hfz9_0 := blk_frozen BK158.out 0
        have hfz9_1 := blk_frozen BK158.out 1
        go_wp2_with (first | (go_at_call 58; (with_reducible refine (frac_size.calls a0_0 t159 _ A8.out).mono ?_); rintro e w' ⟨rfl, ⟨nd, rfl⟩⟩; (try first | exact ⟨rfl, _, World.drewN_drewN _ _ _⟩ | exact ⟨rfl, _, Eq.trans (World.drewN_drewN _ _ _) (congrArg (World.drewN _) (Nat.add_assoc _ _ _))⟩)))
        repeat (go_quiet (first | (go_at_call 58; (with_reducible refine (frac_size.calls a0_0 t159 _ A8.out).mono ?_); rintro e w' ⟨rfl, ⟨nd, rfl⟩⟩; (try first | exact ⟨rfl, _, World.drewN_drewN _ _ _⟩ | exact ⟨rfl, _, Eq.trans (World.drewN_drewN _ _ _) (congrArg (World.drewN _) (Nat.add_assoc _ _ _))⟩))); try go_wp2_with (first | (go_at_call 58; (with_reducible refine (frac_size.calls a0_0 t159 _ A8.out).mono ?_); rintro e w' ⟨rfl, ⟨nd, rfl⟩⟩; (try first | exact ⟨rfl, _, World.drewN_drewN _ _ _⟩ | exact ⟨rfl, _, Eq.trans (World.drewN_drewN _ _ _) (congrArg (World.drewN _) (Nat.add_assoc _ _ _))⟩))))
        go_meet
        case rel => exact ⟨_, (decide (t159 > 1000000)), (by first | rfl | (simp; done) | (simp [*]; done)), H', ⟨by first | omega | exact Nat.le_refl _⟩, ⟨by (with_reducible repeat (first | refine blk_drewN ?_ _ | refine blk_drew ?_ | refine blk_alloc ?_ _)); exact BK158.out⟩, ⟨by repeat (first | (with_reducible first | exact HB.out | apply below_alloc | apply pw_below_drewN | apply below_drew1 | refine below_set ?_ GE158.out) | exact HB.out)⟩⟩
  case rest =>
    clear HC2
    try clear p2
    try clear c3
    try clear c4
    try clear c4b0
    try clear c6
    try clear c6b0
    try clear hcz5_0
    try clear hcz5_1
    try clear hcz7_0
    try clear hcz7_1
    try clear hcz9_0
    try clear hcz9_1
    try clear hfz5_0
    try clear hfz5_1
    try clear hfz7_0
    try clear hfz7_1
    try clear hfz9_0
    try clear hfz9_1
    obtain ⟨kq, x16_1, rfl, HA, HJ1, BK158, HB⟩ := hcut
    cases kq with
    | zero => exact absurd HA.out (by simp [frac_Right.j0])
    | succ kj1 =>
      have H := HA.out
      clear HA
      simp only [frac_Right.j0] at H
      by_cases c10 : x16_1 = true
      · subst c10
        have H1 : (some false) = some r := by rw [if_pos rfl] at H; exact H
        clear H
        have H := H1
        clear H1
        obtain rfl := Option.some.inj H
        go_wp2
        repeat (go_quiet (fail); try go_wp2)
        go_ret
        exact ⟨by first | rfl | (simp [errW_none, errW_some] <;> rfl) | (simp [*, errW_none, errW_some] <;> rfl), by repeat (first | (with_reducible first | exact HB.out | apply below_alloc | apply pw_below_drewN | apply below_drew1 | refine below_set ?_ GE158.out) | exact HB.out)⟩
      · replace c10 := Bool.eq_false_iff.mpr c10
        subst c10
        have H1 : ((frac_size.f a0_0).bind fun t160 => ((frac_size.f a0_1).bind fun t161 => ((frac_gcd.f kj1 t160 t161).bind fun t162 => (some (t162 == 1))))) = some r := by rw [if_neg (show ¬ (false = true) by decide)] at H; exact H
        clear H
        have H := H1
        clear H1
        replace H := Option.bind_eq_some_iff.mp H
        obtain ⟨t160, A110, H⟩ := H
        replace H : ((frac_size.f a0_1).bind fun t161 => ((frac_gcd.f kj1 t160 t161).bind fun t162 => (some (t162 == 1)))) = some r := H
        have A11 := Aside0.mk A110
        clear A110
        replace H := Option.bind_eq_some_iff.mp H
        obtain ⟨t161, A120, H⟩ := H
        replace H : ((frac_gcd.f kj1 t160 t161).bind fun t162 => (some (t162 == 1))) = some r := H
        have A12 := Aside0.mk A120
        clear A120
        replace H := Option.bind_eq_some_iff.mp H
        obtain ⟨t162, A130, H⟩ := H
        replace H : (some (t162 == 1)) = some r := H
        have A13 := Aside0.mk A130
        clear A130
        obtain rfl := Option.some.inj H
        have hcz14_0 : wc.cell? ⟨gb158, 0, none⟩ = some (.int .i64 a0_0) := (blk_cell BK158.out 0).trans rfl
        have hcz14_1 : wc.cell? ⟨gb158, 1, none⟩ = some (.int .i64 a0_1) := (blk_cell BK158.out 1).trans rfl
        have hfz14_0 := blk_frozen BK158.out 0
        have hfz14_1 := blk_frozen BK158.out 1
        go_wp2_with (first | (go_at_call 58; (with_reducible refine (frac_size.calls a0_0 t160 _ A11.out).mono ?_); rintro e w' ⟨rfl, ⟨nd, rfl⟩⟩; (try first | exact ⟨rfl, _, World.drewN_drewN _ _ _⟩ | exact ⟨rfl, _, Eq.trans (World.drewN_drewN _ _ _) (congrArg (World.drewN _) (Nat.add_assoc _ _ _))⟩)) | (go_at_call 58; (with_reducible refine (frac_size.calls a0_1 t161 _ A12.out).mono ?_); rintro e w' ⟨rfl, ⟨nd, rfl⟩⟩; (try first | exact ⟨rfl, _, World.drewN_drewN _ _ _⟩ | exact ⟨rfl, _, Eq.trans (World.drewN_drewN _ _ _) (congrArg (World.drewN _) (Nat.add_assoc _ _ _))⟩)) | (go_at_call 59; (with_reducible refine (frac_gcd.calls kj1 t160 t161 t162 _ A13.out).mono ?_); rintro e w' ⟨rfl, ⟨nd, rfl⟩⟩; (try first | exact ⟨rfl, _, World.drewN_drewN _ _ _⟩ | exact ⟨rfl, _, Eq.trans (World.drewN_drewN _ _ _) (congrArg (World.drewN _) (Nat.add_assoc _ _ _))⟩)))
        repeat (go_quiet (first | (go_at_call 58; (with_reducible refine (frac_size.calls a0_0 t160 _ A11.out).mono ?_); rintro e w' ⟨rfl, ⟨nd, rfl⟩⟩; (try first | exact ⟨rfl, _, World.drewN_drewN _ _ _⟩ | exact ⟨rfl, _, Eq.trans (World.drewN_drewN _ _ _) (congrArg (World.drewN _) (Nat.add_assoc _ _ _))⟩)) | (go_at_call 58; (with_reducible refine (frac_size.calls a0_1 t161 _ A12.out).mono ?_); rintro e w' ⟨rfl, ⟨nd, rfl⟩⟩; (try first | exact ⟨rfl, _, World.drewN_drewN _ _ _⟩ | exact ⟨rfl, _, Eq.trans (World.drewN_drewN _ _ _) (congrArg (World.drewN _) (Nat.add_assoc _ _ _))⟩)) | (go_at_call 59; (with_reducible refine (frac_gcd.calls kj1 t160 t161 t162 _ A13.out).mono ?_); rintro e w' ⟨rfl, ⟨nd, rfl⟩⟩; (try first | exact ⟨rfl, _, World.drewN_drewN _ _ _⟩ | exact ⟨rfl, _, Eq.trans (World.drewN_drewN _ _ _) (congrArg (World.drewN _) (Nat.add_assoc _ _ _))⟩))); try go_wp2_with (first | (go_at_call 58; (with_reducible refine (frac_size.calls a0_0 t160 _ A11.out).mono ?_); rintro e w' ⟨rfl, ⟨nd, rfl⟩⟩; (try first | exact ⟨rfl, _, World.drewN_drewN _ _ _⟩ | exact ⟨rfl, _, Eq.trans (World.drewN_drewN _ _ _) (congrArg (World.drewN _) (Nat.add_assoc _ _ _))⟩)) | (go_at_call 58; (with_reducible refine (frac_size.calls a0_1 t161 _ A12.out).mono ?_); rintro e w' ⟨rfl, ⟨nd, rfl⟩⟩; (try first | exact ⟨rfl, _, World.drewN_drewN _ _ _⟩ | exact ⟨rfl, _, Eq.trans (World.drewN_drewN _ _ _) (congrArg (World.drewN _) (Nat.add_assoc _ _ _))⟩)) | (go_at_call 59; (with_reducible refine (frac_gcd.calls kj1 t160 t161 t162 _ A13.out).mono ?_); rintro e w' ⟨rfl, ⟨nd, rfl⟩⟩; (try first | exact ⟨rfl, _, World.drewN_drewN _ _ _⟩ | exact ⟨rfl, _, Eq.trans (World.drewN_drewN _ _ _) (congrArg (World.drewN _) (Nat.add_assoc _ _ _))⟩))))
        go_ret
        exact ⟨by first | rfl | (simp [errW_none, errW_some] <;> rfl) | (simp [*, errW_none, errW_some] <;> rfl), by repeat (first | (with_reducible first | exact HB.out | apply below_alloc | apply pw_below_drewN | apply below_drew1 | refine below_set ?_ GE158.out) | exact HB.out)⟩
def muldiv_Cmp.f (a b c d : Int) : Option Int := if (-9223372036854775808 ≤ a ∧ a ≤ 9223372036854775807) ∧ (-9223372036854775808 ≤ b ∧ b ≤ 9223372036854775807) ∧ (-9223372036854775808 ≤ c ∧ c ≤ 9223372036854775807) ∧ (-9223372036854775808 ≤ d ∧ d ≤ 9223372036854775807) then some (cmpI (a * b) (c * d)) else none
theorem muldiv_Cmp.calls (a b c d : Int) (r : Int) (w : World) (h : muldiv_Cmp.f a b c d = some r) :
    Calls Try.prog 60 #[.int .i64 a, .int .i64 b, .int .i64 c, .int .i64 d] w fun e w' => e = .returned (.int .i64 r) ∧ Below w.heap.size w w' := by
  unfold muldiv_Cmp.f at h
  split at h
  · rename_i hh
    injection h with h
    subst h
    exact Go.Proofs.Ytdlilbleohlmnaa.muldiv_Cmp.calls a b c d w hh.1 hh.2.1 hh.2.2.1 hh.2.2.2
  · cases h
def frac_Cmp.f (k : Nat) (a0_0 : Int) (a0_1 : Int) (a1_0 : Int) (a1_1 : Int) : Option (Int) := (frac_Right.f k a0_0 a0_1).bind fun t165 => (if t165 = true then ((frac_Right.f k a1_0 a1_1).bind fun t166 => (if t166 = true then ((muldiv_Cmp.f a0_0 a1_1 a1_0 a0_1).bind fun t167 => (some t167)) else (some 0))) else (some 0))
set_option maxHeartbeats 8000000 in
set_option maxRecDepth 100000 in
theorem frac_Cmp.calls (k : Nat) (a0_0 : Int) (a0_1 : Int) (a1_0 : Int) (a1_1 : Int) (r : Int) (w : World) (h : frac_Cmp.f k a0_0 a0_1 a1_0 a1_1 = some r) :
    Calls Try.prog 38 #[.agg #[.int .i64 a0_0, .int .i64 a0_1], .agg #[.int .i64 a1_0, .int .i64 a1_1]] w fun e w' => e = .returned (.int .i64 r) ∧ Below w.heap.size w w' := by
  have hu23 := Try.underlying23
  have HB := Aside0.mk (Below.refl w.heap.size w)
  have H : ((frac_Right.f k a0_0 a0_1).bind fun t165 => (if t165 = true then ((frac_Right.f k a1_0 a1_1).bind fun t166 => (if t166 = true then ((muldiv_Cmp.f a0_0 a1_1 a1_0 a0_1).bind fun t167 => (some t167)) else (some 0))) else (some 0))) = some r := h
  clear h
  replace H := Option.bind_eq_some_iff.mp H
  obtain ⟨t165, A30, H⟩ := H
  replace H : (if t165 = true then ((frac_Right.f k a1_0 a1_1).bind fun t166 => (if t166 = true then ((muldiv_Cmp.f a0_0 a1_1 a1_0 a0_1).bind fun t167 => (some t167)) else (some 0))) else (some 0)) = some r := H
  have A3 := Aside0.mk A30
  clear A30
  by_cases c4 : t165 = true
  · subst c4
    have H1 : ((frac_Right.f k a1_0 a1_1).bind fun t166 => (if t166 = true then ((muldiv_Cmp.f a0_0 a1_1 a1_0 a0_1).bind fun t167 => (some t167)) else (some 0))) = some r := by rw [if_pos rfl] at H; exact H
    clear H
    have H := H1
    clear H1
    replace H := Option.bind_eq_some_iff.mp H
    obtain ⟨t166, A50, H⟩ := H
    replace H : (if t166 = true then ((muldiv_Cmp.f a0_0 a1_1 a1_0 a0_1).bind fun t167 => (some t167)) else (some 0)) = some r := H
    have A5 := Aside0.mk A50
    clear A50
    by_cases c6 : t166 = true
    · subst c6
      have H1 : ((muldiv_Cmp.f a0_0 a1_1 a1_0 a0_1).bind fun t167 => (some t167)) = some r := by rw [if_pos rfl] at H; exact H
      clear H
      have H := H1
      clear H1
      replace H := Option.bind_eq_some_iff.mp H
      obtain ⟨t167, A70, H⟩ := H
      replace H : (some t167) = some r := H
      have A7 := Aside0.mk A70
      clear A70
      obtain rfl := Option.some.inj H
      go_enter Try.func38, Try.ntmps38
      go_wp2_with (first | ((with_reducible refine gate_dst (N := 2) rfl ?_); refine box_event ?hg (N := 2) ?hd (cs := #[.int .i64 a0_0, .int .i64 a0_1]) (t := 23) ?hr ?_; (case hd => rfl); (case hg => rfl); (case hr => first | (go_simp; done) | (go_simp; rfl)); intro gb163 hg w8 hbox hb; have n0_ := Aside0.mk (below_step (by repeat (first | (with_reducible first | exact HB.out | apply below_alloc | apply pw_below_drewN | apply below_drew1) | exact HB.out)) hb); have n1_ := Aside0.mk (hbox); have n2_ := Aside0.mk ((by rw [hg]; exact (below_size (by repeat (first | (with_reducible first | exact HB.out | apply below_alloc | apply pw_below_drewN | apply below_drew1) | exact HB.out))) : w.heap.size ≤ gb163)); have n3_ := Aside0.mk ((by rw [hg]; exact (below_size (by repeat (first | (with_reducible first | exact HB.out | apply below_alloc | apply pw_below_drewN | apply below_drew1) | exact HB.out))) : w.heap.size ≤ gb163)); clear HB; have HB := n0_; have BK163 := n1_; have GW163 := n2_; have GE163 := n3_; clear n0_ n1_ n2_ n3_; clear hb hbox hg) | ((with_reducible refine gate_dst (N := 3) rfl ?_); refine box_event ?hg (N := 3) ?hd (cs := #[.int .i64 a1_0, .int .i64 a1_1]) (t := 23) ?hr ?_; (case hd => rfl); (case hg => rfl); (case hr => first | (go_simp; done) | (go_simp; rfl)); intro gb164 hg w9 hbox hb; have n0_ := Aside0.mk (blk_below (g := gb163) (o := .cells #[.int .i64 a0_0, .int .i64 a0_1] 23 (0, 0)) (by (with_reducible repeat (first | refine blk_drewN ?_ _ | refine blk_drew ?_ | refine blk_alloc ?_ _)); exact BK163.out) hb); have n1_ := Aside0.mk (below_step (by repeat (first | (with_reducible first | exact HB.out | apply below_alloc | apply pw_below_drewN | apply below_drew1 | refine below_set ?_ GE163.out) | exact HB.out)) hb); have n2_ := Aside0.mk (hbox); have n3_ := Aside0.mk ((by rw [hg]; exact (below_size (by repeat (first | (with_reducible first | exact HB.out | apply below_alloc | apply pw_below_drewN | apply below_drew1 | refine below_set ?_ GE163.out) | exact HB.out))) : w.heap.size ≤ gb164)); have n4_ := Aside0.mk ((by rw [hg]; exact (below_size (by repeat (first | (with_reducible first | exact HB.out | apply below_alloc | apply pw_below_drewN | apply below_drew1 | refine below_set ?_ GE163.out) | exact HB.out))) : w.heap.size ≤ gb164)); have n5_ := Aside0.mk ((by rw [hg]; exact Nat.ne_of_lt (blk_lt (g := gb163) (o := .cells #[.int .i64 a0_0, .int .i64 a0_1] 23 (0, 0)) (by (with_reducible repeat (first | refine blk_drewN ?_ _ | refine blk_drew ?_ | refine blk_alloc ?_ _)); exact BK163.out)) : gb163 ≠ gb164)); have n6_ := Aside0.mk ((by rw [hg]; exact Nat.ne_of_gt (blk_lt (g := gb163) (o := .cells #[.int .i64 a0_0, .int .i64 a0_1] 23 (0, 0)) (by (with_reducible repeat (first | refine blk_drewN ?_ _ | refine blk_drew ?_ | refine blk_alloc ?_ _)); exact BK163.out)) : gb164 ≠ gb163)); clear BK163; clear HB; have BK163 := n0_; have HB := n1_; have BK164 := n2_; have GW164 := n3_; have GE164 := n4_; have NB163_164 := n5_; have NB164_163 := n6_; clear n0_ n1_ n2_ n3_ n4_ n5_ n6_; clear hb hbox hg; have hnb10 := NB163_164.out; have hnc10 := NB164_163.out; have hcz11_0 : w9.cell? ⟨gb163, 0, none⟩ = some (.int .i64 a0_0) := (blk_cell BK163.out 0).trans rfl; have hcz11_1 : w9.cell? ⟨gb163, 1, none⟩ = some (.int .i64 a0_1) := (blk_cell BK163.out 1).trans rfl; have hfz11_0 := blk_frozen BK163.out 0; have hfz11_1 := blk_frozen BK163.out 1) | ((with_reducible refine gate_callee (f := 37) rfl ?_); refine goesL_ (some 6) rfl rfl Try.func37 (by kernel_rfl) rfl #[.agg #[.int .i64 a0_0, .int .i64 a0_1]] rfl (by (try simp only [List.map_toArray, List.map_cons, List.map_nil]); first | done | rfl | (simp only [List.length_drop, List.length_take]; rfl)) ?_; (with_reducible refine (frac_Right.calls k a0_0 a0_1 true _ A3.out).mono ?_); rintro e w12 ⟨rfl, hb⟩; refine ⟨_, rfl, ?_⟩; have n0_ := Aside0.mk (blk_below (g := gb163) (o := .cells #[.int .i64 a0_0, .int .i64 a0_1] 23 (0, 0)) (by (with_reducible repeat (first | refine blk_drewN ?_ _ | refine blk_drew ?_ | refine blk_alloc ?_ _)); exact BK163.out) hb); have n1_ := Aside0.mk (blk_below (g := gb164) (o := .cells #[.int .i64 a1_0, .int .i64 a1_1] 23 (0, 0)) (by (with_reducible repeat (first | refine blk_drewN ?_ _ | refine blk_drew ?_ | refine blk_alloc ?_ _)); exact BK164.out) hb); have n2_ := Aside0.mk (below_step (by repeat (first | (with_reducible first | exact HB.out | apply below_alloc | apply pw_below_drewN | apply below_drew1 | refine below_set ?_ GE163.out | refine below_set ?_ GE164.out) | exact HB.out)) hb); clear BK163; clear BK164; clear HB; have BK163 := n0_; have BK164 := n1_; have HB := n2_; clear n0_ n1_ n2_; (try clear hb); (try clear hb2); (try clear hk); (try clear hi); have hcz13_0 : w12.cell? ⟨gb164, 0, none⟩ = some (.int .i64 a1_0) := (blk_cell BK164.out 0).trans rfl; have hcz13_1 : w12.cell? ⟨gb164, 1, none⟩ = some (.int .i64 a1_1) := (blk_cell BK164.out 1).trans rfl; have hfz13_0 := blk_frozen BK164.out 0; have hfz13_1 := blk_frozen BK164.out 1) | (go_at_call 37; (with_reducible refine (frac_Right.calls k a1_0 a1_1 true _ A5.out).mono ?_); rintro e w14 ⟨rfl, hb⟩; have n0_ := Aside0.mk (blk_below (g := gb163) (o := .cells #[.int .i64 a0_0, .int .i64 a0_1] 23 (0, 0)) (by (with_reducible repeat (first | refine blk_drewN ?_ _ | refine blk_drew ?_ | refine blk_alloc ?_ _)); exact BK163.out) hb); have n1_ := Aside0.mk (blk_below (g := gb164) (o := .cells #[.int .i64 a1_0, .int .i64 a1_1] 23 (0, 0)) (by (with_reducible repeat (first | refine blk_drewN ?_ _ | refine blk_drew ?_ | refine blk_alloc ?_ _)); exact BK164.out) hb); have n2_ := Aside0.mk (below_step (by repeat (first | (with_reducible first | exact HB.out | apply below_alloc | apply pw_below_drewN | apply below_drew1 | refine below_set ?_ GE163.out | refine below_set ?_ GE164.out) | exact HB.out)) hb); clear BK163; clear BK164; clear HB; have BK163 := n0_; have BK164 := n1_; have HB := n2_; clear n0_ n1_ n2_; (try clear hb); (try clear hb2); (try clear hk); (try clear hi); have hcz15_0 : w14.cell? ⟨gb163, 0, none⟩ = some (.int .i64 a0_0) := (blk_cell BK163.out 0).trans rfl; have hcz15_1 : w14.cell? ⟨gb163, 1, none⟩ = some (.int .i64 a0_1) := (blk_cell BK163.out 1).trans rfl; have hfz15_0 := blk_frozen BK163.out 0; have hfz15_1 := blk_frozen BK163.out 1; have hcz16_0 : w14.cell? ⟨gb164, 0, none⟩ = some (.int .i64 a1_0) := (blk_cell BK164.out 0).trans rfl; have hcz16_1 : w14.cell? ⟨gb164, 1, none⟩ = some (.int .i64 a1_1) := (blk_cell BK164.out 1).trans rfl; have hfz16_0 := blk_frozen BK164.out 0; have hfz16_1 := blk_frozen BK164.out 1) | ((with_reducible refine gate_callee (f := 60) rfl ?_); refine goesL_ (some 21) rfl rfl Try.func60 (by kernel_rfl) rfl #[.int .i64 a0_0, .int .i64 a1_1, .int .i64 a1_0, .int .i64 a0_1] rfl (by (try simp only [List.map_toArray, List.map_cons, List.map_nil]); first | done | rfl | (simp only [List.length_drop, List.length_take]; rfl)) ?_; (with_reducible refine (muldiv_Cmp.calls a0_0 a1_1 a1_0 a0_1 t167 _ A7.out).mono ?_); rintro e w17 ⟨rfl, hb⟩; refine ⟨_, rfl, ?_⟩; have n0_ := Aside0.mk (blk_below (g := gb163) (o := .cells #[.int .i64 a0_0, .int .i64 a0_1] 23 (0, 0)) (by (with_reducible repeat (first | refine blk_drewN ?_ _ | refine blk_drew ?_ | refine blk_alloc ?_ _)); exact BK163.out) hb); have n1_ := Aside0.mk (blk_below (g := gb164) (o := .cells #[.int .i64 a1_0, .int .i64 a1_1] 23 (0, 0)) (by (with_reducible repeat (first | refine blk_drewN ?_ _ | refine blk_drew ?_ | refine blk_alloc ?_ _)); exact BK164.out) hb); have n2_ := Aside0.mk (below_step (by repeat (first | (with_reducible first | exact HB.out | apply below_alloc | apply pw_below_drewN | apply below_drew1 | refine below_set ?_ GE163.out | refine below_set ?_ GE164.out) | exact HB.out)) hb); clear BK163; clear BK164; clear HB; have BK163 := n0_; have BK164 := n1_; have HB := n2_; clear n0_ n1_ n2_; (try clear hb); (try clear hb2); (try clear hk); (try clear hi)))
      go_ret
      exact ⟨by first | rfl | (simp [errW_none, errW_some] <;> rfl) | (simp [*, errW_none, errW_some] <;> rfl), by repeat (first | (with_reducible first | exact HB.out | apply below_alloc | apply pw_below_drewN | apply below_drew1 | refine below_set ?_ GE163.out | refine below_set ?_ GE164.out) | exact HB.out)⟩
    · replace c6 := Bool.eq_false_iff.mpr c6
      subst c6
      have H1 : (some 0) = some r := by rw [if_neg (show ¬ (false = true) by decide)] at H; exact H
      clear H
      have H := H1
      clear H1
      obtain rfl := Option.some.inj H
      go_enter Try.func38, Try.ntmps38
      go_wp2_with (first | ((with_reducible refine gate_dst (N := 2) rfl ?_); refine box_event ?hg (N := 2) ?hd (cs := #[.int .i64 a0_0, .int .i64 a0_1]) (t := 23) ?hr ?_; (case hd => rfl); (case hg => rfl); (case hr => first | (go_simp; done) | (go_simp; rfl)); intro gb163 hg w18 hbox hb; have n0_ := Aside0.mk (below_step (by repeat (first | (with_reducible first | exact HB.out | apply below_alloc | apply pw_below_drewN | apply below_drew1) | exact HB.out)) hb); have n1_ := Aside0.mk (hbox); have n2_ := Aside0.mk ((by rw [hg]; exact (below_size (by repeat (first | (with_reducible first | exact HB.out | apply below_alloc | apply pw_below_drewN | apply below_drew1) | exact HB.out))) : w.heap.size ≤ gb163)); have n3_ := Aside0.mk ((by rw [hg]; exact (below_size (by repeat (first | (with_reducible first | exact HB.out | apply below_alloc | apply pw_below_drewN | apply below_drew1) | exact HB.out))) : w.heap.size ≤ gb163)); clear HB; have HB := n0_; have BK163 := n1_; have GW163 := n2_; have GE163 := n3_; clear n0_ n1_ n2_ n3_; clear hb hbox hg) | ((with_reducible refine gate_dst (N := 3) rfl ?_); refine box_event ?hg (N := 3) ?hd (cs := #[.int .i64 a1_0, .int .i64 a1_1]) (t := 23) ?hr ?_; (case hd => rfl); (case hg => rfl); (case hr => first | (go_simp; done) | (go_simp; rfl)); intro gb164 hg w19 hbox hb; have n0_ := Aside0.mk (blk_below (g := gb163) (o := .cells #[.int .i64 a0_0, .int .i64 a0_1] 23 (0, 0)) (by (with_reducible repeat (first | refine blk_drewN ?_ _ | refine blk_drew ?_ | refine blk_alloc ?_ _)); exact BK163.out) hb); have n1_ := Aside0.mk (below_step (by repeat (first | (with_reducible first | exact HB.out | apply below_alloc | apply pw_below_drewN | apply below_drew1 | refine below_set ?_ GE163.out) | exact HB.out)) hb); have n2_ := Aside0.mk (hbox); have n3_ := Aside0.mk ((by rw [hg]; exact (below_size (by repeat (first | (with_reducible first | exact HB.out | apply below_alloc | apply pw_below_drewN | apply below_drew1 | refine below_set ?_ GE163.out) | exact HB.out))) : w.heap.size ≤ gb164)); have n4_ := Aside0.mk ((by rw [hg]; exact (below_size (by repeat (first | (with_reducible first | exact HB.out | apply below_alloc | apply pw_below_drewN | apply below_drew1 | refine below_set ?_ GE163.out) | exact HB.out))) : w.heap.size ≤ gb164)); have n5_ := Aside0.mk ((by rw [hg]; exact Nat.ne_of_lt (blk_lt (g := gb163) (o := .cells #[.int .i64 a0_0, .int .i64 a0_1] 23 (0, 0)) (by (with_reducible repeat (first | refine blk_drewN ?_ _ | refine blk_drew ?_ | refine blk_alloc ?_ _)); exact BK163.out)) : gb163 ≠ gb164)); have n6_ := Aside0.mk ((by rw [hg]; exact Nat.ne_of_gt (blk_lt (g := gb163) (o := .cells #[.int .i64 a0_0, .int .i64 a0_1] 23 (0, 0)) (by (with_reducible repeat (first | refine blk_drewN ?_ _ | refine blk_drew ?_ | refine blk_alloc ?_ _)); exact BK163.out)) : gb164 ≠ gb163)); clear BK163; clear HB; have BK163 := n0_; have HB := n1_; have BK164 := n2_; have GW164 := n3_; have GE164 := n4_; have NB163_164 := n5_; have NB164_163 := n6_; clear n0_ n1_ n2_ n3_ n4_ n5_ n6_; clear hb hbox hg; have hnb20 := NB163_164.out; have hnc20 := NB164_163.out; have hcz21_0 : w19.cell? ⟨gb163, 0, none⟩ = some (.int .i64 a0_0) := (blk_cell BK163.out 0).trans rfl; have hcz21_1 : w19.cell? ⟨gb163, 1, none⟩ = some (.int .i64 a0_1) := (blk_cell BK163.out 1).trans rfl; have hfz21_0 := blk_frozen BK163.out 0; have hfz21_1 := blk_frozen BK163.out 1) | ((with_reducible refine gate_callee (f := 37) rfl ?_); refine goesL_ (some 6) rfl rfl Try.func37 (by kernel_rfl) rfl #[.agg #[.int .i64 a0_0, .int .i64 a0_1]] rfl (by (try simp only [List.map_toArray, List.map_cons, List.map_nil]); first | done | rfl | (simp only [List.length_drop, List.length_take]; rfl)) ?_; (with_reducible refine (frac_Right.calls k a0_0 a0_1 true _ A3.out).mono ?_); rintro e w22 ⟨rfl, hb⟩; refine ⟨_, rfl, ?_⟩; have n0_ := Aside0.mk (blk_below (g := gb163) (o := .cells #[.int .i64 a0_0, .int .i64 a0_1] 23 (0, 0)) (by (with_reducible repeat (first | refine blk_drewN ?_ _ | refine blk_drew ?_ | refine blk_alloc ?_ _)); exact BK163.out) hb); have n1_ := Aside0.mk (blk_below (g := gb164) (o := .cells #[.int .i64 a1_0, .int .i64 a1_1] 23 (0, 0)) (by (with_reducible repeat (first | refine blk_drewN ?_ _ | refine blk_drew ?_ | refine blk_alloc ?_ _)); exact BK164.out) hb); have n2_ := Aside0.mk (below_step (by repeat (first | (with_reducible first | exact HB.out | apply below_alloc | apply pw_below_drewN | apply below_drew1 | refine below_set ?_ GE163.out | refine below_set ?_ GE164.out) | exact HB.out)) hb); clear BK163; clear BK164; clear HB; have BK163 := n0_; have BK164 := n1_; have HB := n2_; clear n0_ n1_ n2_; (try clear hb); (try clear hb2); (try clear hk); (try clear hi); have hcz23_0 : w22.cell? ⟨gb164, 0, none⟩ = some (.int .i64 a1_0) := (blk_cell BK164.out 0).trans rfl; have hcz23_1 : w22.cell? ⟨gb164, 1, none⟩ = some (.int .i64 a1_1) := (blk_cell BK164.out 1).trans rfl; have hfz23_0 := blk_frozen BK164.out 0; have hfz23_1 := blk_frozen BK164.out 1) | (go_at_call 37; (with_reducible refine (frac_Right.calls k a1_0 a1_1 false _ A5.out).mono ?_); rintro e w24 ⟨rfl, hb⟩; have n0_ := Aside0.mk (blk_below (g := gb163) (o := .cells #[.int .i64 a0_0, .int .i64 a0_1] 23 (0, 0)) (by (with_reducible repeat (first | refine blk_drewN ?_ _ | refine blk_drew ?_ | refine blk_alloc ?_ _)); exact BK163.out) hb); have n1_ := Aside0.mk (blk_below (g := gb164) (o := .cells #[.int .i64 a1_0, .int .i64 a1_1] 23 (0, 0)) (by (with_reducible repeat (first | refine blk_drewN ?_ _ | refine blk_drew ?_ | refine blk_alloc ?_ _)); exact BK164.out) hb); have n2_ := Aside0.mk (below_step (by repeat (first | (with_reducible first | exact HB.out | apply below_alloc | apply pw_below_drewN | apply below_drew1 | refine below_set ?_ GE163.out | refine below_set ?_ GE164.out) | exact HB.out)) hb); clear BK163; clear BK164; clear HB; have BK163 := n0_; have BK164 := n1_; have HB := n2_; clear n0_ n1_ n2_; (try clear hb); (try clear hb2); (try clear hk); (try clear hi)))
      go_ret
      exact ⟨by first | rfl | (simp [errW_none, errW_some] <;> rfl) | (simp [*, errW_none, errW_some] <;> rfl), by repeat (first | (with_reducible first | exact HB.out | apply below_alloc | apply pw_below_drewN | apply below_drew1 | refine below_set ?_ GE163.out | refine below_set ?_ GE164.out) | exact HB.out)⟩
  · replace c4 := Bool.eq_false_iff.mpr c4
    subst c4
    have H1 : (some 0) = some r := by rw [if_neg (show ¬ (false = true) by decide)] at H; exact H
    clear H
    have H := H1
    clear H1
    obtain rfl := Option.some.inj H
    go_enter Try.func38, Try.ntmps38
    go_wp2_with (first | ((with_reducible refine gate_dst (N := 2) rfl ?_); refine box_event ?hg (N := 2) ?hd (cs := #[.int .i64 a0_0, .int .i64 a0_1]) (t := 23) ?hr ?_; (case hd => rfl); (case hg => rfl); (case hr => first | (go_simp; done) | (go_simp; rfl)); intro gb163 hg w25 hbox hb; have n0_ := Aside0.mk (below_step (by repeat (first | (with_reducible first | exact HB.out | apply below_alloc | apply pw_below_drewN | apply below_drew1) | exact HB.out)) hb); have n1_ := Aside0.mk (hbox); have n2_ := Aside0.mk ((by rw [hg]; exact (below_size (by repeat (first | (with_reducible first | exact HB.out | apply below_alloc | apply pw_below_drewN | apply below_drew1) | exact HB.out))) : w.heap.size ≤ gb163)); have n3_ := Aside0.mk ((by rw [hg]; exact (below_size (by repeat (first | (with_reducible first | exact HB.out | apply below_alloc | apply pw_below_drewN | apply below_drew1) | exact HB.out))) : w.heap.size ≤ gb163)); clear HB; have HB := n0_; have BK163 := n1_; have GW163 := n2_; have GE163 := n3_; clear n0_ n1_ n2_ n3_; clear hb hbox hg) | ((with_reducible refine gate_dst (N := 3) rfl ?_); refine box_event ?hg (N := 3) ?hd (cs := #[.int .i64 a1_0, .int .i64 a1_1]) (t := 23) ?hr ?_; (case hd => rfl); (case hg => rfl); (case hr => first | (go_simp; done) | (go_simp; rfl)); intro gb164 hg w26 hbox hb; have n0_ := Aside0.mk (blk_below (g := gb163) (o := .cells #[.int .i64 a0_0, .int .i64 a0_1] 23 (0, 0)) (by (with_reducible repeat (first | refine blk_drewN ?_ _ | refine blk_drew ?_ | refine blk_alloc ?_ _)); exact BK163.out) hb); have n1_ := Aside0.mk (below_step (by repeat (first | (with_reducible first | exact HB.out | apply below_alloc | apply pw_below_drewN | apply below_drew1 | refine below_set ?_ GE163.out) | exact HB.out)) hb); have n2_ := Aside0.mk (hbox); have n3_ := Aside0.mk ((by rw [hg]; exact (below_size (by repeat (first | (with_reducible first | exact HB.out | apply below_alloc | apply pw_below_drewN | apply below_drew1 | refine below_set ?_ GE163.out) | exact HB.out))) : w.heap.size ≤ gb164)); have n4_ := Aside0.mk ((by rw [hg]; exact (below_size (by repeat (first | (with_reducible first | exact HB.out | apply below_alloc | apply pw_below_drewN | apply below_drew1 | refine below_set ?_ GE163.out) | exact HB.out))) : w.heap.size ≤ gb164)); have n5_ := Aside0.mk ((by rw [hg]; exact Nat.ne_of_lt (blk_lt (g := gb163) (o := .cells #[.int .i64 a0_0, .int .i64 a0_1] 23 (0, 0)) (by (with_reducible repeat (first | refine blk_drewN ?_ _ | refine blk_drew ?_ | refine blk_alloc ?_ _)); exact BK163.out)) : gb163 ≠ gb164)); have n6_ := Aside0.mk ((by rw [hg]; exact Nat.ne_of_gt (blk_lt (g := gb163) (o := .cells #[.int .i64 a0_0, .int .i64 a0_1] 23 (0, 0)) (by (with_reducible repeat (first | refine blk_drewN ?_ _ | refine blk_drew ?_ | refine blk_alloc ?_ _)); exact BK163.out)) : gb164 ≠ gb163)); clear BK163; clear HB; have BK163 := n0_; have HB := n1_; have BK164 := n2_; have GW164 := n3_; have GE164 := n4_; have NB163_164 := n5_; have NB164_163 := n6_; clear n0_ n1_ n2_ n3_ n4_ n5_ n6_; clear hb hbox hg; have hnb27 := NB163_164.out; have hnc27 := NB164_163.out; have hcz28_0 : w26.cell? ⟨gb163, 0, none⟩ = some (.int .i64 a0_0) := (blk_cell BK163.out 0).trans rfl; have hcz28_1 : w26.cell? ⟨gb163, 1, none⟩ = some (.int .i64 a0_1) := (blk_cell BK163.out 1).trans rfl; have hfz28_0 := blk_frozen BK163.out 0; have hfz28_1 := blk_frozen BK163.out 1) | ((with_reducible refine gate_callee (f := 37) rfl ?_); refine goesL_ (some 6) rfl rfl Try.func37 (by kernel_rfl) rfl #[.agg #[.int .i64 a0_0, .int .i64 a0_1]] rfl (by (try simp only [List.map_toArray, List.map_cons, List.map_nil]); first | done | rfl | (simp only [List.length_drop, List.length_take]; rfl)) ?_; (with_reducible refine (frac_Right.calls k a0_0 a0_1 false _ A3.out).mono ?_); rintro e w29 ⟨rfl, hb⟩; refine ⟨_, rfl, ?_⟩; have n0_ := Aside0.mk (blk_below (g := gb163) (o := .cells #[.int .i64 a0_0, .int .i64 a0_1] 23 (0, 0)) (by (with_reducible repeat (first | refine blk_drewN ?_ _ | refine blk_drew ?_ | refine blk_alloc ?_ _)); exact BK163.out) hb); have n1_ := Aside0.mk (blk_below (g := gb164) (o := .cells #[.int .i64 a1_0, .int .i64 a1_1] 23 (0, 0)) (by (with_reducible repeat (first | refine blk_drewN ?_ _ | refine blk_drew ?_ | refine blk_alloc ?_ _)); exact BK164.out) hb); have n2_ := Aside0.mk (below_step (by repeat (first | (with_reducible first | exact HB.out | apply below_alloc | apply pw_below_drewN | apply below_drew1 | refine below_set ?_ GE163.out | refine below_set ?_ GE164.out) | exact HB.out)) hb); clear BK163; clear BK164; clear HB; have BK163 := n0_; have BK164 := n1_; have HB := n2_; clear n0_ n1_ n2_; (try clear hb); (try clear hb2); (try clear hk); (try clear hi)))
    go_ret
    exact ⟨by first | rfl | (simp [errW_none, errW_some] <;> rfl) | (simp [*, errW_none, errW_some] <;> rfl), by repeat (first | (with_reducible first | exact HB.out | apply below_alloc | apply pw_below_drewN | apply below_drew1 | refine below_set ?_ GE163.out | refine below_set ?_ GE164.out) | exact HB.out)⟩
set_option linter.unusedVariables false
set_option linter.unusedSimpArgs false
attribute [local go_sem high] eqA23
def acquire_isShare.f (k : Nat) (a0_0 : Int) (a0_1 : Int) : Option (Bool) := (acquire_whole.f).bind fun bt169 => (if (a0_0 == bt169.1 && (a0_1 == bt169.2)) = true then (some true) else ((frac_Right.f k a0_0 a0_1).bind fun t171 => (if t171 = true then (if a0_0 > 0 then ((acquire_whole.f).bind fun bt172 => ((frac_Cmp.f k a0_0 a0_1 bt172.1 bt172.2).bind fun t174 => (some (decide (t174 < 0))))) else (some false)) else (some false))))
def acquire_isShare.T3 : Bool × List (List Nat × List Nat) := (true, [([], []), ([0], [0]), ([1, 1], [1]), ([2], [2]), ([3, 2], [2, 3]), ([4, 2], [2, 4]), ([2, 5], [2, 5]), ([6, 2], [6]), ([7], [7]), ([7, 7], [7]), ([8, 9, 9, 7], [7, 8, 9]), ([10, 7], [7, 10]), ([7, 11], [7, 11]), ([12, 10, 0, 1, 2, 3, 4, 5, 6, 7, 8, 9, 10, 11, 12], [12])])
def acquire_isShare.B3 : List Nat := [0, 1, 3, 7, 15, 31, 63, 127, 255, 255, 1023, 2047, 4095, 8191]
theorem acquire_isShare.tab3 : rtab .any (opsOf Try.f18 3) = acquire_isShare.T3 := by kernel_rfl
theorem acquire_isShare.bits3 : waitsOk acquire_isShare.T3.2 acquire_isShare.B3 = true := by kernel_rfl
set_option maxHeartbeats 8000000 in
set_option maxRecDepth 100000 in
theorem acquire_isShare.calls (k : Nat) (a0_0 : Int) (a0_1 : Int) (r : Bool) (w : World) (h : acquire_isShare.f k a0_0 a0_1 = some r) :
    Calls Try.prog 18 #[.agg #[.int .i64 a0_0, .int .i64 a0_1]] w fun e w' => e = .returned (.bool r) ∧ Below w.heap.size w w' := by
  have hu23 := Try.underlying23
  have HB := Aside0.mk (Below.refl w.heap.size w)
  have H : ((acquire_whole.f).bind fun bt169 => (if (a0_0 == bt169.1 && (a0_1 == bt169.2)) = true then (some true) else ((frac_Right.f k a0_0 a0_1).bind fun t171 => (if t171 = true then (if a0_0 > 0 then ((acquire_whole.f).bind fun bt172 => ((frac_Cmp.f k a0_0 a0_1 bt172.1 bt172.2).bind fun t174 => (some (decide (t174 < 0))))) else (some false)) else (some false))))) = some r := h
  clear h
  replace H := Option.bind_eq_some_iff.mp H
  obtain ⟨⟨t169, t170⟩, A20, H⟩ := H
  replace H : (if (a0_0 == t169 && (a0_1 == t170)) = true then (some true) else ((frac_Right.f k a0_0 a0_1).bind fun t171 => (if t171 = true then (if a0_0 > 0 then ((acquire_whole.f).bind fun bt172 => ((frac_Cmp.f k a0_0 a0_1 bt172.1 bt172.2).bind fun t174 => (some (decide (t174 < 0))))) else (some false)) else (some false)))) = some r := H
  have A2 := Aside0.mk A20
  clear A20
  by_cases c3 : (a0_0 == t169 && (a0_1 == t170)) = true
  · rw [if_pos c3] at H
    have c3b0 : (a0_0 == t169 && (a0_1 == t170)) = true := c3
    (try (have c3b1 : decide (a0_0 = t169 && (a0_1 == t170)) = true := by simpa using c3))
    (try (have c3b2 : (a0_0 == t169 && (a0_1 == t170)) = true := by simpa using c3))
    clear c3
    obtain rfl := Option.some.inj H
    go_enter Try.func18, Try.ntmps18
    try go_wp2_with (first | ((with_reducible refine gate_dst (N := 1) rfl ?_); refine box_event ?hg (N := 1) ?hd (cs := #[.int .i64 a0_0, .int .i64 a0_1]) (t := 23) ?hr ?_; (case hd => rfl); (case hg => rfl); (case hr => first | (go_simp; done) | (go_simp; rfl)); intro gb168 hg w4 hbox hb; have n0_ := Aside0.mk (below_step (by repeat (first | (with_reducible first | exact HB.out | apply below_alloc | apply pw_below_drewN | apply below_drew1) | exact HB.out)) hb); have n1_ := Aside0.mk (hbox); have n2_ := Aside0.mk ((by rw [hg]; exact (below_size (by repeat (first | (with_reducible first | exact HB.out | apply below_alloc | apply pw_below_drewN | apply below_drew1) | exact HB.out))) : w.heap.size ≤ gb168)); have n3_ := Aside0.mk ((by rw [hg]; exact (below_size (by repeat (first | (with_reducible first | exact HB.out | apply below_alloc | apply pw_below_drewN | apply below_drew1) | exact HB.out))) : w.heap.size ≤ gb168)); clear HB; have HB := n0_; have BK168 := n1_; have GW168 := n2_; have GE168 := n3_; clear n0_ n1_ n2_ n3_; clear hb hbox hg))
    have n0_ := Aside0.mk (blk_drew BK168.out)
    have n1_ := Aside0.mk (below_drew1 HB.out)
    clear BK168
    clear HB
    have BK168 := n0_
    have HB := n1_
    clear n0_ n1_
    refine start_ (n := 3) (S := fun w' => w'.cell? ⟨gb168, 0, none⟩ = some (.int .i64 a0_0) ∧ w'.cell? ⟨gb168, 1, none⟩ = some (.int .i64 a0_1)) (ds := []) #[false, false, false] (by kernel_rfl) rfl rfl ⟨(blk_cell BK168.out 0).trans rfl, (blk_cell BK168.out 1).trans rfl⟩ (fun hHeld => ?_)
    generalize w4.drew = w5 at BK168 HB hHeld ⊢
    refine take_ (i := 0) (N := some 3) (v := ?_) (a' := ?_) #[true, false, false] rfl rfl (by kernel_rfl) (fun _ _ _ h => h) (Or.inl ⟨by rfl, ?_⟩) hHeld ?_ ?_
    rotate_left
    · rintro w' ⟨s0, s1⟩
      go_simp
      with_reducible rfl
    rotate_left
    · simp only [Act.put, pkA, pkZ, pkS, i64_w, i32_w]
      rfl
    refine one_ (i := 1) (N := some 4) #[true, true, false] rfl rfl (by kernel_rfl) (by decide) (fun K hK => ?_)
    refine goes_ Try.func36 (by kernel_rfl) rfl #[] (by rfl) rfl rfl (by (try simp only [List.map_toArray, List.map_cons, List.map_nil]); first | done | rfl | (simp only [List.length_drop, List.length_take]; rfl)) ?_
    with_reducible refine (acquire_whole.calls  t169 t170 _ A2.out).mono ?_
    rintro e w6 ⟨rfl, hb⟩
    refine ⟨_, rfl, ?_⟩
    have n0_ := Aside0.mk (blk_below (g := gb168) (o := .cells #[.int .i64 a0_0, .int .i64 a0_1] 23 (0, 0)) (by (with_reducible repeat (first | refine blk_drewN ?_ _ | refine blk_drew ?_ | refine blk_alloc ?_ _)); exact BK168.out) hb)
    have n1_ := Aside0.mk (below_step (by repeat (first | (with_reducible first | exact HB.out | apply below_alloc | apply pw_below_drewN | apply below_drew1 | refine below_set ?_ GE168.out) | exact HB.out)) hb)
    clear BK168
    clear HB
    have BK168 := n0_
    have HB := n1_
    clear n0_ n1_
    (try clear hb)
    (try clear hb2)
    (try clear hk)
    (try clear hi)
    refine hK.out _ _ ⟨(blk_cell BK168.out 0).trans rfl, (blk_cell BK168.out 1).trans rfl⟩ (fun hHeld => ?_)
    clear hK K
    refine norm_ (a' := ?_) ?_ ?_
    rotate_left
    · show Act.put _ (some 4) _ = _
      simp only [Act.put, pkA, pkZ, pkS, i64_w, i32_w]
      rfl
    refine pure_ (i := 2) (N := some 5) (v := ?_) (a' := ?_) #[true, true, true] rfl rfl (by kernel_rfl) (fun _ _ _ h => h) (Or.inl ⟨by rfl, ?_⟩) ?_ ?_
    rotate_left
    · intro w'
      go_simp
      with_reducible rfl
    rotate_left
    · simp only [Act.put, pkA, pkZ, pkS, i64_w, i32_w]
      rfl
    refine done_ (by kernel_rfl) ?_
    try go_wp2
    go_ret
    exact ⟨by first | rfl | (simp [errW_none, errW_some] <;> rfl) | (simp [*, errW_none, errW_some] <;> rfl), by repeat (first | (with_reducible first | exact HB.out | apply below_alloc | apply pw_below_drewN | apply below_drew1 | refine below_set ?_ GE168.out) | exact HB.out)⟩
  · rw [if_neg c3] at H
    have c3b0 : (a0_0 == t169 && (a0_1 == t170)) = false := by simpa using c3
    (try (have c3b1 : decide (a0_0 = t169 && (a0_1 == t170)) = false := by simpa using c3))
    (try (have c3b2 : (a0_0 == t169 && (a0_1 == t170)) = false := by simpa using c3))
    (try (have c3b3 : ¬ (a0_0 = t169 && (a0_1 == t170)) := by simpa using c3))
    clear c3
    replace H := Option.bind_eq_some_iff.mp H
    obtain ⟨t171, A70, H⟩ := H
    replace H : (if t171 = true then (if a0_0 > 0 then ((acquire_whole.f).bind fun bt172 => ((frac_Cmp.f k a0_0 a0_1 bt172.1 bt172.2).bind fun t174 => (some (decide (t174 < 0))))) else (some false)) else (some false)) = some r := H
    have A7 := Aside0.mk A70
    clear A70
    by_cases c8 : t171 = true
    · subst c8
      have H1 : (if a0_0 > 0 then ((acquire_whole.f).bind fun bt172 => ((frac_Cmp.f k a0_0 a0_1 bt172.1 bt172.2).bind fun t174 => (some (decide (t174 < 0))))) else (some false)) = some r := by rw [if_pos rfl] at H; exact H
      clear H
      have H := H1
      clear H1
      by_cases c9 : a0_0 > 0
      · rw [if_pos c9] at H
        have c9b0 : decide (0 < a0_0) = true := decide_eq_true c9
        clear c9
        replace H := Option.bind_eq_some_iff.mp H
        obtain ⟨⟨t172, t173⟩, A100, H⟩ := H
        replace H : ((frac_Cmp.f k a0_0 a0_1 t172 t173).bind fun t174 => (some (decide (t174 < 0)))) = some r := H
        have A10 := Aside0.mk A100
        clear A100
        replace H := Option.bind_eq_some_iff.mp H
        obtain ⟨t174, A110, H⟩ := H
        replace H : (some (decide (t174 < 0))) = some r := H
        have A11 := Aside0.mk A110
        clear A110
        obtain rfl := Option.some.inj H
        go_enter Try.func18, Try.ntmps18
        try go_wp2_with (first | ((with_reducible refine gate_dst (N := 1) rfl ?_); refine box_event ?hg (N := 1) ?hd (cs := #[.int .i64 a0_0, .int .i64 a0_1]) (t := 23) ?hr ?_; (case hd => rfl); (case hg => rfl); (case hr => first | (go_simp; done) | (go_simp; rfl)); intro gb168 hg w12 hbox hb; have n0_ := Aside0.mk (below_step (by repeat (first | (with_reducible first | exact HB.out | apply below_alloc | apply pw_below_drewN | apply below_drew1) | exact HB.out)) hb); have n1_ := Aside0.mk (hbox); have n2_ := Aside0.mk ((by rw [hg]; exact (below_size (by repeat (first | (with_reducible first | exact HB.out | apply below_alloc | apply pw_below_drewN | apply below_drew1) | exact HB.out))) : w.heap.size ≤ gb168)); have n3_ := Aside0.mk ((by rw [hg]; exact (below_size (by repeat (first | (with_reducible first | exact HB.out | apply below_alloc | apply pw_below_drewN | apply below_drew1) | exact HB.out))) : w.heap.size ≤ gb168)); clear HB; have HB := n0_; have BK168 := n1_; have GW168 := n2_; have GE168 := n3_; clear n0_ n1_ n2_ n3_; clear hb hbox hg))
        have n0_ := Aside0.mk (blk_drew BK168.out)
        have n1_ := Aside0.mk (below_drew1 HB.out)
        clear BK168
        clear HB
        have BK168 := n0_
        have HB := n1_
        clear n0_ n1_
        refine start_ (n := 3) (S := fun w' => w'.cell? ⟨gb168, 0, none⟩ = some (.int .i64 a0_0) ∧ w'.cell? ⟨gb168, 1, none⟩ = some (.int .i64 a0_1)) (ds := []) #[false, false, false] (by kernel_rfl) rfl rfl ⟨(blk_cell BK168.out 0).trans rfl, (blk_cell BK168.out 1).trans rfl⟩ (fun hHeld => ?_)
        generalize w12.drew = w13 at BK168 HB hHeld ⊢
        refine take_ (i := 0) (N := some 3) (v := ?_) (a' := ?_) #[true, false, false] rfl rfl (by kernel_rfl) (fun _ _ _ h => h) (Or.inl ⟨by rfl, ?_⟩) hHeld ?_ ?_
        rotate_left
        · rintro w' ⟨s0, s1⟩
          go_simp
          with_reducible rfl
        rotate_left
        · simp only [Act.put, pkA, pkZ, pkS, i64_w, i32_w]
          rfl
        refine one_ (i := 1) (N := some 4) #[true, true, false] rfl rfl (by kernel_rfl) (by decide) (fun K hK => ?_)
        refine goes_ Try.func36 (by kernel_rfl) rfl #[] (by rfl) rfl rfl (by (try simp only [List.map_toArray, List.map_cons, List.map_nil]); first | done | rfl | (simp only [List.length_drop, List.length_take]; rfl)) ?_
        with_reducible refine (acquire_whole.calls  t169 t170 _ A2.out).mono ?_
        rintro e w14 ⟨rfl, hb⟩
        refine ⟨_, rfl, ?_⟩
        have n0_ := Aside0.mk (blk_below (g := gb168) (o := .cells #[.int .i64 a0_0, .int .i64 a0_1] 23 (0, 0)) (by (with_reducible repeat (first | refine blk_drewN ?_ _ | refine blk_drew ?_ | refine blk_alloc ?_ _)); exact BK168.out) hb)
        have n1_ := Aside0.mk (below_step (by repeat (first | (with_reducible first | exact HB.out | apply below_alloc | apply pw_below_drewN | apply below_drew1 | refine below_set ?_ GE168.out) | exact HB.out)) hb)
        clear BK168
        clear HB
        have BK168 := n0_
        have HB := n1_
        clear n0_ n1_
        (try clear hb)
        (try clear hb2)
        (try clear hk)
        (try clear hi)
        refine hK.out _ _ ⟨(blk_cell BK168.out 0).trans rfl, (blk_cell BK168.out 1).trans rfl⟩ (fun hHeld => ?_)
        clear hK K
        refine norm_ (a' := ?_) ?_ ?_
        rotate_left
        · show Act.put _ (some 4) _ = _
          simp only [Act.put, pkA, pkZ, pkS, i64_w, i32_w]
          rfl
        refine pure_ (i := 2) (N := some 5) (v := ?_) (a' := ?_) #[true, true, true] rfl rfl (by kernel_rfl) (fun _ _ _ h => h) (Or.inl ⟨by rfl, ?_⟩) ?_ ?_
        rotate_left
        · intro w'
          go_simp
          with_reducible rfl
        rotate_left
        · simp only [Act.put, pkA, pkZ, pkS, i64_w, i32_w]
          rfl
        refine done_ (by kernel_rfl) ?_
        try go_wp2
        have n0_ := Aside0.mk (blk_drew BK168.out)
        have n1_ := Aside0.mk (below_drew1 HB.out)
        clear BK168
        clear HB
        have BK168 := n0_
        have HB := n1_
        clear n0_ n1_
        refine start_ (n := 14) (S := fun w' => w'.cell? ⟨gb168, 0, none⟩ = some (.int .i64 a0_0) ∧ w'.cell? ⟨gb168, 1, none⟩ = some (.int .i64 a0_1)) (ds := []) #[false, false, false, false, false, false, false, false, false, false, false, false, false, false] (by kernel_rfl) rfl rfl ⟨(blk_cell BK168.out 0).trans rfl, (blk_cell BK168.out 1).trans rfl⟩ (fun hHeld => ?_); refine with_tabW acquire_isShare.tab3 acquire_isShare.bits3 (fun HT_ HW_ => ?_)
        generalize w14.drew = w15 at BK168 HB hHeld ⊢
        refine take_ (i := 0) (N := some 6) (v := ?_) (a' := ?_) #[true, false, false, false, false, false, false, false, false, false, false, false, false, false] rfl rfl (take_ofW HT_.out HW_.out (by kernel_rfl)) (fun _ _ _ h => h) (Or.inl ⟨by rfl, ?_⟩) hHeld ?_ ?_
        rotate_left
        · rintro w' ⟨s0, s1⟩
          go_simp
          with_reducible rfl
        rotate_left
        · simp only [Act.put, pkA, pkZ, pkS, i64_w, i32_w]
          rfl
        refine one_ (i := 1) (N := some 7) #[true, true, false, false, false, false, false, false, false, false, false, false, false, false] rfl rfl (one_of HT_.out (by kernel_rfl)) (by decide) (fun K hK => ?_)
        refine goes_ Try.func37 (by kernel_rfl) rfl #[.agg #[.int .i64 a0_0, .int .i64 a0_1]] (by rfl) rfl rfl (by (try simp only [List.map_toArray, List.map_cons, List.map_nil]); first | done | rfl | (simp only [List.length_drop, List.length_take]; rfl)) ?_
        with_reducible refine (frac_Right.calls k a0_0 a0_1 true _ A7.out).mono ?_
        rintro e w16 ⟨rfl, hb⟩
        refine ⟨_, rfl, ?_⟩
        have n0_ := Aside0.mk (blk_below (g := gb168) (o := .cells #[.int .i64 a0_0, .int .i64 a0_1] 23 (0, 0)) (by (with_reducible repeat (first | refine blk_drewN ?_ _ | refine blk_drew ?_ | refine blk_alloc ?_ _)); exact BK168.out) hb)
        have n1_ := Aside0.mk (below_step (by repeat (first | (with_reducible first | exact HB.out | apply below_alloc | apply pw_below_drewN | apply below_drew1 | refine below_set ?_ GE168.out) | exact HB.out)) hb)
        clear BK168
        clear HB
        have BK168 := n0_
        have HB := n1_
        clear n0_ n1_
        (try clear hb)
        (try clear hb2)
        (try clear hk)
        (try clear hi)
        refine hK.out _ _ ⟨(blk_cell BK168.out 0).trans rfl, (blk_cell BK168.out 1).trans rfl⟩ (fun hHeld => ?_)
        clear hK K
        refine norm_ (a' := ?_) ?_ ?_
        rotate_left
        · show Act.put _ (some 7) _ = _
          simp only [Act.put, pkA, pkZ, pkS, i64_w, i32_w]
          rfl
        refine pure_ (i := 2) (N := some 8) (v := ?_) (a' := ?_) #[true, true, true, false, false, false, false, false, false, false, false, false, false, false] rfl rfl (any_of HT_.out (by kernel_rfl)) (fun _ _ _ h => h) (Or.inl ⟨by rfl, ?_⟩) ?_ ?_
        rotate_left
        · intro w'
          go_simp
          with_reducible rfl
        rotate_left
        · simp only [Act.put, pkA, pkZ, pkS, i64_w, i32_w]
          rfl
        refine pure_ (i := 3) (N := some 9) (v := ?_) (a' := ?_) #[true, true, true, true, false, false, false, false, false, false, false, false, false, false] rfl rfl (any_of HT_.out (by kernel_rfl)) (fun _ _ _ h => h) (Or.inl ⟨by rfl, ?_⟩) ?_ ?_
        rotate_left
        · intro w'
          go_simp
          with_reducible rfl
        rotate_left
        · simp only [Act.put, pkA, pkZ, pkS, i64_w, i32_w]
          rfl
        refine take_ (i := 4) (N := some 10) (v := ?_) (a' := ?_) #[true, true, true, true, true, false, false, false, false, false, false, false, false, false] rfl rfl (take_ofW HT_.out HW_.out (by kernel_rfl)) (fun _ _ _ h => h) (Or.inl ⟨by rfl, ?_⟩) hHeld ?_ ?_
        rotate_left
        · rintro w' ⟨s0, s1⟩
          go_simp
          with_reducible rfl
        rotate_left
        · simp only [Act.put, pkA, pkZ, pkS, i64_w, i32_w]
          rfl
        refine pure_ (i := 5) (N := some 11) (v := ?_) (a' := ?_) #[true, true, true, true, true, true, false, false, false, false, false, false, false, false] rfl rfl (any_of HT_.out (by kernel_rfl)) (fun _ _ _ h => h) (Or.inl ⟨by rfl, ?_⟩) ?_ ?_
        rotate_left
        · intro w'
          go_simp
          with_reducible rfl
        rotate_left
        · simp only [Act.put, pkA, pkZ, pkS, i64_w, i32_w]
          rfl
        refine pure_ (i := 6) (N := some 12) (v := ?_) (a' := ?_) #[true, true, true, true, true, true, true, false, false, false, false, false, false, false] rfl rfl (any_of HT_.out (by kernel_rfl)) (fun _ _ _ h => h) (Or.inl ⟨by rfl, ?_⟩) ?_ ?_
        rotate_left
        · intro w'
          go_simp
          with_reducible rfl
        rotate_left
        · simp only [Act.put, pkA, pkZ, pkS, i64_w, i32_w]
          rfl
        refine pure_ (i := 7) (N := some 13) (v := ?_) (a' := ?_) #[true, true, true, true, true, true, true, true, false, false, false, false, false, false] rfl rfl (any_of HT_.out (by kernel_rfl)) (fun _ _ _ h => h) (Or.inl ⟨by rfl, ?_⟩) ?_ ?_
        rotate_left
        · intro w'
          go_simp
          with_reducible rfl
        rotate_left
        · simp only [Act.put, pkA, pkZ, pkS, i64_w, i32_w]
          rfl
        refine take_ (i := 8) (N := some 14) (v := ?_) (a' := ?_) #[true, true, true, true, true, true, true, true, true, false, false, false, false, false] rfl rfl (take_ofW HT_.out HW_.out (by kernel_rfl)) (fun _ _ _ h => h) (Or.inl ⟨by rfl, ?_⟩) hHeld ?_ ?_
        rotate_left
        · rintro w' ⟨s0, s1⟩
          go_simp
          with_reducible rfl
        rotate_left
        · simp only [Act.put, pkA, pkZ, pkS, i64_w, i32_w]
          rfl
        refine one_ (i := 9) (N := some 15) #[true, true, true, true, true, true, true, true, true, true, false, false, false, false] rfl rfl (one_of HT_.out (by kernel_rfl)) (by decide) (fun K hK => ?_)
        refine goes_ Try.func36 (by kernel_rfl) rfl #[] (by rfl) rfl rfl (by (try simp only [List.map_toArray, List.map_cons, List.map_nil]); first | done | rfl | (simp only [List.length_drop, List.length_take]; rfl)) ?_
        with_reducible refine (acquire_whole.calls  t172 t173 _ A10.out).mono ?_
        rintro e w17 ⟨rfl, hb⟩
        refine ⟨_, rfl, ?_⟩
        have n0_ := Aside0.mk (blk_below (g := gb168) (o := .cells #[.int .i64 a0_0, .int .i64 a0_1] 23 (0, 0)) (by (with_reducible repeat (first | refine blk_drewN ?_ _ | refine blk_drew ?_ | refine blk_alloc ?_ _)); exact BK168.out) hb)
        have n1_ := Aside0.mk (below_step (by repeat (first | (with_reducible first | exact HB.out | apply below_alloc | apply pw_below_drewN | apply below_drew1 | refine below_set ?_ GE168.out) | exact HB.out)) hb)
        clear BK168
        clear HB
        have BK168 := n0_
        have HB := n1_
        clear n0_ n1_
        (try clear hb)
        (try clear hb2)
        (try clear hk)
        (try clear hi)
        refine hK.out _ _ ⟨(blk_cell BK168.out 0).trans rfl, (blk_cell BK168.out 1).trans rfl⟩ (fun hHeld => ?_)
        clear hK K
        refine norm_ (a' := ?_) ?_ ?_
        rotate_left
        · show Act.put _ (some 15) _ = _
          simp only [Act.put, pkA, pkZ, pkS, i64_w, i32_w]
          rfl
        refine one_ (i := 10) (N := some 16) #[true, true, true, true, true, true, true, true, true, true, true, false, false, false] rfl rfl (one_of HT_.out (by kernel_rfl)) (by decide) (fun K hK => ?_)
        refine goes_ Try.func38 (by kernel_rfl) rfl #[.agg #[.int .i64 a0_0, .int .i64 a0_1], .agg #[.int .i64 t172, .int .i64 t173]] (by rfl) rfl rfl (by (try simp only [List.map_toArray, List.map_cons, List.map_nil]); first | done | rfl | (simp only [List.length_drop, List.length_take]; rfl)) ?_
        with_reducible refine (frac_Cmp.calls k a0_0 a0_1 t172 t173 t174 _ A11.out).mono ?_
        rintro e w18 ⟨rfl, hb⟩
        refine ⟨_, rfl, ?_⟩
        have n0_ := Aside0.mk (blk_below (g := gb168) (o := .cells #[.int .i64 a0_0, .int .i64 a0_1] 23 (0, 0)) (by (with_reducible repeat (first | refine blk_drewN ?_ _ | refine blk_drew ?_ | refine blk_alloc ?_ _)); exact BK168.out) hb)
        have n1_ := Aside0.mk (below_step (by repeat (first | (with_reducible first | exact HB.out | apply below_alloc | apply pw_below_drewN | apply below_drew1 | refine below_set ?_ GE168.out) | exact HB.out)) hb)
        clear BK168
        clear HB
        have BK168 := n0_
        have HB := n1_
        clear n0_ n1_
        (try clear hb)
        (try clear hb2)
        (try clear hk)
        (try clear hi)
        refine hK.out _ _ ⟨(blk_cell BK168.out 0).trans rfl, (blk_cell BK168.out 1).trans rfl⟩ (fun hHeld => ?_)
        clear hK K
        refine norm_ (a' := ?_) ?_ ?_
        rotate_left
        · show Act.put _ (some 16) _ = _
          simp only [Act.put, pkA, pkZ, pkS, i64_w, i32_w]
          rfl
        refine pure_ (i := 11) (N := some 17) (v := ?_) (a' := ?_) #[true, true, true, true, true, true, true, true, true, true, true, true, false, false] rfl rfl (any_of HT_.out (by kernel_rfl)) (fun _ _ _ h => h) (Or.inl ⟨by rfl, ?_⟩) ?_ ?_
        rotate_left
        · intro w'
          go_simp
          with_reducible rfl
        rotate_left
        · simp only [Act.put, pkA, pkZ, pkS, i64_w, i32_w]
          rfl
        refine pure_ (i := 12) (N := some 18) (v := ?_) (a' := ?_) #[true, true, true, true, true, true, true, true, true, true, true, true, true, false] rfl rfl (any_of HT_.out (by kernel_rfl)) (fun _ _ _ h => h) (Or.inl ⟨by rfl, ?_⟩) ?_ ?_
        rotate_left
        · intro w'
          go_simp
          with_reducible rfl
        rotate_left
        · simp only [Act.put, pkA, pkZ, pkS, i64_w, i32_w]
          rfl
        refine pure_ (i := 13) (N := some 2) (v := ?_) (a' := ?_) #[true, true, true, true, true, true, true, true, true, true, true, true, true, true] rfl rfl (any_of HT_.out (by kernel_rfl)) (fun _ _ _ h => h) (Or.inl ⟨by rfl, ?_⟩) ?_ ?_
        rotate_left
        · intro w'
          go_simp
          with_reducible rfl
        rotate_left
        · simp only [Act.put, pkA, pkZ, pkS, i64_w, i32_w]
          rfl
        refine done_ (done_of HT_.out (by kernel_rfl)) ?_
        try go_wp2
        go_ret
        exact ⟨by first | rfl | (simp [errW_none, errW_some] <;> rfl) | (simp [*, errW_none, errW_some] <;> rfl), by repeat (first | (with_reducible first | exact HB.out | apply below_alloc | apply pw_below_drewN | apply below_drew1 | refine below_set ?_ GE168.out) | exact HB.out)⟩
      · rw [if_neg c9] at H
        have c9b0 : decide (0 < a0_0) = false := decide_eq_false c9
        clear c9
        obtain rfl := Option.some.inj H
        go_enter Try.func18, Try.ntmps18
        try go_wp2_with (first | ((with_reducible refine gate_dst (N := 1) rfl ?_); refine box_event ?hg (N := 1) ?hd (cs := #[.int .i64 a0_0, .int .i64 a0_1]) (t := 23) ?hr ?_; (case hd => rfl); (case hg => rfl); (case hr => first | (go_simp; done) | (go_simp; rfl)); intro gb168 hg w19 hbox hb; have n0_ := Aside0.mk (below_step (by repeat (first | (with_reducible first | exact HB.out | apply below_alloc | apply pw_below_drewN | apply below_drew1) | exact HB.out)) hb); have n1_ := Aside0.mk (hbox); have n2_ := Aside0.mk ((by rw [hg]; exact (below_size (by repeat (first | (with_reducible first | exact HB.out | apply below_alloc | apply pw_below_drewN | apply below_drew1) | exact HB.out))) : w.heap.size ≤ gb168)); have n3_ := Aside0.mk ((by rw [hg]; exact (below_size (by repeat (first | (with_reducible first | exact HB.out | apply below_alloc | apply pw_below_drewN | apply below_drew1) | exact HB.out))) : w.heap.size ≤ gb168)); clear HB; have HB := n0_; have BK168 := n1_; have GW168 := n2_; have GE168 := n3_; clear n0_ n1_ n2_ n3_; clear hb hbox hg))
        have n0_ := Aside0.mk (blk_drew BK168.out)
        have n1_ := Aside0.mk (below_drew1 HB.out)
        clear BK168
        clear HB
        have BK168 := n0_
        have HB := n1_
        clear n0_ n1_
        refine start_ (n := 3) (S := fun w' => w'.cell? ⟨gb168, 0, none⟩ = some (.int .i64 a0_0) ∧ w'.cell? ⟨gb168, 1, none⟩ = some (.int .i64 a0_1)) (ds := []) #[false, false, false] (by kernel_rfl) rfl rfl ⟨(blk_cell BK168.out 0).trans rfl, (blk_cell BK168.out 1).trans rfl⟩ (fun hHeld => ?_)
        generalize w19.drew = w20 at BK168 HB hHeld ⊢
        refine take_ (i := 0) (N := some 3) (v := ?_) (a' := ?_) #[true, false, false] rfl rfl (by kernel_rfl) (fun _ _ _ h => h) (Or.inl ⟨by rfl, ?_⟩) hHeld ?_ ?_
        rotate_left
        · rintro w' ⟨s0, s1⟩
          go_simp
          with_reducible rfl
        rotate_left
        · simp only [Act.put, pkA, pkZ, pkS, i64_w, i32_w]
          rfl
        refine one_ (i := 1) (N := some 4) #[true, true, false] rfl rfl (by kernel_rfl) (by decide) (fun K hK => ?_)
        refine goes_ Try.func36 (by kernel_rfl) rfl #[] (by rfl) rfl rfl (by (try simp only [List.map_toArray, List.map_cons, List.map_nil]); first | done | rfl | (simp only [List.length_drop, List.length_take]; rfl)) ?_
        with_reducible refine (acquire_whole.calls  t169 t170 _ A2.out).mono ?_
        rintro e w21 ⟨rfl, hb⟩
        refine ⟨_, rfl, ?_⟩
        have n0_ := Aside0.mk (blk_below (g := gb168) (o := .cells #[.int .i64 a0_0, .int .i64 a0_1] 23 (0, 0)) (by (with_reducible repeat (first | refine blk_drewN ?_ _ | refine blk_drew ?_ | refine blk_alloc ?_ _)); exact BK168.out) hb)
        have n1_ := Aside0.mk (below_step (by repeat (first | (with_reducible first | exact HB.out | apply below_alloc | apply pw_below_drewN | apply below_drew1 | refine below_set ?_ GE168.out) | exact HB.out)) hb)
        clear BK168
        clear HB
        have BK168 := n0_
        have HB := n1_
        clear n0_ n1_
        (try clear hb)
        (try clear hb2)
        (try clear hk)
        (try clear hi)
        refine hK.out _ _ ⟨(blk_cell BK168.out 0).trans rfl, (blk_cell BK168.out 1).trans rfl⟩ (fun hHeld => ?_)
        clear hK K
        refine norm_ (a' := ?_) ?_ ?_
        rotate_left
        · show Act.put _ (some 4) _ = _
          simp only [Act.put, pkA, pkZ, pkS, i64_w, i32_w]
          rfl
        refine pure_ (i := 2) (N := some 5) (v := ?_) (a' := ?_) #[true, true, true] rfl rfl (by kernel_rfl) (fun _ _ _ h => h) (Or.inl ⟨by rfl, ?_⟩) ?_ ?_
        rotate_left
        · intro w'
          go_simp
          with_reducible rfl
        rotate_left
        · simp only [Act.put, pkA, pkZ, pkS, i64_w, i32_w]
          rfl
        refine done_ (by kernel_rfl) ?_
        try go_wp2
        have n0_ := Aside0.mk (blk_drew BK168.out)
        have n1_ := Aside0.mk (below_drew1 HB.out)
        clear BK168
        clear HB
        have BK168 := n0_
        have HB := n1_
        clear n0_ n1_
        refine start_ (n := 14) (S := fun w' => w'.cell? ⟨gb168, 0, none⟩ = some (.int .i64 a0_0) ∧ w'.cell? ⟨gb168, 1, none⟩ = some (.int .i64 a0_1)) (ds := []) #[false, false, false, false, false, false, false, false, false, false, false, false, false, false] (by kernel_rfl) rfl rfl ⟨(blk_cell BK168.out 0).trans rfl, (blk_cell BK168.out 1).trans rfl⟩ (fun hHeld => ?_); refine with_tabW acquire_isShare.tab3 acquire_isShare.bits3 (fun HT_ HW_ => ?_)
        generalize w21.drew = w22 at BK168 HB hHeld ⊢
        refine take_ (i := 0) (N := some 6) (v := ?_) (a' := ?_) #[true, false, false, false, false, false, false, false, false, false, false, false, false, false] rfl rfl (take_ofW HT_.out HW_.out (by kernel_rfl)) (fun _ _ _ h => h) (Or.inl ⟨by rfl, ?_⟩) hHeld ?_ ?_
        rotate_left
        · rintro w' ⟨s0, s1⟩
          go_simp
          with_reducible rfl
        rotate_left
        · simp only [Act.put, pkA, pkZ, pkS, i64_w, i32_w]
          rfl
        refine one_ (i := 1) (N := some 7) #[true, true, false, false, false, false, false, false, false, false, false, false, false, false] rfl rfl (one_of HT_.out (by kernel_rfl)) (by decide) (fun K hK => ?_)
        refine goes_ Try.func37 (by kernel_rfl) rfl #[.agg #[.int .i64 a0_0, .int .i64 a0_1]] (by rfl) rfl rfl (by (try simp only [List.map_toArray, List.map_cons, List.map_nil]); first | done | rfl | (simp only [List.length_drop, List.length_take]; rfl)) ?_
        with_reducible refine (frac_Right.calls k a0_0 a0_1 true _ A7.out).mono ?_
        rintro e w23 ⟨rfl, hb⟩
        refine ⟨_, rfl, ?_⟩
        have n0_ := Aside0.mk (blk_below (g := gb168) (o := .cells #[.int .i64 a0_0, .int .i64 a0_1] 23 (0, 0)) (by (with_reducible repeat (first | refine blk_drewN ?_ _ | refine blk_drew ?_ | refine blk_alloc ?_ _)); exact BK168.out) hb)
        have n1_ := Aside0.mk (below_step (by repeat (first | (with_reducible first | exact HB.out | apply below_alloc | apply pw_below_drewN | apply below_drew1 | refine below_set ?_ GE168.out) | exact HB.out)) hb)
        clear BK168
        clear HB
        have BK168 := n0_
        have HB := n1_
        clear n0_ n1_
        (try clear hb)
        (try clear hb2)
        (try clear hk)
        (try clear hi)
        refine hK.out _ _ ⟨(blk_cell BK168.out 0).trans rfl, (blk_cell BK168.out 1).trans rfl⟩ (fun hHeld => ?_)
        clear hK K
        refine norm_ (a' := ?_) ?_ ?_
        rotate_left
        · show Act.put _ (some 7) _ = _
          simp only [Act.put, pkA, pkZ, pkS, i64_w, i32_w]
          rfl
        refine pure_ (i := 2) (N := some 8) (v := ?_) (a' := ?_) #[true, true, true, false, false, false, false, false, false, false, false, false, false, false] rfl rfl (any_of HT_.out (by kernel_rfl)) (fun _ _ _ h => h) (Or.inl ⟨by rfl, ?_⟩) ?_ ?_
        rotate_left
        · intro w'
          go_simp
          with_reducible rfl
        rotate_left
        · simp only [Act.put, pkA, pkZ, pkS, i64_w, i32_w]
          rfl
        refine pure_ (i := 3) (N := some 9) (v := ?_) (a' := ?_) #[true, true, true, true, false, false, false, false, false, false, false, false, false, false] rfl rfl (any_of HT_.out (by kernel_rfl)) (fun _ _ _ h => h) (Or.inl ⟨by rfl, ?_⟩) ?_ ?_
        rotate_left
        · intro w'
          go_simp
          with_reducible rfl
        rotate_left
        · simp only [Act.put, pkA, pkZ, pkS, i64_w, i32_w]
          rfl
        refine take_ (i := 4) (N := some 10) (v := ?_) (a' := ?_) #[true, true, true, true, true, false, false, false, false, false, false, false, false, false] rfl rfl (take_ofW HT_.out HW_.out (by kernel_rfl)) (fun _ _ _ h => h) (Or.inl ⟨by rfl, ?_⟩) hHeld ?_ ?_
        rotate_left
        · rintro w' ⟨s0, s1⟩
          go_simp
          with_reducible rfl
        rotate_left
        · simp only [Act.put, pkA, pkZ, pkS, i64_w, i32_w]
          rfl
        refine pure_ (i := 5) (N := some 11) (v := ?_) (a' := ?_) #[true, true, true, true, true, true, false, false, false, false, false, false, false, false] rfl rfl (any_of HT_.out (by kernel_rfl)) (fun _ _ _ h => h) (Or.inl ⟨by rfl, ?_⟩) ?_ ?_
        rotate_left
        · intro w'
          go_simp
          with_reducible rfl
        rotate_left
        · simp only [Act.put, pkA, pkZ, pkS, i64_w, i32_w]
          rfl
        refine pure_ (i := 6) (N := some 12) (v := ?_) (a' := ?_) #[true, true, true, true, true, true, true, false, false, false, false, false, false, false] rfl rfl (any_of HT_.out (by kernel_rfl)) (fun _ _ _ h => h) (Or.inl ⟨by rfl, ?_⟩) ?_ ?_
        rotate_left
        · intro w'
          go_simp
          with_reducible rfl
        rotate_left
        · simp only [Act.put, pkA, pkZ, pkS, i64_w, i32_w]
          rfl
        refine pure_ (i := 7) (N := some 13) (v := ?_) (a' := ?_) #[true, true, true, true, true, true, true, true, false, false, false, false, false, false] rfl rfl (any_of HT_.out (by kernel_rfl)) (fun _ _ _ h => h) (Or.inl ⟨by rfl, ?_⟩) ?_ ?_
        rotate_left
        · intro w'
          go_simp
          with_reducible rfl
        rotate_left
        · simp only [Act.put, pkA, pkZ, pkS, i64_w, i32_w]
          rfl
        refine pure_ (i := 8) (N := some 14) (v := undef) (a' := ?_) #[true, true, true, true, true, true, true, true, true, false, false, false, false, false] rfl rfl (any_of HT_.out (by kernel_rfl)) (fun _ _ _ h => h) (Or.inr ⟨by rfl, rfl⟩) ?_ ?_
        rotate_left
        · simp only [Act.put, pkA, pkZ, pkS, i64_w, i32_w]
          rfl
        refine pure_ (i := 9) (N := some 15) (v := undef) (a' := ?_) #[true, true, true, true, true, true, true, true, true, true, false, false, false, false] rfl rfl (any_of HT_.out (by kernel_rfl)) (fun _ _ _ h => h) (Or.inr ⟨by rfl, rfl⟩) ?_ ?_
        rotate_left
        · simp only [Act.put, pkA, pkZ, pkS, i64_w, i32_w]
          rfl
        refine pure_ (i := 10) (N := some 16) (v := undef) (a' := ?_) #[true, true, true, true, true, true, true, true, true, true, true, false, false, false] rfl rfl (any_of HT_.out (by kernel_rfl)) (fun _ _ _ h => h) (Or.inr ⟨by rfl, rfl⟩) ?_ ?_
        rotate_left
        · simp only [Act.put, pkA, pkZ, pkS, i64_w, i32_w]
          rfl
        refine pure_ (i := 11) (N := some 17) (v := undef) (a' := ?_) #[true, true, true, true, true, true, true, true, true, true, true, true, false, false] rfl rfl (any_of HT_.out (by kernel_rfl)) (fun _ _ _ h => h) (Or.inr ⟨by rfl, rfl⟩) ?_ ?_
        rotate_left
        · simp only [Act.put, pkA, pkZ, pkS, i64_w, i32_w]
          rfl
        refine pure_ (i := 12) (N := some 18) (v := ?_) (a' := ?_) #[true, true, true, true, true, true, true, true, true, true, true, true, true, false] rfl rfl (any_of HT_.out (by kernel_rfl)) (fun _ _ _ h => h) (Or.inl ⟨by rfl, ?_⟩) ?_ ?_
        rotate_left
        · intro w'
          go_simp
          with_reducible rfl
        rotate_left
        · simp only [Act.put, pkA, pkZ, pkS, i64_w, i32_w]
          rfl
        refine pure_ (i := 13) (N := some 2) (v := ?_) (a' := ?_) #[true, true, true, true, true, true, true, true, true, true, true, true, true, true] rfl rfl (any_of HT_.out (by kernel_rfl)) (fun _ _ _ h => h) (Or.inl ⟨by rfl, ?_⟩) ?_ ?_
        rotate_left
        · intro w'
          go_simp
          with_reducible rfl
        rotate_left
        · simp only [Act.put, pkA, pkZ, pkS, i64_w, i32_w]
          rfl
        refine done_ (done_of HT_.out (by kernel_rfl)) ?_
        try go_wp2
        go_ret
        exact ⟨by first | rfl | (simp [errW_none, errW_some] <;> rfl) | (simp [*, errW_none, errW_some] <;> rfl), by repeat (first | (with_reducible first | exact HB.out | apply below_alloc | apply pw_below_drewN | apply below_drew1 | refine below_set ?_ GE168.out) | exact HB.out)⟩
    · replace c8 := Bool.eq_false_iff.mpr c8
      subst c8
      have H1 : (some false) = some r := by rw [if_neg (show ¬ (false = true) by decide)] at H; exact H
      clear H
      have H := H1
      clear H1
      obtain rfl := Option.some.inj H
      go_enter Try.func18, Try.ntmps18
      try go_wp2_with (first | ((with_reducible refine gate_dst (N := 1) rfl ?_); refine box_event ?hg (N := 1) ?hd (cs := #[.int .i64 a0_0, .int .i64 a0_1]) (t := 23) ?hr ?_; (case hd => rfl); (case hg => rfl); (case hr => first | (go_simp; done) | (go_simp; rfl)); intro gb168 hg w24 hbox hb; have n0_ := Aside0.mk (below_step (by repeat (first | (with_reducible first | exact HB.out | apply below_alloc | apply pw_below_drewN | apply below_drew1) | exact HB.out)) hb); have n1_ := Aside0.mk (hbox); have n2_ := Aside0.mk ((by rw [hg]; exact (below_size (by repeat (first | (with_reducible first | exact HB.out | apply below_alloc | apply pw_below_drewN | apply below_drew1) | exact HB.out))) : w.heap.size ≤ gb168)); have n3_ := Aside0.mk ((by rw [hg]; exact (below_size (by repeat (first | (with_reducible first | exact HB.out | apply below_alloc | apply pw_below_drewN | apply below_drew1) | exact HB.out))) : w.heap.size ≤ gb168)); clear HB; have HB := n0_; have BK168 := n1_; have GW168 := n2_; have GE168 := n3_; clear n0_ n1_ n2_ n3_; clear hb hbox hg))
      have n0_ := Aside0.mk (blk_drew BK168.out)
      have n1_ := Aside0.mk (below_drew1 HB.out)
      clear BK168
      clear HB
      have BK168 := n0_
      have HB := n1_
      clear n0_ n1_
      refine start_ (n := 3) (S := fun w' => w'.cell? ⟨gb168, 0, none⟩ = some (.int .i64 a0_0) ∧ w'.cell? ⟨gb168, 1, none⟩ = some (.int .i64 a0_1)) (ds := []) #[false, false, false] (by kernel_rfl) rfl rfl ⟨(blk_cell BK168.out 0).trans rfl, (blk_cell BK168.out 1).trans rfl⟩ (fun hHeld => ?_)
      generalize w24.drew = w25 at BK168 HB hHeld ⊢
      refine take_ (i := 0) (N := some 3) (v := ?_) (a' := ?_) #[true, false, false] rfl rfl (by kernel_rfl) (fun _ _ _ h => h) (Or.inl ⟨by rfl, ?_⟩) hHeld ?_ ?_
      rotate_left
      · rintro w' ⟨s0, s1⟩
        go_simp
        with_reducible rfl
      rotate_left
      · simp only [Act.put, pkA, pkZ, pkS, i64_w, i32_w]
        rfl
      refine one_ (i := 1) (N := some 4) #[true, true, false] rfl rfl (by kernel_rfl) (by decide) (fun K hK => ?_)
      refine goes_ Try.func36 (by kernel_rfl) rfl #[] (by rfl) rfl rfl (by (try simp only [List.map_toArray, List.map_cons, List.map_nil]); first | done | rfl | (simp only [List.length_drop, List.length_take]; rfl)) ?_
      with_reducible refine (acquire_whole.calls  t169 t170 _ A2.out).mono ?_
      rintro e w26 ⟨rfl, hb⟩
      refine ⟨_, rfl, ?_⟩
      have n0_ := Aside0.mk (blk_below (g := gb168) (o := .cells #[.int .i64 a0_0, .int .i64 a0_1] 23 (0, 0)) (by (with_reducible repeat (first | refine blk_drewN ?_ _ | refine blk_drew ?_ | refine blk_alloc ?_ _)); exact BK168.out) hb)
      have n1_ := Aside0.mk (below_step (by repeat (first | (with_reducible first | exact HB.out | apply below_alloc | apply pw_below_drewN | apply below_drew1 | refine below_set ?_ GE168.out) | exact HB.out)) hb)
      clear BK168
      clear HB
      have BK168 := n0_
      have HB := n1_
      clear n0_ n1_
      (try clear hb)
      (try clear hb2)
      (try clear hk)
      (try clear hi)
      refine hK.out _ _ ⟨(blk_cell BK168.out 0).trans rfl, (blk_cell BK168.out 1).trans rfl⟩ (fun hHeld => ?_)
      clear hK K
      refine norm_ (a' := ?_) ?_ ?_
      rotate_left
      · show Act.put _ (some 4) _ = _
        simp only [Act.put, pkA, pkZ, pkS, i64_w, i32_w]
        rfl
      refine pure_ (i := 2) (N := some 5) (v := ?_) (a' := ?_) #[true, true, true] rfl rfl (by kernel_rfl) (fun _ _ _ h => h) (Or.inl ⟨by rfl, ?_⟩) ?_ ?_
      rotate_left
      · intro w'
        go_simp
        with_reducible rfl
      rotate_left
      · simp only [Act.put, pkA, pkZ, pkS, i64_w, i32_w]
        rfl
      refine done_ (by kernel_rfl) ?_
      try go_wp2
      have n0_ := Aside0.mk (blk_drew BK168.out)
      have n1_ := Aside0.mk (below_drew1 HB.out)
      clear BK168
      clear HB
      have BK168 := n0_
      have HB := n1_
      clear n0_ n1_
      refine start_ (n := 14) (S := fun w' => w'.cell? ⟨gb168, 0, none⟩ = some (.int .i64 a0_0) ∧ w'.cell? ⟨gb168, 1, none⟩ = some (.int .i64 a0_1)) (ds := []) #[false, false, false, false, false, false, false, false, false, false, false, false, false, false] (by kernel_rfl) rfl rfl ⟨(blk_cell BK168.out 0).trans rfl, (blk_cell BK168.out 1).trans rfl⟩ (fun hHeld => ?_); refine with_tabW acquire_isShare.tab3 acquire_isShare.bits3 (fun HT_ HW_ => ?_)
      generalize w26.drew = w27 at BK168 HB hHeld ⊢
      refine take_ (i := 0) (N := some 6) (v := ?_) (a' := ?_) #[true, false, false, false, false, false, false, false, false, false, false, false, false, false] rfl rfl (take_ofW HT_.out HW_.out (by kernel_rfl)) (fun _ _ _ h => h) (Or.inl ⟨by rfl, ?_⟩) hHeld ?_ ?_
      rotate_left
      · rintro w' ⟨s0, s1⟩
        go_simp
        with_reducible rfl
      rotate_left
      · simp only [Act.put, pkA, pkZ, pkS, i64_w, i32_w]
        rfl
      refine one_ (i := 1) (N := some 7) #[true, true, false, false, false, false, false, false, false, false, false, false, false, false] rfl rfl (one_of HT_.out (by kernel_rfl)) (by decide) (fun K hK => ?_)
      refine goes_ Try.func37 (by kernel_rfl) rfl #[.agg #[.int .i64 a0_0, .int .i64 a0_1]] (by rfl) rfl rfl (by (try simp only [List.map_toArray, List.map_cons, List.map_nil]); first | done | rfl | (simp only [List.length_drop, List.length_take]; rfl)) ?_
      with_reducible refine (frac_Right.calls k a0_0 a0_1 false _ A7.out).mono ?_
      rintro e w28 ⟨rfl, hb⟩
      refine ⟨_, rfl, ?_⟩
      have n0_ := Aside0.mk (blk_below (g := gb168) (o := .cells #[.int .i64 a0_0, .int .i64 a0_1] 23 (0, 0)) (by (with_reducible repeat (first | refine blk_drewN ?_ _ | refine blk_drew ?_ | refine blk_alloc ?_ _)); exact BK168.out) hb)
      have n1_ := Aside0.mk (below_step (by repeat (first | (with_reducible first | exact HB.out | apply below_alloc | apply pw_below_drewN | apply below_drew1 | refine below_set ?_ GE168.out) | exact HB.out)) hb)
      clear BK168
      clear HB
      have BK168 := n0_
      have HB := n1_
      clear n0_ n1_
      (try clear hb)
      (try clear hb2)
      (try clear hk)
      (try clear hi)
      refine hK.out _ _ ⟨(blk_cell BK168.out 0).trans rfl, (blk_cell BK168.out 1).trans rfl⟩ (fun hHeld => ?_)
      clear hK K
      refine norm_ (a' := ?_) ?_ ?_
      rotate_left
      · show Act.put _ (some 7) _ = _
        simp only [Act.put, pkA, pkZ, pkS, i64_w, i32_w]
        rfl
      refine pure_ (i := 2) (N := some 8) (v := ?_) (a' := ?_) #[true, true, true, false, false, false, false, false, false, false, false, false, false, false] rfl rfl (any_of HT_.out (by kernel_rfl)) (fun _ _ _ h => h) (Or.inl ⟨by rfl, ?_⟩) ?_ ?_
      rotate_left
      · intro w'
        go_simp
        with_reducible rfl
      rotate_left
      · simp only [Act.put, pkA, pkZ, pkS, i64_w, i32_w]
        rfl
      refine pure_ (i := 3) (N := some 9) (v := undef) (a' := ?_) #[true, true, true, true, false, false, false, false, false, false, false, false, false, false] rfl rfl (any_of HT_.out (by kernel_rfl)) (fun _ _ _ h => h) (Or.inr ⟨by rfl, rfl⟩) ?_ ?_
      rotate_left
      · simp only [Act.put, pkA, pkZ, pkS, i64_w, i32_w]
        rfl
      refine pure_ (i := 4) (N := some 10) (v := undef) (a' := ?_) #[true, true, true, true, true, false, false, false, false, false, false, false, false, false] rfl rfl (any_of HT_.out (by kernel_rfl)) (fun _ _ _ h => h) (Or.inr ⟨by rfl, rfl⟩) ?_ ?_
      rotate_left
      · simp only [Act.put, pkA, pkZ, pkS, i64_w, i32_w]
        rfl
      refine pure_ (i := 5) (N := some 11) (v := undef) (a' := ?_) #[true, true, true, true, true, true, false, false, false, false, false, false, false, false] rfl rfl (any_of HT_.out (by kernel_rfl)) (fun _ _ _ h => h) (Or.inr ⟨by rfl, rfl⟩) ?_ ?_
      rotate_left
      · simp only [Act.put, pkA, pkZ, pkS, i64_w, i32_w]
        rfl
      refine pure_ (i := 6) (N := some 12) (v := ?_) (a' := ?_) #[true, true, true, true, true, true, true, false, false, false, false, false, false, false] rfl rfl (any_of HT_.out (by kernel_rfl)) (fun _ _ _ h => h) (Or.inl ⟨by rfl, ?_⟩) ?_ ?_
      rotate_left
      · intro w'
        go_simp
        with_reducible rfl
      rotate_left
      · simp only [Act.put, pkA, pkZ, pkS, i64_w, i32_w]
        rfl
      refine pure_ (i := 7) (N := some 13) (v := ?_) (a' := ?_) #[true, true, true, true, true, true, true, true, false, false, false, false, false, false] rfl rfl (any_of HT_.out (by kernel_rfl)) (fun _ _ _ h => h) (Or.inl ⟨by rfl, ?_⟩) ?_ ?_
      rotate_left
      · intro w'
        go_simp
        with_reducible rfl
      rotate_left
      · simp only [Act.put, pkA, pkZ, pkS, i64_w, i32_w]
        rfl
      refine pure_ (i := 8) (N := some 14) (v := undef) (a' := ?_) #[true, true, true, true, true, true, true, true, true, false, false, false, false, false] rfl rfl (any_of HT_.out (by kernel_rfl)) (fun _ _ _ h => h) (Or.inr ⟨by rfl, rfl⟩) ?_ ?_
      rotate_left
      · simp only [Act.put, pkA, pkZ, pkS, i64_w, i32_w]
        rfl
      refine pure_ (i := 9) (N := some 15) (v := undef) (a' := ?_) #[true, true, true, true, true, true, true, true, true, true, false, false, false, false] rfl rfl (any_of HT_.out (by kernel_rfl)) (fun _ _ _ h => h) (Or.inr ⟨by rfl, rfl⟩) ?_ ?_
      rotate_left
      · simp only [Act.put, pkA, pkZ, pkS, i64_w, i32_w]
        rfl
      refine pure_ (i := 10) (N := some 16) (v := undef) (a' := ?_) #[true, true, true, true, true, true, true, true, true, true, true, false, false, false] rfl rfl (any_of HT_.out (by kernel_rfl)) (fun _ _ _ h => h) (Or.inr ⟨by rfl, rfl⟩) ?_ ?_
      rotate_left
      · simp only [Act.put, pkA, pkZ, pkS, i64_w, i32_w]
        rfl
      refine pure_ (i := 11) (N := some 17) (v := undef) (a' := ?_) #[true, true, true, true, true, true, true, true, true, true, true, true, false, false] rfl rfl (any_of HT_.out (by kernel_rfl)) (fun _ _ _ h => h) (Or.inr ⟨by rfl, rfl⟩) ?_ ?_
      rotate_left
      · simp only [Act.put, pkA, pkZ, pkS, i64_w, i32_w]
        rfl
      refine pure_ (i := 12) (N := some 18) (v := ?_) (a' := ?_) #[true, true, true, true, true, true, true, true, true, true, true, true, true, false] rfl rfl (any_of HT_.out (by kernel_rfl)) (fun _ _ _ h => h) (Or.inl ⟨by rfl, ?_⟩) ?_ ?_
      rotate_left
      · intro w'
        go_simp
        with_reducible rfl
      rotate_left
      · simp only [Act.put, pkA, pkZ, pkS, i64_w, i32_w]
        rfl
      refine pure_ (i := 13) (N := some 2) (v := ?_) (a' := ?_) #[true, true, true, true, true, true, true, true, true, true, true, true, true, true] rfl rfl (any_of HT_.out (by kernel_rfl)) (fun _ _ _ h => h) (Or.inl ⟨by rfl, ?_⟩) ?_ ?_
      rotate_left
      · intro w'
        go_simp
        with_reducible rfl
      rotate_left
      · simp only [Act.put, pkA, pkZ, pkS, i64_w, i32_w]
        rfl
      refine done_ (done_of HT_.out (by kernel_rfl)) ?_
      try go_wp2
      go_ret
      exact ⟨by first | rfl | (simp [errW_none, errW_some] <;> rfl) | (simp [*, errW_none, errW_some] <;> rfl), by repeat (first | (with_reducible first | exact HB.out | apply below_alloc | apply pw_below_drewN | apply below_drew1 | refine below_set ?_ GE168.out) | exact HB.out)⟩
def muldiv_MulDiv.f (a b c m : Int) : Option (Int × Int) := if (-9223372036854775808 ≤ a ∧ a ≤ 9223372036854775807) ∧ (-9223372036854775808 ≤ b ∧ b ≤ 9223372036854775807) ∧ (-9223372036854775808 ≤ c ∧ c ≤ 9223372036854775807) then some (mdS a b c m) else none
theorem muldiv_MulDiv.calls (a b c m : Int) (r1 r2 : Int) (w : World) (h : muldiv_MulDiv.f a b c m = some (r1, r2)) :
    Calls Try.prog 39 #[.int .i64 a, .int .i64 b, .int .i64 c, .int .i64 m] w fun e w' => e = .returned (.tuple #[.int .i64 r1, .int .i64 r2]) ∧ Below w.heap.size w w' := by
  unfold muldiv_MulDiv.f at h
  split at h
  · rename_i hh
    injection h with h
    have h1 : (mdS a b c m).1 = r1 := by rw [h]
    have h2 : (mdS a b c m).2 = r2 := by rw [h]
    have hc := Go.Proofs.Ytdlilbleohlmnaa.muldiv_MulDiv.calls a b c m w hh.1.1 hh.1.2 hh.2.1.1 hh.2.1.2 hh.2.2.1 hh.2.2.2
    rw [h1, h2] at hc
    exact hc
  · cases h
def frac_Apply.f (k : Nat) (a0_0 : Int) (a0_1 : Int) (a1 : Int) (a2 : Int) : Option (Int × Int) := (frac_Right.f k a0_0 a0_1).bind fun t176 => (if t176 = true then ((muldiv_MulDiv.f a0_0 a1 a0_1 a2).bind fun bt177 => (some (bt177.1, bt177.2))) else (some (0, 2)))
set_option maxHeartbeats 8000000 in
set_option maxRecDepth 100000 in
theorem frac_Apply.calls (k : Nat) (a0_0 : Int) (a0_1 : Int) (a1 : Int) (a2 : Int) (r1 : Int) (r2 : Int) (w : World) (h : frac_Apply.f k a0_0 a0_1 a1 a2 = some (r1, r2)) :
    Calls Try.prog 20 #[.agg #[.int .i64 a0_0, .int .i64 a0_1], .int .i64 a1, .int .i64 a2] w fun e w' => e = .returned (.tuple #[.int .i64 r1, .int .i64 r2]) ∧ Below w.heap.size w w' := by
  have hu23 := Try.underlying23
  have HB := Aside0.mk (Below.refl w.heap.size w)
  have H : ((frac_Right.f k a0_0 a0_1).bind fun t176 => (if t176 = true then ((muldiv_MulDiv.f a0_0 a1 a0_1 a2).bind fun bt177 => (some (bt177.1, bt177.2))) else (some (0, 2)))) = some (r1, r2) := h
  clear h
  replace H := Option.bind_eq_some_iff.mp H
  obtain ⟨t176, A40, H⟩ := H
  replace H : (if t176 = true then ((muldiv_MulDiv.f a0_0 a1 a0_1 a2).bind fun bt177 => (some (bt177.1, bt177.2))) else (some (0, 2))) = some (r1, r2) := H
  have A4 := Aside0.mk A40
  clear A40
  by_cases c5 : t176 = true
  · subst c5
    have H1 : ((muldiv_MulDiv.f a0_0 a1 a0_1 a2).bind fun bt177 => (some (bt177.1, bt177.2))) = some (r1, r2) := by rw [if_pos rfl] at H; exact H
    clear H
    have H := H1
    clear H1
    replace H := Option.bind_eq_some_iff.mp H
    obtain ⟨⟨t177, t178⟩, A60, H⟩ := H
    replace H : (some (t177, t178)) = some (r1, r2) := H
    have A6 := Aside0.mk A60
    clear A60
    simp only [Option.some.injEq, Prod.mk.injEq] at H
    obtain ⟨rfl, rfl⟩ := H
    go_enter Try.func20, Try.ntmps20
    go_wp2_with (first | ((with_reducible refine gate_dst (N := 3) rfl ?_); refine box_event ?hg (N := 3) ?hd (cs := #[.int .i64 a0_0, .int .i64 a0_1]) (t := 23) ?hr ?_; (case hd => rfl); (case hg => rfl); (case hr => first | (go_simp; done) | (go_simp; rfl)); intro gb175 hg w7 hbox hb; have n0_ := Aside0.mk (below_step (by repeat (first | (with_reducible first | exact HB.out | apply below_alloc | apply pw_below_drewN | apply below_drew1) | exact HB.out)) hb); have n1_ := Aside0.mk (hbox); have n2_ := Aside0.mk ((by rw [hg]; exact (below_size (by repeat (first | (with_reducible first | exact HB.out | apply below_alloc | apply pw_below_drewN | apply below_drew1) | exact HB.out))) : w.heap.size ≤ gb175)); have n3_ := Aside0.mk ((by rw [hg]; exact (below_size (by repeat (first | (with_reducible first | exact HB.out | apply below_alloc | apply pw_below_drewN | apply below_drew1) | exact HB.out))) : w.heap.size ≤ gb175)); clear HB; have HB := n0_; have BK175 := n1_; have GW175 := n2_; have GE175 := n3_; clear n0_ n1_ n2_ n3_; clear hb hbox hg; have hcz8_0 : w7.cell? ⟨gb175, 0, none⟩ = some (.int .i64 a0_0) := (blk_cell BK175.out 0).trans rfl; have hcz8_1 : w7.cell? ⟨gb175, 1, none⟩ = some (.int .i64 a0_1) := (blk_cell BK175.out 1).trans rfl; have hfz8_0 := blk_frozen BK175.out 0; have hfz8_1 := blk_frozen BK175.out 1) | ((with_reducible refine gate_callee (f := 37) rfl ?_); refine goesL_ (some 9) rfl rfl Try.func37 (by kernel_rfl) rfl #[.agg #[.int .i64 a0_0, .int .i64 a0_1]] rfl (by (try simp only [List.map_toArray, List.map_cons, List.map_nil]); first | done | rfl | (simp only [List.length_drop, List.length_take]; rfl)) ?_; (with_reducible refine (frac_Right.calls k a0_0 a0_1 true _ A4.out).mono ?_); rintro e w9 ⟨rfl, hb⟩; refine ⟨_, rfl, ?_⟩; have n0_ := Aside0.mk (blk_below (g := gb175) (o := .cells #[.int .i64 a0_0, .int .i64 a0_1] 23 (0, 0)) (by (with_reducible repeat (first | refine blk_drewN ?_ _ | refine blk_drew ?_ | refine blk_alloc ?_ _)); exact BK175.out) hb); have n1_ := Aside0.mk (below_step (by repeat (first | (with_reducible first | exact HB.out | apply below_alloc | apply pw_below_drewN | apply below_drew1 | refine below_set ?_ GE175.out) | exact HB.out)) hb); clear BK175; clear HB; have BK175 := n0_; have HB := n1_; clear n0_ n1_; (try clear hb); (try clear hb2); (try clear hk); (try clear hi); have hcz10_0 : w9.cell? ⟨gb175, 0, none⟩ = some (.int .i64 a0_0) := (blk_cell BK175.out 0).trans rfl; have hcz10_1 : w9.cell? ⟨gb175, 1, none⟩ = some (.int .i64 a0_1) := (blk_cell BK175.out 1).trans rfl; have hfz10_0 := blk_frozen BK175.out 0; have hfz10_1 := blk_frozen BK175.out 1) | ((with_reducible refine gate_callee (f := 39) rfl ?_); refine goesL_ (some 17) rfl rfl Try.func39 (by kernel_rfl) rfl #[.int .i64 a0_0, .int .i64 a1, .int .i64 a0_1, .int .i64 a2] rfl (by (try simp only [List.map_toArray, List.map_cons, List.map_nil]); first | done | rfl | (simp only [List.length_drop, List.length_take]; rfl)) ?_; (with_reducible refine (muldiv_MulDiv.calls a0_0 a1 a0_1 a2 t177 t178 _ A6.out).mono ?_); rintro e w11 ⟨rfl, hb⟩; refine ⟨_, rfl, ?_⟩; have n0_ := Aside0.mk (blk_below (g := gb175) (o := .cells #[.int .i64 a0_0, .int .i64 a0_1] 23 (0, 0)) (by (with_reducible repeat (first | refine blk_drewN ?_ _ | refine blk_drew ?_ | refine blk_alloc ?_ _)); exact BK175.out) hb); have n1_ := Aside0.mk (below_step (by repeat (first | (with_reducible first | exact HB.out | apply below_alloc | apply pw_below_drewN | apply below_drew1 | refine below_set ?_ GE175.out) | exact HB.out)) hb); clear BK175; clear HB; have BK175 := n0_; have HB := n1_; clear n0_ n1_; (try clear hb); (try clear hb2); (try clear hk); (try clear hi)))
    go_ret2
    exact ⟨by first | rfl | (simp [errW_none, errW_some] <;> rfl) | (simp [*, errW_none, errW_some] <;> rfl), by repeat (first | (with_reducible first | exact HB.out | apply below_alloc | apply pw_below_drewN | apply below_drew1 | refine below_set ?_ GE175.out) | exact HB.out)⟩
  · replace c5 := Bool.eq_false_iff.mpr c5
    subst c5
    have H1 : (some (0, 2)) = some (r1, r2) := by rw [if_neg (show ¬ (false = true) by decide)] at H; exact H
    clear H
    have H := H1
    clear H1
    simp only [Option.some.injEq, Prod.mk.injEq] at H
    obtain ⟨rfl, rfl⟩ := H
    go_enter Try.func20, Try.ntmps20
    go_wp2_with (first | ((with_reducible refine gate_dst (N := 3) rfl ?_); refine box_event ?hg (N := 3) ?hd (cs := #[.int .i64 a0_0, .int .i64 a0_1]) (t := 23) ?hr ?_; (case hd => rfl); (case hg => rfl); (case hr => first | (go_simp; done) | (go_simp; rfl)); intro gb175 hg w12 hbox hb; have n0_ := Aside0.mk (below_step (by repeat (first | (with_reducible first | exact HB.out | apply below_alloc | apply pw_below_drewN | apply below_drew1) | exact HB.out)) hb); have n1_ := Aside0.mk (hbox); have n2_ := Aside0.mk ((by rw [hg]; exact (below_size (by repeat (first | (with_reducible first | exact HB.out | apply below_alloc | apply pw_below_drewN | apply below_drew1) | exact HB.out))) : w.heap.size ≤ gb175)); have n3_ := Aside0.mk ((by rw [hg]; exact (below_size (by repeat (first | (with_reducible first | exact HB.out | apply below_alloc | apply pw_below_drewN | apply below_drew1) | exact HB.out))) : w.heap.size ≤ gb175)); clear HB; have HB := n0_; have BK175 := n1_; have GW175 := n2_; have GE175 := n3_; clear n0_ n1_ n2_ n3_; clear hb hbox hg; have hcz13_0 : w12.cell? ⟨gb175, 0, none⟩ = some (.int .i64 a0_0) := (blk_cell BK175.out 0).trans rfl; have hcz13_1 : w12.cell? ⟨gb175, 1, none⟩ = some (.int .i64 a0_1) := (blk_cell BK175.out 1).trans rfl; have hfz13_0 := blk_frozen BK175.out 0; have hfz13_1 := blk_frozen BK175.out 1) | ((with_reducible refine gate_callee (f := 37) rfl ?_); refine goesL_ (some 9) rfl rfl Try.func37 (by kernel_rfl) rfl #[.agg #[.int .i64 a0_0, .int .i64 a0_1]] rfl (by (try simp only [List.map_toArray, List.map_cons, List.map_nil]); first | done | rfl | (simp only [List.length_drop, List.length_take]; rfl)) ?_; (with_reducible refine (frac_Right.calls k a0_0 a0_1 false _ A4.out).mono ?_); rintro e w14 ⟨rfl, hb⟩; refine ⟨_, rfl, ?_⟩; have n0_ := Aside0.mk (blk_below (g := gb175) (o := .cells #[.int .i64 a0_0, .int .i64 a0_1] 23 (0, 0)) (by (with_reducible repeat (first | refine blk_drewN ?_ _ | refine blk_drew ?_ | refine blk_alloc ?_ _)); exact BK175.out) hb); have n1_ := Aside0.mk (below_step (by repeat (first | (with_reducible first | exact HB.out | apply below_alloc | apply pw_below_drewN | apply below_drew1 | refine below_set ?_ GE175.out) | exact HB.out)) hb); clear BK175; clear HB; have BK175 := n0_; have HB := n1_; clear n0_ n1_; (try clear hb); (try clear hb2); (try clear hk); (try clear hi)))
    go_ret2
    exact ⟨by first | rfl | (simp [errW_none, errW_some] <;> rfl) | (simp [*, errW_none, errW_some] <;> rfl), by repeat (first | (with_reducible first | exact HB.out | apply below_alloc | apply pw_below_drewN | apply below_drew1 | refine below_set ?_ GE175.out) | exact HB.out)⟩
end Go.Proofs.Ytdlilbleohlmnaa.PAq
namespace Go.Proofs.Ytdlilbleohlmnaa
open Go.RowKit
def wordB (c : UInt8) : Bool := (decide (97 ≤ c.toNat) && decide (c.toNat ≤ 122)) || (decide (65 ≤ c.toNat) && decide (c.toNat ≤ 90)) || decide (c.toNat = 95) || (decide (48 ≤ c.toNat) && decide (c.toNat ≤ 57))
def allW (s : ByteArray) : Bool := s.data.toList.all wordB
def wcodeB (s : ByteArray) : Bool := decide (s.size ≠ 0) && decide (s.size ≤ 12) && allW s
def ltrI (c : Int) : Bool := (decide (97 ≤ c) && decide (c ≤ 122)) || (decide (65 ≤ c) && decide (c ≤ 90)) || (c == 95)
def digI (c : Int) : Bool := decide (48 ≤ c) && decide (c ≤ 57)
theorem wordB_eq (c : UInt8) : wordB c = (ltrI (c.toNat : Int) || digI (c.toNat : Int)) := by
  unfold wordB ltrI digI
  rw [Bool.eq_iff_iff]
  simp
  omega
set_option maxHeartbeats 1000000 in
theorem words_digit_any (c : Int) (w : World) : Calls Try.prog 84 #[.int .u8 c] w fun e w' => e = .returned (.bool (digI c)) ∧ w = w' := by
  by_cases h1 : 48 ≤ c
  · have HF := Lib.hid (show digI c = decide (c ≤ 57) by unfold digI; rw [decide_eq_true h1]; rfl)
    go_enter Try.func84, Try.ntmps84
    go_wp2
    go_ret
    exact ⟨by rw [HF.out]; rfl, rfl⟩
  · have HF := Lib.hid (show digI c = false by unfold digI; rw [decide_eq_false h1]; rfl)
    go_enter Try.func84, Try.ntmps84
    go_wp2
    go_ret
    exact ⟨by rw [HF.out]; rfl, rfl⟩
set_option maxHeartbeats 2000000 in
theorem words_letter_any (c : Int) (w : World) : Calls Try.prog 83 #[.int .u8 c] w fun e w' => e = .returned (.bool (ltrI c)) ∧ w = w' := by
  by_cases h1 : 97 ≤ c
  · by_cases h2 : c ≤ 122
    · have HF := Lib.hid (show ltrI c = true by unfold ltrI; simp [h1, h2])
      go_enter Try.func83, Try.ntmps83
      go_wp2
      go_ret
      exact ⟨by rw [HF.out]; rfl, rfl⟩
    · have b2 : decide (c ≤ 122) = false := decide_eq_false h2
      have h3 : 65 ≤ c := by omega
      have b4 : decide (c ≤ 90) = false := decide_eq_false (by omega)
      have b5 : (c == 95) = false := by simp; omega
      have HF := Lib.hid (show ltrI c = false by unfold ltrI; rw [b2, b4, b5]; simp)
      clear h2
      go_enter Try.func83, Try.ntmps83
      go_wp2
      go_ret
      exact ⟨by rw [HF.out]; rfl, rfl⟩
  · have b1 : decide (97 ≤ c) = false := decide_eq_false h1
    by_cases h3 : 65 ≤ c
    · by_cases h4 : c ≤ 90
      · have HF := Lib.hid (show ltrI c = true by unfold ltrI; simp [h3, h4])
        clear h1
        go_enter Try.func83, Try.ntmps83
        go_wp2
        go_ret
        exact ⟨by rw [HF.out]; rfl, rfl⟩
      · have b4 : decide (c ≤ 90) = false := decide_eq_false h4
        have HF := Lib.hid (show ltrI c = (c == 95) by unfold ltrI; rw [b1, b4]; simp)
        clear h1 h4
        go_enter Try.func83, Try.ntmps83
        go_wp2
        go_ret
        exact ⟨by rw [HF.out]; rfl, rfl⟩
    · have b3 : decide (65 ≤ c) = false := decide_eq_false h3
      have HF := Lib.hid (show ltrI c = (c == 95) by unfold ltrI; rw [b1, b3]; simp)
      clear h1 h3
      go_enter Try.func83, Try.ntmps83
      go_wp2
      go_ret
      exact ⟨by rw [HF.out]; rfl, rfl⟩
set_option maxHeartbeats 2000000 in
theorem words_Code_1_any (c : UInt8) (w : World) : Calls Try.prog 82 #[.int .u8 c.toNat] w fun e w' => e = .returned (.bool (wordB c)) ∧ w = w' := by
  have HE := Lib.hid (wordB_eq c)
  obtain ⟨a, ha⟩ : ∃ a, ltrI (c.toNat : Int) = a := ⟨_, rfl⟩
  obtain ⟨b, hb⟩ : ∃ b, digI (c.toNat : Int) = b := ⟨_, rfl⟩
  rw [ha, hb] at HE
  have HA := Lib.hid ha; have HB := Lib.hid hb
  clear ha hb
  cases a
  all_goals
    go_enter Try.func82, Try.ntmps82
    go_wp2_with (first
      | (go_at_call 83; refine (words_letter_any _ _).mono ?_; rintro e w' ⟨rfl, rfl⟩; rw [HA.out])
      | (go_at_call 84; refine (words_digit_any _ _).mono ?_; rintro e w' ⟨rfl, rfl⟩; rw [HB.out]))
    go_ret
    exact ⟨by rw [HE.out]; simp, rfl⟩
theorem all_take_succ (s : ByteArray) (k : Nat) (h : k < s.size) : (s.data.toList.take (k + 1)).all wordB = ((s.data.toList.take k).all wordB && wordB s[k]) := by
  rw [List.take_succ_eq_append_getElem (by simpa using h), List.all_append]
  simp
  rfl
set_option maxHeartbeats 4000000 in
theorem words_every_any (s : ByteArray) (hs : s.size ≤ 140737488351232) (w : World) :
    Calls Try.prog 81 #[.string s, .func (.func 82) #[] #[]] w fun e w' => e = .returned (.bool (allW s)) ∧ w = w' := by
  go_enter Try.func81, Try.ntmps81
  go_wp2
  go_loopg [8] s.size (fun g t wr => ∃ k : Nat, g = s.size - k ∧ k ≤ s.size ∧ t = .int .i64 k ∧ wr = w ∧ Hid ((s.data.toList.take k).all wordB = true))
  case atStart => exact ⟨0, rfl, Nat.zero_le _, rfl, rfl, Lib.hid rfl⟩
  case round =>
    obtain ⟨k, rfl, hk, rfl, rfl, HI⟩ := hrel
    by_cases hlt : k < s.size
    · have HT := Lib.hid (all_take_succ s k hlt)
      obtain ⟨b, hb⟩ : ∃ b, wordB s[k] = b := ⟨_, rfl⟩
      rw [hb] at HT
      have HB := Lib.hid hb; clear hb
      cases b
      · have HF := Lib.hid (show allW s = false by
          unfold allW
          rw [Bool.eq_false_iff]
          intro h
          have h2 := HT.out
          rw [Bool.and_false, Bool.eq_false_iff] at h2
          exact h2 (List.all_eq_true.2 fun x hx => List.all_eq_true.1 h x (List.mem_of_mem_take hx)))
        go_wp2_with (go_at_call 82; refine (words_Code_1_any _ _).mono ?_; rintro e w' ⟨rfl, rfl⟩; rw [HB.out])
        go_ret
        exact ⟨by rw [HF.out]; rfl, rfl⟩
      · go_wp2_with (go_at_call 82; refine (words_Code_1_any _ _).mono ?_; rintro e w' ⟨rfl, rfl⟩; rw [HB.out])
        go_roundg (s.size - (k + 1))
        case measure => omega
        case rel => exact ⟨k + 1, rfl, by omega, by go_num, rfl, Lib.hid (by rw [HT.out, HI.out]; rfl)⟩
    · have HF := Lib.hid (show allW s = true by
        unfold allW
        have h := HI.out
        rw [List.take_of_length_le (by simp; omega)] at h
        exact h)
      have hkl : ¬ (k : Int) < (s.size : Int) := by omega
      go_wp2
      go_ret
      exact ⟨by rw [HF.out]; rfl, rfl⟩
set_option maxHeartbeats 2000000 in
theorem go_words_Code (s : ByteArray) (w : World) (hs : s.size ≤ 140737488351232) :
    Calls Try.prog 49 #[.string s] w fun e w' => e = .returned (.bool (wcodeB s)) ∧ w = w' := by
  have e : s.toList.length = s.size := by rw [ByteArray.toList_eq, Array.length_toList]; rfl
  by_cases h0 : s.size = 0
  · have HF := Lib.hid (show wcodeB s = false by unfold wcodeB; simp [h0])
    have h1 : s.toList = [] := List.eq_nil_of_length_eq_zero (by rw [e]; exact h0)
    have h2 : s.toList.isEmpty = true := by rw [h1]; rfl
    clear e
    go_enter Try.func49, Try.ntmps49
    go_wp2
    go_ret
    exact ⟨by rw [HF.out]; rfl, rfl⟩
  · have h1 : s.toList ≠ [] := fun h => h0 (by rw [← e, h]; rfl)
    have h2 : s.toList.isEmpty = false := by cases h : s.toList with | nil => exact absurd h h1 | cons => rfl
    clear e
    by_cases h3 : s.size ≤ 12
    · have HF := Lib.hid (show wcodeB s = allW s by unfold wcodeB; simp [h0, h3])
      have h4 : (s.size : Int) ≤ 12 := by omega
      clear h0
      go_enter Try.func49, Try.ntmps49
      go_wp2_with (go_at_call 81; refine (words_every_any s hs _).mono ?_; rintro e w' ⟨rfl, rfl⟩)
      go_ret
      exact ⟨by rw [HF.out]; rfl, rfl⟩
    · have HF := Lib.hid (show wcodeB s = false by unfold wcodeB; simp [h3])
      have h4 : ¬ (s.size : Int) ≤ 12 := by omega
      clear h0
      go_enter Try.func49, Try.ntmps49
      go_wp2
      go_ret
      exact ⟨by rw [HF.out]; rfl, rfl⟩
end Go.Proofs.Ytdlilbleohlmnaa
namespace Go.Proofs.Ytdlilbleohlmnaa.PAq
open Go.RowKit Go.Lib Go.Sort Go.Proofs.YtdlilbleohlmnaaW.PrintWords Go.Proofs.YtdlilbleohlmnaaW.PrintLast
def sumI : List Int → Int
  | [] => 0
  | x :: l => x + sumI l
def in64 (n : Int) : Prop := -9223372036854775808 ≤ n ∧ n ≤ 9223372036854775807
instance (n : Int) : Decidable (in64 n) := inferInstanceAs (Decidable (_ ∧ _))
def Bears (hi lo T : Int) : Prop := 0 ≤ lo ∧ lo < 18446744073709551616 ∧ 0 ≤ hi ∧ hi < 18446744073709551616 ∧ ∃ q : Int, hi * 18446744073709551616 + lo = T + q * 340282366920938463463374607431768211456
theorem Bears.step {hi lo T x u v : Int} (h : Bears hi lo T) (hx : in64 x) (hu : u = if x < 0 then x + 18446744073709551616 else x) (hv : v = if x < 0 then 18446744073709551615 else 0) :
    Bears ((hi + v + (lo + u) / 18446744073709551616) % 18446744073709551616) ((lo + u) % 18446744073709551616) (T + x) := by
  obtain ⟨h1, h2, h3, h4, q, h5⟩ := h
  obtain ⟨x1, x2⟩ := hx
  refine ⟨by omega, by omega, by omega, by omega, q + (if x < 0 then 1 else 0) - (hi + v + (lo + u) / 18446744073709551616) / 18446744073709551616, ?_⟩
  split at hu <;> split at hv <;> simp_all <;> omega
def told (T : Int) : Int × Bool := if -9223372036854775808 ≤ T ∧ T ≤ 9223372036854775807 then (T, true) else (0, false)
theorem Bears.fits {hi lo T n s : Int} (h : Bears hi lo T) (hT : -85070591730234615865843651857942052864 ≤ T ∧ T ≤ 85070591730234615865843651857942052864) (hn : n = if lo < 9223372036854775808 then lo else lo - 18446744073709551616) (hs : s = if n < 0 then 18446744073709551615 else 0) :
    (s = hi → n = T ∧ in64 T) ∧ (s ≠ hi → ¬ in64 T) := by
  obtain ⟨h1, h2, h3, h4, q, h5⟩ := h
  unfold in64
  split at hn <;> split at hs <;> constructor <;> intro <;> omega
theorem sum_bound : ∀ (l : List Int), (∀ x ∈ l, in64 x) → -((l.length : Int) * 9223372036854775808) ≤ sumI l ∧ sumI l ≤ (l.length : Int) * 9223372036854775808
  | [], _ => by simp [sumI]
  | x :: l, h => by
    have h1 := h x (List.mem_cons_self ..)
    have h2 := sum_bound l (fun y hy => h y (List.mem_cons_of_mem _ hy))
    unfold in64 at h1
    simp only [sumI, List.length_cons]
    omega
set_option maxHeartbeats 4000000 in
set_option maxRecDepth 100000 in
theorem go_numSum (l : List Int) (A : Option Addr) (c : Nat) (w : World) (hC : Kd.C (Kd.int .i64) w A l.length l) (hc : l.length ≤ c) (hr : ∀ x ∈ l, in64 x) (hl : l.length ≤ 4611686018427387904) :
    Calls Try.prog 55 #[.slice A l.length c] w fun e w' => e = .returned (.tuple #[.int .i64 (told (sumI l)).1, .bool (told (sumI l)).2]) ∧ w' = w := by
  have HS := Lib.hid (show ∀ k, k < l.length → ∃ ad, A = some ad ∧ w.cell? (ad.add k) = some (.int .i64 l[k]!) ∧ in64 l[k]! from fun k hk => by
    obtain ⟨ad, c, e, _, hK, hc⟩ := Kd.C_get hC 0 (k : Int) (by omega) (by omega)
    have hK' : c = [Value.int .i64 (l.getD (k : Int).toNat 0)] := hK
    subst hK'
    have := hc 0 _ rfl
    rw [show ((k : Int).toNat * (Kd.int .i64).sz + 0) = k from by show (k : Int).toNat * 1 + 0 = k; omega] at this
    rw [Int.toNat_natCast, List.getD_eq_getElem?_getD, List.getElem?_eq_getElem hk, Option.getD_some] at this
    rw [getElem!_pos l k hk]
    exact ⟨ad, e, this, hr _ (List.getElem_mem hk)⟩)
  have HB := Lib.hid (sum_bound l hr)
  obtain ⟨n, hn⟩ : ∃ n, l.length = n := ⟨_, rfl⟩
  have HN := Lib.hid hn
  rw [hn] at hc HS hl ⊢
  clear hC hr hn
  go_enter Try.func55, Try.ntmps55
  go_wp2
  go_loopg [11, 4, 5] n (fun gk v11 v4 v5 wr => ∃ (k : Nat) (hi lo T : Int), gk = n - k ∧ k ≤ n ∧ v11 = .int .i64 k ∧ v4 = .int .u64 hi ∧ v5 = .int .u64 lo ∧ wr = w ∧ Aside0 (Bears hi lo T) ∧ Hid (T + sumI (l.drop k) = sumI l))
  case atStart => exact ⟨0, 0, 0, 0, rfl, by omega, rfl, rfl, rfl, rfl, Aside0.mk ⟨by omega, by omega, by omega, by omega, 0, by omega⟩, Lib.hid (by rw [List.drop_zero, Int.zero_add])⟩
  case round =>
    obtain ⟨k, hi, lo, T, rfl, hk, rfl, rfl, rfl, rfl, BE, HT⟩ := hrel
    by_cases hlt : k < n
    · have hltz : (k : Int) < (n : Int) := by omega
      obtain ⟨ad, hA, hcell, hx⟩ := HS.out k hlt
      obtain ⟨x, hxe⟩ : ∃ x, l[k]! = x := ⟨_, rfl⟩
      rw [hxe] at hcell hx
      subst hA
      obtain ⟨u, hu, hu0, hu1⟩ : ∃ u, IntKind.u64.wrap x = u ∧ 0 ≤ u ∧ Hid (u = if x < 0 then x + 18446744073709551616 else x) := ⟨_, rfl, by rw [IntKind.wrap_u64]; omega, Lib.hid (by rw [IntKind.wrap_u64]; have h1 := hx.1; have h2 := hx.2; split <;> omega)⟩
      obtain ⟨v, hv, hv0, hv1⟩ : ∃ u, IntKind.u64.wrap (x / 9223372036854775808) = u ∧ 0 ≤ u ∧ Hid (u = if x < 0 then 18446744073709551615 else 0) := ⟨_, rfl, by rw [IntKind.wrap_u64]; omega, Lib.hid (by rw [IntKind.wrap_u64]; have h1 := hx.1; have h2 := hx.2; split <;> omega)⟩
      have hbe := BE.out
      obtain ⟨l0, l1, h0, h1, _⟩ := hbe
      have BE2 := Aside0.mk (BE.out.step hx hu1.out hv1.out)
      have HT2 : Hid (T + x + sumI (l.drop (k + 1)) = sumI l) := Lib.hid (by
        have h := HT.out
        have hlx : k < l.length := by rw [HN.out]; exact hlt
        rw [List.drop_eq_getElem_cons hlx, sumI, ← getElem!_pos l k hlx, hxe] at h
        omega)
      have hcr : 0 ≤ (lo + u) / 18446744073709551616 ∧ (lo + u) / 18446744073709551616 ≤ 1 := by
        have := hu1.out; have h1 := hx.1; have h2 := hx.2; split at this <;> omega
      obtain ⟨cr, hcre, hcr0, hcr1⟩ : ∃ q, Hid ((lo + u) / 18446744073709551616 = q) ∧ 0 ≤ q ∧ q ≤ 1 := ⟨_, Lib.hid rfl, hcr⟩
      obtain ⟨lo2, hlo2⟩ : ∃ q, Hid ((lo + u) % 18446744073709551616 = q) := ⟨_, Lib.hid rfl⟩
      obtain ⟨hi2, hhi2⟩ : ∃ q, Hid ((hi + v + cr) % 18446744073709551616 = q) := ⟨_, Lib.hid rfl⟩
      obtain ⟨hi3, hhi3⟩ : ∃ q, Hid ((hi + v + cr) / 18446744073709551616 = q) := ⟨_, Lib.hid rfl⟩
      clear hx BE HT hxe hcr
      go_wp2
      rw [run_callFunc_extern Try.func88 (by kernel_rfl) (by kernel_rfl) (by kernel_rfl) (e := add64Entry) (by kernel_rfl), run_add64 lo u 0 l0 hu0 (by omega) (by omega)]
      simp only [Result.andThen, Int.add_zero]
      rw [hcre.out, hlo2.out, Oper.upon_value]
      go_wp2
      rw [run_callFunc_extern Try.func88 (by kernel_rfl) (by kernel_rfl) (by kernel_rfl) (e := add64Entry) (by kernel_rfl), run_add64 hi v cr h0 hv0 hcr0 hcr1]
      simp only [Result.andThen]
      rw [hhi2.out, hhi3.out, Oper.upon_value]
      go_wp2
      go_roundg (n - (k + 1))
      case measure => omega
      case rel => exact ⟨k + 1, hi2, lo2, T + x, rfl, by omega, by go_num, rfl, rfl, rfl, Aside0.mk (by have := BE2.out; rw [hcre.out, hlo2.out, hhi2.out] at this; exact this), HT2⟩
    · have hltz : ¬ ((k : Int) < (n : Int)) := by omega
      have hT : T = sumI l := by
        have h := HT.out
        rw [List.drop_eq_nil_of_le (by rw [HN.out]; omega), sumI, Int.add_zero] at h
        exact h
      obtain ⟨nn, hnn, hnn1⟩ : ∃ q, wrap64 lo = q ∧ Hid (q = if lo < 9223372036854775808 then lo else lo - 18446744073709551616) := ⟨_, rfl, Lib.hid (by have := BE.out.1; have := BE.out.2.1; unfold wrap64; split <;> omega)⟩
      have hlo := BE.out.1; have hlo1 := BE.out.2.1
      obtain ⟨s, hs, hs1⟩ : ∃ q, IntKind.u64.wrap (nn / 9223372036854775808) = q ∧ Hid (q = if nn < 0 then 18446744073709551615 else 0) := ⟨_, rfl, Lib.hid (by have := hnn1.out; rw [IntKind.wrap_u64]; split <;> split at this <;> omega)⟩
      have hb := HB.out
      have hln := HN.out
      obtain ⟨hf1, hf2⟩ := BE.out.fits ⟨by omega, by omega⟩ hnn1.out hs1.out
      have HF1 := Lib.hid hf1; have HF2 := Lib.hid hf2; have HTT := Lib.hid hT
      clear hf1 hf2 hb hln hT hlo hlo1 BE HT
      by_cases hsh : s = hi
      · have hsh1 : (s == hi) = true := by rw [hsh]; exact beq_self_eq_true _
        have HR := Lib.hid (HF1.out hsh)
        clear hsh
        go_wp2
        go_ret2
        exact ⟨by rw [← HTT.out, ← HR.out.1]; rw [told, if_pos (by rw [HR.out.1]; exact HR.out.2)]; rfl, rfl⟩
      · have hsh1 : (s == hi) = false := beq_eq_false_iff_ne.mpr hsh
        have HR := Lib.hid (HF2.out hsh)
        clear hsh
        go_wp2
        go_ret2
        exact ⟨by rw [← HTT.out, told, if_neg (show ¬ (-9223372036854775808 ≤ T ∧ T ≤ 9223372036854775807) from HR.out)]; rfl, rfl⟩
end Go.Proofs.Ytdlilbleohlmnaa.PAq
namespace Go.Proofs.Ytdlilbleohlmnaa.PAq
open Go.RowKit Go.Proofs.YtdlilbleohlmnaaW.PrintWords Go.Proofs.YtdlilbleohlmnaaW.PrintLast
theorem bless_gtr_9 : ∀ x y : List UInt8, (!Op.bytesLess x y && !(x == y)) = Op.bytesLess y x
  | [], [] => rfl
  | [], _ :: _ => rfl
  | _ :: _, [] => rfl
  | a :: x, b :: y => by
    have h := bless_gtr_9 x y
    rw [Op.bytesLess, Op.bytesLess, List.cons_beq_cons, ← h]
    rcases Nat.lt_trichotomy a.toNat b.toNat with c | c | c
    · have h1 : a < b := c
      have h2 : ¬ b < a := fun k => by have : b.toNat < a.toNat := k; omega
      have h3 : (b == a) = false := beq_eq_false_iff_ne.mpr (fun e => by rw [e] at c; omega)
      simp [h1, h2, h3]
    · have e : a = b := UInt8.toNat_inj.mp c
      subst e
      simp
    · have h1 : b < a := c
      have h2 : ¬ a < b := fun k => by have : a.toNat < b.toNat := k; omega
      have h3 : (a == b) = false := beq_eq_false_iff_ne.mpr (fun e => by rw [e] at c; omega)
      simp [h1, h2, h3]
theorem str_gtr_9 (t : TypeId) (a b : ByteArray) : binOp .gtr t (.string a) (.string b) = pure (.bool (Op.bytesLess b.toList a.toList)) := by simp only [binOp, Op.stringOp, ← bless_gtr_9 a.toList b.toList, Bool.not_or]
theorem str_geq_9 (t : TypeId) (a b : ByteArray) : binOp .geq t (.string a) (.string b) = pure (.bool (!Op.bytesLess a.toList b.toList)) := by simp [binOp, Op.stringOp]
attribute [local go_sem] str_gtr_9 str_geq_9
set_option linter.unusedVariables false
set_option linter.unusedSimpArgs false
def chart_rising.l0 : Nat → List ByteArray → Int → Option (Bool)
  | 0, _, _ => none
  | k + 1, x0, x3 => if x3 < (x0.length : Int) then (if 0 ≤ (wrap64 (x3 - 1)) then (if (wrap64 (x3 - 1)) < (x0.length : Int) then (if 0 ≤ x3 then (if ((Op.bytesLess ((rdOf ByteArray.empty x0 (wrap64 (x3 - 1))).toList) ((rdOf ByteArray.empty x0 x3).toList)) = true) then (chart_rising.l0 k x0 (wrap64 (x3 + 1))) else (some false)) else (none)) else (none)) else (none)) else (some true)
def chart_rising.f (k : Nat) (l0 : List ByteArray) : Option (Bool) := chart_rising.l0 k l0 1
set_option maxHeartbeats 8000000 in
set_option maxRecDepth 100000 in
theorem chart_rising.calls (k : Nat) (A0 : Option Addr) (c0 : Nat) (l0 : List ByteArray) (r : Bool) (w : World) (hr0 : Kd.C Kd.string w A0 l0.length l0) (hc0 : l0.length ≤ c0) (h : chart_rising.f k l0 = some r) :
    Calls Try.prog 73 #[.slice A0 l0.length c0] w fun e w' => e = .returned (.bool r) ∧ Drawn0 w w' := by
  have HR0 := Aside0.mk hr0
  have HC0 := Aside0.mk hc0
  clear hr0 hc0
  have H : (chart_rising.l0 k l0 1) = some r := h
  clear h
  have H' := Aside0.mk H
  clear H
  go_enter Try.func73, Try.ntmps73
  go_wp2
  repeat (go_quiet (fail); try go_wp2)
  go_loopg [3] k (fun kq v3 w' => ∃ (x3_1 : Int), v3 = .int .i64 x3_1 ∧ Aside0 (chart_rising.l0 kq l0 x3_1 = some r) ∧ Aside0 (kq ≤ k) ∧ Drawn0 w w')
  case atStart => exact ⟨(1), (by first | rfl | (simp; done) | (simp [*]; done)), H', ⟨Nat.le_refl _⟩, by repeat (first | exact Drawn0.refl _ | apply Drawn0.step)⟩
  case round =>
    clear H'
    obtain ⟨x3_1, rfl, HA, HK1, ⟨m1, rfl⟩⟩ := hrel
    cases gk with
    | zero => exact absurd HA.out (by simp [chart_rising.l0])
    | succ k1 =>
      have H := HA.out
      clear HA
      simp only [chart_rising.l0] at H
      by_cases c2 : x3_1 < (l0.length : Int)
      · rw [if_pos c2] at H
        have c2b0 : decide (x3_1 < (l0.length : Int)) = true := decide_eq_true c2
        clear c2
        obtain ⟨ji3, hji3⟩ : ∃ j_ : Int, (wrap64 (x3_1 - 1)) = j_ := ⟨_, rfl⟩
        replace H : (if 0 ≤ (ji3) then (if (ji3) < (l0.length : Int) then (if 0 ≤ x3_1 then (if ((Op.bytesLess ((rdOf ByteArray.empty l0 (ji3)).toList) ((rdOf ByteArray.empty l0 x3_1).toList)) = true) then (chart_rising.l0 k1 l0 (wrap64 (x3_1 + 1))) else (some false)) else (none)) else (none)) else (none)) = some r := by first | (rw [hji3] at H; exact H) | (simp only [hji3] at H ⊢; exact H)
        have hji3w : (IntKind.i64.wrap (x3_1 - 1)) = ji3 := (i64_w _).trans hji3
        by_cases c4 : 0 ≤ (ji3)
        · rw [if_pos c4] at H
          have c4b0 : decide (0 ≤ (ji3)) = true := decide_eq_true c4
          clear c4
          by_cases c5 : (ji3) < (l0.length : Int)
          · rw [if_pos c5] at H
            have c5b0 : decide ((ji3) < (l0.length : Int)) = true := decide_eq_true c5
            clear c5
            by_cases c6 : 0 ≤ x3_1
            · rw [if_pos c6] at H
              have c6b0 : decide (0 ≤ x3_1) = true := decide_eq_true c6
              clear c6
              by_cases c7 : ((Op.bytesLess ((rdOf ByteArray.empty l0 (ji3)).toList) ((rdOf ByteArray.empty l0 x3_1).toList)) = true)
              · rw [if_pos c7] at H
                have c7b0 : (Op.bytesLess ((rdOf ByteArray.empty l0 (ji3)).toList) ((rdOf ByteArray.empty l0 x3_1).toList)) = true := c7
                clear c7
                have H' := Aside0.mk H
                clear H
                have p179 : 0 ≤ ((ji3) : Int) := of_decide_eq_true (by first | (with_reducible assumption) | assumption)
                have q179 : (ji3) < (l0.length : Int) := of_decide_eq_true (by first | (with_reducible assumption) | assumption)
                obtain ⟨ad179, e179, hx179_0⟩ := Kd.at_string HR0.out (ji3) p179 q179
                cases e179
                replace p179 := eq_true p179
                replace q179 := eq_true q179
                have p180 : 0 ≤ (x3_1 : Int) := of_decide_eq_true (by first | (with_reducible assumption) | assumption)
                have q180 : x3_1 < (l0.length : Int) := of_decide_eq_true (by first | (with_reducible assumption) | assumption)
                obtain ⟨ad180, e180, hx180_0⟩ := Kd.at_string HR0.out x3_1 p180 q180
                obtain rfl : ad179 = ad180 := (by injection e180)
                replace p180 := eq_true p180
                replace q180 := eq_true q180
                go_wp2
                repeat (go_quiet (fail); try go_wp2)
                go_roundg k1
                case measure => have := HK1.out; omega
                case rel => exact ⟨(wrap64 (x3_1 + 1)), (by first | rfl | (simp; done) | (simp [*]; done)), H', ⟨by have := HK1.out; omega⟩, by repeat (first | exact Drawn0.refl _ | apply Drawn0.step)⟩
              · rw [if_neg c7] at H
                have c7b0 : (Op.bytesLess ((rdOf ByteArray.empty l0 (ji3)).toList) ((rdOf ByteArray.empty l0 x3_1).toList)) = false := by simpa using c7
                clear c7
                obtain rfl := Option.some.inj H
                have p179 : 0 ≤ ((ji3) : Int) := of_decide_eq_true (by first | (with_reducible assumption) | assumption)
                have q179 : (ji3) < (l0.length : Int) := of_decide_eq_true (by first | (with_reducible assumption) | assumption)
                obtain ⟨ad179, e179, hx179_0⟩ := Kd.at_string HR0.out (ji3) p179 q179
                cases e179
                replace p179 := eq_true p179
                replace q179 := eq_true q179
                have p180 : 0 ≤ (x3_1 : Int) := of_decide_eq_true (by first | (with_reducible assumption) | assumption)
                have q180 : x3_1 < (l0.length : Int) := of_decide_eq_true (by first | (with_reducible assumption) | assumption)
                obtain ⟨ad180, e180, hx180_0⟩ := Kd.at_string HR0.out x3_1 p180 q180
                obtain rfl : ad179 = ad180 := (by injection e180)
                replace p180 := eq_true p180
                replace q180 := eq_true q180
                go_wp2
                repeat (go_quiet (fail); try go_wp2)
                go_ret
                exact ⟨by first | rfl | (simp; done) | (simp only [← hji3] <;> (first | rfl | simp)) | (simp [*]; done), by repeat (first | exact Drawn0.refl _ | apply Drawn0.step)⟩
            · rw [if_neg c6] at H
              exact absurd H (by simp)
          · rw [if_neg c5] at H
            exact absurd H (by simp)
        · rw [if_neg c4] at H
          exact absurd H (by simp)
      · rw [if_neg c2] at H
        have c2b0 : decide (x3_1 < (l0.length : Int)) = false := decide_eq_false c2
        clear c2
        obtain rfl := Option.some.inj H
        go_wp2
        repeat (go_quiet (fail); try go_wp2)
        go_ret
        exact ⟨by first | rfl | (simp; done) | (simp [*]; done), by repeat (first | exact Drawn0.refl _ | apply Drawn0.step)⟩
def words_Code.f (a0 : ByteArray) : Option Bool := if a0.size ≤ 140737488351232 then some (wcodeB a0) else none
theorem words_Code.calls (a0 : ByteArray) (r : Bool) (w : World) (h : words_Code.f a0 = some r) :
    Calls Try.prog 49 #[.string a0] w fun e w' => e = .returned (.bool r) ∧ Drawn0 w w' := by
  unfold words_Code.f at h
  split at h
  · cases h
    refine (go_words_Code a0 w (by assumption)).mono ?_
    rintro e w' ⟨rfl, rfl⟩
    exact ⟨rfl, Drawn0.refl _⟩
  · cases h
def chart_names.l0 : Nat → List ByteArray → Int → Int → ByteArray → ByteArray → Int → Bool → ByteArray → Bool → Bool → List ByteArray → Option (Bool)
  | 0, _, _, _, _, _, _, _, _, _, _, _ => none
  | k + 1, x6, x7, x8, x182000, x182001, x182002, x182003, x182004, x182005, x182006, x182007 => if x8 < x7 then (if 0 ≤ x8 then (if x8 < (x6.length : Int) then ((words_Code.f (rdOf ByteArray.empty x6 x8)).bind fun t183 => (if t183 = true then (chart_names.l0 k x6 x7 (wrap64 (x8 + 1)) x182000 x182001 x182002 x182003 x182004 x182005 x182006 x182007) else (some false))) else (none)) else (none)) else ((words_Code.f x182000).bind fun t184 => (if t184 = true then (if x182001.toList = ([] : List UInt8) then (some true) else ((words_Code.f x182001).bind fun t185 => (some t185))) else (some false)))
def chart_names.f (k : Nat) (a0_0 : ByteArray) (a0_1 : ByteArray) (a0_2 : Int) (a0_3 : Bool) (a0_4 : ByteArray) (a0_5 : Bool) (a0_6 : Bool) (l0_7 : List ByteArray) : Option (Bool) := chart_names.l0 k l0_7 (l0_7.length : Int) 0 a0_0 a0_1 a0_2 a0_3 a0_4 a0_5 a0_6 l0_7
set_option maxHeartbeats 8000000 in
set_option maxRecDepth 100000 in
theorem chart_names.calls (k : Nat) (a0_0 : ByteArray) (a0_1 : ByteArray) (a0_2 : Int) (a0_3 : Bool) (a0_4 : ByteArray) (a0_5 : Bool) (a0_6 : Bool) (A0_7 : Option Addr) (c0_7 : Nat) (l0_7 : List ByteArray) (r : Bool) (w : World) (hr0_7 : Kd.C Kd.string w A0_7 l0_7.length l0_7) (hc0_7 : l0_7.length ≤ c0_7) (h : chart_names.f k a0_0 a0_1 a0_2 a0_3 a0_4 a0_5 a0_6 l0_7 = some r) :
    Calls Try.prog 72 #[.agg #[.string a0_0, .string a0_1, .int .i64 a0_2, .bool a0_3, .string a0_4, .bool a0_5, .bool a0_6, .slice A0_7 l0_7.length c0_7]] w fun e w' => e = .returned (.bool r) ∧ Below w.heap.size w w' := by
  have hu62 := Try.underlying62
  have HR0_7 := Aside0.mk hr0_7
  have HC0_7 := Aside0.mk hc0_7
  clear hr0_7 hc0_7
  have HB := Aside0.mk (Below.refl w.heap.size w)
  have H : (chart_names.l0 k l0_7 (l0_7.length : Int) 0 a0_0 a0_1 a0_2 a0_3 a0_4 a0_5 a0_6 l0_7) = some r := h
  clear h
  have H' := Aside0.mk H
  clear H
  go_enter Try.func72, Try.ntmps72
  go_wp2_with (first | ((with_reducible refine gate_dst (N := 1) rfl ?_); refine box_event ?hg (N := 1) ?hd (cs := #[.string a0_0, .string a0_1, .int .i64 a0_2, .bool a0_3, .string a0_4, .bool a0_5, .bool a0_6, .slice A0_7 l0_7.length c0_7]) (t := 62) ?hr ?_; (case hd => rfl); (case hg => rfl); (case hr => first | (go_simp; done) | (go_simp; rfl)); intro gb181 hg w2 hbox hb; have n0_ := Aside0.mk (below_step (by repeat (first | (with_reducible first | exact HB.out | apply below_alloc | apply pw_below_drewN | apply below_drew1) | exact HB.out)) hb); have n1_ := Aside0.mk (hbox); have n2_ := Aside0.mk ((by rw [hg]; exact (below_size (by repeat (first | (with_reducible first | exact HB.out | apply below_alloc | apply pw_below_drewN | apply below_drew1) | exact HB.out))) : w.heap.size ≤ gb181)); have n3_ := Aside0.mk ((by rw [hg]; exact (below_size (by repeat (first | (with_reducible first | exact HB.out | apply below_alloc | apply pw_below_drewN | apply below_drew1) | exact HB.out))) : w.heap.size ≤ gb181)); clear HB; have HB := n0_; have BK181 := n1_; have GW181 := n2_; have GE181 := n3_; clear n0_ n1_ n2_ n3_; clear hb hbox hg; have hcz3_0 : w2.cell? ⟨gb181, 0, none⟩ = some (.string a0_0) := (blk_cell BK181.out 0).trans rfl; have hcz3_1 : w2.cell? ⟨gb181, 1, none⟩ = some (.string a0_1) := (blk_cell BK181.out 1).trans rfl; have hcz3_2 : w2.cell? ⟨gb181, 2, none⟩ = some (.int .i64 a0_2) := (blk_cell BK181.out 2).trans rfl; have hcz3_3 : w2.cell? ⟨gb181, 3, none⟩ = some (.bool a0_3) := (blk_cell BK181.out 3).trans rfl; have hcz3_4 : w2.cell? ⟨gb181, 4, none⟩ = some (.string a0_4) := (blk_cell BK181.out 4).trans rfl; have hcz3_5 : w2.cell? ⟨gb181, 5, none⟩ = some (.bool a0_5) := (blk_cell BK181.out 5).trans rfl; have hcz3_6 : w2.cell? ⟨gb181, 6, none⟩ = some (.bool a0_6) := (blk_cell BK181.out 6).trans rfl; have hcz3_7 : w2.cell? ⟨gb181, 7, none⟩ = some (.slice A0_7 l0_7.length c0_7) := (blk_cell BK181.out 7).trans rfl; have hfz3_0 := blk_frozen BK181.out 0; have hfz3_1 := blk_frozen BK181.out 1; have hfz3_2 := blk_frozen BK181.out 2; have hfz3_3 := blk_frozen BK181.out 3; have hfz3_4 := blk_frozen BK181.out 4; have hfz3_5 := blk_frozen BK181.out 5; have hfz3_6 := blk_frozen BK181.out 6; have hfz3_7 := blk_frozen BK181.out 7))
  go_loopg [8] k (fun kq v8 w' => ∃ (x8_1 : Int), v8 = .int .i64 x8_1 ∧ Aside0 (chart_names.l0 kq l0_7 (l0_7.length : Int) x8_1 a0_0 a0_1 a0_2 a0_3 a0_4 a0_5 a0_6 l0_7 = some r) ∧ Aside0 (kq ≤ k) ∧ Aside0 (w'.heap[gb181]? = some (.cells #[.string a0_0, .string a0_1, .int .i64 a0_2, .bool a0_3, .string a0_4, .bool a0_5, .bool a0_6, (.slice A0_7 l0_7.length c0_7)] 62 (0, 0))) ∧ Aside0 (Below w.heap.size w w'))
  case atStart => exact ⟨(0), (by first | rfl | (simp; done) | (simp [*]; done)), H', ⟨Nat.le_refl _⟩, ⟨by (with_reducible repeat (first | refine blk_drewN ?_ _ | refine blk_drew ?_ | refine blk_alloc ?_ _)); exact BK181.out⟩, ⟨by repeat (first | (with_reducible first | exact HB.out | apply below_alloc | apply pw_below_drewN | apply below_drew1 | refine below_set ?_ GE181.out) | exact HB.out)⟩⟩
  case round =>
    clear H'
    try clear p2
    try clear hcz3_0
    try clear hcz3_1
    try clear hcz3_2
    try clear hcz3_3
    try clear hcz3_4
    try clear hcz3_5
    try clear hcz3_6
    try clear hcz3_7
    try clear hfz3_0
    try clear hfz3_1
    try clear hfz3_2
    try clear hfz3_3
    try clear hfz3_4
    try clear hfz3_5
    try clear hfz3_6
    try clear hfz3_7
    obtain ⟨x8_1, rfl, HA, HK1, BK181, HB⟩ := hrel
    cases gk with
    | zero => exact absurd HA.out (by simp [chart_names.l0])
    | succ k1 =>
      have H := HA.out
      clear HA
      simp only [chart_names.l0] at H
      by_cases c4 : x8_1 < (l0_7.length : Int)
      · rw [if_pos c4] at H
        have c4b0 : decide (x8_1 < (l0_7.length : Int)) = true := decide_eq_true c4
        clear c4
        by_cases c5 : 0 ≤ x8_1
        · rw [if_pos c5] at H
          have c5b0 : decide (0 ≤ x8_1) = true := decide_eq_true c5
          clear c5
          by_cases c6 : x8_1 < (l0_7.length : Int)
          · rw [if_pos c6] at H
            have c6b0 : decide (x8_1 < (l0_7.length : Int)) = true := decide_eq_true c6
            clear c6
            replace H := Option.bind_eq_some_iff.mp H
            obtain ⟨t183, A70, H⟩ := H
            replace H : (if t183 = true then (chart_names.l0 k1 l0_7 (l0_7.length : Int) (wrap64 (x8_1 + 1)) a0_0 a0_1 a0_2 a0_3 a0_4 a0_5 a0_6 l0_7) else (some false)) = some r := H
            have A7 := Aside0.mk A70
            clear A70
            by_cases c8 : t183 = true
            · subst c8
              have H1 : (chart_names.l0 k1 l0_7 (l0_7.length : Int) (wrap64 (x8_1 + 1)) a0_0 a0_1 a0_2 a0_3 a0_4 a0_5 a0_6 l0_7) = some r := by rw [if_pos rfl] at H; exact H
              clear H
              have H := H1
              clear H1
              have H' := Aside0.mk H
              clear H
              have p182 : 0 ≤ (x8_1 : Int) := of_decide_eq_true (by first | (with_reducible assumption) | assumption)
              have q182 : x8_1 < (l0_7.length : Int) := of_decide_eq_true (by first | (with_reducible assumption) | assumption)
              obtain ⟨ad182, e182, hx182_0⟩ := Kd.at_string HR0_7.out x8_1 p182 q182
              cases e182
              replace hx182_0 := (HB.out.cell (World.block_lt_of_cell? w _ hx182_0)).trans hx182_0
              replace p182 := eq_true p182
              replace q182 := eq_true q182
              go_wp2_with (first | ((with_reducible refine gate_callee (f := 49) rfl ?_); refine goesL_ (some 13) rfl rfl Try.func49 (by kernel_rfl) rfl #[.string (rdOf ByteArray.empty l0_7 x8_1)] rfl (by (try simp only [List.map_toArray, List.map_cons, List.map_nil]); first | done | rfl | (simp only [List.length_drop, List.length_take]; rfl)) ?_; (with_reducible refine (words_Code.calls (rdOf ByteArray.empty l0_7 x8_1) true _ A7.out).mono ?_); rintro e w' ⟨rfl, ⟨nd, rfl⟩⟩; refine ⟨_, rfl, ?_⟩))
              go_roundg k1
              case measure => have := HK1.out; omega
              case rel => exact ⟨(wrap64 (x8_1 + 1)), (by first | rfl | (simp; done) | (simp [*]; done)), H', ⟨by have := HK1.out; omega⟩, ⟨by (with_reducible repeat (first | refine blk_drewN ?_ _ | refine blk_drew ?_ | refine blk_alloc ?_ _)); exact BK181.out⟩, ⟨by repeat (first | (with_reducible first | exact HB.out | apply below_alloc | apply pw_below_drewN | apply below_drew1 | refine below_set ?_ GE181.out) | exact HB.out)⟩⟩
            · replace c8 := Bool.eq_false_iff.mpr c8
              subst c8
              have H1 : (some false) = some r := by rw [if_neg (show ¬ (false = true) by decide)] at H; exact H
              clear H
              have H := H1
              clear H1
              obtain rfl := Option.some.inj H
              have p182 : 0 ≤ (x8_1 : Int) := of_decide_eq_true (by first | (with_reducible assumption) | assumption)
              have q182 : x8_1 < (l0_7.length : Int) := of_decide_eq_true (by first | (with_reducible assumption) | assumption)
              obtain ⟨ad182, e182, hx182_0⟩ := Kd.at_string HR0_7.out x8_1 p182 q182
              cases e182
              replace hx182_0 := (HB.out.cell (World.block_lt_of_cell? w _ hx182_0)).trans hx182_0
              replace p182 := eq_true p182
              replace q182 := eq_true q182
              go_wp2_with (first | ((with_reducible refine gate_callee (f := 49) rfl ?_); refine goesL_ (some 13) rfl rfl Try.func49 (by kernel_rfl) rfl #[.string (rdOf ByteArray.empty l0_7 x8_1)] rfl (by (try simp only [List.map_toArray, List.map_cons, List.map_nil]); first | done | rfl | (simp only [List.length_drop, List.length_take]; rfl)) ?_; (with_reducible refine (words_Code.calls (rdOf ByteArray.empty l0_7 x8_1) false _ A7.out).mono ?_); rintro e w' ⟨rfl, ⟨nd, rfl⟩⟩; refine ⟨_, rfl, ?_⟩))
              go_ret
              exact ⟨by first | rfl | (simp [errW_none, errW_some] <;> rfl) | (simp [*, errW_none, errW_some] <;> rfl), by repeat (first | (with_reducible first | exact HB.out | apply below_alloc | apply pw_below_drewN | apply below_drew1 | refine below_set ?_ GE181.out) | exact HB.out)⟩
          · rw [if_neg c6] at H
            exact absurd H (by simp)
        · rw [if_neg c5] at H
          exact absurd H (by simp)
      · rw [if_neg c4] at H
        have c4b0 : decide (x8_1 < (l0_7.length : Int)) = false := decide_eq_false c4
        clear c4
        replace H := Option.bind_eq_some_iff.mp H
        obtain ⟨t184, A90, H⟩ := H
        replace H : (if t184 = true then (if a0_1.toList = ([] : List UInt8) then (some true) else ((words_Code.f a0_1).bind fun t185 => (some t185))) else (some false)) = some r := H
        have A9 := Aside0.mk A90
        clear A90
        by_cases c10 : t184 = true
        · subst c10
          have H1 : (if a0_1.toList = ([] : List UInt8) then (some true) else ((words_Code.f a0_1).bind fun t185 => (some t185))) = some r := by rw [if_pos rfl] at H; exact H
          clear H
          have H := H1
          clear H1
          by_cases c11 : a0_1.toList = ([] : List UInt8)
          · rw [if_pos c11] at H
            have c11b0 : (a0_1.toList == ([] : List UInt8)) = true := beq_iff_eq.mpr c11
            have c11b1 : (a0_1.toList != ([] : List UInt8)) = false := bne_eq_false_iff_eq.mpr c11
            clear c11
            obtain rfl := Option.some.inj H
            have hcz12_0 : wr.cell? ⟨gb181, 0, none⟩ = some (.string a0_0) := (blk_cell BK181.out 0).trans rfl
            have hcz12_1 : wr.cell? ⟨gb181, 1, none⟩ = some (.string a0_1) := (blk_cell BK181.out 1).trans rfl
            have hcz12_2 : wr.cell? ⟨gb181, 2, none⟩ = some (.int .i64 a0_2) := (blk_cell BK181.out 2).trans rfl
            have hcz12_3 : wr.cell? ⟨gb181, 3, none⟩ = some (.bool a0_3) := (blk_cell BK181.out 3).trans rfl
            have hcz12_4 : wr.cell? ⟨gb181, 4, none⟩ = some (.string a0_4) := (blk_cell BK181.out 4).trans rfl
            have hcz12_5 : wr.cell? ⟨gb181, 5, none⟩ = some (.bool a0_5) := (blk_cell BK181.out 5).trans rfl
            have hcz12_6 : wr.cell? ⟨gb181, 6, none⟩ = some (.bool a0_6) := (blk_cell BK181.out 6).trans rfl
            have hcz12_7 : wr.cell? ⟨gb181, 7, none⟩ = some (.slice A0_7 l0_7.length c0_7) := (blk_cell BK181.out 7).trans rfl
            have hfz12_0 := blk_frozen BK181.out 0
            have hfz12_1 := blk_frozen BK181.out 1
            have hfz12_2 := blk_frozen BK181.out 2
            have hfz12_3 := blk_frozen BK181.out 3
            have hfz12_4 := blk_frozen BK181.out 4
            have hfz12_5 := blk_frozen BK181.out 5
            have hfz12_6 := blk_frozen BK181.out 6
            have hfz12_7 := blk_frozen BK181.out 7
            go_wp2_with (first | ((with_reducible refine gate_callee (f := 49) rfl ?_); refine goesL_ (some 18) rfl rfl Try.func49 (by kernel_rfl) rfl #[.string a0_0] rfl (by (try simp only [List.map_toArray, List.map_cons, List.map_nil]); first | done | rfl | (simp only [List.length_drop, List.length_take]; rfl)) ?_; (with_reducible refine (words_Code.calls a0_0 true _ A9.out).mono ?_); rintro e w' ⟨rfl, ⟨nd, rfl⟩⟩; refine ⟨_, rfl, ?_⟩))
            go_ret
            exact ⟨by first | rfl | (simp [errW_none, errW_some] <;> rfl) | (simp [*, errW_none, errW_some] <;> rfl), by repeat (first | (with_reducible first | exact HB.out | apply below_alloc | apply pw_below_drewN | apply below_drew1 | refine below_set ?_ GE181.out) | exact HB.out)⟩
          · rw [if_neg c11] at H
            have c11b0 : (a0_1.toList == ([] : List UInt8)) = false := beq_eq_false_iff_ne.mpr c11
            have c11b1 : (a0_1.toList != ([] : List UInt8)) = true := bne_iff_ne.mpr c11
            replace H := Option.bind_eq_some_iff.mp H
            obtain ⟨t185, A130, H⟩ := H
            replace H : (some t185) = some r := H
            have A13 := Aside0.mk A130
            clear A130
            obtain rfl := Option.some.inj H
            have hcz14_0 : wr.cell? ⟨gb181, 0, none⟩ = some (.string a0_0) := (blk_cell BK181.out 0).trans rfl
            have hcz14_1 : wr.cell? ⟨gb181, 1, none⟩ = some (.string a0_1) := (blk_cell BK181.out 1).trans rfl
            have hcz14_2 : wr.cell? ⟨gb181, 2, none⟩ = some (.int .i64 a0_2) := (blk_cell BK181.out 2).trans rfl
            have hcz14_3 : wr.cell? ⟨gb181, 3, none⟩ = some (.bool a0_3) := (blk_cell BK181.out 3).trans rfl
            have hcz14_4 : wr.cell? ⟨gb181, 4, none⟩ = some (.string a0_4) := (blk_cell BK181.out 4).trans rfl
            have hcz14_5 : wr.cell? ⟨gb181, 5, none⟩ = some (.bool a0_5) := (blk_cell BK181.out 5).trans rfl
            have hcz14_6 : wr.cell? ⟨gb181, 6, none⟩ = some (.bool a0_6) := (blk_cell BK181.out 6).trans rfl
            have hcz14_7 : wr.cell? ⟨gb181, 7, none⟩ = some (.slice A0_7 l0_7.length c0_7) := (blk_cell BK181.out 7).trans rfl
            have hfz14_0 := blk_frozen BK181.out 0
            have hfz14_1 := blk_frozen BK181.out 1
            have hfz14_2 := blk_frozen BK181.out 2
            have hfz14_3 := blk_frozen BK181.out 3
            have hfz14_4 := blk_frozen BK181.out 4
            have hfz14_5 := blk_frozen BK181.out 5
            have hfz14_6 := blk_frozen BK181.out 6
            have hfz14_7 := blk_frozen BK181.out 7
            go_wp2_with (first | ((with_reducible refine gate_callee (f := 49) rfl ?_); refine goesL_ (some 18) rfl rfl Try.func49 (by kernel_rfl) rfl #[.string a0_0] rfl (by (try simp only [List.map_toArray, List.map_cons, List.map_nil]); first | done | rfl | (simp only [List.length_drop, List.length_take]; rfl)) ?_; (with_reducible refine (words_Code.calls a0_0 true _ A9.out).mono ?_); rintro e w' ⟨rfl, ⟨nd, rfl⟩⟩; refine ⟨_, rfl, ?_⟩) | (go_at_call 49; (with_reducible refine (words_Code.calls a0_1 t185 _ A13.out).mono ?_); rintro e w' ⟨rfl, ⟨nd, rfl⟩⟩))
            go_ret
            exact ⟨by first | rfl | (simp [errW_none, errW_some] <;> rfl) | (simp [*, errW_none, errW_some] <;> rfl), by repeat (first | (with_reducible first | exact HB.out | apply below_alloc | apply pw_below_drewN | apply below_drew1 | refine below_set ?_ GE181.out) | exact HB.out)⟩
        · replace c10 := Bool.eq_false_iff.mpr c10
          subst c10
          have H1 : (some false) = some r := by rw [if_neg (show ¬ (false = true) by decide)] at H; exact H
          clear H
          have H := H1
          clear H1
          obtain rfl := Option.some.inj H
          have hcz15_0 : wr.cell? ⟨gb181, 0, none⟩ = some (.string a0_0) := (blk_cell BK181.out 0).trans rfl
          have hcz15_1 : wr.cell? ⟨gb181, 1, none⟩ = some (.string a0_1) := (blk_cell BK181.out 1).trans rfl
          have hcz15_2 : wr.cell? ⟨gb181, 2, none⟩ = some (.int .i64 a0_2) := (blk_cell BK181.out 2).trans rfl
          have hcz15_3 : wr.cell? ⟨gb181, 3, none⟩ = some (.bool a0_3) := (blk_cell BK181.out 3).trans rfl
          have hcz15_4 : wr.cell? ⟨gb181, 4, none⟩ = some (.string a0_4) := (blk_cell BK181.out 4).trans rfl
          have hcz15_5 : wr.cell? ⟨gb181, 5, none⟩ = some (.bool a0_5) := (blk_cell BK181.out 5).trans rfl
          have hcz15_6 : wr.cell? ⟨gb181, 6, none⟩ = some (.bool a0_6) := (blk_cell BK181.out 6).trans rfl
          have hcz15_7 : wr.cell? ⟨gb181, 7, none⟩ = some (.slice A0_7 l0_7.length c0_7) := (blk_cell BK181.out 7).trans rfl
          have hfz15_0 := blk_frozen BK181.out 0
          have hfz15_1 := blk_frozen BK181.out 1
          have hfz15_2 := blk_frozen BK181.out 2
          have hfz15_3 := blk_frozen BK181.out 3
          have hfz15_4 := blk_frozen BK181.out 4
          have hfz15_5 := blk_frozen BK181.out 5
          have hfz15_6 := blk_frozen BK181.out 6
          have hfz15_7 := blk_frozen BK181.out 7
          go_wp2_with (first | ((with_reducible refine gate_callee (f := 49) rfl ?_); refine goesL_ (some 18) rfl rfl Try.func49 (by kernel_rfl) rfl #[.string a0_0] rfl (by (try simp only [List.map_toArray, List.map_cons, List.map_nil]); first | done | rfl | (simp only [List.length_drop, List.length_take]; rfl)) ?_; (with_reducible refine (words_Code.calls a0_0 false _ A9.out).mono ?_); rintro e w' ⟨rfl, ⟨nd, rfl⟩⟩; refine ⟨_, rfl, ?_⟩))
          go_ret
          exact ⟨by first | rfl | (simp [errW_none, errW_some] <;> rfl) | (simp [*, errW_none, errW_some] <;> rfl), by repeat (first | (with_reducible first | exact HB.out | apply below_alloc | apply pw_below_drewN | apply below_drew1 | refine below_set ?_ GE181.out) | exact HB.out)⟩
def chart_first.l0 : Nat → List (S114) → Int → Int → Option (Int)
  | 0, _, _, _ => none
  | k + 1, x5, x6, x7 => if x7 < x6 then (if 0 ≤ x7 then (if x7 < (x5.length : Int) then (if (rd_T114 x5 x7).f0 = true then (some ((rd_T114 x5 x7).f1)) else (chart_first.l0 k x5 x6 (wrap64 (x7 + 1)))) else (none)) else (none)) else (some 0)
def chart_first.f (k : Nat) (l0 : List (S114)) : Option (Int) := chart_first.l0 k l0 (l0.length : Int) 0
set_option maxHeartbeats 8000000 in
set_option maxRecDepth 100000 in
theorem chart_first.calls (k : Nat) (A0 : Option Addr) (c0 : Nat) (l0 : List (S114)) (r : Int) (w : World) (hr0 : Kd.C k114 w A0 l0.length l0) (hc0 : l0.length ≤ c0) (h : chart_first.f k l0 = some r) :
    Calls Try.prog 71 #[.slice A0 l0.length c0] w fun e w' => e = .returned (.int .i64 r) ∧ Below w.heap.size w w' := by
  have hu114 := Try.underlying114
  have HR0 := Aside0.mk hr0
  have HC0 := Aside0.mk hc0
  clear hr0 hc0
  have HB := Aside0.mk (Below.refl w.heap.size w)
  have H : (chart_first.l0 k l0 (l0.length : Int) 0) = some r := h
  clear h
  have H' := Aside0.mk H
  clear H
  go_enter Try.func71, Try.ntmps71
  go_wp2
  go_loopg [7] k (fun kq v7 w' => ∃ (x7_1 : Int), v7 = .int .i64 x7_1 ∧ Aside0 (chart_first.l0 kq l0 (l0.length : Int) x7_1 = some r) ∧ Aside0 (kq ≤ k) ∧ Aside0 (Below w.heap.size w w'))
  case atStart => exact ⟨(0), (by first | rfl | (simp; done) | (simp [*]; done)), H', ⟨Nat.le_refl _⟩, ⟨by repeat (first | (with_reducible first | exact HB.out | apply below_alloc | apply pw_below_drewN | apply below_drew1) | exact HB.out)⟩⟩
  case round =>
    clear H'
    obtain ⟨x7_1, rfl, HA, HK1, HB⟩ := hrel
    cases gk with
    | zero => exact absurd HA.out (by simp [chart_first.l0])
    | succ k1 =>
      have H := HA.out
      clear HA
      simp only [chart_first.l0] at H
      by_cases c2 : x7_1 < (l0.length : Int)
      · rw [if_pos c2] at H
        have c2b0 : decide (x7_1 < (l0.length : Int)) = true := decide_eq_true c2
        clear c2
        by_cases c3 : 0 ≤ x7_1
        · rw [if_pos c3] at H
          have c3b0 : decide (0 ≤ x7_1) = true := decide_eq_true c3
          clear c3
          by_cases c4 : x7_1 < (l0.length : Int)
          · rw [if_pos c4] at H
            have c4b0 : decide (x7_1 < (l0.length : Int)) = true := decide_eq_true c4
            clear c4
            obtain ⟨bq5, hbq5⟩ : ∃ b_ : Bool, b_ = ((rd_T114 l0 x7_1).f0) := ⟨_, rfl⟩
            replace H : (if bq5 = true then (some ((rd_T114 l0 x7_1).f1)) else (chart_first.l0 k1 l0 (l0.length : Int) (wrap64 (x7_1 + 1)))) = some r := by rw [← hbq5] at H; exact H
            have Nbq5 := Aside0.mk hbq5
            clear hbq5
            by_cases c6 : bq5 = true
            · subst c6
              have H1 : (some ((rd_T114 l0 x7_1).f1)) = some r := by rw [if_pos rfl] at H; exact H
              clear H
              have H := H1
              clear H1
              obtain rfl := Option.some.inj H
              have p186 : 0 ≤ (x7_1 : Int) := of_decide_eq_true (by first | (with_reducible assumption) | assumption)
              have q186 : x7_1 < (l0.length : Int) := of_decide_eq_true (by first | (with_reducible assumption) | assumption)
              obtain ⟨ad186, e186, hx186_0, hx186_1⟩ := at_T114 HR0.out x7_1 p186 q186
              (try rw [← Nbq5.out] at hx186_0)
              cases e186
              replace hx186_0 := (HB.out.cell (World.block_lt_of_cell? w _ hx186_0)).trans hx186_0
              replace hx186_1 := (HB.out.cell (World.block_lt_of_cell? w _ hx186_1)).trans hx186_1
              replace p186 := eq_true p186
              replace q186 := eq_true q186
              go_wp2_with (first | ((with_reducible refine gate_dst (N := 4) rfl ?_); refine box_event ?hg (N := 4) ?hd (cs := #[.bool false, .int .i64 0]) (t := 114) ?hr ?_; (case hd => rfl); (case hg => rfl); (case hr => first | (go_simp; done) | (go_simp; rfl)); intro gb187 hg w7 hbox hb; have n0_ := Aside0.mk (below_step (by repeat (first | (with_reducible first | exact HB.out | apply below_alloc | apply pw_below_drewN | apply below_drew1) | exact HB.out)) hb); have n1_ := Aside0.mk (hbox); have n2_ := Aside0.mk ((by rw [hg]; exact (below_size (by repeat (first | (with_reducible first | exact HB.out | apply below_alloc | apply pw_below_drewN | apply below_drew1) | exact HB.out))) : w.heap.size ≤ gb187)); have n3_ := Aside0.mk ((by rw [hg]; exact (below_size (by repeat (first | (with_reducible first | exact HB.out | apply below_alloc | apply pw_below_drewN | apply below_drew1) | exact HB.out))) : w.heap.size ≤ gb187)); clear HB; have HB := n0_; have BK187 := n1_; have GW187 := n2_; have GE187 := n3_; clear n0_ n1_ n2_ n3_; clear hb hbox hg; have hcz8_0 : w7.cell? ⟨gb187, 0, none⟩ = some (.bool false) := (blk_cell BK187.out 0).trans rfl; have hcz8_1 : w7.cell? ⟨gb187, 1, none⟩ = some (.int .i64 0) := (blk_cell BK187.out 1).trans rfl; have hfz8_0 := blk_frozen BK187.out 0; have hfz8_1 := blk_frozen BK187.out 1))
              go_ret
              exact ⟨by first | rfl | (simp [errW_none, errW_some] <;> rfl) | (simp [*, errW_none, errW_some] <;> rfl), by repeat (first | (with_reducible first | exact HB.out | apply below_alloc | apply pw_below_drewN | apply below_drew1 | refine below_set ?_ GE187.out) | exact HB.out)⟩
            · replace c6 := Bool.eq_false_iff.mpr c6
              subst c6
              have H1 : (chart_first.l0 k1 l0 (l0.length : Int) (wrap64 (x7_1 + 1))) = some r := by rw [if_neg (show ¬ (false = true) by decide)] at H; exact H
              clear H
              have H := H1
              clear H1
              have H' := Aside0.mk H
              clear H
              have p186 : 0 ≤ (x7_1 : Int) := of_decide_eq_true (by first | (with_reducible assumption) | assumption)
              have q186 : x7_1 < (l0.length : Int) := of_decide_eq_true (by first | (with_reducible assumption) | assumption)
              obtain ⟨ad186, e186, hx186_0, hx186_1⟩ := at_T114 HR0.out x7_1 p186 q186
              (try rw [← Nbq5.out] at hx186_0)
              cases e186
              replace hx186_0 := (HB.out.cell (World.block_lt_of_cell? w _ hx186_0)).trans hx186_0
              replace hx186_1 := (HB.out.cell (World.block_lt_of_cell? w _ hx186_1)).trans hx186_1
              replace p186 := eq_true p186
              replace q186 := eq_true q186
              go_wp2_with (first | ((with_reducible refine gate_dst (N := 4) rfl ?_); refine box_event ?hg (N := 4) ?hd (cs := #[.bool false, .int .i64 0]) (t := 114) ?hr ?_; (case hd => rfl); (case hg => rfl); (case hr => first | (go_simp; done) | (go_simp; rfl)); intro gb187 hg w9 hbox hb; have n0_ := Aside0.mk (below_step (by repeat (first | (with_reducible first | exact HB.out | apply below_alloc | apply pw_below_drewN | apply below_drew1) | exact HB.out)) hb); have n1_ := Aside0.mk (hbox); have n2_ := Aside0.mk ((by rw [hg]; exact (below_size (by repeat (first | (with_reducible first | exact HB.out | apply below_alloc | apply pw_below_drewN | apply below_drew1) | exact HB.out))) : w.heap.size ≤ gb187)); have n3_ := Aside0.mk ((by rw [hg]; exact (below_size (by repeat (first | (with_reducible first | exact HB.out | apply below_alloc | apply pw_below_drewN | apply below_drew1) | exact HB.out))) : w.heap.size ≤ gb187)); clear HB; have HB := n0_; have BK187 := n1_; have GW187 := n2_; have GE187 := n3_; clear n0_ n1_ n2_ n3_; clear hb hbox hg; have hcz10_0 : w9.cell? ⟨gb187, 0, none⟩ = some (.bool false) := (blk_cell BK187.out 0).trans rfl; have hcz10_1 : w9.cell? ⟨gb187, 1, none⟩ = some (.int .i64 0) := (blk_cell BK187.out 1).trans rfl; have hfz10_0 := blk_frozen BK187.out 0; have hfz10_1 := blk_frozen BK187.out 1))
              go_roundg k1
              case measure => have := HK1.out; omega
              case rel => exact ⟨(wrap64 (x7_1 + 1)), (by first | rfl | (simp; done) | (simp [*]; done)), H', ⟨by have := HK1.out; omega⟩, ⟨by repeat (first | (with_reducible first | exact HB.out | apply below_alloc | apply pw_below_drewN | apply below_drew1 | refine below_set ?_ GE187.out) | exact HB.out)⟩⟩
          · rw [if_neg c4] at H
            exact absurd H (by simp)
        · rw [if_neg c3] at H
          exact absurd H (by simp)
      · rw [if_neg c2] at H
        have c2b0 : decide (x7_1 < (l0.length : Int)) = false := decide_eq_false c2
        clear c2
        obtain rfl := Option.some.inj H
        go_wp2
        go_ret
        exact ⟨by first | rfl | (simp [errW_none, errW_some] <;> rfl) | (simp [*, errW_none, errW_some] <;> rfl), by repeat (first | (with_reducible first | exact HB.out | apply below_alloc | apply pw_below_drewN | apply below_drew1) | exact HB.out)⟩
def num_Sum.f (l : List Int) : Option (Int × Bool) := if l.length ≤ 4611686018427387904 ∧ ∀ x ∈ l, in64 x then some (told (sumI l)) else none
theorem num_Sum.calls (A0 : Option Addr) (c0 : Nat) (l0 : List Int) (r1 : Int) (r2 : Bool) (w : World) (hr0 : Kd.C (Kd.int .i64) w A0 l0.length l0) (hc0 : l0.length ≤ c0) (h : num_Sum.f l0 = some (r1, r2)) :
    Calls Try.prog 55 #[.slice A0 l0.length c0] w fun e w' => e = .returned (.tuple #[.int .i64 r1, .bool r2]) ∧ Drawn0 w w' := by
  unfold num_Sum.f at h
  split at h
  · rename_i hh
    injection h with h
    refine (go_numSum l0 A0 c0 w hr0 hc0 hh.2 hh.1).mono ?_
    rintro e w' ⟨rfl, rfl⟩
    rw [h]
    exact ⟨rfl, Drawn0.refl _⟩
  · cases h
def sheet_total.f (l0 : List Int) : Option (Int × Bool) := (num_Sum.f l0).bind fun bt188 => (if bt188.2 = true then ((sheet_far.f bt188.1).bind fun t190 => (some (bt188.1, !t190))) else (some (bt188.1, false)))
set_option maxHeartbeats 8000000 in
set_option maxRecDepth 100000 in
theorem sheet_total.calls (A0 : Option Addr) (c0 : Nat) (l0 : List Int) (r1 : Int) (r2 : Bool) (w : World) (hr0 : Kd.C (Kd.int .i64) w A0 l0.length l0) (hc0 : l0.length ≤ c0) (h : sheet_total.f l0 = some (r1, r2)) :
    Calls Try.prog 33 #[.slice A0 l0.length c0] w fun e w' => e = .returned (.tuple #[.int .i64 r1, .bool r2]) ∧ Drawn0 w w' := by
  have HR0 := Aside0.mk hr0
  have HC0 := Aside0.mk hc0
  clear hr0 hc0
  have H : ((num_Sum.f l0).bind fun bt188 => (if bt188.2 = true then ((sheet_far.f bt188.1).bind fun t190 => (some (bt188.1, !t190))) else (some (bt188.1, false)))) = some (r1, r2) := h
  clear h
  replace H := Option.bind_eq_some_iff.mp H
  obtain ⟨⟨t188, t189⟩, A20, H⟩ := H
  replace H : (if t189 = true then ((sheet_far.f t188).bind fun t190 => (some (t188, !t190))) else (some (t188, false))) = some (r1, r2) := H
  have A2 := Aside0.mk A20
  clear A20
  by_cases c3 : t189 = true
  · subst c3
    have H1 : ((sheet_far.f t188).bind fun t190 => (some (t188, !t190))) = some (r1, r2) := by rw [if_pos rfl] at H; exact H
    clear H
    have H := H1
    clear H1
    replace H := Option.bind_eq_some_iff.mp H
    obtain ⟨t190, A40, H⟩ := H
    replace H : (some (t188, !t190)) = some (r1, r2) := H
    have A4 := Aside0.mk A40
    clear A40
    simp only [Option.some.injEq, Prod.mk.injEq] at H
    obtain ⟨rfl, rfl⟩ := H
    go_enter Try.func33, Try.ntmps33
    go_wp2_with (first | ((with_reducible refine gate_callee (f := 55) rfl ?_); refine goesL_ (some 6) rfl rfl Try.func55 (by kernel_rfl) rfl #[.slice A0 l0.length c0] rfl (by (try simp only [List.map_toArray, List.map_cons, List.map_nil]); first | done | rfl | (simp only [List.length_drop, List.length_take]; rfl)) ?_; (with_reducible refine (num_Sum.calls _ _ l0 t188 true _ ?side1 ?side2 A2.out).mono ?_); (case side1 => repeat (first | exact HR0.out | (with_reducible refine Kd.C_alloc ?_ _) | (with_reducible refine Kd.C_drewN ?_ _) | (with_reducible refine Kd.C_drew ?_))); (case side2 => exact HC0.out); rintro e w' ⟨rfl, ⟨nd, rfl⟩⟩; refine ⟨_, rfl, ?_⟩) | (go_at_call 34; (with_reducible refine (sheet_far.calls t188 t190 _ A4.out).mono ?_); rintro e w' ⟨rfl, ⟨nd, rfl⟩⟩))
    go_ret2
    exact ⟨by first | rfl | (simp; done) | (simp [*]; done), by repeat (first | exact Drawn0.refl _ | apply Drawn0.step)⟩
  · replace c3 := Bool.eq_false_iff.mpr c3
    subst c3
    have H1 : (some (t188, false)) = some (r1, r2) := by rw [if_neg (show ¬ (false = true) by decide)] at H; exact H
    clear H
    have H := H1
    clear H1
    simp only [Option.some.injEq, Prod.mk.injEq] at H
    obtain ⟨rfl, rfl⟩ := H
    go_enter Try.func33, Try.ntmps33
    go_wp2_with (first | ((with_reducible refine gate_callee (f := 55) rfl ?_); refine goesL_ (some 6) rfl rfl Try.func55 (by kernel_rfl) rfl #[.slice A0 l0.length c0] rfl (by (try simp only [List.map_toArray, List.map_cons, List.map_nil]); first | done | rfl | (simp only [List.length_drop, List.length_take]; rfl)) ?_; (with_reducible refine (num_Sum.calls _ _ l0 t188 false _ ?side1 ?side2 A2.out).mono ?_); (case side1 => repeat (first | exact HR0.out | (with_reducible refine Kd.C_alloc ?_ _) | (with_reducible refine Kd.C_drewN ?_ _) | (with_reducible refine Kd.C_drew ?_))); (case side2 => exact HC0.out); rintro e w' ⟨rfl, ⟨nd, rfl⟩⟩; refine ⟨_, rfl, ?_⟩))
    go_ret2
    exact ⟨by first | rfl | (simp; done) | (simp [*]; done), by repeat (first | exact Drawn0.refl _ | apply Drawn0.step)⟩
def sheet_Base.l0 : Nat → List Int → List (S52) → Int → Int → Option (Int × Int)
  | 0, _, _, _, _ => none
  | k + 1, x4, x11, x12, x13 => if x13 < x12 then (if 0 ≤ x13 then (if x13 < (x11.length : Int) then (if x13 < (x4.length : Int) then (sheet_Base.l0 k (x4.set (x13 : Int).toNat ((rd_T52 x11 x13).f2)) x11 x12 (wrap64 (x13 + 1))) else (none)) else (none)) else (none)) else ((sheet_total.f x4).bind fun bt197 => (if bt197.2 = true then (some (bt197.1, 0)) else (some (0, 4))))
def sheet_Base.f (k : Nat) (l0 : List (S52)) : Option (Int × Int) := if 0 ≤ (l0.length : Int) then (if ((l0.length : Int) : Int).toNat ≤ 35184372088832 then (sheet_Base.l0 k (List.replicate ((l0.length : Int) : Int).toNat 0) l0 (l0.length : Int) 0) else (none)) else (none)
set_option maxHeartbeats 8000000 in
set_option maxRecDepth 100000 in
theorem sheet_Base.calls (k : Nat) (A0 : Option Addr) (c0 : Nat) (l0 : List (S52)) (r1 : Int) (r2 : Int) (w : World) (hr0 : Kd.C k52 w A0 l0.length l0) (hc0 : l0.length ≤ c0) (h : sheet_Base.f k l0 = some (r1, r2)) :
    Calls Try.prog 13 #[.slice A0 l0.length c0] w fun e w' => e = .returned (.tuple #[.int .i64 r1, .int .i64 r2]) ∧ Below w.heap.size w w' := by
  have hu52 := Try.underlying52
  have HR0 := Aside0.mk hr0
  have HC0 := Aside0.mk hc0
  clear hr0 hc0
  have HB := Aside0.mk (Below.refl w.heap.size w)
  have H : (if 0 ≤ (l0.length : Int) then (if ((l0.length : Int) : Int).toNat ≤ 35184372088832 then (sheet_Base.l0 k (List.replicate ((l0.length : Int) : Int).toNat 0) l0 (l0.length : Int) 0) else (none)) else (none)) = some (r1, r2) := h
  clear h
  by_cases c2 : 0 ≤ (l0.length : Int)
  · rw [if_pos c2] at H
    have c2b0 := eq_true c2
    have c2b1 : decide (0 ≤ (l0.length : Int)) = true := decide_eq_true c2
    clear c2
    by_cases c3 : ((l0.length : Int) : Int).toNat ≤ 35184372088832
    · rw [if_pos c3] at H
      have c3b0 := eq_true c3
      have c3b1 : decide (((l0.length : Int) : Int).toNat ≤ 35184372088832) = true := decide_eq_true c3
      clear c3
      obtain ⟨y191, hy191⟩ : ∃ y_ : List Int, y_ = (List.replicate ((l0.length : Int) : Int).toNat 0) := ⟨_, rfl⟩
      replace H : (sheet_Base.l0 k y191 l0 (l0.length : Int) 0) = some (r1, r2) := by first | (rw [hy191]; with_reducible exact H) | (have H2_ := (Option.bind_some _ _).symm.trans H; rw [hy191]; with_reducible exact H2_) | (have H2_ := (Option.bind_some _ _).symm.trans H; with_reducible exact H2_) | with_reducible exact H | (rw [hy191]; exact H) | exact H
      have Ny191 := Aside0.mk hy191
      clear hy191
      have H' := Aside0.mk H
      clear H
      go_enter Try.func13, Try.ntmps13
      go_wp2_with (first | ((with_reducible refine gate_dst (N := 10) rfl ?_); refine Kd.R_make (Kd.int .i64) _ 3 rfl (N := 10) rfl 71 _ _ rfl (l0.length : Int) rfl rfl Try.underlying71 (.int .i64 0) 8 info3 rfl (by decide) (by omega) 0 (ok := fun _ => True) (okp := fun _ => True) rfl (fun _ hk => hk) trivial (of_decide_eq_true (by first | (with_reducible assumption) | assumption)) (Nat.le_trans (Nat.mul_le_mul_right _ (of_decide_eq_true (by first | (with_reducible assumption) | assumption) : (l0.length : Int).toNat ≤ 35184372088832)) (by omega)) (Below.refl _ _) (Nat.le_refl _) ?_; intro v192 w4 ho5 hb hg_ hnew_; clear hg_ hnew_; (first | rw [← Ny191.out] at ho5 | (simp only [Int.reduceToNat] at ho5; rw [← Ny191.out] at ho5)); have n0_ := Aside0.mk (Kd.R_lower ho5 (below_size (by repeat (first | (with_reducible first | exact HB.out | apply below_alloc | apply pw_below_drewN | apply below_drew1) | exact HB.out)))); have n1_ := Aside0.mk (below_step (by repeat (first | (with_reducible first | exact HB.out | apply below_alloc | apply pw_below_drewN | apply below_drew1) | exact HB.out)) hb); clear HB; have HO193 := n0_; have HB := n1_; clear n0_ n1_; clear hb ho5))
      go_loopg [13] k (fun kq v13 w' => ∃ (x4_1 : List Int) (x13_1 : Int), v13 = .int .i64 x13_1 ∧ Aside0 (sheet_Base.l0 kq x4_1 l0 (l0.length : Int) x13_1 = some (r1, r2)) ∧ Aside0 (kq ≤ k) ∧ Aside0 (Kd.R (Kd.int .i64) 3 w' w.heap.size (fun _ => True) v192 x4_1) ∧ Aside0 (Below w.heap.size w w'))
      case atStart => exact ⟨(y191), (0), (by first | rfl | (simp; done) | (simp [*]; done)), H', ⟨Nat.le_refl _⟩, ⟨by (with_reducible repeat (first | apply Kd.R_alloc | apply Kd.R_drewN | apply Kd.R_drew)); exact HO193.out⟩, ⟨by repeat (first | (with_reducible first | exact HB.out | apply below_alloc | apply pw_below_drewN | apply below_drew1) | exact HB.out)⟩⟩
      case round =>
        clear H'
        try clear c1
        try clear c2
        try clear c2b0
        try clear c2b1
        try clear p2
        try clear c3
        try clear c3b0
        try clear c3b1
        obtain ⟨x4_1, x13_1, rfl, HA, HK1, HO_4, HB⟩ := hrel
        cases gk with
        | zero => exact absurd HA.out (by simp [sheet_Base.l0])
        | succ k1 =>
          have H := HA.out
          clear HA
          simp only [sheet_Base.l0] at H
          by_cases c6 : x13_1 < (l0.length : Int)
          · rw [if_pos c6] at H
            have c6b0 : decide (x13_1 < (l0.length : Int)) = true := decide_eq_true c6
            clear c6
            by_cases c7 : 0 ≤ x13_1
            · rw [if_pos c7] at H
              have c7b0 : decide (0 ≤ x13_1) = true := decide_eq_true c7
              clear c7
              by_cases c8 : x13_1 < (l0.length : Int)
              · rw [if_pos c8] at H
                have c8b0 : decide (x13_1 < (l0.length : Int)) = true := decide_eq_true c8
                clear c8
                by_cases c9 : x13_1 < (x4_1.length : Int)
                · rw [if_pos c9] at H
                  have c9b0 : decide (x13_1 < (x4_1.length : Int)) = true := decide_eq_true c9
                  clear c9
                  obtain ⟨y196, hy196⟩ : ∃ y_ : List Int, y_ = (x4_1.set (x13_1 : Int).toNat ((rd_T52 l0 x13_1).f2)) := ⟨_, rfl⟩
                  replace H : (sheet_Base.l0 k1 y196 l0 (l0.length : Int) (wrap64 (x13_1 + 1))) = some (r1, r2) := by first | (rw [hy196]; with_reducible exact H) | (have H2_ := (Option.bind_some _ _).symm.trans H; rw [hy196]; with_reducible exact H2_) | (have H2_ := (Option.bind_some _ _).symm.trans H; with_reducible exact H2_) | with_reducible exact H | (rw [hy196]; exact H) | exact H
                  have Ny196 := Aside0.mk hy196
                  clear hy196
                  have H' := Aside0.mk H
                  clear H
                  have p194 : 0 ≤ (x13_1 : Int) := of_decide_eq_true (by first | (with_reducible assumption) | assumption)
                  have q194 : x13_1 < (l0.length : Int) := of_decide_eq_true (by first | (with_reducible assumption) | assumption)
                  obtain ⟨ad194, e194, hx194_0, hx194_1, hx194_2, hx194_3, hx194_4, hx194_5, hx194_6⟩ := at_T52 HR0.out x13_1 p194 q194
                  cases e194
                  replace hx194_0 := (HB.out.cell (World.block_lt_of_cell? w _ hx194_0)).trans hx194_0
                  replace hx194_1 := (HB.out.cell (World.block_lt_of_cell? w _ hx194_1)).trans hx194_1
                  replace hx194_2 := (HB.out.cell (World.block_lt_of_cell? w _ hx194_2)).trans hx194_2
                  replace hx194_3 := (HB.out.cell (World.block_lt_of_cell? w _ hx194_3)).trans hx194_3
                  replace hx194_4 := (HB.out.cell (World.block_lt_of_cell? w _ hx194_4)).trans hx194_4
                  replace hx194_5 := (HB.out.cell (World.block_lt_of_cell? w _ hx194_5)).trans hx194_5
                  replace hx194_6 := (HB.out.cell (World.block_lt_of_cell? w _ hx194_6)).trans hx194_6
                  replace p194 := eq_true p194
                  replace q194 := eq_true q194
                  go_wp2_with (first | ((with_reducible refine gate_dst (N := 6) rfl ?_); refine box_event ?hg (N := 6) ?hd (cs := #[.string (⟨#[]⟩ : ByteArray), .string (⟨#[]⟩ : ByteArray), .string (⟨#[]⟩ : ByteArray), .string (⟨#[]⟩ : ByteArray), .string (⟨#[]⟩ : ByteArray), .int .i64 0, .int .i64 0]) (t := 52) ?hr ?_; (case hd => rfl); (case hg => rfl); (case hr => first | (go_simp; done) | (go_simp; rfl)); intro gb195 hg w11 hbox hb; have n0_ := Aside0.mk (Kd.R_below (by (with_reducible repeat (first | apply Kd.R_alloc | apply Kd.R_drewN | apply Kd.R_drew)); exact HO_4.out) hb); have n1_ := Aside0.mk (below_step (by repeat (first | (with_reducible first | exact HB.out | apply below_alloc | apply pw_below_drewN | apply below_drew1) | exact HB.out)) hb); have n2_ := Aside0.mk (hbox); have n3_ := Aside0.mk ((by rw [hg]; exact (below_size (by repeat (first | (with_reducible first | exact HB.out | apply below_alloc | apply pw_below_drewN | apply below_drew1) | exact HB.out))) : w.heap.size ≤ gb195)); have n4_ := Aside0.mk ((by rw [hg]; exact (below_size (by repeat (first | (with_reducible first | exact HB.out | apply below_alloc | apply pw_below_drewN | apply below_drew1) | exact HB.out))) : w.heap.size ≤ gb195)); clear HO_4; clear HB; have HO_4 := n0_; have HB := n1_; have BK195 := n2_; have GW195 := n3_; have GE195 := n4_; clear n0_ n1_ n2_ n3_ n4_; clear hb hbox hg; have hcz12_0 : w11.cell? ⟨gb195, 0, none⟩ = some (.string (⟨#[]⟩ : ByteArray)) := (blk_cell BK195.out 0).trans rfl; have hcz12_1 : w11.cell? ⟨gb195, 1, none⟩ = some (.string (⟨#[]⟩ : ByteArray)) := (blk_cell BK195.out 1).trans rfl; have hcz12_2 : w11.cell? ⟨gb195, 2, none⟩ = some (.string (⟨#[]⟩ : ByteArray)) := (blk_cell BK195.out 2).trans rfl; have hcz12_3 : w11.cell? ⟨gb195, 3, none⟩ = some (.string (⟨#[]⟩ : ByteArray)) := (blk_cell BK195.out 3).trans rfl; have hcz12_4 : w11.cell? ⟨gb195, 4, none⟩ = some (.string (⟨#[]⟩ : ByteArray)) := (blk_cell BK195.out 4).trans rfl; have hcz12_5 : w11.cell? ⟨gb195, 5, none⟩ = some (.int .i64 0) := (blk_cell BK195.out 5).trans rfl; have hcz12_6 : w11.cell? ⟨gb195, 6, none⟩ = some (.int .i64 0) := (blk_cell BK195.out 6).trans rfl; have hfz12_0 := blk_frozen BK195.out 0; have hfz12_1 := blk_frozen BK195.out 1; have hfz12_2 := blk_frozen BK195.out 2; have hfz12_3 := blk_frozen BK195.out 3; have hfz12_4 := blk_frozen BK195.out 4; have hfz12_5 := blk_frozen BK195.out 5; have hfz12_6 := blk_frozen BK195.out 6) | ((with_reducible refine gate_store (t := 52) (p := 6) rfl ?_); refine store_event (t := 52) (p := 6) (v := ?vo_w13) (w1 := (((((((w11.setCell ⟨gb195, 0, none⟩ (.string ((rd_T52 l0 x13_1).f0.f0))).setCell ⟨gb195, 1, none⟩ (.string ((rd_T52 l0 x13_1).f0.f1))).setCell ⟨gb195, 2, none⟩ (.string ((rd_T52 l0 x13_1).f0.f2))).setCell ⟨gb195, 3, none⟩ (.string ((rd_T52 l0 x13_1).f0.f3))).setCell ⟨gb195, 4, none⟩ (.string ((rd_T52 l0 x13_1).f0.f4))).setCell ⟨gb195, 5, none⟩ (.int .i64 ((rd_T52 l0 x13_1).f1))).setCell ⟨gb195, 6, none⟩ (.int .i64 ((rd_T52 l0 x13_1).f2)))) ?hg ?ho ?hn ?hr ?_; (case ho => rfl); (case hg => rfl); (case hn => rfl); (case hr => first | (go_simp; done) | (go_simp; rfl)); intro w13 hw; have n0_ : Aside0 (Kd.R (Kd.int .i64) 3 w13 w.heap.size (fun _ => True) v192 x4_1) := ⟨(by rw [hw]; exact (by (with_reducible repeat (first | apply Kd.R_alloc | apply Kd.R_drewN | apply Kd.R_drew)); exact Kd.R_mono (Kd.R_far (p := ⟨gb195, 6, none⟩) (Kd.R_far (p := ⟨gb195, 5, none⟩) (Kd.R_far (p := ⟨gb195, 4, none⟩) (Kd.R_far (p := ⟨gb195, 3, none⟩) (Kd.R_far (p := ⟨gb195, 2, none⟩) (Kd.R_far (p := ⟨gb195, 1, none⟩) (Kd.R_far (p := ⟨gb195, 0, none⟩) (Kd.R_types HO_4.out BK195.out (by decide)) (fun _ hk => hk.2) (.string ((rd_T52 l0 x13_1).f0.f0))) (fun _ hk => hk.2) (.string ((rd_T52 l0 x13_1).f0.f1))) (fun _ hk => hk.2) (.string ((rd_T52 l0 x13_1).f0.f2))) (fun _ hk => hk.2) (.string ((rd_T52 l0 x13_1).f0.f3))) (fun _ hk => hk.2) (.string ((rd_T52 l0 x13_1).f0.f4))) (fun _ hk => hk.2) (.int .i64 ((rd_T52 l0 x13_1).f1))) (fun _ hk => hk.2) (.int .i64 ((rd_T52 l0 x13_1).f2))) (fun _ hk => trivial)))⟩; have n1_ : Aside0 (w13.heap[gb195]? = some (.cells #[.string ((rd_T52 l0 x13_1).f0.f0), .string ((rd_T52 l0 x13_1).f0.f1), .string ((rd_T52 l0 x13_1).f0.f2), .string ((rd_T52 l0 x13_1).f0.f3), .string ((rd_T52 l0 x13_1).f0.f4), .int .i64 ((rd_T52 l0 x13_1).f1), .int .i64 ((rd_T52 l0 x13_1).f2)] 52 (0, 0))) := ⟨(by rw [hw]; exact (by (with_reducible repeat (first | refine blk_drewN ?_ _ | refine blk_drew ?_ | refine blk_alloc ?_ _)); refine blk_put (cs := #[.string ((rd_T52 l0 x13_1).f0.f0), .string ((rd_T52 l0 x13_1).f0.f1), .string ((rd_T52 l0 x13_1).f0.f2), .string ((rd_T52 l0 x13_1).f0.f3), .string ((rd_T52 l0 x13_1).f0.f4), .int .i64 ((rd_T52 l0 x13_1).f1), .int .i64 0]) ?_ 6 _ rfl; (with_reducible repeat (first | refine blk_drewN ?_ _ | refine blk_drew ?_ | refine blk_alloc ?_ _)); refine blk_put (cs := #[.string ((rd_T52 l0 x13_1).f0.f0), .string ((rd_T52 l0 x13_1).f0.f1), .string ((rd_T52 l0 x13_1).f0.f2), .string ((rd_T52 l0 x13_1).f0.f3), .string ((rd_T52 l0 x13_1).f0.f4), .int .i64 0, .int .i64 0]) ?_ 5 _ rfl; (with_reducible repeat (first | refine blk_drewN ?_ _ | refine blk_drew ?_ | refine blk_alloc ?_ _)); refine blk_put (cs := #[.string ((rd_T52 l0 x13_1).f0.f0), .string ((rd_T52 l0 x13_1).f0.f1), .string ((rd_T52 l0 x13_1).f0.f2), .string ((rd_T52 l0 x13_1).f0.f3), .string (⟨#[]⟩ : ByteArray), .int .i64 0, .int .i64 0]) ?_ 4 _ rfl; (with_reducible repeat (first | refine blk_drewN ?_ _ | refine blk_drew ?_ | refine blk_alloc ?_ _)); refine blk_put (cs := #[.string ((rd_T52 l0 x13_1).f0.f0), .string ((rd_T52 l0 x13_1).f0.f1), .string ((rd_T52 l0 x13_1).f0.f2), .string (⟨#[]⟩ : ByteArray), .string (⟨#[]⟩ : ByteArray), .int .i64 0, .int .i64 0]) ?_ 3 _ rfl; (with_reducible repeat (first | refine blk_drewN ?_ _ | refine blk_drew ?_ | refine blk_alloc ?_ _)); refine blk_put (cs := #[.string ((rd_T52 l0 x13_1).f0.f0), .string ((rd_T52 l0 x13_1).f0.f1), .string (⟨#[]⟩ : ByteArray), .string (⟨#[]⟩ : ByteArray), .string (⟨#[]⟩ : ByteArray), .int .i64 0, .int .i64 0]) ?_ 2 _ rfl; (with_reducible repeat (first | refine blk_drewN ?_ _ | refine blk_drew ?_ | refine blk_alloc ?_ _)); refine blk_put (cs := #[.string ((rd_T52 l0 x13_1).f0.f0), .string (⟨#[]⟩ : ByteArray), .string (⟨#[]⟩ : ByteArray), .string (⟨#[]⟩ : ByteArray), .string (⟨#[]⟩ : ByteArray), .int .i64 0, .int .i64 0]) ?_ 1 _ rfl; (with_reducible repeat (first | refine blk_drewN ?_ _ | refine blk_drew ?_ | refine blk_alloc ?_ _)); refine blk_put (cs := #[.string (⟨#[]⟩ : ByteArray), .string (⟨#[]⟩ : ByteArray), .string (⟨#[]⟩ : ByteArray), .string (⟨#[]⟩ : ByteArray), .string (⟨#[]⟩ : ByteArray), .int .i64 0, .int .i64 0]) ?_ 0 _ rfl; (with_reducible repeat (first | refine blk_drewN ?_ _ | refine blk_drew ?_ | refine blk_alloc ?_ _)); exact BK195.out))⟩; have n2_ : Aside0 (Below w.heap.size w w13) := ⟨(by rw [hw]; exact (by repeat (first | (with_reducible first | exact HB.out | apply below_alloc | apply pw_below_drewN | apply below_drew1 | refine below_set ?_ GE195.out) | exact HB.out)))⟩; clear hw; clear HO_4; clear BK195; clear HB; have HO_4 := n0_; have BK195 := n1_; have HB := n2_; clear n0_ n1_ n2_; have hcz14_0 : w13.cell? ⟨gb195, 0, none⟩ = some (.string ((rd_T52 l0 x13_1).f0.f0)) := (blk_cell BK195.out 0).trans rfl; have hcz14_1 : w13.cell? ⟨gb195, 1, none⟩ = some (.string ((rd_T52 l0 x13_1).f0.f1)) := (blk_cell BK195.out 1).trans rfl; have hcz14_2 : w13.cell? ⟨gb195, 2, none⟩ = some (.string ((rd_T52 l0 x13_1).f0.f2)) := (blk_cell BK195.out 2).trans rfl; have hcz14_3 : w13.cell? ⟨gb195, 3, none⟩ = some (.string ((rd_T52 l0 x13_1).f0.f3)) := (blk_cell BK195.out 3).trans rfl; have hcz14_4 : w13.cell? ⟨gb195, 4, none⟩ = some (.string ((rd_T52 l0 x13_1).f0.f4)) := (blk_cell BK195.out 4).trans rfl; have hcz14_5 : w13.cell? ⟨gb195, 5, none⟩ = some (.int .i64 ((rd_T52 l0 x13_1).f1)) := (blk_cell BK195.out 5).trans rfl; have hcz14_6 : w13.cell? ⟨gb195, 6, none⟩ = some (.int .i64 ((rd_T52 l0 x13_1).f2)) := (blk_cell BK195.out 6).trans rfl; have hfz14_0 := blk_frozen BK195.out 0; have hfz14_1 := blk_frozen BK195.out 1; have hfz14_2 := blk_frozen BK195.out 2; have hfz14_3 := blk_frozen BK195.out 3; have hfz14_4 := blk_frozen BK195.out 4; have hfz14_5 := blk_frozen BK195.out 5; have hfz14_6 := blk_frozen BK195.out 6; have p10 : 0 ≤ (x13_1 : Int) := of_decide_eq_true (by first | (with_reducible assumption) | assumption); have q10 : (x13_1 : Int) < ((x4_1.length : Int) : Int) := of_decide_eq_true (by first | (with_reducible assumption) | assumption); obtain ⟨go10, co10, eo10, gb10, gl10, cl10, HG10⟩ := Kd.R_form HO_4.out (by omega); (first | cases eo10 | (injection eo10 with ea_ en_ ec_; (first | subst ea_ | (injection ea_ with ea_; subst ea_)); subst ec_; clear en_)); have GB10 := Aside0.mk gb10; have GG10 := Aside0.mk HG10; clear gb10 gl10 HG10; obtain ⟨hx10_0, hf10_0⟩ := Kd.R_celln 0 HO_4.out (x13_1 : Int) p10 q10; replace p10 := eq_true p10; replace q10 := eq_true q10; obtain ⟨hy15_, hz15_⟩ := Kd.R_celln 0 HO_4.out (x13_1 : Int) (of_decide_eq_true (by first | (with_reducible assumption) | assumption)) (of_decide_eq_true (by first | (with_reducible assumption) | assumption)); have HP15 := Kd.R_putg HO_4.out (x13_1 : Int) ((rd_T52 l0 x13_1).f2)) | ((with_reducible refine gate_store (t := 3) (p := 22) rfl ?_); refine store_event (t := 3) (p := 22) (v := ?vo_w16) (w1 := (w13.setCell ⟨go10, (x13_1 : Int).toNat, none⟩ (.int .i64 ((rd_T52 l0 x13_1).f2)))) ?hg ?ho ?hn ?hr ?_; (case ho => rfl); (case hg => rfl); (case hn => rfl); (case hr => first | (go_simp; done) | (go_simp; rfl)); intro w16 hw; have hg : w13.grownBy w16 (some go10) := (by rw [hw]; exact HP15.2); have hp_ : Kd.R (Kd.int .i64) 3 w16 w.heap.size (fun _ => True) (.slice (some ⟨go10, 0, none⟩) x4_1.length co10) y196 := (by rw [hw, Ny196.out]; exact HP15.1); clear HP15; have n0_ := Aside0.mk (hp_); have n1_ := Aside0.mk (blk_grown (g := gb195) (o := .cells #[.string ((rd_T52 l0 x13_1).f0.f0), .string ((rd_T52 l0 x13_1).f0.f1), .string ((rd_T52 l0 x13_1).f0.f2), .string ((rd_T52 l0 x13_1).f0.f3), .string ((rd_T52 l0 x13_1).f0.f4), .int .i64 ((rd_T52 l0 x13_1).f1), .int .i64 ((rd_T52 l0 x13_1).f2)] 52 (0, 0)) (by (with_reducible repeat (first | refine blk_drewN ?_ _ | refine blk_drew ?_ | refine blk_alloc ?_ _)); exact BK195.out) hg (Kd.R_ne HO_4.out BK195.out (by decide))); have n2_ := Aside0.mk ((by rw [hw]; exact below_set (HB.out) GB10.out : Below w.heap.size w w16)); clear HO_4; clear BK195; clear HB; have HO_4 := n0_; have BK195 := n1_; have HB := n2_; clear n0_ n1_ n2_; clear hg hw hp_))
                  go_roundg k1
                  case measure => have := HK1.out; omega
                  case rel => exact ⟨(y196), (wrap64 (x13_1 + 1)), (by first | rfl | (simp; done) | (simp [*]; done)), H', ⟨by have := HK1.out; omega⟩, ⟨by (with_reducible repeat (first | apply Kd.R_alloc | apply Kd.R_drewN | apply Kd.R_drew)); exact HO_4.out⟩, ⟨by repeat (first | (with_reducible first | exact HB.out | apply below_alloc | apply pw_below_drewN | apply below_drew1 | refine below_set ?_ GE195.out) | exact HB.out)⟩⟩
                · rw [if_neg c9] at H
                  exact absurd H (by simp)
              · rw [if_neg c8] at H
                exact absurd H (by simp)
            · rw [if_neg c7] at H
              exact absurd H (by simp)
          · rw [if_neg c6] at H
            have c6b0 : decide (x13_1 < (l0.length : Int)) = false := decide_eq_false c6
            clear c6
            replace H := Option.bind_eq_some_iff.mp H
            obtain ⟨⟨t197, t198⟩, A170, H⟩ := H
            replace H : (if t198 = true then (some (t197, 0)) else (some (0, 4))) = some (r1, r2) := H
            have A17 := Aside0.mk A170
            clear A170
            by_cases c18 : t198 = true
            · subst c18
              have H1 : (some (t197, 0)) = some (r1, r2) := by rw [if_pos rfl] at H; exact H
              clear H
              have H := H1
              clear H1
              simp only [Option.some.injEq, Prod.mk.injEq] at H
              obtain ⟨rfl, rfl⟩ := H
              obtain ⟨Ao19, co19, eo19⟩ := Kd.R_slice HO_4.out
              subst eo19
              go_wp2_with (first | ((with_reducible refine gate_callee (f := 33) rfl ?_); refine goesL_ (some 26) rfl rfl Try.func33 (by kernel_rfl) rfl #[.slice Ao19 x4_1.length co19] rfl (by (try simp only [List.map_toArray, List.map_cons, List.map_nil]); first | done | rfl | (simp only [List.length_drop, List.length_take]; rfl)) ?_; (with_reducible refine (sheet_total.calls _ _ x4_1 t197 true _ ?side1 ?side2 A17.out).mono ?_); (case side1 => repeat (first | exact (Kd.R_reads' HO_4.out).2.2 | (with_reducible refine Kd.C_alloc ?_ _) | (with_reducible refine Kd.C_drewN ?_ _) | (with_reducible refine Kd.C_drew ?_))); (case side2 => exact (Kd.R_reads' HO_4.out).2.1); rintro e w' ⟨rfl, ⟨nd, rfl⟩⟩; refine ⟨_, rfl, ?_⟩))
              go_ret2
              exact ⟨by first | rfl | (simp [errW_none, errW_some] <;> rfl) | (simp [*, errW_none, errW_some] <;> rfl), by repeat (first | (with_reducible first | exact HB.out | apply below_alloc | apply pw_below_drewN | apply below_drew1) | exact HB.out)⟩
            · replace c18 := Bool.eq_false_iff.mpr c18
              subst c18
              have H1 : (some (0, 4)) = some (r1, r2) := by rw [if_neg (show ¬ (false = true) by decide)] at H; exact H
              clear H
              have H := H1
              clear H1
              simp only [Option.some.injEq, Prod.mk.injEq] at H
              obtain ⟨rfl, rfl⟩ := H
              obtain ⟨Ao20, co20, eo20⟩ := Kd.R_slice HO_4.out
              subst eo20
              go_wp2_with (first | ((with_reducible refine gate_callee (f := 33) rfl ?_); refine goesL_ (some 26) rfl rfl Try.func33 (by kernel_rfl) rfl #[.slice Ao20 x4_1.length co20] rfl (by (try simp only [List.map_toArray, List.map_cons, List.map_nil]); first | done | rfl | (simp only [List.length_drop, List.length_take]; rfl)) ?_; (with_reducible refine (sheet_total.calls _ _ x4_1 t197 false _ ?side1 ?side2 A17.out).mono ?_); (case side1 => repeat (first | exact (Kd.R_reads' HO_4.out).2.2 | (with_reducible refine Kd.C_alloc ?_ _) | (with_reducible refine Kd.C_drewN ?_ _) | (with_reducible refine Kd.C_drew ?_))); (case side2 => exact (Kd.R_reads' HO_4.out).2.1); rintro e w' ⟨rfl, ⟨nd, rfl⟩⟩; refine ⟨_, rfl, ?_⟩))
              go_ret2
              exact ⟨by first | rfl | (simp [errW_none, errW_some] <;> rfl) | (simp [*, errW_none, errW_some] <;> rfl), by repeat (first | (with_reducible first | exact HB.out | apply below_alloc | apply pw_below_drewN | apply below_drew1) | exact HB.out)⟩
    · rw [if_neg c3] at H
      exact absurd H (by simp)
  · rw [if_neg c2] at H
    exact absurd H (by simp)
end Go.Proofs.Ytdlilbleohlmnaa.PAq
namespace Go.Proofs.Ytdlilbleohlmnaa.PAq
open Go.RowKit Go.Proofs.YtdlilbleohlmnaaW.PrintWords Go.Proofs.YtdlilbleohlmnaaW.PrintLast
set_option linter.unusedVariables false
set_option linter.unusedSimpArgs false
def acquire_Split.j0 : Nat → Int → Int → Int → Bool → Int → Int → Option (Int × Int × Int × Int)
  | 0, _, _, _, _, _, _ => none
  | k + 1, x0, x1, x3, x20, x200000, x200001 => if x20 = true then (some (0, 0, 0, 4)) else ((frac_Apply.f k x200000 x200001 x1 x3).bind fun bt204 => (if bt204.2 = 0 then (some (bt204.1, wrap64 (x0 - bt204.1), wrap64 (x1 - bt204.1), 0)) else (some (0, 0, 0, bt204.2))))
def acquire_Split.f (k : Nat) (a0 : Int) (a1 : Int) (a2_0 : Int) (a2_1 : Int) (a3 : Int) : Option (Int × Int × Int × Int) := (acquire_isMode.f a3).bind fun t200 => (if t200 = true then ((acquire_isShare.f k a2_0 a2_1).bind fun t201 => (if t201 = true then ((acquire_large.f a0).bind fun t202 => (if t202 = true then (acquire_Split.j0 k a0 a1 a3 true a2_0 a2_1) else ((acquire_large.f a1).bind fun t203 => (acquire_Split.j0 k a0 a1 a3 t203 a2_0 a2_1)))) else (some (0, 0, 0, 2)))) else (some (0, 0, 0, 10)))
set_option maxHeartbeats 8000000 in
set_option maxRecDepth 100000 in
theorem acquire_Split.calls (k : Nat) (a0 : Int) (a1 : Int) (a2_0 : Int) (a2_1 : Int) (a3 : Int) (r1 : Int) (r2 : Int) (r3 : Int) (r4 : Int) (w : World) (h : acquire_Split.f k a0 a1 a2_0 a2_1 a3 = some (r1, r2, r3, r4)) :
    Calls Try.prog 8 #[.int .i64 a0, .int .i64 a1, .agg #[.int .i64 a2_0, .int .i64 a2_1], .int .i64 a3] w fun e w' => e = .returned (.tuple #[.int .i64 r1, .int .i64 r2, .int .i64 r3, .int .i64 r4]) ∧ Below w.heap.size w w' := by
  have hu23 := Try.underlying23
  have HB := Aside0.mk (Below.refl w.heap.size w)
  have H : ((acquire_isMode.f a3).bind fun t200 => (if t200 = true then ((acquire_isShare.f k a2_0 a2_1).bind fun t201 => (if t201 = true then ((acquire_large.f a0).bind fun t202 => (if t202 = true then (acquire_Split.j0 k a0 a1 a3 true a2_0 a2_1) else ((acquire_large.f a1).bind fun t203 => (acquire_Split.j0 k a0 a1 a3 t203 a2_0 a2_1)))) else (some (0, 0, 0, 2)))) else (some (0, 0, 0, 10)))) = some (r1, r2, r3, r4) := h
  clear h
  replace H := Option.bind_eq_some_iff.mp H
  obtain ⟨t200, A50, H⟩ := H
  replace H : (if t200 = true then ((acquire_isShare.f k a2_0 a2_1).bind fun t201 => (if t201 = true then ((acquire_large.f a0).bind fun t202 => (if t202 = true then (acquire_Split.j0 k a0 a1 a3 true a2_0 a2_1) else ((acquire_large.f a1).bind fun t203 => (acquire_Split.j0 k a0 a1 a3 t203 a2_0 a2_1)))) else (some (0, 0, 0, 2)))) else (some (0, 0, 0, 10))) = some (r1, r2, r3, r4) := H
  have A5 := Aside0.mk A50
  clear A50
  by_cases c6 : t200 = true
  · subst c6
    have H1 : ((acquire_isShare.f k a2_0 a2_1).bind fun t201 => (if t201 = true then ((acquire_large.f a0).bind fun t202 => (if t202 = true then (acquire_Split.j0 k a0 a1 a3 true a2_0 a2_1) else ((acquire_large.f a1).bind fun t203 => (acquire_Split.j0 k a0 a1 a3 t203 a2_0 a2_1)))) else (some (0, 0, 0, 2)))) = some (r1, r2, r3, r4) := by rw [if_pos rfl] at H; exact H
    clear H
    have H := H1
    clear H1
    replace H := Option.bind_eq_some_iff.mp H
    obtain ⟨t201, A70, H⟩ := H
    replace H : (if t201 = true then ((acquire_large.f a0).bind fun t202 => (if t202 = true then (acquire_Split.j0 k a0 a1 a3 true a2_0 a2_1) else ((acquire_large.f a1).bind fun t203 => (acquire_Split.j0 k a0 a1 a3 t203 a2_0 a2_1)))) else (some (0, 0, 0, 2))) = some (r1, r2, r3, r4) := H
    have A7 := Aside0.mk A70
    clear A70
    by_cases c8 : t201 = true
    · subst c8
      have H1 : ((acquire_large.f a0).bind fun t202 => (if t202 = true then (acquire_Split.j0 k a0 a1 a3 true a2_0 a2_1) else ((acquire_large.f a1).bind fun t203 => (acquire_Split.j0 k a0 a1 a3 t203 a2_0 a2_1)))) = some (r1, r2, r3, r4) := by rw [if_pos rfl] at H; exact H
      clear H
      have H := H1
      clear H1
      have HC9 := Aside0.mk H
      clear H
      go_enter Try.func8, Try.ntmps8
      go_upto_region 5 with (first | ((with_reducible refine gate_dst (N := 6) rfl ?_); refine box_event ?hg (N := 6) ?hd (cs := #[.int .i64 a2_0, .int .i64 a2_1]) (t := 23) ?hr ?_; (case hd => rfl); (case hg => rfl); (case hr => first | (go_simp; done) | (go_simp; rfl)); intro gb199 hg w10 hbox hb; have n0_ := Aside0.mk (below_step (by repeat (first | (with_reducible first | exact HB.out | apply below_alloc | apply pw_below_drewN | apply below_drew1) | exact HB.out)) hb); have n1_ := Aside0.mk (hbox); have n2_ := Aside0.mk ((by rw [hg]; exact (below_size (by repeat (first | (with_reducible first | exact HB.out | apply below_alloc | apply pw_below_drewN | apply below_drew1) | exact HB.out))) : w.heap.size ≤ gb199)); have n3_ := Aside0.mk ((by rw [hg]; exact (below_size (by repeat (first | (with_reducible first | exact HB.out | apply below_alloc | apply pw_below_drewN | apply below_drew1) | exact HB.out))) : w.heap.size ≤ gb199)); clear HB; have HB := n0_; have BK199 := n1_; have GW199 := n2_; have GE199 := n3_; clear n0_ n1_ n2_ n3_; clear hb hbox hg) | ((with_reducible refine gate_callee (f := 17) rfl ?_); refine goesL_ (some 14) rfl rfl Try.func17 (by kernel_rfl) rfl #[.int .i64 a3] rfl (by (try simp only [List.map_toArray, List.map_cons, List.map_nil]); first | done | rfl | (simp only [List.length_drop, List.length_take]; rfl)) ?_; (with_reducible refine (acquire_isMode.calls a3 true _ A5.out).mono ?_); rintro e w' ⟨rfl, ⟨nd, rfl⟩⟩; refine ⟨_, rfl, ?_⟩; have hcz11_0 : w10.cell? ⟨gb199, 0, none⟩ = some (.int .i64 a2_0) := (blk_cell BK199.out 0).trans rfl; have hcz11_1 : w10.cell? ⟨gb199, 1, none⟩ = some (.int .i64 a2_1) := (blk_cell BK199.out 1).trans rfl; have hfz11_0 := blk_frozen BK199.out 0; have hfz11_1 := blk_frozen BK199.out 1) | ((with_reducible refine gate_callee (f := 18) rfl ?_); refine goesL_ (some 18) rfl rfl Try.func18 (by kernel_rfl) rfl #[.agg #[.int .i64 a2_0, .int .i64 a2_1]] rfl (by (try simp only [List.map_toArray, List.map_cons, List.map_nil]); first | done | rfl | (simp only [List.length_drop, List.length_take]; rfl)) ?_; (with_reducible refine (acquire_isShare.calls k a2_0 a2_1 true _ A7.out).mono ?_); rintro e w12 ⟨rfl, hb⟩; refine ⟨_, rfl, ?_⟩; have n0_ := Aside0.mk (blk_below (g := gb199) (o := .cells #[.int .i64 a2_0, .int .i64 a2_1] 23 (0, 0)) (by (with_reducible repeat (first | refine blk_drewN ?_ _ | refine blk_drew ?_ | refine blk_alloc ?_ _)); exact BK199.out) hb); have n1_ := Aside0.mk (below_step (by repeat (first | (with_reducible first | exact HB.out | apply below_alloc | apply pw_below_drewN | apply below_drew1 | refine below_set ?_ GE199.out) | exact HB.out)) hb); clear BK199; clear HB; have BK199 := n0_; have HB := n1_; clear n0_ n1_; (try clear hb); (try clear hb2); (try clear hk); (try clear hi)))
      (try simp only [Act.put, pkA, pkZ, pkS])
      go_cut [20] (fun v20 wc => ∃ (kq : Nat) (x20_8 : Bool), v20 = .bool x20_8 ∧ Aside0 (acquire_Split.j0 kq a0 a1 a3 x20_8 a2_0 a2_1 = some (r1, r2, r3, r4)) ∧ Aside0 (kq ≤ k) ∧ Aside0 (wc.heap[gb199]? = some (.cells #[.int .i64 a2_0, .int .i64 a2_1] 23 (0, 0))) ∧ Aside0 (Below w.heap.size w wc))
      case first =>
        have H := HC9.out
        clear HC9
        replace H := Option.bind_eq_some_iff.mp H
        obtain ⟨t202, A130, H⟩ := H
        replace H : (if t202 = true then (acquire_Split.j0 k a0 a1 a3 true a2_0 a2_1) else ((acquire_large.f a1).bind fun t203 => (acquire_Split.j0 k a0 a1 a3 t203 a2_0 a2_1))) = some (r1, r2, r3, r4) := H
        have A13 := Aside0.mk A130
        clear A130
        by_cases c14 : t202 = true
        · subst c14
          have H1 : (acquire_Split.j0 k a0 a1 a3 true a2_0 a2_1) = some (r1, r2, r3, r4) := by rw [if_pos rfl] at H; exact H
          clear H
          have H := H1
          clear H1
          have H' := Aside0.mk H
          clear H
          go_wp2_with (first | ((with_reducible refine gate_callee (f := 19) rfl ?_); refine goesL_ (some 22) rfl rfl Try.func19 (by kernel_rfl) rfl #[.int .i64 a0] rfl (by (try simp only [List.map_toArray, List.map_cons, List.map_nil]); first | done | rfl | (simp only [List.length_drop, List.length_take]; rfl)) ?_; (with_reducible refine (acquire_large.calls a0 true _ A13.out).mono ?_); rintro e w' ⟨rfl, ⟨nd, rfl⟩⟩; refine ⟨_, rfl, ?_⟩))
          go_meet
          case rel => exact ⟨_, (true), (by first | rfl | (simp; done) | (simp [*]; done)), H', ⟨by first | omega | exact Nat.le_refl _⟩, ⟨by (with_reducible repeat (first | refine blk_drewN ?_ _ | refine blk_drew ?_ | refine blk_alloc ?_ _)); exact BK199.out⟩, ⟨by repeat (first | (with_reducible first | exact HB.out | apply below_alloc | apply pw_below_drewN | apply below_drew1 | refine below_set ?_ GE199.out) | exact HB.out)⟩⟩
        · replace c14 := Bool.eq_false_iff.mpr c14
          subst c14
          have H1 : ((acquire_large.f a1).bind fun t203 => (acquire_Split.j0 k a0 a1 a3 t203 a2_0 a2_1)) = some (r1, r2, r3, r4) := by rw [if_neg (show ¬ (false = true) by decide)] at H; exact H
          clear H
          have H := H1
          clear H1
          replace H := Option.bind_eq_some_iff.mp H
          obtain ⟨t203, A150, H⟩ := H
          replace H : (acquire_Split.j0 k a0 a1 a3 t203 a2_0 a2_1) = some (r1, r2, r3, r4) := H
          have A15 := Aside0.mk A150
          clear A150
          have H' := Aside0.mk H
          clear H
          go_wp2_with (first | ((with_reducible refine gate_callee (f := 19) rfl ?_); refine goesL_ (some 22) rfl rfl Try.func19 (by kernel_rfl) rfl #[.int .i64 a0] rfl (by (try simp only [List.map_toArray, List.map_cons, List.map_nil]); first | done | rfl | (simp only [List.length_drop, List.length_take]; rfl)) ?_; (with_reducible refine (acquire_large.calls a0 false _ A13.out).mono ?_); rintro e w' ⟨rfl, ⟨nd, rfl⟩⟩; refine ⟨_, rfl, ?_⟩) | (go_at_call 19; (with_reducible refine (acquire_large.calls a1 t203 _ A15.out).mono ?_); rintro e w' ⟨rfl, ⟨nd, rfl⟩⟩))
          go_meet
          case rel => exact ⟨_, (t203), (by first | rfl | (simp; done) | (simp [*]; done)), H', ⟨by first | omega | exact Nat.le_refl _⟩, ⟨by (with_reducible repeat (first | refine blk_drewN ?_ _ | refine blk_drew ?_ | refine blk_alloc ?_ _)); exact BK199.out⟩, ⟨by repeat (first | (with_reducible first | exact HB.out | apply below_alloc | apply pw_below_drewN | apply below_drew1 | refine below_set ?_ GE199.out) | exact HB.out)⟩⟩
      case rest =>
        clear HC9
        try clear c1
        try clear p2
        try clear c6
        try clear c8
        try clear c14
        try clear hcz11_0
        try clear hcz11_1
        try clear hfz11_0
        try clear hfz11_1
        obtain ⟨kq, x20_8, rfl, HA, HJ8, BK199, HB⟩ := hcut
        cases kq with
        | zero => exact absurd HA.out (by simp [acquire_Split.j0])
        | succ kj8 =>
          have H := HA.out
          clear HA
          simp only [acquire_Split.j0] at H
          by_cases c16 : x20_8 = true
          · subst c16
            have H1 : (some (0, 0, 0, 4)) = some (r1, r2, r3, r4) := by rw [if_pos rfl] at H; exact H
            clear H
            have H := H1
            clear H1
            simp only [Option.some.injEq, Prod.mk.injEq] at H
            obtain ⟨rfl, rfl, rfl, rfl⟩ := H
            go_wp2
            refine bodyPost_ret (results_list (rs := [.tmp 8, .tmp 9, .tmp 10, .tmp 11]) rfl (by simp) (.tmp (.tmp (.tmp (.tmp .nil))))) rfl ?_
            exact ⟨by first | rfl | (simp [errW_none, errW_some] <;> rfl) | (simp [*, errW_none, errW_some] <;> rfl), by repeat (first | (with_reducible first | exact HB.out | apply below_alloc | apply pw_below_drewN | apply below_drew1 | refine below_set ?_ GE199.out) | exact HB.out)⟩
          · replace c16 := Bool.eq_false_iff.mpr c16
            subst c16
            have H1 : ((frac_Apply.f kj8 a2_0 a2_1 a1 a3).bind fun bt204 => (if bt204.2 = 0 then (some (bt204.1, wrap64 (a0 - bt204.1), wrap64 (a1 - bt204.1), 0)) else (some (0, 0, 0, bt204.2)))) = some (r1, r2, r3, r4) := by rw [if_neg (show ¬ (false = true) by decide)] at H; exact H
            clear H
            have H := H1
            clear H1
            replace H := Option.bind_eq_some_iff.mp H
            obtain ⟨⟨t204, t205⟩, A170, H⟩ := H
            replace H : (if t205 = 0 then (some (t204, wrap64 (a0 - t204), wrap64 (a1 - t204), 0)) else (some (0, 0, 0, t205))) = some (r1, r2, r3, r4) := H
            have A17 := Aside0.mk A170
            clear A170
            by_cases c18 : t205 = 0
            · rw [if_pos c18] at H
              have c18b0 : (t205 == 0) = true := beq_iff_eq.mpr c18
              have c18b1 : (t205 != 0) = false := bne_eq_false_iff_eq.mpr c18
              clear c18
              simp only [Option.some.injEq, Prod.mk.injEq] at H
              obtain ⟨rfl, rfl, rfl, rfl⟩ := H
              have hcz19_0 : wc.cell? ⟨gb199, 0, none⟩ = some (.int .i64 a2_0) := (blk_cell BK199.out 0).trans rfl
              have hcz19_1 : wc.cell? ⟨gb199, 1, none⟩ = some (.int .i64 a2_1) := (blk_cell BK199.out 1).trans rfl
              have hfz19_0 := blk_frozen BK199.out 0
              have hfz19_1 := blk_frozen BK199.out 1
              go_wp2_with (first | ((with_reducible refine gate_callee (f := 20) rfl ?_); refine goesL_ (some 31) rfl rfl Try.func20 (by kernel_rfl) rfl #[.agg #[.int .i64 a2_0, .int .i64 a2_1], .int .i64 a1, .int .i64 a3] rfl (by (try simp only [List.map_toArray, List.map_cons, List.map_nil]); first | done | rfl | (simp only [List.length_drop, List.length_take]; rfl)) ?_; (with_reducible refine (frac_Apply.calls kj8 a2_0 a2_1 a1 a3 t204 t205 _ A17.out).mono ?_); rintro e w20 ⟨rfl, hb⟩; refine ⟨_, rfl, ?_⟩; have n0_ := Aside0.mk (blk_below (g := gb199) (o := .cells #[.int .i64 a2_0, .int .i64 a2_1] 23 (0, 0)) (by (with_reducible repeat (first | refine blk_drewN ?_ _ | refine blk_drew ?_ | refine blk_alloc ?_ _)); exact BK199.out) hb); have n1_ := Aside0.mk (below_step (by repeat (first | (with_reducible first | exact HB.out | apply below_alloc | apply pw_below_drewN | apply below_drew1 | refine below_set ?_ GE199.out) | exact HB.out)) hb); clear BK199; clear HB; have BK199 := n0_; have HB := n1_; clear n0_ n1_; (try clear hb); (try clear hb2); (try clear hk); (try clear hi)))
              refine bodyPost_ret (results_list (rs := [.tmp 8, .tmp 9, .tmp 10, .tmp 11]) rfl (by simp) (.tmp (.tmp (.tmp (.tmp .nil))))) rfl ?_
              exact ⟨by first | rfl | (simp [errW_none, errW_some] <;> rfl) | (simp [*, errW_none, errW_some] <;> rfl), by repeat (first | (with_reducible first | exact HB.out | apply below_alloc | apply pw_below_drewN | apply below_drew1 | refine below_set ?_ GE199.out) | exact HB.out)⟩
            · rw [if_neg c18] at H
              have c18b0 : (t205 == 0) = false := beq_eq_false_iff_ne.mpr c18
              have c18b1 : (t205 != 0) = true := bne_iff_ne.mpr c18
              simp only [Option.some.injEq, Prod.mk.injEq] at H
              obtain ⟨rfl, rfl, rfl, rfl⟩ := H
              have hcz21_0 : wc.cell? ⟨gb199, 0, none⟩ = some (.int .i64 a2_0) := (blk_cell BK199.out 0).trans rfl
              have hcz21_1 : wc.cell? ⟨gb199, 1, none⟩ = some (.int .i64 a2_1) := (blk_cell BK199.out 1).trans rfl
              have hfz21_0 := blk_frozen BK199.out 0
              have hfz21_1 := blk_frozen BK199.out 1
              go_wp2_with (first | ((with_reducible refine gate_callee (f := 20) rfl ?_); refine goesL_ (some 31) rfl rfl Try.func20 (by kernel_rfl) rfl #[.agg #[.int .i64 a2_0, .int .i64 a2_1], .int .i64 a1, .int .i64 a3] rfl (by (try simp only [List.map_toArray, List.map_cons, List.map_nil]); first | done | rfl | (simp only [List.length_drop, List.length_take]; rfl)) ?_; (with_reducible refine (frac_Apply.calls kj8 a2_0 a2_1 a1 a3 t204 t205 _ A17.out).mono ?_); rintro e w22 ⟨rfl, hb⟩; refine ⟨_, rfl, ?_⟩; have n0_ := Aside0.mk (blk_below (g := gb199) (o := .cells #[.int .i64 a2_0, .int .i64 a2_1] 23 (0, 0)) (by (with_reducible repeat (first | refine blk_drewN ?_ _ | refine blk_drew ?_ | refine blk_alloc ?_ _)); exact BK199.out) hb); have n1_ := Aside0.mk (below_step (by repeat (first | (with_reducible first | exact HB.out | apply below_alloc | apply pw_below_drewN | apply below_drew1 | refine below_set ?_ GE199.out) | exact HB.out)) hb); clear BK199; clear HB; have BK199 := n0_; have HB := n1_; clear n0_ n1_; (try clear hb); (try clear hb2); (try clear hk); (try clear hi)))
              refine bodyPost_ret (results_list (rs := [.tmp 8, .tmp 9, .tmp 10, .tmp 11]) rfl (by simp) (.tmp (.tmp (.tmp (.tmp .nil))))) rfl ?_
              exact ⟨by first | rfl | (simp [errW_none, errW_some] <;> rfl) | (simp [*, errW_none, errW_some] <;> rfl), by repeat (first | (with_reducible first | exact HB.out | apply below_alloc | apply pw_below_drewN | apply below_drew1 | refine below_set ?_ GE199.out) | exact HB.out)⟩
    · replace c8 := Bool.eq_false_iff.mpr c8
      subst c8
      have H1 : (some (0, 0, 0, 2)) = some (r1, r2, r3, r4) := by rw [if_neg (show ¬ (false = true) by decide)] at H; exact H
      clear H
      have H := H1
      clear H1
      simp only [Option.some.injEq, Prod.mk.injEq] at H
      obtain ⟨rfl, rfl, rfl, rfl⟩ := H
      go_enter Try.func8, Try.ntmps8
      go_wp2_with (first | ((with_reducible refine gate_dst (N := 6) rfl ?_); refine box_event ?hg (N := 6) ?hd (cs := #[.int .i64 a2_0, .int .i64 a2_1]) (t := 23) ?hr ?_; (case hd => rfl); (case hg => rfl); (case hr => first | (go_simp; done) | (go_simp; rfl)); intro gb199 hg w23 hbox hb; have n0_ := Aside0.mk (below_step (by repeat (first | (with_reducible first | exact HB.out | apply below_alloc | apply pw_below_drewN | apply below_drew1) | exact HB.out)) hb); have n1_ := Aside0.mk (hbox); have n2_ := Aside0.mk ((by rw [hg]; exact (below_size (by repeat (first | (with_reducible first | exact HB.out | apply below_alloc | apply pw_below_drewN | apply below_drew1) | exact HB.out))) : w.heap.size ≤ gb199)); have n3_ := Aside0.mk ((by rw [hg]; exact (below_size (by repeat (first | (with_reducible first | exact HB.out | apply below_alloc | apply pw_below_drewN | apply below_drew1) | exact HB.out))) : w.heap.size ≤ gb199)); clear HB; have HB := n0_; have BK199 := n1_; have GW199 := n2_; have GE199 := n3_; clear n0_ n1_ n2_ n3_; clear hb hbox hg) | ((with_reducible refine gate_callee (f := 17) rfl ?_); refine goesL_ (some 14) rfl rfl Try.func17 (by kernel_rfl) rfl #[.int .i64 a3] rfl (by (try simp only [List.map_toArray, List.map_cons, List.map_nil]); first | done | rfl | (simp only [List.length_drop, List.length_take]; rfl)) ?_; (with_reducible refine (acquire_isMode.calls a3 true _ A5.out).mono ?_); rintro e w' ⟨rfl, ⟨nd, rfl⟩⟩; refine ⟨_, rfl, ?_⟩; have hcz24_0 : w23.cell? ⟨gb199, 0, none⟩ = some (.int .i64 a2_0) := (blk_cell BK199.out 0).trans rfl; have hcz24_1 : w23.cell? ⟨gb199, 1, none⟩ = some (.int .i64 a2_1) := (blk_cell BK199.out 1).trans rfl; have hfz24_0 := blk_frozen BK199.out 0; have hfz24_1 := blk_frozen BK199.out 1) | ((with_reducible refine gate_callee (f := 18) rfl ?_); refine goesL_ (some 18) rfl rfl Try.func18 (by kernel_rfl) rfl #[.agg #[.int .i64 a2_0, .int .i64 a2_1]] rfl (by (try simp only [List.map_toArray, List.map_cons, List.map_nil]); first | done | rfl | (simp only [List.length_drop, List.length_take]; rfl)) ?_; (with_reducible refine (acquire_isShare.calls k a2_0 a2_1 false _ A7.out).mono ?_); rintro e w25 ⟨rfl, hb⟩; refine ⟨_, rfl, ?_⟩; have n0_ := Aside0.mk (blk_below (g := gb199) (o := .cells #[.int .i64 a2_0, .int .i64 a2_1] 23 (0, 0)) (by (with_reducible repeat (first | refine blk_drewN ?_ _ | refine blk_drew ?_ | refine blk_alloc ?_ _)); exact BK199.out) hb); have n1_ := Aside0.mk (below_step (by repeat (first | (with_reducible first | exact HB.out | apply below_alloc | apply pw_below_drewN | apply below_drew1 | refine below_set ?_ GE199.out) | exact HB.out)) hb); clear BK199; clear HB; have BK199 := n0_; have HB := n1_; clear n0_ n1_; (try clear hb); (try clear hb2); (try clear hk); (try clear hi)))
      refine bodyPost_ret (results_list (rs := [.tmp 8, .tmp 9, .tmp 10, .tmp 11]) rfl (by simp) (.tmp (.tmp (.tmp (.tmp .nil))))) rfl ?_
      exact ⟨by first | rfl | (simp [errW_none, errW_some] <;> rfl) | (simp [*, errW_none, errW_some] <;> rfl), by repeat (first | (with_reducible first | exact HB.out | apply below_alloc | apply pw_below_drewN | apply below_drew1 | refine below_set ?_ GE199.out) | exact HB.out)⟩
  · replace c6 := Bool.eq_false_iff.mpr c6
    subst c6
    have H1 : (some (0, 0, 0, 10)) = some (r1, r2, r3, r4) := by rw [if_neg (show ¬ (false = true) by decide)] at H; exact H
    clear H
    have H := H1
    clear H1
    simp only [Option.some.injEq, Prod.mk.injEq] at H
    obtain ⟨rfl, rfl, rfl, rfl⟩ := H
    go_enter Try.func8, Try.ntmps8
    go_wp2_with (first | ((with_reducible refine gate_dst (N := 6) rfl ?_); refine box_event ?hg (N := 6) ?hd (cs := #[.int .i64 a2_0, .int .i64 a2_1]) (t := 23) ?hr ?_; (case hd => rfl); (case hg => rfl); (case hr => first | (go_simp; done) | (go_simp; rfl)); intro gb199 hg w26 hbox hb; have n0_ := Aside0.mk (below_step (by repeat (first | (with_reducible first | exact HB.out | apply below_alloc | apply pw_below_drewN | apply below_drew1) | exact HB.out)) hb); have n1_ := Aside0.mk (hbox); have n2_ := Aside0.mk ((by rw [hg]; exact (below_size (by repeat (first | (with_reducible first | exact HB.out | apply below_alloc | apply pw_below_drewN | apply below_drew1) | exact HB.out))) : w.heap.size ≤ gb199)); have n3_ := Aside0.mk ((by rw [hg]; exact (below_size (by repeat (first | (with_reducible first | exact HB.out | apply below_alloc | apply pw_below_drewN | apply below_drew1) | exact HB.out))) : w.heap.size ≤ gb199)); clear HB; have HB := n0_; have BK199 := n1_; have GW199 := n2_; have GE199 := n3_; clear n0_ n1_ n2_ n3_; clear hb hbox hg) | ((with_reducible refine gate_callee (f := 17) rfl ?_); refine goesL_ (some 14) rfl rfl Try.func17 (by kernel_rfl) rfl #[.int .i64 a3] rfl (by (try simp only [List.map_toArray, List.map_cons, List.map_nil]); first | done | rfl | (simp only [List.length_drop, List.length_take]; rfl)) ?_; (with_reducible refine (acquire_isMode.calls a3 false _ A5.out).mono ?_); rintro e w' ⟨rfl, ⟨nd, rfl⟩⟩; refine ⟨_, rfl, ?_⟩))
    refine bodyPost_ret (results_list (rs := [.tmp 8, .tmp 9, .tmp 10, .tmp 11]) rfl (by simp) (.tmp (.tmp (.tmp (.tmp .nil))))) rfl ?_
    exact ⟨by first | rfl | (simp [errW_none, errW_some] <;> rfl) | (simp [*, errW_none, errW_some] <;> rfl), by repeat (first | (with_reducible first | exact HB.out | apply below_alloc | apply pw_below_drewN | apply below_drew1 | refine below_set ?_ GE199.out) | exact HB.out)⟩
def money_Code.f (a0 : ByteArray) : Option Bool := if a0.size ≤ 140737488351232 then some (codeB a0) else none
theorem money_Code.calls (a0 : ByteArray) (r : Bool) (w : World) (h : money_Code.f a0 = some r) :
    Calls Try.prog 50 #[.string a0] w fun e w' => e = .returned (.bool r) ∧ Below w.heap.size w w' := by
  unfold money_Code.f at h
  split at h
  · cases h
    refine (Go.Proofs.Ytdlilbleohlmnaa.money_Code.calls a0 w (by assumption)).mono ?_
    rintro e w' ⟨rfl, hb⟩
    exact ⟨rfl, hb⟩
  · cases h
def acquire_net.f (k : Nat) (l0 : List (S52)) : Option (Int) := (sheet_Base.f k l0).bind fun bt207 => (if bt207.2 = 0 then (some (wrap64 (-bt207.1))) else (some 1000000000000001))
set_option maxHeartbeats 8000000 in
set_option maxRecDepth 100000 in
theorem acquire_net.calls (k : Nat) (A0 : Option Addr) (c0 : Nat) (l0 : List (S52)) (r : Int) (w : World) (hr0 : Kd.C k52 w A0 l0.length l0) (hc0 : l0.length ≤ c0) (h : acquire_net.f k l0 = some r) :
    Calls Try.prog 29 #[.slice A0 l0.length c0] w fun e w' => e = .returned (.int .i64 r) ∧ Below w.heap.size w w' := by
  have HR0 := Aside0.mk hr0
  have HC0 := Aside0.mk hc0
  clear hr0 hc0
  have HB := Aside0.mk (Below.refl w.heap.size w)
  have H : ((sheet_Base.f k l0).bind fun bt207 => (if bt207.2 = 0 then (some (wrap64 (-bt207.1))) else (some 1000000000000001))) = some r := h
  clear h
  replace H := Option.bind_eq_some_iff.mp H
  obtain ⟨⟨t207, t208⟩, A20, H⟩ := H
  replace H : (if t208 = 0 then (some (wrap64 (-t207))) else (some 1000000000000001)) = some r := H
  have A2 := Aside0.mk A20
  clear A20
  by_cases c3 : t208 = 0
  · rw [if_pos c3] at H
    have c3b0 : (t208 == 0) = true := beq_iff_eq.mpr c3
    have c3b1 : (t208 != 0) = false := bne_eq_false_iff_eq.mpr c3
    clear c3
    obtain rfl := Option.some.inj H
    go_enter Try.func29, Try.ntmps29
    go_wp2_with (first | ((with_reducible refine gate_callee (f := 13) rfl ?_); refine goesL_ (some 7) rfl rfl Try.func13 (by kernel_rfl) rfl #[.slice A0 l0.length c0] rfl (by (try simp only [List.map_toArray, List.map_cons, List.map_nil]); first | done | rfl | (simp only [List.length_drop, List.length_take]; rfl)) ?_; (with_reducible refine (sheet_Base.calls k _ _ l0 t207 t208 _ ?side1 ?side2 A2.out).mono ?_); (case side1 => repeat (first | exact HR0.out | (with_reducible refine Kd.C_alloc ?_ _) | (with_reducible refine Kd.C_drewN ?_ _) | (with_reducible refine Kd.C_drew ?_))); (case side2 => exact HC0.out); rintro e w4 ⟨rfl, hb⟩; refine ⟨_, rfl, ?_⟩; have n0_ := Aside0.mk (below_step (by repeat (first | (with_reducible first | exact HB.out | apply below_alloc | apply pw_below_drewN | apply below_drew1) | exact HB.out)) hb); clear HB; have HB := n0_; clear n0_; (try clear hb); (try clear hb2); (try clear hk); (try clear hi)))
    go_ret
    exact ⟨by first | rfl | (simp [errW_none, errW_some] <;> rfl) | (simp [*, errW_none, errW_some] <;> rfl), by repeat (first | (with_reducible first | exact HB.out | apply below_alloc | apply pw_below_drewN | apply below_drew1) | exact HB.out)⟩
  · rw [if_neg c3] at H
    have c3b0 : (t208 == 0) = false := beq_eq_false_iff_ne.mpr c3
    have c3b1 : (t208 != 0) = true := bne_iff_ne.mpr c3
    obtain rfl := Option.some.inj H
    go_enter Try.func29, Try.ntmps29
    go_wp2_with (first | ((with_reducible refine gate_callee (f := 13) rfl ?_); refine goesL_ (some 7) rfl rfl Try.func13 (by kernel_rfl) rfl #[.slice A0 l0.length c0] rfl (by (try simp only [List.map_toArray, List.map_cons, List.map_nil]); first | done | rfl | (simp only [List.length_drop, List.length_take]; rfl)) ?_; (with_reducible refine (sheet_Base.calls k _ _ l0 t207 t208 _ ?side1 ?side2 A2.out).mono ?_); (case side1 => repeat (first | exact HR0.out | (with_reducible refine Kd.C_alloc ?_ _) | (with_reducible refine Kd.C_drewN ?_ _) | (with_reducible refine Kd.C_drew ?_))); (case side2 => exact HC0.out); rintro e w5 ⟨rfl, hb⟩; refine ⟨_, rfl, ?_⟩; have n0_ := Aside0.mk (below_step (by repeat (first | (with_reducible first | exact HB.out | apply below_alloc | apply pw_below_drewN | apply below_drew1) | exact HB.out)) hb); clear HB; have HB := n0_; clear n0_; (try clear hb); (try clear hb2); (try clear hk); (try clear hi)))
    go_ret
    exact ⟨by first | rfl | (simp [errW_none, errW_some] <;> rfl) | (simp [*, errW_none, errW_some] <;> rfl), by repeat (first | (with_reducible first | exact HB.out | apply below_alloc | apply pw_below_drewN | apply below_drew1) | exact HB.out)⟩
end Go.Proofs.Ytdlilbleohlmnaa.PAq
namespace Go.Proofs.Ytdlilbleohlmnaa.PAq
open Go.RowKit Go.Lib Go.Sort Go.Proofs.YtdlilbleohlmnaaW.PrintWords Go.Proofs.YtdlilbleohlmnaaW.PrintLast
abbrev Cell := S52
def cz : Cell := z52
instance : Inhabited Cell := ⟨cz⟩
def cellL (x : Cell) : List Value := [.string x.f0.f0, .string x.f0.f1, .string x.f0.f2, .string x.f0.f3, .string x.f0.f4, .int .i64 x.f1, .int .i64 x.f2]
def farB (n : Int) : Bool := decide (n > 1000000000000000) || decide (n < -1000000000000000)
def badAt (l : List Cell) (k : Nat) : Bool := (l[k]!.f1 == 0 && l[k]!.f2 == 0) || farB l[k]!.f1 || farB l[k]!.f2 || (decide (0 < k) && decide (keyCmp l[k - 1]!.f0 l[k]!.f0 ≥ 0))
def rightK (l : List Cell) : Nat → Nat → Bool
  | 0, _ => true
  | f + 1, k => if k < l.length then if badAt l k then false else rightK l f (k + 1) else true
def rightB (l : List Cell) : Bool := rightK l l.length 0
theorem cells_at {w : World} {A : Option Addr} {l : List Cell} (hC : Kd.C k52 w A l.length l) : ∀ k, k < l.length → ∃ ad, A = some ad ∧ ∀ w', Below w.heap.size w w' → w'.cell? (ad.add (k * 7)) = some (.string l[k]!.f0.f0) ∧ w'.cell? ⟨(ad.add (k * 7)).block, (ad.add (k * 7)).off + 1, none⟩ = some (.string l[k]!.f0.f1) ∧ w'.cell? ⟨(ad.add (k * 7)).block, (ad.add (k * 7)).off + 2, none⟩ = some (.string l[k]!.f0.f2) ∧ w'.cell? ⟨(ad.add (k * 7)).block, (ad.add (k * 7)).off + 3, none⟩ = some (.string l[k]!.f0.f3) ∧ w'.cell? ⟨(ad.add (k * 7)).block, (ad.add (k * 7)).off + 4, none⟩ = some (.string l[k]!.f0.f4) ∧ w'.cell? ⟨(ad.add (k * 7)).block, (ad.add (k * 7)).off + 5, none⟩ = some (.int .i64 l[k]!.f1) ∧ w'.cell? ⟨(ad.add (k * 7)).block, (ad.add (k * 7)).off + 6, none⟩ = some (.int .i64 l[k]!.f2) := by
  intro k hk
  obtain ⟨ad, hA, c0, c1, c2, c3, c4, c5, c6⟩ := at_T52 hC (k : Int) (by omega) (by omega)
  have e : rd_T52 l (k : Int) = l[k]! := by
    show l.getD (k : Int).toNat cz = _
    rw [Int.toNat_natCast, List.getD_eq_getElem?_getD, List.getElem?_eq_getElem hk, Option.getD_some, getElem!_pos l k hk]
  rw [e, Int.toNat_natCast] at c0 c1 c2 c3 c4 c5 c6
  have tr : ∀ {a : Addr} {v : Value} (w' : World), Below w.heap.size w w' → w.cell? a = some v → w'.cell? a = some v := fun {a v} w' g h => (g.cell (World.block_lt_of_cell? w a h)).trans h
  exact ⟨ad, hA, fun w' g => ⟨tr w' g c0, tr w' g c1, tr w' g c2, tr w' g c3, tr w' g c4, tr w' g c5, tr w' g c6⟩⟩
theorem go_far (n : Int) (w : World) : Calls Try.prog 34 #[.int .i64 n] w fun e w' => e = .returned (.bool (farB n)) ∧ w' = w := by
  have HF := Lib.hid (show farB n = (decide (n > 1000000000000000) || decide (n < -1000000000000000)) from rfl)
  by_cases h : n > 1000000000000000
  · have hd : decide (n > 1000000000000000) = true := decide_eq_true h
    go_enter Try.func34, Try.ntmps34
    go_wp2
    go_ret
    exact ⟨by rw [HF.out, hd]; rfl, rfl⟩
  · have hd : decide (n > 1000000000000000) = false := decide_eq_false h
    by_cases h2 : n < -1000000000000000
    · go_enter Try.func34, Try.ntmps34
      go_wp2
      go_ret
      exact ⟨by rw [HF.out, hd, decide_eq_true h2]; rfl, rfl⟩
    · have h3 : decide (n < -1000000000000000) = false := decide_eq_false h2
      go_enter Try.func34, Try.ntmps34
      go_wp2
      go_ret
      exact ⟨by rw [HF.out, hd, h3]; rfl, rfl⟩
set_option maxRecDepth 100000 in
theorem go_ofKey (x : Cell) (w : World) :
    Calls Try.prog 54 #[.agg #[.string x.f0.f0, .string x.f0.f1, .string x.f0.f2, .string x.f0.f3, .string x.f0.f4, .int .i64 x.f1, .int .i64 x.f2]] w fun e w' => e = .returned (.agg #[.string x.f0.f0, .string x.f0.f1, .string x.f0.f2, .string x.f0.f3, .string x.f0.f4]) ∧ Grn w w' := by
  go_enter Try.func54, Try.ntmps54
  go_wp2
  refine bodyPost_ret (v := .agg #[.string x.f0.f0, .string x.f0.f1, .string x.f0.f2, .string x.f0.f3, .string x.f0.f4]) (by simp [results, Try.results54, go_sem]) rfl ⟨rfl, ?_⟩
  exact ((Grn.refl w).alloc _).alloc _
theorem go_ofKeyG (x : Cell) (w : World) :
    Calls Try.prog 54 #[.agg #[.string x.f0.f0, .string x.f0.f1, .string x.f0.f2, .string x.f0.f3, .string x.f0.f4, .int .i64 x.f1, .int .i64 x.f2]] w fun e w' => e = .returned (.agg #[.string x.f0.f0, .string x.f0.f1, .string x.f0.f2, .string x.f0.f3, .string x.f0.f4]) ∧ ∃ q os, w' = grow (w.drewN q) os :=
  (go_ofKey x w).mono fun _ _ h => ⟨h.1, h.2.form⟩
theorem go_keyCmpG (x y : S50) (w : World) :
    Calls Try.prog 35 #[.agg #[.string x.f0, .string x.f1, .string x.f2, .string x.f3, .string x.f4], .agg #[.string y.f0, .string y.f1, .string y.f2, .string y.f3, .string y.f4]] w fun e w' => e = .returned (.int .i64 (keyCmp x y)) ∧ ∃ q os, w' = grow (w.drewN q) os :=
  (go_keyCmp x y w).mono fun _ _ h => ⟨h.1, h.2.form⟩
set_option maxHeartbeats 4000000 in
set_option maxRecDepth 100000 in
theorem go_grpCmp (x y : Cell) (z5 z6 : Nat) (w : World) (h5 : w.cell? ⟨z5, 0, none⟩ = some (.func (.func 54) #[] #[])) (h6 : w.cell? ⟨z6, 0, none⟩ = some (.func (.func 35) #[] #[])) :
    Calls Try.prog 87 #[.agg #[.string x.f0.f0, .string x.f0.f1, .string x.f0.f2, .string x.f0.f3, .string x.f0.f4, .int .i64 x.f1, .int .i64 x.f2], .agg #[.string y.f0.f0, .string y.f0.f1, .string y.f0.f2, .string y.f0.f3, .string y.f0.f4, .int .i64 y.f1, .int .i64 y.f2], .pointer (some ⟨z6, 0, none⟩), .pointer (some ⟨z5, 0, none⟩)] w fun e w' => e = .returned (.int .i64 (keyCmp x.f0 y.f0)) ∧ Grn w w' := by
  have mixed : Try.prog.follows Departure.mixedOrders = true := by kernel_rfl
  go_enter Try.func87, Try.ntmps87
  go_upto_region 1 with fail
  have gr0 : Grn w ((w.alloc (.cells #[.string x.f0.f0, .string x.f0.f1, .string x.f0.f2, .string x.f0.f3, .string x.f0.f4, .int .i64 x.f1, .int .i64 x.f2] 52)).alloc (.cells #[.string y.f0.f0, .string y.f0.f1, .string y.f0.f2, .string y.f0.f3, .string y.f0.f4, .int .i64 y.f1, .int .i64 y.f2] 52)) := ((Grn.refl w).alloc _).alloc _
  have hx1 := (Go.MapKept.heap_alloc w (.cells #[.string x.f0.f0, .string x.f0.f1, .string x.f0.f2, .string x.f0.f3, .string x.f0.f4, .int .i64 x.f1, .int .i64 x.f2] 52)).1
  have hy1 := (Go.MapKept.heap_alloc (w.alloc (.cells #[.string x.f0.f0, .string x.f0.f1, .string x.f0.f2, .string x.f0.f3, .string x.f0.f4, .int .i64 x.f1, .int .i64 x.f2] 52)) (.cells #[.string y.f0.f0, .string y.f0.f1, .string y.f0.f2, .string y.f0.f3, .string y.f0.f4, .int .i64 y.f1, .int .i64 y.f2] 52)).1
  have hx2 := ((Grn.refl (w.alloc (.cells #[.string x.f0.f0, .string x.f0.f1, .string x.f0.f2, .string x.f0.f3, .string x.f0.f4, .int .i64 x.f1, .int .i64 x.f2] 52))).alloc (.cells #[.string y.f0.f0, .string y.f0.f1, .string y.f0.f2, .string y.f0.f3, .string y.f0.f4, .int .i64 y.f1, .int .i64 y.f2] 52)).blk hx1
  rw [World.size_alloc] at hy1
  obtain ⟨w1, hw1⟩ : ∃ W, (w.alloc (.cells #[.string x.f0.f0, .string x.f0.f1, .string x.f0.f2, .string x.f0.f3, .string x.f0.f4, .int .i64 x.f1, .int .i64 x.f2] 52)).alloc (.cells #[.string y.f0.f0, .string y.f0.f1, .string y.f0.f2, .string y.f0.f3, .string y.f0.f4, .int .i64 y.f1, .int .i64 y.f2] 52) = W := ⟨_, rfl⟩
  obtain ⟨z2, hz2⟩ : ∃ z, w.heap.size = z := ⟨_, rfl⟩
  obtain ⟨z3, hz3⟩ : ∃ z, w.heap.size + 1 = z := ⟨_, rfl⟩
  rw [hw1] at gr0 hx2 hy1 ⊢
  rw [hz3] at hy1 ⊢
  rw [hz2] at hx2 ⊢
  have tr : ∀ {a : Addr} {v : Value} (w' : World), Grn w w' → w.cell? a = some v → w'.cell? a = some v := fun {a v} w' g h => (g.b.cell (World.block_lt_of_cell? w a h)).trans h
  have G : ∀ n os, Grn w1 (grow (w1.drewN n) os) := fun n os => Grn.of_form ⟨n, os, rfl⟩
  have q5 : ∀ n os, (grow (w1.drewN n) os).cell? ⟨z5, 0, none⟩ = some (.func (.func 54) #[] #[]) := fun n os => tr _ (gr0.trans (G n os)) h5
  have q6 : ∀ n os, (grow (w1.drewN n) os).cell? ⟨z6, 0, none⟩ = some (.func (.func 35) #[] #[]) := fun n os => tr _ (gr0.trans (G n os)) h6
  have x0 : ∀ n os, (grow (w1.drewN n) os).cell? ⟨z2, 0, none⟩ = some (.string x.f0.f0) := fun n os => blk_cell ((G n os).blk hx2) 0
  have x1 : ∀ n os, (grow (w1.drewN n) os).cell? ⟨z2, 1, none⟩ = some (.string x.f0.f1) := fun n os => blk_cell ((G n os).blk hx2) 1
  have x2 : ∀ n os, (grow (w1.drewN n) os).cell? ⟨z2, 2, none⟩ = some (.string x.f0.f2) := fun n os => blk_cell ((G n os).blk hx2) 2
  have x3 : ∀ n os, (grow (w1.drewN n) os).cell? ⟨z2, 3, none⟩ = some (.string x.f0.f3) := fun n os => blk_cell ((G n os).blk hx2) 3
  have x4 : ∀ n os, (grow (w1.drewN n) os).cell? ⟨z2, 4, none⟩ = some (.string x.f0.f4) := fun n os => blk_cell ((G n os).blk hx2) 4
  have x5 : ∀ n os, (grow (w1.drewN n) os).cell? ⟨z2, 5, none⟩ = some (.int .i64 x.f1) := fun n os => blk_cell ((G n os).blk hx2) 5
  have x6 : ∀ n os, (grow (w1.drewN n) os).cell? ⟨z2, 6, none⟩ = some (.int .i64 x.f2) := fun n os => blk_cell ((G n os).blk hx2) 6
  have y0 : ∀ n os, (grow (w1.drewN n) os).cell? ⟨z3, 0, none⟩ = some (.string y.f0.f0) := fun n os => blk_cell ((G n os).blk hy1) 0
  have y1 : ∀ n os, (grow (w1.drewN n) os).cell? ⟨z3, 1, none⟩ = some (.string y.f0.f1) := fun n os => blk_cell ((G n os).blk hy1) 1
  have y2 : ∀ n os, (grow (w1.drewN n) os).cell? ⟨z3, 2, none⟩ = some (.string y.f0.f2) := fun n os => blk_cell ((G n os).blk hy1) 2
  have y3 : ∀ n os, (grow (w1.drewN n) os).cell? ⟨z3, 3, none⟩ = some (.string y.f0.f3) := fun n os => blk_cell ((G n os).blk hy1) 3
  have y4 : ∀ n os, (grow (w1.drewN n) os).cell? ⟨z3, 4, none⟩ = some (.string y.f0.f4) := fun n os => blk_cell ((G n os).blk hy1) 4
  have y5 : ∀ n os, (grow (w1.drewN n) os).cell? ⟨z3, 5, none⟩ = some (.int .i64 y.f1) := fun n os => blk_cell ((G n os).blk hy1) 5
  have y6 : ∀ n os, (grow (w1.drewN n) os).cell? ⟨z3, 6, none⟩ = some (.int .i64 y.f2) := fun n os => blk_cell ((G n os).blk hy1) 6
  have HG := Lib.hid gr0
  clear hx1 hw1 hz2 hz3 hx2 hy1 tr gr0 h5 h6 G
  have e46 : ∀ args w, (callFunc 54 args).run Try.prog w = .ok (.enter 54 args) w := enters_of Try.func54 (by kernel_rfl) rfl
  have e47 : ∀ args w, (callFunc 35 args).run Try.prog w = .ok (.enter 35 args) w := enters_of Try.func35 (by kernel_rfl) rfl
  go_quiet_grown (first
    | (go_at_fn 54; first | refine Calls.grown_of (go_ofKeyG x _) | refine Calls.grown_of (go_ofKeyG y _))
    | (go_at_fn 35; refine Calls.grown_of (go_keyCmpG x.f0 y.f0 _)))
  go_wp2
  go_ret
  exact ⟨rfl, HG.out.trans (Grn.of_form ⟨_, _, rfl⟩)⟩
end Go.Proofs.Ytdlilbleohlmnaa.PAq
namespace Go.Proofs.Ytdlilbleohlmnaa.PAq
open Go.RowKit Go.Lib Go.Sort
theorem cb_cons (a b : UInt8) (x y : List UInt8) : compareBytes (a :: x) (b :: y) = if a.toNat < b.toNat then -1 else if b.toNat < a.toNat then 1 else compareBytes x y := by
  rw [compareBytes]; rfl
theorem cb_refl : ∀ x : List UInt8, compareBytes x x = 0
  | [] => rfl
  | a :: x => by rw [cb_cons, if_neg (by omega), if_neg (by omega)]; exact cb_refl x
theorem cb_anti : ∀ x y : List UInt8, compareBytes y x = - compareBytes x y
  | [], [] => rfl
  | [], _ :: _ => rfl
  | _ :: _, [] => rfl
  | a :: x, b :: y => by
    rw [cb_cons, cb_cons, cb_anti x y]
    split <;> split <;> first | rfl | omega | (split <;> first | rfl | omega)
theorem cb_eq : ∀ x y : List UInt8, compareBytes x y = 0 → x = y
  | [], [], _ => rfl
  | [], _ :: _, h => by simp [compareBytes] at h
  | _ :: _, [], h => by simp [compareBytes] at h
  | a :: x, b :: y, h => by
    rw [cb_cons] at h
    split at h
    · omega
    · split at h
      · omega
      · rw [cb_eq x y h, UInt8.toNat_inj.mp (show a.toNat = b.toNat by omega)]
theorem cb_trans : ∀ x y z : List UInt8, compareBytes x y ≤ 0 → compareBytes y z ≤ 0 → compareBytes x z ≤ 0
  | [], _, [], _, _ => by simp [compareBytes]
  | [], _, _ :: _, _, _ => by simp [compareBytes]
  | _ :: _, [], _, h, _ => by simp [compareBytes] at h
  | _ :: _, _ :: _, [], _, h => by simp [compareBytes] at h
  | a :: x, b :: y, c :: z, h1, h2 => by
    rw [cb_cons] at h1 h2 ⊢
    split
    · omega
    · split
      · split at h1 <;> split at h2 <;> first | omega | (split at h1 <;> first | omega | (split at h2 <;> omega)) | (split at h2 <;> omega)
      · refine cb_trans x y z ?_ ?_
        · split at h1 <;> split at h2 <;> first | omega | (split at h1 <;> first | omega | (split at h2 <;> omega)) | (split at h2 <;> omega)
        · split at h1 <;> split at h2 <;> first | omega | (split at h1 <;> first | omega | (split at h2 <;> omega)) | (split at h2 <;> omega)
theorem cmpL_refl : ∀ x : List ByteArray, cmpL x x = 0
  | [] => rfl
  | a :: x => by rw [cmpL, if_pos (cb_refl _)]; exact cmpL_refl x
theorem cmpL_anti : ∀ x y : List ByteArray, cmpL y x = - cmpL x y
  | [], [] => rfl
  | [], _ :: _ => rfl
  | _ :: _, [] => rfl
  | a :: x, b :: y => by
    rw [cmpL, cmpL, cmpL_anti x y]
    have h := cb_anti a.data.toList b.data.toList
    split <;> split <;> omega
theorem cmpL_eq : ∀ x y : List ByteArray, x.length = y.length → cmpL x y = 0 → x = y
  | [], [], _, _ => rfl
  | [], _ :: _, h, _ => by simp at h
  | _ :: _, [], h, _ => by simp at h
  | a :: x, b :: y, hl, h => by
    rw [cmpL] at h
    split at h
    · rename_i h0
      have e := cb_eq _ _ h0
      have e2 : a = b := by
        cases a; cases b
        simp only [ByteArray.mk.injEq] at *
        exact Array.toList_inj.mp e
      rw [e2, cmpL_eq x y (by simpa using hl) h]
    · contradiction
theorem cmpL_trans : ∀ x y z : List ByteArray, x.length = y.length → y.length = z.length → cmpL x y ≤ 0 → cmpL y z ≤ 0 → cmpL x z ≤ 0
  | [], [], [], _, _, _, _ => by simp [cmpL]
  | a :: x, b :: y, c :: z, hl, hm, h1, h2 => by
    rw [cmpL] at h1 h2 ⊢
    have t1 := cb_trans a.data.toList b.data.toList c.data.toList
    have t2 := cb_trans c.data.toList a.data.toList b.data.toList
    have t3 := cb_trans b.data.toList c.data.toList a.data.toList
    have n1 := cb_anti a.data.toList b.data.toList
    have n2 := cb_anti b.data.toList c.data.toList
    have n3 := cb_anti a.data.toList c.data.toList
    have ih := cmpL_trans x y z (by simpa using hl) (by simpa using hm)
    split
    · rename_i h0
      split at h1
      · split at h2
        · exact ih h1 h2
        · omega
      · split at h2 <;> omega
    · split at h1 <;> split at h2 <;> omega
  | [], _ :: _, _, h, _, _, _ => by simp at h
  | _ :: _, [], _, h, _, _, _ => by simp at h
  | [], [], _ :: _, _, h, _, _ => by simp at h
  | _ :: _, _ :: _, [], _, h, _, _ => by simp at h
theorem kc_refl (x : S50) : keyCmp x x = 0 := cmpL_refl _
theorem kc_anti (x y : S50) : keyCmp y x = - keyCmp x y := cmpL_anti _ _
theorem kc_eq {x y : S50} (h : keyCmp x y = 0) : x = y := by
  have := cmpL_eq (keyL x) (keyL y) rfl h
  cases x; cases y
  simp [keyL] at this
  simp [this]
theorem kc_trans {x y z : S50} (h1 : keyCmp x y ≤ 0) (h2 : keyCmp y z ≤ 0) : keyCmp x z ≤ 0 := cmpL_trans (keyL x) (keyL y) (keyL z) rfl rfl h1 h2
theorem kc_lt_le {x y z : S50} (h1 : keyCmp x y < 0) (h2 : keyCmp y z ≤ 0) : keyCmp x z < 0 := by
  have h3 := kc_trans (by omega : keyCmp x y ≤ 0) h2
  have n1 := kc_anti x y; have n2 := kc_anti x z
  by_cases h : keyCmp x z = 0
  · have := kc_trans h2 (by omega : keyCmp z x ≤ 0)
    omega
  · omega
theorem kc_le_lt {x y z : S50} (h1 : keyCmp x y ≤ 0) (h2 : keyCmp y z < 0) : keyCmp x z < 0 := by
  have h3 := kc_trans h1 (by omega : keyCmp y z ≤ 0)
  have n1 := kc_anti y z; have n2 := kc_anti x z
  by_cases h : keyCmp x z = 0
  · have := kc_trans (by omega : keyCmp z x ≤ 0) h1
    omega
  · omega
def cellCmp (x y : Cell) : Int := keyCmp x.f0 y.f0
theorem swo_cell : SWO (ltOf cellCmp) := ⟨fun x => decide_eq_false (by show ¬ keyCmp x.f0 x.f0 < 0; rw [kc_refl]; omega), fun x y z h1 h2 => by
    have h1 : keyCmp x.f0 y.f0 < 0 := of_decide_eq_true h1
    have h2 : keyCmp y.f0 z.f0 < 0 := of_decide_eq_true h2
    exact decide_eq_true (show keyCmp x.f0 z.f0 < 0 from kc_lt_le h1 (by omega)), fun x y z h1 h2 => by
    have h1 : ¬ keyCmp x.f0 y.f0 < 0 := of_decide_eq_false h1
    have h2 : ¬ keyCmp y.f0 z.f0 < 0 := of_decide_eq_false h2
    have n1 := kc_anti x.f0 y.f0; have n2 := kc_anti y.f0 z.f0; have n3 := kc_anti x.f0 z.f0
    have := kc_trans (by omega : keyCmp z.f0 y.f0 ≤ 0) (by omega : keyCmp y.f0 x.f0 ≤ 0)
    exact decide_eq_false (show ¬ keyCmp x.f0 z.f0 < 0 by omega)⟩
def flatC (l : List Cell) : List Value := l.flatMap cellL
theorem flatC_length (l : List Cell) : (flatC l).length = l.length * 7 := by
  induction l with
  | nil => rfl
  | cons a l ih => simp only [flatC, List.flatMap_cons, List.length_append, List.length_cons] at ih ⊢; rw [ih]; simp [cellL]; omega
theorem flatC_at : ∀ (l : List Cell) (j t : Nat) (hj : j < l.length), t < 7 → (flatC l)[j * 7 + t]? = (cellL l[j])[t]?
  | a :: l, 0, t, _, ht => by
    simp only [flatC, List.flatMap_cons, Nat.zero_mul, Nat.zero_add, List.getElem_cons_zero]
    rw [List.getElem?_append_left (by simp [cellL]; omega)]
  | a :: l, j + 1, t, hj, ht => by
    simp only [flatC, List.flatMap_cons, List.getElem_cons_succ]
    rw [List.getElem?_append_right (by simp [cellL]; omega)]
    have := flatC_at l j t (by simpa using hj) ht
    simp only [flatC] at this
    rw [← this]
    congr 1
    simp [cellL]; omega
end Go.Proofs.Ytdlilbleohlmnaa.PAq
namespace Go.Proofs.Ytdlilbleohlmnaa.Stb
open Go.Sort
variable {α : Type} [Inhabited α]
def swr (d : Array α) (a b : Nat) : Nat → Array α
  | 0 => d
  | n + 1 => swp (swr d a b n) (a + n) (b + n)
theorem swr_size (d : Array α) (a b : Nat) : ∀ n, (swr d a b n).size = d.size
  | 0 => rfl
  | n + 1 => by rw [swr, swp_size, swr_size d a b n]
theorem swr_get (d : Array α) {a b : Nat} : ∀ (n : Nat), a + n ≤ b → b + n ≤ d.size → ∀ k, (swr d a b n)[k]! = if a ≤ k ∧ k < a + n then d[b + (k - a)]! else if b ≤ k ∧ k < b + n then d[a + (k - b)]! else d[k]!
  | 0, _, _, k => by rw [swr, if_neg (by omega), if_neg (by omega)]
  | n + 1, h1, h2, k => by
    have ih := swr_get d (a := a) (b := b) n (by omega) (by omega)
    rw [swr, swp_get (swr d a b n) (i := a + n) (j := b + n) (by rw [swr_size]; omega) (by rw [swr_size]; omega), ih, ih, ih]
    by_cases e1 : k = b + n
    · subst e1
      rw [if_pos rfl, if_neg (by omega), if_neg (by omega), if_neg (by omega), if_pos (by omega)]
      congr 1; omega
    · rw [if_neg e1]
      by_cases e2 : k = a + n
      · subst e2
        rw [if_pos rfl, if_neg (by omega), if_neg (by omega), if_pos (by omega)]
        congr 1; omega
      · rw [if_neg e2]
        by_cases e3 : a ≤ k ∧ k < a + n
        · rw [if_pos e3, if_pos (by omega)]
        · rw [if_neg e3, if_neg (show ¬ (a ≤ k ∧ k < a + (n + 1)) by omega)]
          by_cases e4 : b ≤ k ∧ k < b + n
          · rw [if_pos e4, if_pos (by omega)]
          · rw [if_neg e4, if_neg (by omega)]
theorem swr_perm (d : Array α) {a b lo hi : Nat} : ∀ n, lo ≤ a → a + n ≤ hi → lo ≤ b → b + n ≤ hi → hi ≤ d.size → PermIn lo hi d (swr d a b n)
  | 0, _, _, _, _, _ => permIn_refl d lo hi
  | n + 1, h1, h2, h3, h4, h5 => by
    rw [swr]
    exact permIn_trans _ _ _ lo hi (swr_perm d n h1 (by omega) h3 (by omega) h5) (swp_permIn _ lo hi (a + n) (b + n) (by omega) (by omega) (by omega) (by omega) (by rw [swr_size]; exact h5))
def rot : Nat → Array α → Nat → Nat → Nat → Array α
  | 0, d, _, _, _ => d
  | f + 1, d, m, i, j => if i = j then swr d (m - i) m i else if j < i then rot f (swr d (m - i) m j) m (i - j) j else rot f (swr d (m - i) (m + j - i) i) m i (j - i)
theorem rot_spec : ∀ (f : Nat) (d : Array α) (m i j : Nat), 1 ≤ i → 1 ≤ j → i ≤ m → m + j ≤ d.size → i + j ≤ f →
    PermIn (m - i) (m + j) d (rot f d m i j) ∧ (∀ k, m - i ≤ k → k < m - i + j → (rot f d m i j)[k]! = d[k + i]!) ∧ (∀ k, m - i + j ≤ k → k < m + j → (rot f d m i j)[k]! = d[k - j]!)
  | 0, _, _, _, _, _, _, _, _, h => by omega
  | f + 1, d, m, i, j, h1, h2, h3, h4, h5 => by
    rw [rot]
    by_cases e : i = j
    · subst e
      rw [if_pos rfl]
      have g := swr_get d (a := m - i) (b := m) i (by omega) (by omega)
      refine ⟨swr_perm d i (by omega) (by omega) (by omega) (by omega) (by omega), fun k k1 k2 => ?_, fun k k1 k2 => ?_⟩
      · rw [g, if_pos (by omega)]; congr 1; omega
      · rw [g, if_neg (by omega), if_pos (by omega)]; congr 1; omega
    · rw [if_neg e]
      by_cases c : j < i
      · rw [if_pos c]
        have g := swr_get d (a := m - i) (b := m) j (by omega) (by omega)
        have hs : (swr d (m - i) m j).size = d.size := swr_size _ _ _ _
        obtain ⟨p1, p2, p3⟩ := rot_spec f (swr d (m - i) m j) m (i - j) j (by omega) h2 (by omega) (by omega) (by omega)
        have q := swr_perm d (a := m - i) (b := m) (lo := m - i) (hi := m + j) j (by omega) (by omega) (by omega) (by omega) (by omega)
        refine ⟨permIn_trans _ _ _ _ _ q (permIn_mono _ _ _ _ _ _ (by omega) (by omega) (by omega) p1), fun k k1 k2 => ?_, fun k k1 k2 => ?_⟩
        · rw [p1.2.1 k (by omega), g, if_pos (by omega)]; congr 1; omega
        · by_cases c2 : k < m - (i - j) + j
          · rw [p2 k (by omega) c2, g, if_neg (by omega), if_pos (by omega)]; congr 1; omega
          · rw [p3 k (by omega) (by omega), g, if_neg (by omega), if_neg (by omega)]
      · rw [if_neg c]
        have g := swr_get d (a := m - i) (b := m + j - i) i (by omega) (by omega)
        have hs : (swr d (m - i) (m + j - i) i).size = d.size := swr_size _ _ _ _
        obtain ⟨p1, p2, p3⟩ := rot_spec f (swr d (m - i) (m + j - i) i) m i (j - i) h1 (by omega) h3 (by omega) (by omega)
        have q := swr_perm d (a := m - i) (b := m + j - i) (lo := m - i) (hi := m + j) i (by omega) (by omega) (by omega) (by omega) (by omega)
        refine ⟨permIn_trans _ _ _ _ _ q (permIn_mono _ _ _ _ _ _ (by omega) (by omega) (by omega) p1), fun k k1 k2 => ?_, fun k k1 k2 => ?_⟩
        · by_cases c2 : k < m - i + (j - i)
          · rw [p2 k k1 c2, g, if_neg (by omega), if_neg (by omega)]
          · rw [p3 k (by omega) (by omega), g, if_pos (by omega)]; congr 1; omega
        · rw [p1.2.1 k (by omega), g, if_neg (by omega), if_pos (by omega)]; congr 1; omega
def bs (t : Nat → Bool) : Nat → Nat → Nat → Nat
  | 0, i, _ => i
  | f + 1, i, j => if i < j then (if t ((i + j) / 2) = true then bs t f ((i + j) / 2 + 1) j else bs t f i ((i + j) / 2)) else i
theorem bs_spec {t : Nat → Bool} {lo hi : Nat} (hm : ∀ c c', lo ≤ c → c < c' → c' < hi → t c' = true → t c = true) : ∀ (f i j : Nat), lo ≤ i → i ≤ j → j ≤ hi → j - i < f → (∀ c, lo ≤ c → c < i → t c = true) → (∀ c, j ≤ c → c < hi → t c = false) →
    i ≤ bs t f i j ∧ bs t f i j ≤ j ∧ (∀ c, lo ≤ c → c < bs t f i j → t c = true) ∧ (∀ c, bs t f i j ≤ c → c < hi → t c = false)
  | 0, _, _, _, _, _, h, _, _ => by omega
  | f + 1, i, j, h1, h2, h3, h4, h5, h6 => by
    rw [bs]
    by_cases c : i < j
    · rw [if_pos c]
      by_cases ht : t ((i + j) / 2) = true
      · rw [if_pos ht]
        obtain ⟨a1, a2, a3, a4⟩ := bs_spec hm f ((i + j) / 2 + 1) j (by omega) (by omega) h3 (by omega) (fun c hc1 hc2 => by
          rcases Nat.lt_or_ge c ((i + j) / 2) with h | h
          · exact hm c _ hc1 h (by omega) ht
          · obtain rfl : c = (i + j) / 2 := by omega
            exact ht) h6
        exact ⟨by omega, a2, a3, a4⟩
      · rw [if_neg ht]
        have ht' : t ((i + j) / 2) = false := by simpa using ht
        obtain ⟨a1, a2, a3, a4⟩ := bs_spec hm f i ((i + j) / 2) h1 (by omega) (by omega) (by omega) h5 (fun c hc1 hc2 => by
          rcases Nat.lt_or_ge ((i + j) / 2) c with h | h
          · cases e : t c with
            | false => rfl
            | true => rw [hm _ c (by omega) h hc2 e] at ht'; cases ht'
          · obtain rfl : c = (i + j) / 2 := by omega
            exact ht')
        exact ⟨a1, by omega, a3, a4⟩
    · rw [if_neg c]
      exact ⟨Nat.le_refl _, h2, h5, fun c hc1 hc2 => h6 c (by omega) hc2⟩
def shr (d : Array α) (a : Nat) : Nat → Array α
  | 0 => d
  | r + 1 => swp (shr d a r) (a + r) (a + r + 1)
theorem shr_size (d : Array α) (a : Nat) : ∀ r, (shr d a r).size = d.size
  | 0 => rfl
  | r + 1 => by rw [shr, swp_size, shr_size d a r]
theorem shr_get (d : Array α) (a : Nat) : ∀ r, a + r < d.size → ∀ k, (shr d a r)[k]! = if a ≤ k ∧ k < a + r then d[k + 1]! else if k = a + r then d[a]! else d[k]!
  | 0, _, k => by
    rw [shr, if_neg (by omega)]
    by_cases e : k = a + 0
    · rw [if_pos e, e]; rfl
    · rw [if_neg e]
  | r + 1, h, k => by
    have ih := shr_get d a r (by omega)
    rw [shr, swp_get (shr d a r) (i := a + r) (j := a + r + 1) (by rw [shr_size]; omega) (by rw [shr_size]; omega), ih, ih, ih]
    by_cases e1 : k = a + r + 1
    · subst e1
      rw [if_pos rfl, if_neg (by omega), if_pos rfl, if_neg (by omega), if_pos (by omega)]
    · rw [if_neg e1]
      by_cases e2 : k = a + r
      · subst e2
        rw [if_pos rfl, if_neg (by omega), if_neg (by omega), if_pos (by omega)]
      · rw [if_neg e2]
        by_cases e3 : a ≤ k ∧ k < a + r
        · rw [if_pos e3, if_pos (by omega)]
        · rw [if_neg e3, if_neg e2, if_neg (by omega), if_neg (by omega)]
theorem shr_perm (d : Array α) (a hi : Nat) : ∀ r, a + r < hi → hi ≤ d.size → PermIn a hi d (shr d a r)
  | 0, _, _ => permIn_refl d a hi
  | r + 1, h1, h2 => by
    rw [shr]
    exact permIn_trans _ _ _ a hi (shr_perm d a hi r (by omega) h2) (swp_permIn _ a hi (a + r) (a + r + 1) (by omega) (by omega) (by omega) (by omega) (by rw [shr_size]; exact h2))
def shl (d : Array α) (m : Nat) : Nat → Array α
  | 0 => d
  | r + 1 => swp (shl d m r) (m - r) (m - r - 1)
theorem shl_size (d : Array α) (m : Nat) : ∀ r, (shl d m r).size = d.size
  | 0 => rfl
  | r + 1 => by rw [shl, swp_size, shl_size d m r]
theorem shl_get (d : Array α) (m : Nat) : ∀ r, r ≤ m → m < d.size → ∀ k, (shl d m r)[k]! = if m - r < k ∧ k ≤ m then d[k - 1]! else if k = m - r then d[m]! else d[k]!
  | 0, _, _, k => by
    rw [shl, if_neg (by omega)]
    by_cases e : k = m - 0
    · rw [if_pos e, e]; rfl
    · rw [if_neg e]
  | r + 1, h1, h2, k => by
    have ih := shl_get d m r (by omega) h2
    rw [shl, swp_get (shl d m r) (i := m - r) (j := m - r - 1) (by rw [shl_size]; omega) (by rw [shl_size]; omega), ih, ih, ih]
    by_cases e1 : k = m - r - 1
    · subst e1
      rw [if_pos rfl, if_neg (by omega), if_pos rfl, if_neg (by omega), if_pos (by omega)]
    · rw [if_neg e1]
      by_cases e2 : k = m - r
      · subst e2
        rw [if_pos rfl, if_neg (by omega), if_neg (by omega), if_pos (by omega)]
      · rw [if_neg e2]
        by_cases e3 : m - r < k ∧ k ≤ m
        · rw [if_pos e3, if_pos (by omega)]
        · rw [if_neg e3, if_neg e2, if_neg (by omega), if_neg (by omega)]
theorem shl_perm (d : Array α) (m lo hi : Nat) : ∀ r, lo + r ≤ m → m < hi → hi ≤ d.size → PermIn lo hi d (shl d m r)
  | 0, _, _, _ => permIn_refl d lo hi
  | r + 1, h1, h2, h3 => by
    rw [shl]
    exact permIn_trans _ _ _ lo hi (shl_perm d m lo hi r (by omega) h2 h3) (swp_permIn _ lo hi (m - r) (m - r - 1) (by omega) (by omega) (by omega) (by omega) (by rw [shl_size]; exact h3))
end Go.Proofs.Ytdlilbleohlmnaa.Stb
namespace Go.Proofs.Ytdlilbleohlmnaa.Stb
open Go.Sort
variable {α : Type} [Inhabited α]
def sym (lt : α → α → Bool) : Nat → Array α → Nat → Nat → Nat → Array α
  | 0, d, _, _, _ => d
  | f + 1, d, a, m, b =>
    if m - a = 1 then shr d a (bs (fun h => lt d[h]! d[a]!) (b - m + 1) m b - 1 - a)
    else if b - m = 1 then shl d m (m - bs (fun h => !lt d[m]! d[h]!) (m - a + 1) a m)
    else
      let mid := (a + b) / 2
      let n := mid + m
      let s0 := if mid < m then n - b else a
      let r0 := if mid < m then mid else m
      let st := bs (fun c => !lt d[n - 1 - c]! d[c]!) (r0 - s0 + 1) s0 r0
      let e := n - st
      let d1 := if st < m ∧ m < e then rot (e - st) d m (m - st) (e - m) else d
      let d2 := if a < st ∧ st < mid then sym lt f d1 a st mid else d1
      if mid < e ∧ e < b then sym lt f d2 mid e b else d2
variable {lt : α → α → Bool}
theorem sSub {a b a' b' : Nat} {d : Array α} (h : SortedIn lt a b d) (h1 : a ≤ a') (h2 : b' ≤ b) : SortedIn lt a' b' d := fun i j hi hij hj => h i j (by omega) hij (by omega)
theorem sSame {a b : Nat} {d d' : Array α} (h : SortedIn lt a b d) (he : ∀ k, a ≤ k → k < b → d'[k]! = d[k]!) : SortedIn lt a b d' := fun i j hi hij hj => by
  rw [he i hi (by omega), he j (by omega) hj]; exact h i j hi hij hj
theorem sLe (hS : SWO lt) {a b : Nat} {d : Array α} (h : SortedIn lt a b d) {i j : Nat} (hi : a ≤ i) (hij : i ≤ j) (hj : j < b) : lt d[j]! d[i]! = false := by
  rcases Nat.lt_or_eq_of_le hij with h1 | h1
  · exact h i j hi h1 hj
  · rw [h1]; exact hS.irrefl _
theorem sJoin {a m b : Nat} {d : Array α} (h1 : SortedIn lt a m d) (h2 : SortedIn lt m b d) (h3 : ∀ p q, a ≤ p → p < m → m ≤ q → q < b → lt d[q]! d[p]! = false) : SortedIn lt a b d := fun i j hi hij hj => by
  rcases Nat.lt_or_ge j m with c | c
  · exact h1 i j hi hij c
  · rcases Nat.lt_or_ge i m with c2 | c2
    · exact h3 i j hi c2 c hj
    · exact h2 i j c2 hij hj
theorem sTriv {a b : Nat} (d : Array α) (h : b ≤ a) : SortedIn lt a b d := fun i j hi hij hj => by omega
theorem sym_one (hS : SWO lt) {d : Array α} {a m b : Nat} (hm : m = a + 1) (hb : m < b) (hz : b ≤ d.size) (h2 : SortedIn lt m b d) :
    PermIn a b d (shr d a (bs (fun h => lt d[h]! d[a]!) (b - m + 1) m b - 1 - a)) ∧ SortedIn lt a b (shr d a (bs (fun h => lt d[h]! d[a]!) (b - m + 1) m b - 1 - a)) := by
  subst hm
  obtain ⟨i1, i2, i3, i4⟩ := bs_spec (t := fun h => lt d[h]! d[a]!) (lo := a + 1) (hi := b) (fun c c' h1 hc hb' ht => by
    cases e : lt d[c]! d[a]! with
    | true => rfl
    | false => rw [hS.ntrans _ _ _ (h2 c c' h1 hc hb') e] at ht; cases ht) (b - (a + 1) + 1) (a + 1) b (Nat.le_refl _) (by omega) (Nat.le_refl _) (by omega) (fun c h1 h2 => by omega) (fun c h1 h2 => by omega)
  obtain ⟨i, hi⟩ : ∃ i, bs (fun h => lt d[h]! d[a]!) (b - (a + 1) + 1) (a + 1) b = i := ⟨_, rfl⟩
  rw [hi] at i1 i2 i3 i4 ⊢
  have g := shr_get d a (i - 1 - a) (by omega)
  refine ⟨shr_perm d a b _ (by omega) hz, fun p q hp hpq hq => ?_⟩
  rw [g, g]
  by_cases c1 : p < i - 1
  · rw [if_pos (show a ≤ p ∧ p < a + (i - 1 - a) by omega)]
    by_cases c2 : q < i - 1
    · rw [if_pos (by omega)]; exact h2 (p + 1) (q + 1) (by omega) (by omega) (by omega)
    · rw [if_neg (by omega)]
      by_cases c3 : q = i - 1
      · rw [if_pos (by omega)]; exact hS.asymmA (i3 (p + 1) (by omega) (by omega))
      · rw [if_neg (by omega)]; exact h2 (p + 1) q (by omega) (by omega) hq
  · rw [if_neg (show ¬ (a ≤ p ∧ p < a + (i - 1 - a)) by omega), if_neg (show ¬ (a ≤ q ∧ q < a + (i - 1 - a)) by omega), if_neg (show ¬ (q = a + (i - 1 - a)) by omega)]
    by_cases c3 : p = i - 1
    · rw [if_pos (by omega)]; exact i4 q (by omega) hq
    · rw [if_neg (by omega)]; exact h2 p q (by omega) hpq hq
theorem sym_last (hS : SWO lt) {d : Array α} {a m b : Nat} (ha : a < m) (hb : b = m + 1) (hz : b ≤ d.size) (h1 : SortedIn lt a m d) :
    PermIn a b d (shl d m (m - bs (fun h => !lt d[m]! d[h]!) (m - a + 1) a m)) ∧ SortedIn lt a b (shl d m (m - bs (fun h => !lt d[m]! d[h]!) (m - a + 1) a m)) := by
  subst hb
  obtain ⟨i1, i2, i3, i4⟩ := bs_spec (t := fun h => !lt d[m]! d[h]!) (lo := a) (hi := m) (fun c c' h2 hc hb' ht => by
    simp only [Bool.not_eq_true'] at ht ⊢
    exact hS.ntrans _ _ _ ht (h1 c c' h2 hc hb')) (m - a + 1) a m (Nat.le_refl _) (by omega) (Nat.le_refl _) (by omega) (fun c h1 h2 => by omega) (fun c h1 h2 => by omega)
  obtain ⟨i, hi⟩ : ∃ i, bs (fun h => !lt d[m]! d[h]!) (m - a + 1) a m = i := ⟨_, rfl⟩
  rw [hi] at i1 i2 i3 i4 ⊢
  simp only [Bool.not_eq_true', Bool.not_eq_false'] at i3 i4
  have g := shl_get d m (m - i) (by omega) (by omega)
  have e : m - (m - i) = i := by omega
  rw [e] at g
  refine ⟨shl_perm d m a (m + 1) _ (by omega) (by omega) hz, fun p q hp hpq hq => ?_⟩
  rw [g, g]
  by_cases c1 : i < p
  · rw [if_pos (show i < p ∧ p ≤ m by omega), if_pos (show i < q ∧ q ≤ m by omega)]
    exact h1 (p - 1) (q - 1) (by omega) (by omega) (by omega)
  · rw [if_neg (show ¬ (i < p ∧ p ≤ m) by omega)]
    by_cases c2 : p = i
    · rw [if_pos c2, if_pos (show i < q ∧ q ≤ m by omega)]
      exact hS.asymmA (i4 (q - 1) (by omega) (by omega))
    · rw [if_neg c2]
      by_cases c3 : i < q
      · rw [if_pos (show i < q ∧ q ≤ m by omega)]; exact h1 p (q - 1) hp (by omega) (by omega)
      · rw [if_neg (show ¬ (i < q ∧ q ≤ m) by omega)]
        by_cases c4 : q = i
        · rw [if_pos c4]; exact i3 p hp (by omega)
        · rw [if_neg c4]; exact h1 p q hp hpq (by omega)
theorem sym_spec (hS : SWO lt) : ∀ (f : Nat) (d : Array α) (a m b : Nat), a < m → m < b → b ≤ d.size → b - a ≤ f → SortedIn lt a m d → SortedIn lt m b d →
    PermIn a b d (sym lt f d a m b) ∧ SortedIn lt a b (sym lt f d a m b)
  | 0, _, _, _, _, _, _, _, h, _, _ => by omega
  | f + 1, d, a, m, b, ha, hb, hz, hf, h1, h2 => by
    rw [sym]
    by_cases c1 : m - a = 1
    · rw [if_pos c1]
      exact sym_one hS (by omega) hb hz h2
    · rw [if_neg c1]
      by_cases c2 : b - m = 1
      · rw [if_pos c2]
        exact sym_last hS ha (by omega) hz h1
      · rw [if_neg c2]
        simp only
        obtain ⟨mid, hmid⟩ : ∃ x, (a + b) / 2 = x := ⟨_, rfl⟩
        rw [hmid]
        obtain ⟨s0, hs0⟩ : ∃ x, (if mid < m then mid + m - b else a) = x := ⟨_, rfl⟩
        obtain ⟨r0, hr0⟩ : ∃ x, (if mid < m then mid else m) = x := ⟨_, rfl⟩
        rw [hs0, hr0]
        have hA : a ≤ s0 ∧ mid + m - b ≤ s0 ∧ s0 ≤ r0 ∧ r0 ≤ mid ∧ r0 ≤ m := by
          by_cases c : mid < m
          · rw [if_pos c] at hs0 hr0; omega
          · rw [if_neg c] at hs0 hr0; omega
        obtain ⟨i1, i2, i3, i4⟩ := bs_spec (t := fun c => !lt d[mid + m - 1 - c]! d[c]!) (lo := s0) (hi := r0) (fun c c' hc0 hc hb' ht => by
          simp only [Bool.not_eq_true'] at ht ⊢
          exact hS.ntrans _ _ _ (hS.ntrans _ _ _ (h2 (mid + m - 1 - c') (mid + m - 1 - c) (by omega) (by omega) (by omega)) ht) (h1 c c' (by omega) hc (by omega))) (r0 - s0 + 1) s0 r0 (Nat.le_refl _) (by omega) (Nat.le_refl _) (by omega) (fun c h1 h2 => by omega) (fun c h1 h2 => by omega)
        obtain ⟨st, hst⟩ : ∃ x, bs (fun c => !lt d[mid + m - 1 - c]! d[c]!) (r0 - s0 + 1) s0 r0 = x := ⟨_, rfl⟩
        rw [hst] at i1 i2 i3 i4 ⊢
        simp only [Bool.not_eq_true', Bool.not_eq_false'] at i3 i4
        obtain ⟨e, he⟩ : ∃ x, mid + m - st = x := ⟨_, rfl⟩
        rw [he]
        have hB : a ≤ st ∧ st ≤ m ∧ m ≤ e ∧ e ≤ b ∧ st ≤ mid ∧ mid ≤ e ∧ e - m = mid - st ∧ m - st = e - mid ∧ a < mid ∧ mid < b := by omega
        obtain ⟨d1, hd1⟩ : ∃ x, (if st < m ∧ m < e then rot (e - st) d m (m - st) (e - m) else d) = x := ⟨_, rfl⟩
        rw [hd1]
        have hR : PermIn a b d d1 ∧ (∀ k, st ≤ k → k < mid → d1[k]! = d[k + (m - st)]!) ∧ (∀ k, mid ≤ k → k < e → d1[k]! = d[k - (e - m)]!) ∧ ∀ k, k < st ∨ e ≤ k → d1[k]! = d[k]! := by
          by_cases c : st < m ∧ m < e
          · rw [if_pos c] at hd1
            subst hd1
            obtain ⟨p1, p2, p3⟩ := rot_spec (e - st) d m (m - st) (e - m) (by omega) (by omega) (by omega) (by omega) (by omega)
            refine ⟨permIn_mono _ _ _ _ _ _ (by omega) (by omega) hz p1, fun k k1 k2 => p2 k (by omega) (by omega), fun k k1 k2 => p3 k (by omega) (by omega), fun k hk => p1.2.1 k (by omega)⟩
          · rw [if_neg c] at hd1
            subst hd1
            refine ⟨permIn_refl d a b, fun k k1 k2 => ?_, fun k k1 k2 => ?_, fun _ _ => rfl⟩
            · congr 1; omega
            · congr 1; omega
        obtain ⟨R0, R1, R2, R3⟩ := hR
        have hz1 : d1.size = d.size := R0.1
        have sA : SortedIn lt a st d1 := sSame (sSub h1 (Nat.le_refl _) hB.2.1) (fun k _ k2 => R3 k (.inl k2))
        have sB : SortedIn lt st mid d1 := fun i j hi hij hj => by
          rw [R1 i hi (by omega), R1 j (by omega) hj]; exact h2 _ _ (by omega) (by omega) (by omega)
        have sC : SortedIn lt mid e d1 := fun i j hi hij hj => by
          rw [R2 i hi (by omega), R2 j (by omega) hj]; exact h1 _ _ (by omega) (by omega) (by omega)
        have sD : SortedIn lt e b d1 := sSame (sSub h2 hB.2.2.1 (Nat.le_refl _)) (fun k k1 _ => R3 k (.inr k1))
        have cross : ∀ p q, a ≤ p → p < mid → mid ≤ q → q < b → lt d1[q]! d1[p]! = false := fun p q hp1 hp2 hq1 hq2 => by
          rcases Nat.lt_or_ge p st with cp | cp
          · rw [R3 p (.inl cp)]
            rcases Nat.lt_or_ge q e with cq | cq
            · rw [R2 q hq1 cq]; exact sLe hS h1 hp1 (by omega) (by omega)
            · rw [R3 q (.inr cq)]
              rcases Nat.lt_or_ge s0 st with cs | cs
              · have t1 := i3 (st - 1) (by omega) (by omega)
                rw [show mid + m - 1 - (st - 1) = e by omega] at t1
                exact hS.ntrans _ _ _ (hS.ntrans _ _ _ (sLe hS h2 (by omega) cq hq2) t1) (sLe hS h1 hp1 (by omega) (by omega))
              · exfalso
                by_cases c : mid < m
                · rw [if_pos c] at hs0; omega
                · rw [if_neg c] at hs0; omega
          · rw [R1 p cp hp2]
            rcases Nat.lt_or_ge q e with cq | cq
            · rw [R2 q hq1 cq]
              rcases Nat.lt_or_ge st r0 with cs | cs
              · have t1 := i4 st (Nat.le_refl _) cs
                rw [show mid + m - 1 - st = e - 1 by omega] at t1
                exact hS.ntrans _ _ _ (hS.ntrans _ _ _ (sLe hS h1 (by omega) (show st ≤ q - (e - m) by omega) (by omega)) (hS.asymmA t1)) (sLe hS h2 (by omega) (by omega) (by omega))
              · exfalso
                by_cases c : mid < m
                · rw [if_pos c] at hr0; omega
                · rw [if_neg c] at hr0; omega
            · rw [R3 q (.inr cq)]; exact sLe hS h2 (by omega) (by omega) hq2
        obtain ⟨d2, hd2⟩ : ∃ x, (if a < st ∧ st < mid then sym lt f d1 a st mid else d1) = x := ⟨_, rfl⟩
        rw [hd2]
        have L2 : PermIn a mid d1 d2 ∧ SortedIn lt a mid d2 := by
          by_cases c : a < st ∧ st < mid
          · rw [if_pos c] at hd2
            subst hd2
            exact sym_spec hS f d1 a st mid c.1 c.2 (by omega) (by omega) sA sB
          · rw [if_neg c] at hd2
            subst hd2
            refine ⟨permIn_refl _ _ _, ?_⟩
            rcases Nat.lt_or_ge a st with c3 | c3
            · obtain rfl : st = mid := by omega
              exact sA
            · obtain rfl : st = a := by omega
              exact sB
        have hz2 : d2.size = d.size := L2.1.1.trans hz1
        have hg2 : ∀ k, mid ≤ k → d2[k]! = d1[k]! := fun k hk => L2.1.2.1 k (.inr hk)
        obtain ⟨d3, hd3⟩ : ∃ x, (if mid < e ∧ e < b then sym lt f d2 mid e b else d2) = x := ⟨_, rfl⟩
        rw [hd3]
        have L3 : PermIn mid b d2 d3 ∧ SortedIn lt mid b d3 := by
          have sC' := sSame sC (fun k k1 _ => hg2 k k1)
          have sD' := sSame sD (fun k k1 _ => hg2 k (by omega))
          by_cases c : mid < e ∧ e < b
          · rw [if_pos c] at hd3
            subst hd3
            exact sym_spec hS f d2 mid e b c.1 c.2 (by omega) (by omega) sC' sD'
          · rw [if_neg c] at hd3
            subst hd3
            refine ⟨permIn_refl _ _ _, ?_⟩
            rcases Nat.lt_or_ge mid e with c3 | c3
            · obtain rfl : e = b := by omega
              exact sC'
            · obtain rfl : e = mid := by omega
              exact sD'
        refine ⟨permIn_trans _ _ _ _ _ R0 (permIn_trans _ _ _ _ _ (permIn_mono _ _ _ _ _ _ (Nat.le_refl _) (by omega) (by omega) L2.1) (permIn_mono _ _ _ _ _ _ (by omega) (Nat.le_refl _) (by omega) L3.1)), ?_⟩
        refine sJoin (m := mid) (sSame L2.2 (fun k _ k2 => L3.1.2.1 k (.inl k2))) L3.2 (fun p q hp1 hp2 hq1 hq2 => ?_)
        rw [L3.1.2.1 p (.inl hp2)]
        refine permIn_all d2 d3 mid b (fun x => lt x d2[p]! = false) (by omega) L3.1 (fun i hi1 hi2 => ?_) q hq1 hq2
        rw [hg2 i hi1]
        exact permIn_all d1 d2 a mid (fun x => lt d1[i]! x = false) (by omega) L2.1 (fun k hk1 hk2 => cross k i hk1 hk2 hi1 hi2) p hp1 hp2
end Go.Proofs.Ytdlilbleohlmnaa.Stb
namespace Go.Proofs.Ytdlilbleohlmnaa.Stb
open Go.Sort
variable {α : Type} [Inhabited α]
def insP (lt : α → α → Bool) : Nat → Array α → Nat → Nat → Array α
  | 0, d, _, _ => d
  | f + 1, d, a, n => if a + 20 ≤ n then insP lt f (insertionSort lt d a (a + 20)) (a + 20) n else insertionSort lt d a n
def mrgP (lt : α → α → Bool) (s : Nat) : Nat → Array α → Nat → Nat → Array α
  | 0, d, _, _ => d
  | f + 1, d, a, n => if a + 2 * s ≤ n then mrgP lt s f (sym lt (2 * s) d a (a + s) (a + 2 * s)) (a + 2 * s) n else if a + s < n then sym lt (n - a) d a (a + s) n else d
def stbP (lt : α → α → Bool) : Nat → Array α → Nat → Nat → Array α
  | 0, d, _, _ => d
  | f + 1, d, s, n => if s < n then stbP lt f (mrgP lt s (n + 1) d 0 n) (2 * s) n else d
def stable (lt : α → α → Bool) (d : Array α) (n : Nat) : Array α := stbP lt (n + 1) (insP lt (n + 1) d 0 n) 20 n
variable {lt : α → α → Bool}
def BlkF (lt : α → α → Bool) (s a n : Nat) (d : Array α) : Prop := ∀ k, SortedIn lt (a + k * s) (min (a + k * s + s) n) d
theorem BlkF.next {s a n : Nat} {d : Array α} (h : BlkF lt s a n d) (j : Nat) : BlkF lt s (a + j * s) n d := fun k => by
  have := h (j + k)
  rw [Nat.add_mul, ← Nat.add_assoc] at this
  exact this
theorem BlkF.cons {s a n : Nat} {d : Array α} (h0 : SortedIn lt a (min (a + s) n) d) (h : BlkF lt s (a + s) n d) : BlkF lt s a n d := fun k => by
  cases k with
  | zero => rw [Nat.zero_mul, Nat.add_zero]; exact h0
  | succ k =>
    have := h k
    rw [Nat.add_mul, Nat.one_mul]
    rw [show a + (k * s + s) = a + s + k * s by omega]
    exact this
theorem BlkF.same {s a n : Nat} {d d' : Array α} (h : BlkF lt s a n d) (he : ∀ k, a ≤ k → d'[k]! = d[k]!) : BlkF lt s a n d' := fun k => sSame (h k) (fun i hi _ => he i (by omega))
theorem insP_spec (hS : SWO lt) : ∀ (f : Nat) (d : Array α) (a n : Nat), a ≤ n → n ≤ d.size → n - a < f → PermIn a n d (insP lt f d a n) ∧ BlkF lt 20 a n (insP lt f d a n)
  | 0, _, _, _, _, _, h => by omega
  | f + 1, d, a, n, h1, h2, h3 => by
    rw [insP]
    by_cases c : a + 20 ≤ n
    · rw [if_pos c]
      obtain ⟨p1, p2⟩ := insertionSort_holds hS d a (a + 20) (by omega) (by omega)
      obtain ⟨q1, q2⟩ := insP_spec hS f (insertionSort lt d a (a + 20)) (a + 20) n c (by rw [p1.1]; exact h2) (by omega)
      refine ⟨permIn_trans _ _ _ _ _ (permIn_mono _ _ _ _ _ _ (Nat.le_refl _) c (by omega) p1) (permIn_mono _ _ _ _ _ _ (by omega) (Nat.le_refl _) (by rw [p1.1]; exact h2) q1), BlkF.cons ?_ q2⟩
      rw [Nat.min_eq_left c]
      exact sSame p2 (fun k _ k2 => q1.2.1 k (.inl k2))
    · rw [if_neg c]
      obtain ⟨p1, p2⟩ := insertionSort_holds hS d a n h1 h2
      refine ⟨p1, fun k => ?_⟩
      cases k with
      | zero => rw [Nat.zero_mul, Nat.add_zero]; exact sSub p2 (Nat.le_refl _) (Nat.min_le_right _ _)
      | succ k => exact sTriv _ (by have := Nat.min_le_right (a + (k + 1) * 20 + 20) n; omega)
theorem mrgP_spec (hS : SWO lt) (s : Nat) (hs : 1 ≤ s) : ∀ (f : Nat) (d : Array α) (a n : Nat), a ≤ n → n ≤ d.size → n - a < f → BlkF lt s a n d → PermIn a n d (mrgP lt s f d a n) ∧ BlkF lt (2 * s) a n (mrgP lt s f d a n)
  | 0, _, _, _, _, _, h, _ => by omega
  | f + 1, d, a, n, h1, h2, h3, h4 => by
    have b0 : SortedIn lt a (min (a + s) n) d := by have := h4 0; rwa [Nat.zero_mul, Nat.add_zero] at this
    have b1 : SortedIn lt (a + s) (min (a + s + s) n) d := by have := h4 1; rwa [Nat.one_mul] at this
    rw [mrgP]
    by_cases c : a + 2 * s ≤ n
    · rw [if_pos c]
      rw [Nat.min_eq_left (by omega)] at b0 b1
      obtain ⟨p1, p2⟩ := sym_spec hS (2 * s) d a (a + s) (a + 2 * s) (by omega) (by omega) (by omega) (by omega) b0 (by rwa [show a + 2 * s = a + s + s by omega])
      have h4' : BlkF lt s (a + 2 * s) n (sym lt (2 * s) d a (a + s) (a + 2 * s)) := (h4.next 2).same (fun k hk => p1.2.1 k (.inr hk))
      obtain ⟨q1, q2⟩ := mrgP_spec hS s hs f _ (a + 2 * s) n c (by rw [p1.1]; exact h2) (by omega) h4'
      refine ⟨permIn_trans _ _ _ _ _ (permIn_mono _ _ _ _ _ _ (Nat.le_refl _) c (by omega) p1) (permIn_mono _ _ _ _ _ _ (by omega) (Nat.le_refl _) (by rw [p1.1]; exact h2) q1), BlkF.cons ?_ q2⟩
      rw [Nat.min_eq_left c]
      exact sSame p2 (fun k _ k2 => q1.2.1 k (.inl k2))
    · rw [if_neg c]
      have big : ∀ k d', SortedIn lt (a + (k + 1) * (2 * s)) (min (a + (k + 1) * (2 * s) + 2 * s) n) d' := fun k d' => sTriv _ (by
        have h5 := Nat.min_le_right (a + (k + 1) * (2 * s) + 2 * s) n
        have h6 : 2 * s ≤ (k + 1) * (2 * s) := Nat.le_mul_of_pos_left _ (by omega)
        omega)
      by_cases c2 : a + s < n
      · rw [if_pos c2]
        rw [Nat.min_eq_left (by omega)] at b0
        rw [Nat.min_eq_right (by omega)] at b1
        obtain ⟨p1, p2⟩ := sym_spec hS (n - a) d a (a + s) n (by omega) c2 h2 (by omega) b0 b1
        refine ⟨p1, fun k => ?_⟩
        cases k with
        | zero => rw [Nat.zero_mul, Nat.add_zero]; exact sSub p2 (Nat.le_refl _) (Nat.min_le_right _ _)
        | succ k => exact big k _
      · rw [if_neg c2]
        rw [Nat.min_eq_right (by omega)] at b0
        refine ⟨permIn_refl _ _ _, fun k => ?_⟩
        cases k with
        | zero => rw [Nat.zero_mul, Nat.add_zero]; exact sSub b0 (Nat.le_refl _) (Nat.min_le_right _ _)
        | succ k => exact big k _
theorem stbP_spec (hS : SWO lt) : ∀ (f : Nat) (d : Array α) (s n : Nat), 1 ≤ s → n ≤ d.size → n < s + f → BlkF lt s 0 n d → PermIn 0 n d (stbP lt f d s n) ∧ SortedIn lt 0 n (stbP lt f d s n)
  | 0, d, s, n, h1, h2, h3, h4 => by
    have b0 : SortedIn lt 0 (min s n) d := by have := h4 0; simpa using this
    rw [Nat.min_eq_right (by omega)] at b0
    exact ⟨permIn_refl _ _ _, b0⟩
  | f + 1, d, s, n, h1, h2, h3, h4 => by
    rw [stbP]
    by_cases c : s < n
    · rw [if_pos c]
      obtain ⟨p1, p2⟩ := mrgP_spec hS s h1 (n + 1) d 0 n (Nat.zero_le _) h2 (by omega) h4
      obtain ⟨q1, q2⟩ := stbP_spec hS f (mrgP lt s (n + 1) d 0 n) (2 * s) n (by omega) (by rw [p1.1]; exact h2) (by omega) p2
      exact ⟨permIn_trans _ _ _ _ _ p1 q1, q2⟩
    · rw [if_neg c]
      have b0 : SortedIn lt 0 (min s n) d := by have := h4 0; simpa using this
      rw [Nat.min_eq_right (by omega)] at b0
      exact ⟨permIn_refl _ _ _, b0⟩
theorem stable_spec (hS : SWO lt) (d : Array α) (n : Nat) (hn : n ≤ d.size) : PermIn 0 n d (stable lt d n) ∧ SortedIn lt 0 n (stable lt d n) := by
  obtain ⟨p1, p2⟩ := insP_spec hS (n + 1) d 0 n (Nat.zero_le _) hn (by omega)
  obtain ⟨q1, q2⟩ := stbP_spec hS (n + 1) (insP lt (n + 1) d 0 n) 20 n (by omega) (by rw [p1.1]; exact hn) (by omega) p2
  exact ⟨permIn_trans _ _ _ _ _ p1 q1, q2⟩
end Go.Proofs.Ytdlilbleohlmnaa.Stb
namespace Go.Proofs.Ytdlilbleohlmnaa.Stb
open Go.Shelf Go.RowKit Go.Lib Go.Sort
variable {α : Type} [Inhabited α]
structure RowB (enc : α → List Value) (k : Nat) (w : World) (blk off size : Nat) : Prop where
  hk : ∀ x, (enc x).length = k
  h1 : ∀ x, ∀ v ∈ enc x, v.oneCell' = true
  hH : ∃ d : Array α, d.size = size ∧ HoldsK enc k w blk off d
  hb : blk < w.heap.size
  hz : size < 4611686018427387904
  zE : ∀ W, (Go.sizeOf 52).run Try.prog W = .ok k W
theorem RowB.holds {enc : α → List Value} {k : Nat} {w : World} {blk off size : Nat} (B : RowB enc k w blk off size) (m : Nat) (dk : Array α) (os : Array Obj) (hs : dk.size = size) : HoldsK enc k (sortWorldK enc k w blk off m dk os) blk off dk := by
  obtain ⟨d, h1, h2⟩ := B.hH
  exact holdsK_sortWorldK_c enc k w blk off d dk m os h2 B.hb (by rw [hs, h1])
set_option maxHeartbeats 4000000 in
set_option maxRecDepth 1000000 in
theorem go_swapRange (enc : α → List Value) (k : Nat) (w : World) (blk off size : Nat) (B : RowB enc k w blk off size) (cap a b n g : Nat) (cb : Array Value) (m0 : Nat) (d0 : Array α) (os : Array Obj) (hs : d0.size = size) (hab : a + n ≤ b) (hbn : b + n ≤ size) :
    Calls Try.prog 117 #[.slice (some ⟨blk, off, none⟩) size cap, .int .i64 a, .int .i64 b, .int .i64 n, .func (.func g) #[] cb] (sortWorldK enc k w blk off m0 d0 os) fun e w' =>
      e = .returned (.tuple #[]) ∧ ∃ m', w' = sortWorldK enc k w blk off m' (swr d0 a b n) os := by
  have HB : Hid (RowB enc k w blk off size) := B
  have hsz := B.hz
  have zE := B.zE
  have mixed : Try.prog.follows Departure.mixedOrders = true := by kernel_rfl
  clear B
  go_enter Try.func117, Try.ntmps117
  go_wp2
  go_loopg [10] n (fun g1 vi wr => ∃ (i m : Nat), g1 = n - i ∧ i ≤ n ∧ vi = .int .i64 i ∧ wr = sortWorldK enc k w blk off m (swr d0 a b i) os)
  case atStart => exact ⟨0, m0, rfl, Nat.zero_le _, rfl, rfl⟩
  case round =>
    obtain ⟨i, m, rfl, hi, rfl, rfl⟩ := hrel
    by_cases hlt : i < n
    · have hltz : (i : Int) < (n : Int) := by omega
      obtain ⟨dk, hdk⟩ : ∃ d, swr d0 a b i = d := ⟨_, rfl⟩
      have hsk : dk.size = size := by rw [← hdk, swr_size, hs]
      rw [hdk]
      obtain ⟨xa, hxa⟩ : ∃ x, dk[a + i]! = x := ⟨_, rfl⟩
      obtain ⟨xb, hxb⟩ : ∃ x, dk[b + i]! = x := ⟨_, rfl⟩
      have wa : IntKind.i64.wrap ((a : Int) + (i : Int)) = (a : Int) + (i : Int) := by rw [IntKind.wrap_i64]; omega
      have wb : IntKind.i64.wrap ((b : Int) + (i : Int)) = (b : Int) + (i : Int) := by rw [IntKind.wrap_i64]; omega
      have a0 : (0 : Int) ≤ (a : Int) + (i : Int) := by omega
      have b0 : (0 : Int) ≤ (b : Int) + (i : Int) := by omega
      have az : (a : Int) + (i : Int) < (size : Int) := by omega
      have bz : (b : Int) + (i : Int) < (size : Int) := by omega
      have ea : ((a : Int) + (i : Int)).toNat = a + i := by omega
      have eb : ((b : Int) + (i : Int)).toNat = b + i := by omega
      have hHd : HoldsK enc k (sortWorldK enc k w blk off m dk os).drew blk off dk := HB.out.holds m dk os hsk
      have bnd : ∀ x, x < dk.size → x * k + k ≤ dk.size * k := fun x hx => by
        have := Nat.mul_le_mul_right k (show x + 1 ≤ dk.size from hx); rwa [Nat.add_mul, Nat.one_mul] at this
      generalize hwq : sortWorldK enc k w blk off m dk os = wq at hHd ⊢
      have la : Sem.run Try.prog (loadCellsFrom ⟨blk, off + (a + i) * k, none⟩ 0 k #[]) wq.drew = .ok (enc xa).toArray wq.drew := by rw [← hxa]; exact run_loadCellsFrom_list _ _ _ _ k (HB.out.hk _) (HoldsK.cells hHd HB.out.hk (by omega))
      have lb : Sem.run Try.prog (loadCellsFrom ⟨blk, off + (b + i) * k, none⟩ 0 k #[]) wq.drew = .ok (enc xb).toArray wq.drew := by rw [← hxb]; exact run_loadCellsFrom_list _ _ _ _ k (HB.out.hk _) (HoldsK.cells hHd HB.out.hk (by omega))
      have s1 : Sem.run Try.prog (storeCells ⟨blk, off + (a + i) * k, none⟩ (enc xb) 0) wq.drew = .ok () (wq.drew.setCells blk (off + (a + i) * k) (enc xb)) := stores_of_holds _ hHd ((a + i) * k) _ (by rw [HB.out.hk, size_flatK]; exact bnd (a + i) (by omega)) (HB.out.h1 _)
      have s2 : Sem.run Try.prog (storeCells ⟨blk, off + (b + i) * k, none⟩ (enc xa) 0) (wq.drew.setCells blk (off + (a + i) * k) (enc xb)) = .ok () ((wq.drew.setCells blk (off + (a + i) * k) (enc xb)).setCells blk (off + (b + i) * k) (enc xa)) :=
        stores_of_holds _ (holds_setCells_c hHd ((a + i) * k) _ (by rw [HB.out.hk, size_flatK]; exact bnd (a + i) (by omega))) ((b + i) * k) _ (by rw [HB.out.hk, size_setMany, size_flatK]; exact bnd (b + i) (by omega)) (HB.out.h1 _)
      have hsA : (enc xa).length = k := HB.out.hk _
      have hsB : (enc xb).length = k := HB.out.hk _
      have HW : Hid (wq = sortWorldK enc k w blk off m dk os) := hwq.symm
      have HD : Hid (swr d0 a b i = dk) := hdk
      clear hwq hHd bnd hdk
      obtain ⟨cA, hcA⟩ : ∃ c, c = enc xa := ⟨_, rfl⟩
      obtain ⟨cB, hcB⟩ : ∃ c, c = enc xb := ⟨_, rfl⟩
      rw [← hcA] at la hsA
      rw [← hcB] at lb s1 hsB
      rw [← hcA, ← hcB] at s2
      have CC : Hid (cA = enc xa ∧ cB = enc xb) := ⟨hcA, hcB⟩
      clear hcA hcB
      go_wp2_with fail
      go_big_region_o
      all_goals go_wp2
      go_roundg (n - (i + 1))
      case measure => omega
      case rel =>
        refine ⟨i + 1, m + 1, rfl, by omega, by go_num, ?_⟩
        rw [CC.out.1, CC.out.2, HW.out, ← hxa, ← hxb, swr, HD.out]
        exact sortWorldK_swp_c enc k w blk off HB.out.hk m dk os HB.out.hb (a + i) (b + i) (by omega) (by omega)
    · obtain rfl : i = n := by omega
      go_wp2
      go_end0
      exact ⟨rfl, m, rfl⟩
end Go.Proofs.Ytdlilbleohlmnaa.Stb
namespace Go.Proofs.Ytdlilbleohlmnaa.Stb
open Go.Shelf Go.RowKit Go.Lib Go.Sort
variable {α : Type} [Inhabited α]
set_option maxHeartbeats 4000000 in
set_option maxRecDepth 1000000 in
theorem go_rotate (enc : α → List Value) (k : Nat) (w : World) (blk off size : Nat) (B : RowB enc k w blk off size) (cap a m b g : Nat) (cb : Array Value) (m0 : Nat) (d0 : Array α) (os : Array Obj) (hs : d0.size = size) (ham : a < m) (hmb : m < b) (hbn : b ≤ size) :
    Calls Try.prog 115 #[.slice (some ⟨blk, off, none⟩) size cap, .int .i64 a, .int .i64 m, .int .i64 b, .func (.func g) #[] cb] (sortWorldK enc k w blk off m0 d0 os) fun e w' =>
      e = .returned (.tuple #[]) ∧ ∃ m', w' = sortWorldK enc k w blk off m' (rot (b - a) d0 m (m - a) (b - m)) os := by
  have hsz := B.hz
  have HSW := Lib.hid (fun (x y n : Nat) (X Y Z : Int) (q : Nat) (dk : Array α) (hdk : dk.size = size) (h1 : x + n ≤ y) (h2 : y + n ≤ size) (hX : (x : Int) = X) (hY : (y : Int) = Y) (hZ : (n : Int) = Z) => (show Calls Try.prog 117 #[.slice (some ⟨blk, off, none⟩) size cap, .int .i64 X, .int .i64 Y, .int .i64 Z, .func (.func g) #[] cb] (sortWorldK enc k w blk off q dk os) fun e w' => e = .returned (.tuple #[]) ∧ ∃ m', w' = sortWorldK enc k w blk off m' (swr dk x y n) os from by
    subst hX hY hZ
    exact go_swapRange enc k w blk off size B cap x y n g cb q dk os hdk h1 h2))
  clear B
  have e1 : IntKind.i64.wrap ((m : Int) - (a : Int)) = ((m - a : Nat) : Int) := by rw [IntKind.wrap_i64]; omega
  have e2 : IntKind.i64.wrap ((b : Int) - (m : Int)) = ((b - m : Nat) : Int) := by rw [IntKind.wrap_i64]; omega
  go_enter Try.func115, Try.ntmps115
  go_wp2
  go_loopg [10, 11] (b - a) (fun g1 vi vj wr => ∃ (i j q f : Nat) (dk : Array α), vi = .int .i64 i ∧ vj = .int .i64 j ∧ 1 ≤ i ∧ 1 ≤ j ∧ i ≤ m ∧ m + j ≤ size ∧ i + j ≤ g1 ∧ i + j ≤ f ∧ dk.size = size ∧ wr = sortWorldK enc k w blk off q dk os ∧ Hid (rot f dk m i j = rot (b - a) d0 m (m - a) (b - m)))
  case atStart => exact ⟨m - a, b - m, m0, b - a, d0, by first | rfl | (congr 1; omega), by first | rfl | (congr 1; omega), by omega, by omega, by omega, by omega, by omega, by omega, hs, rfl, Lib.hid rfl⟩
  case round =>
    obtain ⟨i, j, q, f, dk, rfl, rfl, hi1, hj1, him, hmj, hg, hf, hdk, rfl, HR⟩ := hrel
    clear e1 e2
    have u1 : IntKind.i64.wrap ((m : Int) - (i : Int)) = (m : Int) - (i : Int) := by rw [IntKind.wrap_i64]; omega
    have u2 : IntKind.i64.wrap ((i : Int) - (j : Int)) = (i : Int) - (j : Int) := by rw [IntKind.wrap_i64]; omega
    have u3 : IntKind.i64.wrap ((j : Int) - (i : Int)) = (j : Int) - (i : Int) := by rw [IntKind.wrap_i64]; omega
    have u4 : IntKind.i64.wrap ((m : Int) + (j : Int)) = (m : Int) + (j : Int) := by rw [IntKind.wrap_i64]; omega
    have u5 : IntKind.i64.wrap ((m : Int) + (j : Int) - (i : Int)) = (m : Int) + (j : Int) - (i : Int) := by rw [IntKind.wrap_i64]; omega
    cases f with
    | zero => omega
    | succ f =>
    have hR := HR.out
    rw [rot] at hR
    by_cases hij : i = j
    · subst hij
      rw [if_pos rfl] at hR
      have HS := Lib.hid (HSW.out (m - i) m i ((m : Int) - (i : Int)) (m : Int) (i : Int) q dk hdk (by omega) (by omega) (by omega) rfl rfl)
      have HR2 := Lib.hid hR
      clear hR HR
      go_wp2_with (go_at_call 117; refine HS.out.mono ?_; rintro e w' ⟨rfl, q', rfl⟩)
      go_end0
      exact ⟨rfl, q', by rw [HR2.out]⟩
    · rw [if_neg hij] at hR
      have hne : ((i : Int) == (j : Int)) = false := by simp; omega
      have hne2 : ((i : Int) != (j : Int)) = true := by simp; omega
      by_cases hji : j < i
      · rw [if_pos hji] at hR
        have hgt : (j : Int) < (i : Int) := by omega
        have HS := Lib.hid (HSW.out (m - i) m j ((m : Int) - (i : Int)) (m : Int) (j : Int) q dk hdk (by omega) (by omega) (by omega) rfl rfl)
        have HR2 := Lib.hid hR
        clear hR HR
        go_wp2_with (go_at_call 117; refine HS.out.mono ?_; rintro e w' ⟨rfl, q', rfl⟩)
        go_roundg (gk - 1)
        case measure => omega
        case rel => exact ⟨i - j, j, q', f, swr dk (m - i) m j, by first | rfl | go_num | (congr 1; omega), rfl, by omega, hj1, by omega, hmj, by omega, by omega, by rw [swr_size]; exact hdk, rfl, HR2⟩
      · rw [if_neg hji] at hR
        have hgt : ¬ ((j : Int) < (i : Int)) := by omega
        have HS := Lib.hid (HSW.out (m - i) (m + j - i) i ((m : Int) - (i : Int)) ((m : Int) + (j : Int) - (i : Int)) (i : Int) q dk hdk (by omega) (by omega) (by omega) (by omega) rfl)
        have HR2 := Lib.hid hR
        clear hR HR
        go_wp2_with (go_at_call 117; refine HS.out.mono ?_; rintro e w' ⟨rfl, q', rfl⟩)
        go_roundg (gk - 1)
        case measure => omega
        case rel => exact ⟨i, j - i, q', f, swr dk (m - i) (m + j - i) i, rfl, by first | rfl | go_num | (congr 1; omega), hi1, by omega, him, by omega, by omega, by omega, by rw [swr_size]; exact hdk, rfl, HR2⟩
end Go.Proofs.Ytdlilbleohlmnaa.Stb
namespace Go.Proofs.Ytdlilbleohlmnaa.Stb
open Go.Shelf Go.RowKit Go.Lib Go.Sort
variable {α : Type} [Inhabited α]
set_option maxHeartbeats 4000000 in
set_option maxRecDepth 1000000 in
theorem go_sym_one (enc : α → List Value) (k : Nat) (w : World) (blk off size : Nat) (B : RowB enc k w blk off size) (cap a m b g : Nat) (cb : Array Value) (cf : α → α → Int) (eg : ∀ args w, (callFunc g args).run Try.prog w = .ok (.enter g args) w) (hcmp : CmpLays Try.prog g cb enc k cf blk off size w) (m0 : Nat) (d0 : Array α) (os : Array Obj) (hs : d0.size = size) (ham : m = a + 1) (hmb : m < b) (hbn : b ≤ size) :
    Calls Try.prog 108 #[.slice (some ⟨blk, off, none⟩) size cap, .int .i64 a, .int .i64 m, .int .i64 b, .func (.func g) #[] cb] (sortWorldK enc k w blk off m0 d0 os) fun e w' =>
      e = .returned (.tuple #[]) ∧ ∃ m' os', w' = sortWorldK enc k w blk off m' (shr d0 a (bs (fun h => ltOf cf d0[h]! d0[a]!) (b - m + 1) m b - 1 - a)) os' := by
  have HB : Hid (RowB enc k w blk off size) := B
  have HC : Aside _ := hcmp
  have hsz := B.hz
  have zE := B.zE
  have mixed : Try.prog.follows Departure.mixedOrders = true := by kernel_rfl
  have e1 : IntKind.i64.wrap ((m : Int) - (a : Int)) = 1 := by rw [IntKind.wrap_i64]; omega
  have hal : a < m := by omega
  have HAM : Hid (m = a + 1) := ham
  clear B hcmp ham
  go_enter Try.func108, Try.ntmps108
  go_wp2
  go_loopg [10, 11, 12] (b - a) (fun gk vi vj vh wr => ∃ (i j q f : Nat) (oq : Array Obj), vi = .int .i64 i ∧ vj = .int .i64 j ∧ m ≤ i ∧ i ≤ j ∧ j ≤ b ∧ j - i ≤ gk ∧ j - i < f ∧ wr = sortWorldK enc k w blk off q d0 oq ∧ Hid (bs (fun h => ltOf cf d0[h]! d0[a]!) f i j = bs (fun h => ltOf cf d0[h]! d0[a]!) (b - m + 1) m b))
  case atStart => exact ⟨m, b, m0, b - m + 1, os, rfl, rfl, by omega, by omega, by omega, by omega, by omega, rfl, Lib.hid rfl⟩
  case round =>
    obtain ⟨i, j, q, f, oq, rfl, rfl, hi1, hij, hjb, hg, hf, rfl, HR⟩ := hrel
    clear e1
    by_cases hlt : i < j
    · have hltz : (i : Int) < (j : Int) := by omega
      have w1 : IntKind.i64.wrap ((i : Int) + (j : Int)) = (i : Int) + (j : Int) := by rw [IntKind.wrap_i64]; omega
      have w2 : IntKind.u64.wrap ((i : Int) + (j : Int)) = (i : Int) + (j : Int) := by rw [IntKind.wrap_u64]; omega
      obtain ⟨h, hh⟩ : ∃ h, (i + j) / 2 = h := ⟨_, rfl⟩
      have eh : ((i : Int) + (j : Int)) / 2 = (h : Int) := by omega
      cases f with
      | zero => omega
      | succ f =>
      have hR := HR.out
      rw [bs, if_pos hlt, hh] at hR
      obtain ⟨xh, hxh⟩ : ∃ x, d0[h]! = x := ⟨_, rfl⟩
      obtain ⟨xa, hxa⟩ : ∃ x, d0[a]! = x := ⟨_, rfl⟩
      have hlv0 : ltOf cf d0[h]! d0[a]! = decide (cf xh xa < 0) := by rw [hxh, hxa]; rfl
      rw [hlv0] at hR
      have HR2 : Hid _ := hR
      have hz : (h : Int) < (size : Int) := by omega
      have az : (a : Int) < (size : Int) := by omega
      have hcls : ∀ n' os', grow ((sortWorldK enc k w blk off q d0 oq).drewN n') os' = sortWorldK enc k w blk off (q + n') d0 (oq ++ os') := fun n' os' => sortWorldK_grown_c enc k w blk off q n' d0 oq os'
      have hHc : ∀ n' os', HoldsK enc k (grow ((sortWorldK enc k w blk off q d0 oq).drewN n') os') blk off d0 := fun n' os' => by rw [hcls]; exact HB.out.holds _ _ _ hs
      have lj : ∀ n' os', Sem.run Try.prog (loadCellsFrom ⟨blk, off + h * k, none⟩ 0 k #[]) (grow ((sortWorldK enc k w blk off q d0 oq).drewN n') os') = .ok (enc xh).toArray (grow ((sortWorldK enc k w blk off q d0 oq).drewN n') os') := fun n' os' => by
        rw [← hxh]; exact run_loadCellsFrom_list _ _ _ _ k (HB.out.hk _) (HoldsK.cells (hHc n' os') HB.out.hk (by omega))
      have lp : ∀ n' os', Sem.run Try.prog (loadCellsFrom ⟨blk, off + a * k, none⟩ 0 k #[]) (grow ((sortWorldK enc k w blk off q d0 oq).drewN n') os') = .ok (enc xa).toArray (grow ((sortWorldK enc k w blk off q d0 oq).drewN n') os') := fun n' os' => by
        rw [← hxa]; exact run_loadCellsFrom_list _ _ _ _ k (HB.out.hk _) (HoldsK.cells (hHc n' os') HB.out.hk (by omega))
      have hcg : ∀ n' os', Calls Try.prog g (#[.agg (enc xh).toArray, .agg (enc xa).toArray] ++ cb) (grow ((sortWorldK enc k w blk off q d0 oq).drewN n') os') fun e w' => e = .returned (.int .i64 (cf xh xa)) ∧ ∃ q' os'', w' = grow ((grow ((sortWorldK enc k w blk off q d0 oq).drewN n') os').drewN q') os'' := fun n' os' => by
        rw [hcls]; exact HC.out _ _ d0 hs xh xa
      have CLS : Hid _ := hcls
      clear hcls hHc hR HR hxh hxa hlv0
      generalize hwq : sortWorldK enc k w blk off q d0 oq = wq at lj lp hcg CLS ⊢
      by_cases hlv : cf xh xa < 0
      · have HR3 := Lib.hid (show bs (fun h => ltOf cf d0[h]! d0[a]!) f (h + 1) j = bs (fun h => ltOf cf d0[h]! d0[a]!) (b - m + 1) m b from (if_pos (decide_eq_true hlv)).symm.trans HR2.out)
        clear HR2
        go_upto_region 5 with fail
        clear eh
        go_wp2_with fail
        go_quiet_grown (first | (go_at_fn g; refine Calls.grown_of (hcg _ _)))
        go_wp2
        go_roundg (gk - 1)
        case measure => omega
        case rel => exact ⟨h + 1, j, _, f, _, by first | rfl | go_num, rfl, by omega, by omega, hjb, by omega, by omega, CLS.out nq osq, HR3⟩
      · have HR3 := Lib.hid (show bs (fun h => ltOf cf d0[h]! d0[a]!) f i h = bs (fun h => ltOf cf d0[h]! d0[a]!) (b - m + 1) m b from (if_neg (by simpa using hlv)).symm.trans HR2.out)
        clear HR2
        go_upto_region 5 with fail
        clear eh
        go_wp2_with fail
        go_quiet_grown (first | (go_at_fn g; refine Calls.grown_of (hcg _ _)))
        go_wp2
        go_roundg (gk - 1)
        case measure => omega
        case rel => exact ⟨i, h, _, f, _, rfl, rfl, hi1, by omega, by omega, by omega, by omega, CLS.out nq osq, HR3⟩
    · have hij2 : i = j := by omega
      have hltz : ¬ ((i : Int) < (j : Int)) := by omega
      have hR : i = bs (fun h => ltOf cf d0[h]! d0[a]!) (b - m + 1) m b := by
        have h0 := HR.out
        cases f with
        | zero => omega
        | succ f => rw [bs, if_neg hlt] at h0; exact h0
      have HR2 := Lib.hid hR
      have hib : i ≤ b := by omega
      clear hR HR hij2 hij hjb hg hf hlt
      have wi : IntKind.i64.wrap ((i : Int) - 1) = (i : Int) - 1 := by rw [IntKind.wrap_i64]; omega
      go_wp2
      go_loopg [13] (i - a) (fun gk vx wr => ∃ (x p : Nat), vx = .int .i64 x ∧ a ≤ x ∧ x < i ∧ i - x ≤ gk ∧ wr = sortWorldK enc k w blk off p (shr d0 a (x - a)) oq)
      case atStart => exact ⟨a, q, rfl, Nat.le_refl _, by omega, by omega, by rw [Nat.sub_self]; rfl⟩
      case round =>
        obtain ⟨x, p, rfl, hx1, hx2, hg, rfl⟩ := hrel
        by_cases hlt : x < i - 1
        · have hltz2 : (x : Int) < (i : Int) - 1 := by omega
          obtain ⟨dk, hdk⟩ : ∃ d, shr d0 a (x - a) = d := ⟨_, rfl⟩
          have hsk : dk.size = size := by rw [← hdk, shr_size, hs]
          rw [hdk]
          obtain ⟨ya, hya⟩ : ∃ y, dk[x]! = y := ⟨_, rfl⟩
          obtain ⟨yb, hyb⟩ : ∃ y, dk[x + 1]! = y := ⟨_, rfl⟩
          have wb : IntKind.i64.wrap ((x : Int) + 1) = (x : Int) + 1 := by rw [IntKind.wrap_i64]; omega
          have b0 : (0 : Int) ≤ (x : Int) + 1 := by omega
          have az : (x : Int) < (size : Int) := by omega
          have bz : (x : Int) + 1 < (size : Int) := by omega
          have eb : ((x : Int) + 1).toNat = x + 1 := by omega
          have hHd : HoldsK enc k (sortWorldK enc k w blk off p dk oq).drew blk off dk := HB.out.holds p dk oq hsk
          have bnd : ∀ x, x < dk.size → x * k + k ≤ dk.size * k := fun x hx => by
            have := Nat.mul_le_mul_right k (show x + 1 ≤ dk.size from hx); rwa [Nat.add_mul, Nat.one_mul] at this
          generalize hwq : sortWorldK enc k w blk off p dk oq = wq at hHd ⊢
          have la : Sem.run Try.prog (loadCellsFrom ⟨blk, off + x * k, none⟩ 0 k #[]) wq.drew = .ok (enc ya).toArray wq.drew := by rw [← hya]; exact run_loadCellsFrom_list _ _ _ _ k (HB.out.hk _) (HoldsK.cells hHd HB.out.hk (by omega))
          have lb : Sem.run Try.prog (loadCellsFrom ⟨blk, off + (x + 1) * k, none⟩ 0 k #[]) wq.drew = .ok (enc yb).toArray wq.drew := by rw [← hyb]; exact run_loadCellsFrom_list _ _ _ _ k (HB.out.hk _) (HoldsK.cells hHd HB.out.hk (by omega))
          have s1 : Sem.run Try.prog (storeCells ⟨blk, off + x * k, none⟩ (enc yb) 0) wq.drew = .ok () (wq.drew.setCells blk (off + x * k) (enc yb)) := stores_of_holds _ hHd (x * k) _ (by rw [HB.out.hk, size_flatK]; exact bnd x (by omega)) (HB.out.h1 _)
          have s2 : Sem.run Try.prog (storeCells ⟨blk, off + (x + 1) * k, none⟩ (enc ya) 0) (wq.drew.setCells blk (off + x * k) (enc yb)) = .ok () ((wq.drew.setCells blk (off + x * k) (enc yb)).setCells blk (off + (x + 1) * k) (enc ya)) :=
            stores_of_holds _ (holds_setCells_c hHd (x * k) _ (by rw [HB.out.hk, size_flatK]; exact bnd x (by omega))) ((x + 1) * k) _ (by rw [HB.out.hk, size_setMany, size_flatK]; exact bnd (x + 1) (by omega)) (HB.out.h1 _)
          have hsA : (enc ya).length = k := HB.out.hk _
          have hsB : (enc yb).length = k := HB.out.hk _
          have HW : Hid (wq = sortWorldK enc k w blk off p dk oq) := hwq.symm
          have HD : Hid (shr d0 a (x - a) = dk) := hdk
          clear hwq hHd bnd hdk
          obtain ⟨cA, hcA⟩ : ∃ c, c = enc ya := ⟨_, rfl⟩
          obtain ⟨cB, hcB⟩ : ∃ c, c = enc yb := ⟨_, rfl⟩
          rw [← hcA] at la hsA
          rw [← hcB] at lb s1 hsB
          rw [← hcA, ← hcB] at s2
          have CC : Hid (cA = enc ya ∧ cB = enc yb) := ⟨hcA, hcB⟩
          clear hcA hcB
          go_wp2_with fail
          go_big_region_o
          all_goals go_wp2
          go_roundg (i - (x + 1))
          case measure => omega
          case rel =>
            refine ⟨x + 1, p + 1, by go_num, by omega, by omega, Nat.le_refl _, ?_⟩
            rw [CC.out.1, CC.out.2, HW.out, ← hya, ← hyb, show x + 1 - a = (x - a) + 1 by omega, shr, HD.out, show a + (x - a) = x by omega]
            exact sortWorldK_swp_c enc k w blk off HB.out.hk p dk oq HB.out.hb x (x + 1) (by omega) (by omega)
        · have hltz2 : ¬ ((x : Int) < (i : Int) - 1) := by omega
          go_wp2
          refine bodyPost_ret (results_none rfl _ _ _) rfl ?_
          exact ⟨rfl, p, oq, by rw [← HR2.out, show i - 1 - a = x - a by omega]⟩
end Go.Proofs.Ytdlilbleohlmnaa.Stb
