/- The reference of the tables: Cross and Convert. -/
import Derived.Test.YtncbfpigojeekaaDoorD8
namespace Go.Proofs.YtncbfpigojeekaaDoor
open Go.RowKit Go.Lib

set_option maxRecDepth 100000 in
set_option maxHeartbeats 4000000 in
theorem ref11_Cross.calls (base frm too : ByteArray) (kind day : Int) (L : List Rate) (lv : Value) (w : World) (hs : SlR Rate.cells 5 w lv L) (hO : Okay base L) :
    Calls Tryd.prog 20 #[.string base, lv, .string frm, .string too, .int .i64 kind, .int .i64 day] w fun e w' => e = .returned (.tuple #[.int .i64 (crossS base L frm too kind day).1, .int .i64 (crossS base L frm too kind day).2.1, .int .i64 (crossS base L frm too kind day).2.2]) ∧ Below w.heap.size w w' := by
  obtain ⟨fb0, fb1⟩ := findS_bounds hO frm kind day
  obtain ⟨gb0, gb1⟩ := findS_bounds hO too kind day
  have hF := fun (W : World) (hB : Below w.heap.size w W) => ref11_Find.calls base frm kind day L lv W (hs.below hB) hO
  have hG := fun (W : World) (hB : Below w.heap.size w W) => ref11_Find.calls base too kind day L lv W (hs.below hB) hO
  have hS : crossS base L frm too kind day = crossG (findS base L frm kind day) (findS base L too kind day) := rfl
  obtain ⟨⟨f1, f2, f3⟩, hf⟩ : ∃ f, findS base L frm kind day = f := ⟨_, rfl⟩
  obtain ⟨⟨g1, g2, g3⟩, hg⟩ : ∃ g, findS base L too kind day = g := ⟨_, rfl⟩
  rw [hf] at fb0 fb1 hF hS
  rw [hg] at gb0 gb1 hG hS
  simp only at fb0 fb1 gb0 gb1
  have HF := Lib.hid hF; have HG := Lib.hid hG; have HS := Lib.hid hS
  clear hF hG hS hf hg hs
  by_cases h3 : f3 = 0
  · subst h3
    obtain ⟨a0, a1, a2, a3⟩ := fb0 rfl
    by_cases h4 : g3 = 0
    · subst h4
      obtain ⟨c0, c1, c2, c3⟩ := gb0 rfl
      obtain ⟨m0, m1⟩ := mul_small a0 a1 c2 c3
      obtain ⟨k0, k1⟩ := mul_small a2 a3 c0 c1
      obtain ⟨p, hp⟩ : ∃ p, f1 * g2 = p := ⟨_, rfl⟩
      obtain ⟨q, hq⟩ : ∃ q, f2 * g1 = q := ⟨_, rfl⟩
      have HS2 := Lib.hid (show crossS base L frm too kind day = (p / gcdI p q, q / gcdI p q, 0) by rw [HS.out]; unfold crossG; simp [hp, hq])
      have hgp := gcdI_pos p q (by omega)
      rw [hp] at m0 m1
      rw [hq] at k0 k1
      obtain ⟨c, hc⟩ : ∃ c, gcdI p q = c := ⟨_, rfl⟩
      have wm1 : IntKind.i64.wrap (f1 * g2) = p := by rw [hp, IntKind.wrap_i64]; omega
      have wm2 : IntKind.i64.wrap (f2 * g1) = q := by rw [hq, IntKind.wrap_i64]; omega
      have d1 : p.tdiv c = p / c := Int.tdiv_eq_ediv_of_nonneg (by omega)
      have d2 : q.tdiv c = q / c := Int.tdiv_eq_ediv_of_nonneg (by omega)
      rw [hc] at hgp HS2
      have hc0 : ¬ (c = 0) := by omega
      have hcb : (c == 0) = false := by simp [hc0]
      have HC := Lib.hid hc
      clear hc hp hq fb0 fb1 gb0 gb1
      go_enter Tryd.func20, Tryd.ntmps20
      go_wp2_with (first
        | (go_at_call_of 19 (Value.string frm); refine (HF.out _ (Below.refl _ _)).mono ?_; rintro e w1 ⟨rfl, hb1⟩)
        | (go_at_call_of 19 (Value.string too); refine (HG.out _ (hb1.alloc hb1.size _)).mono ?_; rintro e w2 ⟨rfl, hb2⟩; have x0 : w2.cell? ⟨w1.heap.size, 0, none⟩ = some (.int .i64 f1) := ((bcell hb2).1 _ _ (by simp)).trans (by simp); have x1 : w2.cell? ⟨w1.heap.size, 1, none⟩ = some (.int .i64 f2) := ((bcell hb2).1 _ _ (by simp)).trans (by simp); have hz : w1.heap.size < w2.heap.size := (by have := hb2.size; simp at this; omega)))
      go_quiet (fail)
      go_wp2_with (go_at_call 35; refine (ref11_divisor.calls p q _ (by omega) (by omega) (by omega) (by omega)).mono ?_; rintro e w3 ⟨rfl, hb3⟩; rw [HC.out])
      go_quiet (fail)
      go_wp2
      go_ret3
      have b1 : 0 ≤ p / c ∧ p / c ≤ p := ⟨Int.ediv_nonneg (by omega) (by omega), Int.ediv_le_self _ (by omega)⟩
      have b2 : 0 ≤ q / c ∧ q / c ≤ q := ⟨Int.ediv_nonneg (by omega) (by omega), Int.ediv_le_self _ (by omega)⟩
      have e1 : wrap64 (p / c) = p / c := by unfold wrap64; omega
      have e2 : wrap64 (q / c) = q / c := by unfold wrap64; omega
      refine ⟨by rw [HS2.out]; show Ending.returned (.tuple #[.int .i64 (wrap64 (p / c)), .int .i64 (wrap64 (q / c)), .int .i64 0]) = _; rw [e1, e2], ?_⟩
      exact (hb1.trans (((bc1 _ _ _ hb2).alloc (by omega) _).mono hb1.size)).trans (((below_drewN _ _).mono (by have := hb1.size; simp; omega)).trans ((hb3.mono (by have := hb1.size; simp; omega)).trans ((below_drewN _ _).mono (by have h3 : (w2.alloc _).heap.size ≤ w3.heap.size := hb3.size; rw [World.size_alloc] at h3; have h1 := hb1.size; omega))))
    · have HS2 := Lib.hid (show crossS base L frm too kind day = (0, 0, g3) by rw [HS.out]; unfold crossG; simp [h4])
      have hb : (g3 == 0) = false := by simp [h4]
      go_enter Tryd.func20, Tryd.ntmps20
      go_wp2_with (first
        | (go_at_call_of 19 (Value.string frm); refine (HF.out _ (Below.refl _ _)).mono ?_; rintro e w1 ⟨rfl, hb1⟩)
        | (go_at_call_of 19 (Value.string too); refine (HG.out _ (hb1.alloc hb1.size _)).mono ?_; rintro e w2 ⟨rfl, hb2⟩))
      go_ret3
      exact ⟨by rw [HS2.out]; rfl, hb1.trans (((bc1 _ _ _ hb2).alloc (by have := hb2.size; simp at this; omega) _).mono hb1.size)⟩
  · have HS2 := Lib.hid (show crossS base L frm too kind day = (0, 0, f3) by rw [HS.out]; unfold crossG; simp [h3])
    have hb : (f3 == 0) = false := by simp [h3]
    go_enter Tryd.func20, Tryd.ntmps20
    go_wp2_with (go_at_call_of 19 (Value.string frm); refine (HF.out _ (Below.refl _ _)).mono ?_; rintro e w1 ⟨rfl, hb1⟩)
    go_ret3
    exact ⟨by rw [HS2.out]; rfl, hb1.alloc hb1.size _⟩

set_option maxRecDepth 100000 in
set_option maxHeartbeats 4000000 in
theorem ref11_Convert.calls (base frm too : ByteArray) (amount kind day mode : Int) (L : List Rate) (lv : Value) (w : World) (hs : SlR Rate.cells 5 w lv L) (ha : inI amount) (hO : Okay base L) :
    Calls Tryd.prog 21 #[.string base, lv, .int .i64 amount, .string frm, .string too, .int .i64 kind, .int .i64 day, .int .i64 mode] w fun e w' => e = .returned (.tuple #[.int .i64 (convS base L amount frm too kind day mode).1, .int .i64 (convS base L amount frm too kind day mode).2]) ∧ Below w.heap.size w w' := by
  by_cases hm : mode < 1 ∨ 5 < mode
  · have HS := Lib.hid (show convS base L amount frm too kind day mode = (0, 10) by unfold convS; rw [if_pos hm])
    rcases hm with hm | hm
    all_goals
      go_enter Tryd.func21, Tryd.ntmps21
      go_wp2
      go_ret2
      exact ⟨by rw [HS.out]; rfl, Below.refl _ _⟩
  · have HS0 := Lib.hid (show convS base L amount frm too kind day mode = convG amount mode (crossS base L frm too kind day) by unfold convS; rw [if_neg hm])
    have cb := cross_bounds hO frm too kind day
    have HC := Lib.hid (ref11_Cross.calls base frm too kind day L lv w hs hO)
    obtain ⟨⟨c1, c2, c3⟩, hc⟩ : ∃ c, crossS base L frm too kind day = c := ⟨_, rfl⟩
    rw [hc] at cb HC HS0
    simp only at cb HC
    have hm1 : ¬ mode < 1 := fun h => hm (.inl h)
    have hm2 : ¬ 5 < mode := fun h => hm (.inr h)
    clear hc hs hm
    by_cases h3 : c3 = 0
    · subst h3
      obtain ⟨b0, b1, b2, b3⟩ := cb rfl
      by_cases hx1 : 1000000000000000 < amount
      · have HS := Lib.hid (show convS base L amount frm too kind day mode = (0, 4) by rw [HS0.out]; unfold convG largeB; simp [hx1])
        go_enter Tryd.func21, Tryd.ntmps21
        go_wp2_with (go_at_call 20; refine HC.out.mono ?_; rintro e w1 ⟨rfl, hb1⟩)
        go_ret2
        exact ⟨by rw [HS.out]; rfl, hb1⟩
      by_cases hx2 : amount < -1000000000000000
      · have HS := Lib.hid (show convS base L amount frm too kind day mode = (0, 4) by rw [HS0.out]; unfold convG largeB; simp [hx2])
        go_enter Tryd.func21, Tryd.ntmps21
        go_wp2_with (go_at_call 20; refine HC.out.mono ?_; rintro e w1 ⟨rfl, hb1⟩)
        go_ret2
        exact ⟨by rw [HS.out]; rfl, hb1⟩
      have hLA : largeB amount = false := by unfold largeB; simp [hx1, hx2]
      have hmd := fun W => ref02_MulDiv.calls amount c1 c2 mode W ha.1 ha.2 (by omega) (by omega) (by omega) (by omega)
      have HS1 := Lib.hid (show convS base L amount frm too kind day mode = if (mdS amount c1 c2 mode).2 ≠ 0 ∨ largeB (mdS amount c1 c2 mode).1 = true then (0, 4) else ((mdS amount c1 c2 mode).1, 0) by rw [HS0.out]; unfold convG; simp [hLA])
      clear hLA
      obtain ⟨⟨m1, m2⟩, hmm⟩ : ∃ m, mdS amount c1 c2 mode = m := ⟨_, rfl⟩
      rw [hmm] at hmd HS1
      simp only at hmd HS1
      have HM := Lib.hid hmd
      clear hmd hmm
      by_cases h4 : m2 = 0
      · subst h4
        by_cases hy1 : 1000000000000000 < m1
        · have HS := Lib.hid (show convS base L amount frm too kind day mode = (0, 4) by rw [HS1.out]; unfold largeB; simp [hy1])
          go_enter Tryd.func21, Tryd.ntmps21
          go_wp2_with (first | (go_at_call 20; refine HC.out.mono ?_; rintro e w1 ⟨rfl, hb1⟩) | (go_at_call 36; refine (HM.out _).mono ?_; rintro e w2 ⟨rfl, hb2⟩))
          go_ret2
          exact ⟨by rw [HS.out]; rfl, hb1.trans (hb2.mono hb1.size)⟩
        by_cases hy2 : m1 < -1000000000000000
        · have HS := Lib.hid (show convS base L amount frm too kind day mode = (0, 4) by rw [HS1.out]; unfold largeB; simp [hy2])
          go_enter Tryd.func21, Tryd.ntmps21
          go_wp2_with (first | (go_at_call 20; refine HC.out.mono ?_; rintro e w1 ⟨rfl, hb1⟩) | (go_at_call 36; refine (HM.out _).mono ?_; rintro e w2 ⟨rfl, hb2⟩))
          go_ret2
          exact ⟨by rw [HS.out]; rfl, hb1.trans (hb2.mono hb1.size)⟩
        have HS := Lib.hid (show convS base L amount frm too kind day mode = (m1, 0) by rw [HS1.out]; unfold largeB; simp [hy1, hy2])
        go_enter Tryd.func21, Tryd.ntmps21
        go_wp2_with (first | (go_at_call 20; refine HC.out.mono ?_; rintro e w1 ⟨rfl, hb1⟩) | (go_at_call 36; refine (HM.out _).mono ?_; rintro e w2 ⟨rfl, hb2⟩))
        go_ret2
        exact ⟨by rw [HS.out]; rfl, hb1.trans (hb2.mono hb1.size)⟩
      · have hb4 : (m2 == 0) = false := by simp [h4]
        have HS := Lib.hid (show convS base L amount frm too kind day mode = (0, 4) by rw [HS1.out]; simp [h4])
        go_enter Tryd.func21, Tryd.ntmps21
        go_wp2_with (first | (go_at_call 20; refine HC.out.mono ?_; rintro e w1 ⟨rfl, hb1⟩) | (go_at_call 36; refine (HM.out _).mono ?_; rintro e w2 ⟨rfl, hb2⟩))
        go_ret2
        exact ⟨by rw [HS.out]; rfl, hb1.trans (hb2.mono hb1.size)⟩
    · have HS := Lib.hid (show convS base L amount frm too kind day mode = (0, c3) by rw [HS0.out]; unfold convG; simp [h3])
      have hb : (c3 == 0) = false := by simp [h3]
      go_enter Tryd.func21, Tryd.ntmps21
      go_wp2_with (go_at_call 20; refine HC.out.mono ?_; rintro e w1 ⟨rfl, hb1⟩)
      go_ret2
      exact ⟨by rw [HS.out]; rfl, hb1⟩

end Go.Proofs.YtncbfpigojeekaaDoor
