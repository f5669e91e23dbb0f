/- Cross and Convert. -/
import Derived.Test.YtncbfpigojeekaaDoorC9
namespace Go.Proofs.YtncbfpigojeekaaDoor
open Go.RowKit Go.Lib

def crossG (f g : Int × Int × Int) : Int × Int × Int :=
  if f.2.2 ≠ 0 then (0, 0, f.2.2) else if g.2.2 ≠ 0 then (0, 0, g.2.2) else
    (f.1 * g.2.1 / gcdI (f.1 * g.2.1) (f.2.1 * g.1), f.2.1 * g.1 / gcdI (f.1 * g.2.1) (f.2.1 * g.1), 0)
def crossS (base : ByteArray) (L : List Rate) (frm too : ByteArray) (kind day : Int) : Int × Int × Int := crossG (findS base L frm kind day) (findS base L too kind day)
def largeB (n : Int) : Bool := decide (1000000000000000 < n) || decide (n < -1000000000000000)
def convG (amount mode : Int) (c : Int × Int × Int) : Int × Int :=
  if c.2.2 ≠ 0 then (0, c.2.2) else if largeB amount = true then (0, 4) else
    if (mdS amount c.1 c.2.1 mode).2 ≠ 0 ∨ largeB (mdS amount c.1 c.2.1 mode).1 = true then (0, 4) else ((mdS amount c.1 c.2.1 mode).1, 0)
def convS (base : ByteArray) (L : List Rate) (amount : Int) (frm too : ByteArray) (kind day mode : Int) : Int × Int :=
  if mode < 1 ∨ 5 < mode then (0, 10) else convG amount mode (crossS base L frm too kind day)

theorem checkS_ok {base : ByteArray} {r : Rate} (h : checkS base r = 0) : codeB r.cur = true ∧ r.cur ≠ base ∧ (1 ≤ r.kind ∧ r.kind ≤ 3) ∧ isDay r.day = true ∧ rightB r.n r.d = true ∧ 0 < r.n := by
  unfold checkS at h
  split at h
  · cases h
  · rename_i h1
    split at h
    · cases h
    · rename_i h2
      split at h
      · cases h
      · rename_i h3
        split at h
        · cases h
        · rename_i h4
          simp only [Bool.or_eq_true, Bool.not_eq_true', beq_iff_eq, not_or, Bool.not_eq_false, Bool.and_eq_true, decide_eq_true_eq] at h1 h2 h3 h4
          have hb : ¬ (r.cur == base) = true := by intro hh; exact h1.2 (by simpa using hh)
          refine ⟨h1.1, fun e => hb (by rw [e, beq_toListBytes]; simp), ⟨?_, ?_⟩, h3, h4.1, ?_⟩
          · exact h2.1
          · exact h2.2
          · omega
theorem rightB_bounds {n d : Int} (h : rightB n d = true) (hn : 0 < n) : 1 ≤ n ∧ n ≤ 1000000 ∧ 1 ≤ d ∧ d ≤ 1000000 := by
  unfold rightB at h
  simp only [Bool.and_eq_true, decide_eq_true_eq] at h
  have : absI n = n := by unfold absI; rw [if_neg (by omega)]
  omega

theorem findP_mem {L : List Rate} {cur : ByteArray} {kind day : Int} {r : Rate} (h : findP L cur kind day = some r) : r ∈ L ∧ r.key = (cur, kind) := by
  unfold findP at h
  split at h
  · cases h
  · exact (mem_ser L _ r).1 (List.mem_of_getElem? h)
theorem findS_bounds {base : ByteArray} {L : List Rate} (hO : Okay base L) (cur : ByteArray) (kind day : Int) :
    ((findS base L cur kind day).2.2 = 0 → 1 ≤ (findS base L cur kind day).1 ∧ (findS base L cur kind day).1 ≤ 1000000 ∧ 1 ≤ (findS base L cur kind day).2.1 ∧ (findS base L cur kind day).2.1 ≤ 1000000) ∧
    ((findS base L cur kind day).2.2 ≠ 0 → (findS base L cur kind day).1 = 0 ∧ (findS base L cur kind day).2.1 = 0) := by
  unfold findS
  split
  · exact ⟨fun h => absurd h (by decide), fun _ => ⟨rfl, rfl⟩⟩
  · split
    · exact ⟨fun h => absurd h (by decide), fun _ => ⟨rfl, rfl⟩⟩
    · split
      · exact ⟨fun h => absurd h (by decide), fun _ => ⟨rfl, rfl⟩⟩
      · split
        · exact ⟨fun _ => by simp, fun h => absurd rfl h⟩
        · cases hf : findP L cur kind day with
          | none => exact ⟨fun h => absurd h (by decide), fun _ => ⟨rfl, rfl⟩⟩
          | some r =>
            have hc := checkS_ok (hO.2.2 r (findP_mem hf).1).1
            exact ⟨fun _ => rightB_bounds hc.2.2.2.2.1 hc.2.2.2.2.2, fun h => absurd rfl h⟩

theorem mul_small {a b : Int} (a0 : 1 ≤ a) (a1 : a ≤ 1000000) (b0 : 1 ≤ b) (b1 : b ≤ 1000000) : 1 ≤ a * b ∧ a * b ≤ 1000000000000 := by
  constructor
  · have := Int.mul_le_mul a0 b0 (by omega) (by omega); omega
  · have := Int.mul_le_mul a1 b1 (by omega) (by omega); omega

set_option maxHeartbeats 1000000 in
theorem fx_Cross.nil (frm too : ByteArray) (kind day : Int) (w : World) :
    Calls Tryd.prog 17 #[.pointer none, .string frm, .string too, .int .i64 kind, .int .i64 day] w fun e w' => e = .returned (.tuple #[.int .i64 0, .int .i64 0, .int .i64 1]) ∧ Below w.heap.size w w' := by
  go_enter Tryd.func17, Tryd.ntmps17
  go_wp2_with (go_at_call 16; refine (fx_Find.nil _ _ _ _).mono ?_; rintro e w1 ⟨rfl, hb1⟩)
  go_ret3
  exact ⟨rfl, hb1.alloc hb1.size _⟩
set_option maxHeartbeats 1000000 in
theorem fx_Convert.nil (amount : Int) (frm too : ByteArray) (kind day mode : Int) (w : World) :
    Calls Tryd.prog 18 #[.pointer none, .int .i64 amount, .string frm, .string too, .int .i64 kind, .int .i64 day, .int .i64 mode] w fun e w' => e = .returned (.tuple #[.int .i64 0, .int .i64 1]) ∧ Below w.heap.size w w' := by
  go_enter Tryd.func18, Tryd.ntmps18
  go_wp2
  go_ret2
  exact ⟨rfl, Below.refl _ _⟩

set_option maxRecDepth 100000 in
set_option maxHeartbeats 4000000 in
theorem fx_Cross.calls (base frm too : ByteArray) (kind day : Int) (L : List Rate) (B tb : Nat) (n : Int) (w : World) (hl : DaysLaid w) (hfz : frm.size ≤ 140737488351232) (htz : too.size ≤ 140737488351232) (hk : inI kind) (hT : Tab w B tb base n L) (hO : Okay base L) :
    Calls Tryd.prog 17 #[.pointer (some ⟨tb, 0, none⟩), .string frm, .string too, .int .i64 kind, .int .i64 day] w fun e w' => e = .returned (.tuple #[.int .i64 (crossS base L frm too kind day).1, .int .i64 (crossS base L frm too kind day).2.1, .int .i64 (crossS base L frm too kind day).2.2]) ∧ Below w.heap.size w w' := by
  obtain ⟨fb0, fb1⟩ := findS_bounds hO frm kind day
  obtain ⟨gb0, gb1⟩ := findS_bounds hO too kind day
  have hF := fun (W : World) (hB : Below w.heap.size w W) => fx_Find.calls base frm kind day L B tb n W (hl.below hB) hfz hk (hT.mono hB) hO
  have hG := fun (W : World) (hB : Below w.heap.size w W) => fx_Find.calls base too kind day L B tb n W (hl.below hB) htz hk (hT.mono hB) hO
  have hS : crossS base L frm too kind day = crossG (findS base L frm kind day) (findS base L too kind day) := rfl
  obtain ⟨⟨f1, f2, f3⟩, hf⟩ : ∃ f, findS base L frm kind day = f := ⟨_, rfl⟩
  obtain ⟨⟨g1, g2, g3⟩, hg⟩ : ∃ g, findS base L too kind day = g := ⟨_, rfl⟩
  rw [hf] at fb0 fb1 hF hS
  rw [hg] at gb0 gb1 hG hS
  simp only at fb0 fb1 gb0 gb1
  have HF := Lib.hid hF; have HG := Lib.hid hG; have HS := Lib.hid hS
  clear hF hG hS hf hg hl hT
  by_cases h3 : f3 = 0
  · subst h3
    obtain ⟨a0, a1, a2, a3⟩ := fb0 rfl
    by_cases h4 : g3 = 0
    · subst h4
      obtain ⟨c0, c1, c2, c3⟩ := gb0 rfl
      obtain ⟨m0, m1⟩ := mul_small a0 a1 c2 c3
      obtain ⟨k0, k1⟩ := mul_small a2 a3 c0 c1
      obtain ⟨p, hp⟩ : ∃ p, f1 * g2 = p := ⟨_, rfl⟩
      obtain ⟨q, hq⟩ : ∃ q, f2 * g1 = q := ⟨_, rfl⟩
      have HS2 := Lib.hid (show crossS base L frm too kind day = (p / gcdI p q, q / gcdI p q, 0) by rw [HS.out]; unfold crossG; simp [hp, hq])
      have hgp := gcdI_pos p q (by omega)
      rw [hp] at m0 m1
      rw [hq] at k0 k1
      obtain ⟨c, hc⟩ : ∃ c, gcdI p q = c := ⟨_, rfl⟩
      have wm1 : IntKind.i64.wrap (f1 * g2) = p := by rw [hp, IntKind.wrap_i64]; omega
      have wm2 : IntKind.i64.wrap (f2 * g1) = q := by rw [hq, IntKind.wrap_i64]; omega
      have d1 : p.tdiv c = p / c := Int.tdiv_eq_ediv_of_nonneg (by omega)
      have d2 : q.tdiv c = q / c := Int.tdiv_eq_ediv_of_nonneg (by omega)
      rw [hc] at hgp HS2
      have hc0 : ¬ (c = 0) := by omega
      have hcb : (c == 0) = false := by simp [hc0]
      have HC := Lib.hid hc
      clear hc hp hq fb0 fb1 gb0 gb1
      go_enter Tryd.func17, Tryd.ntmps17
      go_wp2_with (first
        | (go_at_call_of 16 (Value.string frm); refine (HF.out _ (Below.refl _ _)).mono ?_; rintro e w1 ⟨rfl, hb1⟩)
        | (go_at_call_of 16 (Value.string too); refine (HG.out _ (hb1.alloc hb1.size _)).mono ?_; rintro e w2 ⟨rfl, hb2⟩; have x0 : w2.cell? ⟨w1.heap.size, 0, none⟩ = some (.int .i64 f1) := ((bcell hb2).1 _ _ (by simp)).trans (by simp); have x1 : w2.cell? ⟨w1.heap.size, 1, none⟩ = some (.int .i64 f2) := ((bcell hb2).1 _ _ (by simp)).trans (by simp); have hz : w1.heap.size < w2.heap.size := (by have := hb2.size; simp at this; omega)))
      go_quiet (fail)
      go_wp2_with (go_at_call 31; refine (fx_divisor.calls p q _ (by omega) (by omega) (by omega) (by omega)).mono ?_; rintro e w3 ⟨rfl, hb3⟩; rw [HC.out])
      go_quiet (fail)
      go_wp2
      go_ret3
      have b1 : 0 ≤ p / c ∧ p / c ≤ p := ⟨Int.ediv_nonneg (by omega) (by omega), Int.ediv_le_self _ (by omega)⟩
      have b2 : 0 ≤ q / c ∧ q / c ≤ q := ⟨Int.ediv_nonneg (by omega) (by omega), Int.ediv_le_self _ (by omega)⟩
      have e1 : wrap64 (p / c) = p / c := by unfold wrap64; omega
      have e2 : wrap64 (q / c) = q / c := by unfold wrap64; omega
      refine ⟨by rw [HS2.out]; show Ending.returned (.tuple #[.int .i64 (wrap64 (p / c)), .int .i64 (wrap64 (q / c)), .int .i64 0]) = _; rw [e1, e2], ?_⟩
      exact (hb1.trans (((bc1 _ _ _ hb2).alloc (by omega) _).mono hb1.size)).trans (((below_drewN _ _).mono (by have := hb1.size; simp; omega)).trans ((hb3.mono (by have := hb1.size; simp; omega)).trans ((below_drewN _ _).mono (by have h3 : (w2.alloc _).heap.size ≤ w3.heap.size := hb3.size; rw [World.size_alloc] at h3; have h1 := hb1.size; omega))))
    · have HS2 := Lib.hid (show crossS base L frm too kind day = (0, 0, g3) by rw [HS.out]; unfold crossG; simp [h4])
      have hb : (g3 == 0) = false := by simp [h4]
      go_enter Tryd.func17, Tryd.ntmps17
      go_wp2_with (first
        | (go_at_call_of 16 (Value.string frm); refine (HF.out _ (Below.refl _ _)).mono ?_; rintro e w1 ⟨rfl, hb1⟩)
        | (go_at_call_of 16 (Value.string too); refine (HG.out _ (hb1.alloc hb1.size _)).mono ?_; rintro e w2 ⟨rfl, hb2⟩))
      go_ret3
      exact ⟨by rw [HS2.out]; rfl, hb1.trans (((bc1 _ _ _ hb2).alloc (by have := hb2.size; simp at this; omega) _).mono hb1.size)⟩
  · have HS2 := Lib.hid (show crossS base L frm too kind day = (0, 0, f3) by rw [HS.out]; unfold crossG; simp [h3])
    have hb : (f3 == 0) = false := by simp [h3]
    go_enter Tryd.func17, Tryd.ntmps17
    go_wp2_with (go_at_call_of 16 (Value.string frm); refine (HF.out _ (Below.refl _ _)).mono ?_; rintro e w1 ⟨rfl, hb1⟩)
    go_ret3
    exact ⟨by rw [HS2.out]; rfl, hb1.alloc hb1.size _⟩

theorem cross_bounds {base : ByteArray} {L : List Rate} (hO : Okay base L) (frm too : ByteArray) (kind day : Int) :
    (crossS base L frm too kind day).2.2 = 0 → 0 ≤ (crossS base L frm too kind day).1 ∧ (crossS base L frm too kind day).1 ≤ 1000000000000 ∧ 0 ≤ (crossS base L frm too kind day).2.1 ∧ (crossS base L frm too kind day).2.1 ≤ 1000000000000 := by
  obtain ⟨fb0, _⟩ := findS_bounds hO frm kind day
  obtain ⟨gb0, _⟩ := findS_bounds hO too kind day
  unfold crossS crossG
  split
  · rename_i h; intro h2; exact absurd h2 h
  · split
    · rename_i h; intro h2; exact absurd h2 h
    · rename_i h1 h2
      intro _
      obtain ⟨a0, a1, a2, a3⟩ := fb0 (by simpa using h1)
      obtain ⟨c0, c1, c2, c3⟩ := gb0 (by simpa using h2)
      obtain ⟨m0, m1⟩ := mul_small a0 a1 c2 c3
      obtain ⟨k0, k1⟩ := mul_small a2 a3 c0 c1
      have hg := gcdI_pos ((findS base L frm kind day).1 * (findS base L too kind day).2.1) ((findS base L frm kind day).2.1 * (findS base L too kind day).1) (by omega)
      simp only
      refine ⟨Int.ediv_nonneg (by omega) (by omega), ?_, Int.ediv_nonneg (by omega) (by omega), ?_⟩
      · exact Int.le_trans (Int.ediv_le_self _ (by omega)) m1
      · exact Int.le_trans (Int.ediv_le_self _ (by omega)) k1

set_option maxRecDepth 100000 in
set_option maxHeartbeats 4000000 in
theorem fx_Convert.calls (base frm too : ByteArray) (amount kind day mode : Int) (L : List Rate) (B tb : Nat) (n : Int) (w : World) (hl : DaysLaid w) (hfz : frm.size ≤ 140737488351232) (htz : too.size ≤ 140737488351232) (ha : inI amount) (hk : inI kind) (hT : Tab w B tb base n L) (hO : Okay base L) :
    Calls Tryd.prog 18 #[.pointer (some ⟨tb, 0, none⟩), .int .i64 amount, .string frm, .string too, .int .i64 kind, .int .i64 day, .int .i64 mode] w fun e w' => e = .returned (.tuple #[.int .i64 (convS base L amount frm too kind day mode).1, .int .i64 (convS base L amount frm too kind day mode).2]) ∧ Below w.heap.size w w' := by
  by_cases hm : mode < 1 ∨ 5 < mode
  · have HS := Lib.hid (show convS base L amount frm too kind day mode = (0, 10) by unfold convS; rw [if_pos hm])
    rcases hm with hm | hm
    all_goals
      go_enter Tryd.func18, Tryd.ntmps18
      go_wp2
      go_ret2
      exact ⟨by rw [HS.out]; rfl, Below.refl _ _⟩
  · have HS0 := Lib.hid (show convS base L amount frm too kind day mode = convG amount mode (crossS base L frm too kind day) by unfold convS; rw [if_neg hm])
    have cb := cross_bounds hO frm too kind day
    have HC := Lib.hid (fx_Cross.calls base frm too kind day L B tb n w hl hfz htz hk hT hO)
    obtain ⟨⟨c1, c2, c3⟩, hc⟩ : ∃ c, crossS base L frm too kind day = c := ⟨_, rfl⟩
    rw [hc] at cb HC HS0
    simp only at cb HC
    have hm1 : ¬ mode < 1 := fun h => hm (.inl h)
    have hm2 : ¬ 5 < mode := fun h => hm (.inr h)
    clear hc hl hT hm
    by_cases h3 : c3 = 0
    · subst h3
      obtain ⟨b0, b1, b2, b3⟩ := cb rfl
      obtain ⟨LA, hLA⟩ : ∃ LA, largeB amount = LA := ⟨_, rfl⟩
      have hla : (decide (1000000000000000 < amount) || decide (amount < -1000000000000000)) = LA := hLA
      have HL := Lib.hid hla
      cases LA with
      | true =>
        have HS := Lib.hid (show convS base L amount frm too kind day mode = (0, 4) by rw [HS0.out]; unfold convG; simp [hLA])
        clear hLA hla
        go_enter Tryd.func18, Tryd.ntmps18
        go_wp2_with (first
          | (go_at_call 17; refine HC.out.mono ?_; rintro e w1 ⟨rfl, hb1⟩)
          | (go_at_call 32; refine (fx_large.calls _ _).mono ?_; rintro e w' ⟨rfl, rfl⟩; rw [HL.out]))
        go_ret2
        exact ⟨by rw [HS.out]; rfl, hb1⟩
      | false =>
        have hmd := fun W => muldiv_MulDiv.calls amount c1 c2 mode W ha.1 ha.2 (by omega) (by omega) (by omega) (by omega)
        have HS1 := Lib.hid (show convS base L amount frm too kind day mode = if (mdS amount c1 c2 mode).2 ≠ 0 ∨ largeB (mdS amount c1 c2 mode).1 = true then (0, 4) else ((mdS amount c1 c2 mode).1, 0) by rw [HS0.out]; unfold convG; simp [hLA])
        clear hLA hla
        obtain ⟨⟨m1, m2⟩, hmm⟩ : ∃ m, mdS amount c1 c2 mode = m := ⟨_, rfl⟩
        rw [hmm] at hmd HS1
        simp only at hmd HS1
        have HM := Lib.hid hmd
        clear hmd hmm
        by_cases h4 : m2 = 0
        · subst h4
          obtain ⟨LB, hLB⟩ : ∃ LB, largeB m1 = LB := ⟨_, rfl⟩
          have hlb : (decide (1000000000000000 < m1) || decide (m1 < -1000000000000000)) = LB := hLB
          have HB := Lib.hid hlb
          have HS := Lib.hid (show convS base L amount frm too kind day mode = if LB = true then (0, 4) else (m1, 0) by rw [HS1.out]; simp [hLB])
          clear hLB hlb
          cases LB
          all_goals
            go_enter Tryd.func18, Tryd.ntmps18
            go_wp2_with (first
              | (go_at_call 17; refine HC.out.mono ?_; rintro e w1 ⟨rfl, hb1⟩)
              | (go_at_call_of 32 (Value.int IntKind.i64 amount); refine (fx_large.calls _ _).mono ?_; rintro e w' ⟨rfl, rfl⟩; rw [HL.out])
              | (go_at_call 33; refine (HM.out _).mono ?_; rintro e w2 ⟨rfl, hb2⟩)
              | (go_at_call_of 32 (Value.int IntKind.i64 m1); refine (fx_large.calls _ _).mono ?_; rintro e w' ⟨rfl, rfl⟩; rw [HB.out]))
            go_ret2
            exact ⟨by rw [HS.out]; rfl, hb1.trans (hb2.mono hb1.size)⟩
        · have hb4 : (m2 == 0) = false := by simp [h4]
          have HS := Lib.hid (show convS base L amount frm too kind day mode = (0, 4) by rw [HS1.out]; simp [h4])
          go_enter Tryd.func18, Tryd.ntmps18
          go_wp2_with (first
            | (go_at_call 17; refine HC.out.mono ?_; rintro e w1 ⟨rfl, hb1⟩)
            | (go_at_call_of 32 (Value.int IntKind.i64 amount); refine (fx_large.calls _ _).mono ?_; rintro e w' ⟨rfl, rfl⟩; rw [HL.out])
            | (go_at_call 33; refine (HM.out _).mono ?_; rintro e w2 ⟨rfl, hb2⟩))
          go_ret2
          exact ⟨by rw [HS.out]; rfl, hb1.trans (hb2.mono hb1.size)⟩
    · have HS := Lib.hid (show convS base L amount frm too kind day mode = (0, c3) by rw [HS0.out]; unfold convG; simp [h3])
      have hb : (c3 == 0) = false := by simp [h3]
      go_enter Tryd.func18, Tryd.ntmps18
      go_wp2_with (go_at_call 17; refine HC.out.mono ?_; rintro e w1 ⟨rfl, hb1⟩)
      go_ret2
      exact ⟨by rw [HS.out]; rfl, hb1⟩

end Go.Proofs.YtncbfpigojeekaaDoor
