/- The law FxAnswers, the walk. -/
import Derived.Test.YtncbfpigojeekaaDoorE2
namespace Go.Proofs.YtncbfpigojeekaaDoor
open Go.RowKit Go.Lib

structure Ask where
  base : ByteArray
  rates : List Rate
  frm : ByteArray
  too : ByteArray
  kind : Int
  day : Int
  amount : Int
  mode : Int
def Ask.v (a : Ask) (lv : Value) : Value := .agg #[.string a.base, lv, .string a.frm, .string a.too, .int .i64 a.kind, .int .i64 a.day, .int .i64 a.amount, .int .i64 a.mode]
structure Ask.wf (a : Ask) : Prop where
  base : a.base.size ≤ 140737488351232
  frm : a.frm.size ≤ 140737488351232
  too : a.too.size ≤ 140737488351232
  kind : inI a.kind
  day : inI a.day
  amount : inI a.amount
  mode : inI a.mode
  rates : ∀ r ∈ a.rates, r.wf
  bytes : a.rates.length * 48 ≤ 140737488351232
theorem Ask.wf.len {a : Ask} (h : a.wf) : a.rates.length ≤ 4611686018427387904 := by have := h.bytes; omega
/-- the box of the argument, in a later world -/
def AskAt (w : World) (b : Nat) (a : Ask) (lv : Value) : Prop :=
  b < w.heap.size ∧ w.cell? ⟨b, 0, none⟩ = some (.string a.base) ∧ w.cell? ⟨b, 1, none⟩ = some lv ∧ w.cell? ⟨b, 2, none⟩ = some (.string a.frm) ∧ w.cell? ⟨b, 3, none⟩ = some (.string a.too) ∧
  w.cell? ⟨b, 4, none⟩ = some (.int .i64 a.kind) ∧ w.cell? ⟨b, 5, none⟩ = some (.int .i64 a.day) ∧ w.cell? ⟨b, 6, none⟩ = some (.int .i64 a.amount) ∧ w.cell? ⟨b, 7, none⟩ = some (.int .i64 a.mode)
theorem AskAt.new (w : World) (a : Ask) (lv : Value) (t : TypeId) : AskAt (w.alloc (.cells #[.string a.base, lv, .string a.frm, .string a.too, .int .i64 a.kind, .int .i64 a.day, .int .i64 a.amount, .int .i64 a.mode] t)) w.heap.size a lv :=
  ⟨by simp, by simp, by simp, by simp, by simp, by simp, by simp, by simp, by simp⟩
theorem AskAt.below {w w' : World} {b : Nat} {a : Ask} {lv : Value} (h : AskAt w b a lv) (hB : Below w.heap.size w w') : AskAt w' b a lv := by
  obtain ⟨hb, h0, h1, h2, h3, h4, h5, h6, h7⟩ := h
  have c := fun o => (bcell hB).1 b o hb
  exact ⟨Nat.lt_of_lt_of_le hb hB.size, (c 0).trans h0, (c 1).trans h1, (c 2).trans h2, (c 3).trans h3, (c 4).trans h4, (c 5).trans h5, (c 6).trans h6, (c 7).trans h7⟩

set_option maxRecDepth 100000 in
set_option maxHeartbeats 8000000 in
theorem law11_FxAnswers.calls (a : Ask) (lv : Value) (w : World) (hl : DaysLaid w) (hs : SlR Rate.cells 5 w lv a.rates) (hw : a.wf) :
    Calls Tryd.prog 4 #[a.v lv] w fun e w' => e = .returned (.bool true) ∧ Below w.heap.size w w' := by
  have hlives := fun (W : World) (hB : Below w.heap.size w W) => law11_lives.calls W (hl.below hB)
  have HLI := Lib.hid hlives; clear hlives
  have hls : ∀ W, Below w.heap.size w W → DaysLaid W ∧ SlR Rate.cells 5 W lv a.rates := fun W hB => ⟨hl.below hB, hs.below hB⟩
  obtain ⟨A, cp, rfl, _⟩ := hs.shape
  have HLS := Lib.hid hls; clear hls hl hs
  unfold Ask.v
  have HW := Lib.hid hw; clear hw
  by_cases h1 : 60 < a.rates.length
  · have b1 : decide (60 < a.rates.length) = true := decide_eq_true h1
    go_enter Tryd.func4, Tryd.ntmps4
    go_wp2_with (first
      | (go_at_call 10; refine (law11_large.calls _ _ _ _).mono ?_; rintro e w' ⟨rfl, rfl⟩; rw [b1])
      | (go_at_call 11; refine (HLI.out _ (Bn _ _)).mono ?_; rintro e w1 ⟨rfl, hb1⟩))
    go_ret
    exact ⟨rfl, bc1 _ _ _ hb1⟩
  have b1 : decide (60 < a.rates.length) = false := decide_eq_false h1
  obtain ⟨⟨i, e⟩, hN⟩ : ∃ p, newS a.base a.rates = p := ⟨_, rfl⟩
  have HN := Lib.hid hN; clear hN
  by_cases he : e = 0
  · subst he
    have hnew := fun (W : World) (hB : Below w.heap.size w W) => fx_New_ok HN.out _ W (HLS.out W hB).1 (HLS.out W hB).2 HW.out.rates HW.out.base HW.out.len
    have HNE := Lib.hid hnew; clear hnew
    have hF := fun (W : World) (B tb : Nat) (hB : Below w.heap.size w W) (hT : Tab W B tb a.base a.rates.length a.rates) (hO : Okay a.base a.rates) => fx_Find.calls a.base a.frm a.kind a.day a.rates B tb a.rates.length W (HLS.out W hB).1 HW.out.frm HW.out.kind hT hO
    have hG := fun (W : World) (B tb : Nat) (hB : Below w.heap.size w W) (hT : Tab W B tb a.base a.rates.length a.rates) (hO : Okay a.base a.rates) => fx_Cross.calls a.base a.frm a.too a.kind a.day a.rates B tb a.rates.length W (HLS.out W hB).1 HW.out.frm HW.out.too HW.out.kind hT hO
    have hV := fun (W : World) (B tb : Nat) (hB : Below w.heap.size w W) (hT : Tab W B tb a.base a.rates.length a.rates) (hO : Okay a.base a.rates) => fx_Convert.calls a.base a.frm a.too a.amount a.kind a.day a.mode a.rates B tb a.rates.length W (HLS.out W hB).1 HW.out.frm HW.out.too HW.out.amount HW.out.kind hT hO
    have rF := fun (W : World) (hB : Below w.heap.size w W) (hO : Okay a.base a.rates) => ref11_Find.calls a.base a.frm a.kind a.day a.rates _ W (HLS.out W hB).2 hO
    have rG := fun (W : World) (hB : Below w.heap.size w W) (hO : Okay a.base a.rates) => ref11_Cross.calls a.base a.frm a.too a.kind a.day a.rates _ W (HLS.out W hB).2 hO
    have rV := fun (W : World) (hB : Below w.heap.size w W) (hO : Okay a.base a.rates) => ref11_Convert.calls a.base a.frm a.too a.amount a.kind a.day a.mode a.rates _ W (HLS.out W hB).2 HW.out.amount hO
    obtain ⟨⟨f1, f2, f3⟩, hf⟩ : ∃ f, findS a.base a.rates a.frm a.kind a.day = f := ⟨_, rfl⟩
    obtain ⟨⟨g1, g2, g3⟩, hg⟩ : ∃ g, crossS a.base a.rates a.frm a.too a.kind a.day = g := ⟨_, rfl⟩
    obtain ⟨⟨c1, c2⟩, hc⟩ : ∃ c, convS a.base a.rates a.amount a.frm a.too a.kind a.day a.mode = c := ⟨_, rfl⟩
    rw [hf] at hF rF
    rw [hg] at hG rG
    rw [hc] at hV rV
    simp only at hF rF hG rG hV rV
    have HF := Lib.hid hF; have HG := Lib.hid hG; have HV := Lib.hid hV; have RF := Lib.hid rF; have RG := Lib.hid rG; have RV := Lib.hid rV
    clear hF rF hG rG hV rV hf hg hc
    have hef := eq_frac
    have hk0 := AskAt.new w a (.slice A a.rates.length cp) 35
    go_enter Tryd.func4, Tryd.ntmps4
    go_upto_region 4 with (first
      | (go_at_call 10; refine (law11_large.calls _ _ _ _).mono ?_; rintro e w' ⟨rfl, rfl⟩; rw [b1])
      | (go_at_call 12; refine (HNE.out _ (Bn _ _)).mono ?_; rintro e w1 ⟨tb, rfl, hb1, hT1, hO⟩))
    have hk1 := hk0.below hb1
    have c1 := bc1 _ _ _ hb1
    obtain ⟨kz, k0, k1, k2, k3, k4, k5, k6, k7⟩ := id hk1
    go_wp2_with (first
      | (go_at_call 16; refine (HF.out _ _ _ c1 hT1 hO).mono ?_; rintro e w2 ⟨rfl, hb2⟩; have d2 := Ba hb2 (.cells #[.int .i64 f1, .int .i64 f2] 37); have c2 := Bt c1 d2; have hT2 := hT1.mono d2; have hk2 := hk1.below hb2; clear kz k0 k1 k2 k3 k4 k5 k6 k7; obtain ⟨kz, k0, k1, k2, k3, k4, k5, k6, k7⟩ := id hk2)
      | (go_at_call 19; refine (RF.out _ c2 hO).mono ?_; rintro e w3 ⟨rfl, hb3⟩; have d3 := Ba hb3 (.cells #[.int .i64 f1, .int .i64 f2] 37); have c3 := Bt c2 d3; have hT3 := hT2.mono d3; have hk3 := (hk2.below (Bn _ _)).below hb3; clear kz k0 k1 k2 k3 k4 k5 k6 k7; obtain ⟨kz, k0, k1, k2, k3, k4, k5, k6, k7⟩ := id hk3)
      | (go_at_call 17; refine (HG.out _ _ _ c3 hT3 hO).mono ?_; rintro e w4 ⟨rfl, hb4⟩; have c4 := Bt c3 hb4; have hT4 := hT3.mono hb4; have hk4 := (hk3.below (Bn _ _)).below hb4; clear kz k0 k1 k2 k3 k4 k5 k6 k7; obtain ⟨kz, k0, k1, k2, k3, k4, k5, k6, k7⟩ := id hk4)
      | (go_at_call 20; refine (RG.out _ c4 hO).mono ?_; rintro e w5 ⟨rfl, hb5⟩; have c5 := Bt c4 hb5; have hT5 := hT4.mono hb5; have hk5 := hk4.below hb5; clear kz k0 k1 k2 k3 k4 k5 k6 k7; obtain ⟨kz, k0, k1, k2, k3, k4, k5, k6, k7⟩ := id hk5)
      | (go_at_call 18; refine (HV.out _ _ _ c5 hT5 hO).mono ?_; rintro e w6 ⟨rfl, hb6⟩; have c6 := Bt c5 hb6; have hk6 := hk5.below hb6; clear kz k0 k1 k2 k3 k4 k5 k6 k7; obtain ⟨kz, k0, k1, k2, k3, k4, k5, k6, k7⟩ := id hk6)
      | (go_at_call 21; refine (RV.out _ c6 hO).mono ?_; rintro e w7 ⟨rfl, hb7⟩; have c7 := Bt c6 hb7; clear kz k0 k1 k2 k3 k4 k5 k6 k7; have hz1 := (Two.new w2 (.int .i64 f1) (.int .i64 f2) 37).below (by simp) (Bt (Bt (Bt (Bt d3 hb4) hb5) hb6) hb7); have hz2 := (Two.new w3 (.int .i64 f1) (.int .i64 f2) 37).below (by simp) (Bt (Bt (Bt hb4 hb5) hb6) hb7); obtain ⟨za, zb, _, _⟩ := hz1; obtain ⟨ya, yb, _, _⟩ := hz2)
      | (go_at_call 11; refine (HLI.out _ c7).mono ?_; rintro e w8 ⟨rfl, hb8⟩))
    go_ret
    exact ⟨rfl, Bt c7 hb8⟩
  · have hnew := fun (W : World) (hB : Below w.heap.size w W) => fx_New_err HN.out he _ W (HLS.out W hB).1 (HLS.out W hB).2 HW.out.rates HW.out.base HW.out.len
    have HNE := Lib.hid hnew; clear hnew
    have heb : (e == 0) = false := by simp [he]
    have hk0 := AskAt.new w a (.slice A a.rates.length cp) 35
    go_enter Tryd.func4, Tryd.ntmps4
    go_upto_region 4 with (first
      | (go_at_call 10; refine (law11_large.calls _ _ _ _).mono ?_; rintro e w' ⟨rfl, rfl⟩; rw [b1])
      | (go_at_call 12; refine (HNE.out _ (Bn _ _)).mono ?_; rintro e w1 ⟨rfl, hb1⟩))
    have hk1 := hk0.below hb1
    have c1 := bc1 _ _ _ hb1
    obtain ⟨kz, k0, k1, k2, k3, k4, k5, k6, k7⟩ := id hk1
    go_wp2_with (first
      | (go_at_call 16; refine (fx_Find.nil _ _ _ _).mono ?_; rintro e w2 ⟨rfl, hb2⟩; have d2 := Ba hb2 (.cells #[.int .i64 0, .int .i64 0] 37); have c2 := Bt c1 d2; have hk2 := hk1.below hb2; clear kz k0 k1 k2 k3 k4 k5 k6 k7; obtain ⟨kz, k0, k1, k2, k3, k4, k5, k6, k7⟩ := id hk2)
      | (go_at_call 17; refine (fx_Cross.nil _ _ _ _ _).mono ?_; rintro e w4 ⟨rfl, hb4⟩; have c4 := Bt c2 hb4; have hk4 := (hk2.below (Bn _ _)).below hb4; clear kz k0 k1 k2 k3 k4 k5 k6 k7; obtain ⟨kz, k0, k1, k2, k3, k4, k5, k6, k7⟩ := id hk4)
      | (go_at_call 18; refine (fx_Convert.nil _ _ _ _ _ _ _).mono ?_; rintro e w6 ⟨rfl, hb6⟩; have c6 := Bt c4 hb6)
      | (go_at_call 11; refine (HLI.out _ c6).mono ?_; rintro e w8 ⟨rfl, hb8⟩))
    go_ret
    exact ⟨rfl, Bt c6 hb8⟩

end Go.Proofs.YtncbfpigojeekaaDoor
