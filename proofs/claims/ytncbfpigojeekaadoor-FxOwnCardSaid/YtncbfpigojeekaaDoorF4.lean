/- The law FxOrder, the walk. -/
import Derived.Test.YtncbfpigojeekaaDoorE6
import Derived.Test.YtncbfpigojeekaaDoorF3
import Derived.Maps.AppendAt
import Derived.OwnWalk
namespace Go.Proofs.YtncbfpigojeekaaDoor
open Go.RowKit Go.Lib

theorem AskAt.belowB {w w' : World} {b B : Nat} {a : Ask} {lv : Value} (h : AskAt w b a lv) (hb : b < B) (hB : Below B w w') : AskAt w' b a lv := by
  obtain ⟨hb0, h0, h1, h2, h3, h4, h5, h6, h7⟩ := h
  have c := fun o => hB.cell (p := ⟨b, o, none⟩) hb
  exact ⟨Nat.lt_of_lt_of_le hb0 hB.size, (c 0).trans h0, (c 1).trans h1, (c 2).trans h2, (c 3).trans h3, (c 4).trans h4, (c 5).trans h5, (c 6).trans h6, (c 7).trans h7⟩
theorem own_at {w : World} {B e sz n : Nat} {v : Value} {xs : List Value} (h : w.ownsRow B e sz v n xs) : ∀ k, v.ownBlock = some k → B ≤ k := by
  intro k hk
  rcases owns_block h with ⟨h1, _⟩ | ⟨g, cur, h1, h2, _⟩
  · rw [h1] at hk; cases hk
  · rw [h1] at hk; injection hk with hk; omega
theorem rev_take (l : List Rate) (k : Nat) (hk : k < l.length) : l.reverse.take (k + 1) = l.reverse.take k ++ [l[l.length - 1 - k]] := by
  rw [List.take_succ_eq_append_getElem (by simpa using hk), List.getElem_reverse]

set_option maxRecDepth 100000 in
set_option maxHeartbeats 8000000 in
theorem law11_FxOrder.calls (a : Ask) (lv : Value) (w : World) (hl : DaysLaid w) (hs : SlR Rate.cells 5 w lv a.rates) (hw : a.wf) :
    Calls Tryd.prog 6 #[a.v lv] w fun e w' => e = .returned (.bool true) ∧ Below w.heap.size w w' := by
  have hlives := fun (W : World) (hB : Below w.heap.size w W) => law11_lives.calls W (hl.below hB)
  have HLI := Lib.hid hlives; clear hlives
  have hls : ∀ W, Below w.heap.size w W → DaysLaid W ∧ SlR Rate.cells 5 W lv a.rates := fun W hB => ⟨hl.below hB, hs.below hB⟩
  obtain ⟨A, cp, rfl, hAs⟩ := hs.shape
  have HAS := Lib.hid hAs; clear hAs
  have HLS := Lib.hid hls; clear hls hl hs
  unfold Ask.v
  have HW := Lib.hid hw; clear hw
  by_cases h1 : 60 < a.rates.length
  · have b1 : decide (60 < a.rates.length) = true := decide_eq_true h1
    go_enter Tryd.func6, Tryd.ntmps6
    go_wp2_with (first
      | (go_at_call 10; refine (law11_large.calls _ _ _ _).mono ?_; rintro e w' ⟨rfl, rfl⟩; rw [b1])
      | (go_at_call 11; refine (HLI.out _ (Bn _ _)).mono ?_; rintro e w1 ⟨rfl, hb1⟩))
    go_ret
    exact ⟨rfl, bc1 _ _ _ hb1⟩
  have b1 : decide (60 < a.rates.length) = false := decide_eq_false h1
  have hle : a.rates.length ≤ 60 := by omega
  clear h1
  obtain ⟨i0, hi0, hz0, hz1, hz2⟩ := info_parts info_rate
  have hk0 := AskAt.new w a (.slice A a.rates.length cp) 35
  go_enter Tryd.func6, Tryd.ntmps6
  go_wp2_with (go_at_call 10; refine (law11_large.calls _ _ _ _).mono ?_; rintro e w' ⟨rfl, rfl⟩; rw [b1])
  go_loopg [3, 4] a.rates.length (fun g s3 s4 wr => ∃ k : Nat, g = a.rates.length - k ∧ k ≤ a.rates.length ∧ s4 = .int .i64 ((a.rates.length : Int) - 1 - k) ∧ Below w.heap.size w wr ∧ AskAt wr w.heap.size a (.slice A a.rates.length cp) ∧ Hid (wr.ownsRow (w.heap.size + 1) 51 5 s3 k (flat (a.rates.reverse.take k))))
  case atStart =>
    refine ⟨0, rfl, Nat.zero_le _, by simp, Ba (Bn _ _) _, hk0.below (Bn _ _), Lib.hid ⟨rfl, .inr ⟨_, 0, #[], rfl, ?_, ?_, Nat.le_refl _, by unfold maxLen; omega, rfl, rfl⟩⟩⟩
    · simp
    · rw [← World.size_alloc w]; exact heap_alloc_new _ _
  case round =>
    obtain ⟨k, rfl, hk, rfl, hbr, hask, HO⟩ := hrel
    obtain ⟨kz, k0, k1, k2, k3, k4, k5, k6, k7⟩ := id hask
    by_cases hlt : k < a.rates.length
    · have hge : (0 : Int) ≤ (a.rates.length : Int) - 1 - k := by omega
      obtain ⟨b, o, rfl, hbw, hc⟩ := HAS.out (a.rates.length - 1 - k) (by omega)
      have hc' := fun j u hu => (hbr.cell (p := ⟨b, o + (a.rates.length - 1 - k) * 5 + j, none⟩) hbw).trans (hc j u hu)
      obtain ⟨q, hq⟩ : ∃ q, a.rates[a.rates.length - 1 - k] = q := ⟨_, rfl⟩
      rw [hq] at hc'
      obtain ⟨p0, p1, p2, p3, p4⟩ := Rate.five hc'
      have HT := Lib.hid (show a.rates.reverse.take (k + 1) = a.rates.reverse.take k ++ [q] by rw [rev_take _ _ hlt, hq])
      clear hc hc' hq
      have hdk : decide ((k : Int) ≤ (a.rates.length : Int) - 1) = true := decide_eq_true (by omega)
      have hrow := HO.out
      have hz := hbr.size
      go_wp2_with (at_builtin; refine wpList_append_own _ rfl (.tmp 28) (.tmp 34) 22 rfl (w.heap.size + 1) 51 i0 _ 5 48 Tryd.underlying22 hi0 hz0 hz1 hz2 rfl (by decide) _ k _ rfl (hrow.alloc _) ⟨wr.heap.size, 0, none⟩ 1 1 q.cells rfl rfl ?c1 (Rate.cells_one q) ?c3 ?c4 ?c5 ?_; (case c1 => intro j u hu; rw [Addr.add_lit]; have hj : j < 5 := (List.getElem?_eq_some_iff.1 hu).1; match j, hj with | 0, _ => (simp [Rate.cells] at hu; subst hu; simp) | 1, _ => (simp [Rate.cells] at hu; subst hu; simp) | 2, _ => (simp [Rate.cells] at hu; subst hu; simp) | 3, _ => (simp [Rate.cells] at hu; subst hu; simp) | 4, _ => (simp [Rate.cells] at hu; subst hu; simp)); (case c3 => unfold maxLen; omega); (case c4 => omega); (case c5 => simp; omega); intro v1 w1 hown1 hgrow1 hnil1)
      have hb1 : Below (w.heap.size + 1) wr w1 := ((Below.refl _ wr).alloc (by omega) _).grown hgrow1 (by simp; omega) (own_at hrow)
      clear hrow
      go_roundg (a.rates.length - (k + 1))
      case measure => omega
      case rel => exact ⟨k + 1, rfl, by omega, by go_num, hbr.trans (hb1.mono (by omega)), hask.belowB (by omega) hb1, Lib.hid (by rw [HT.out, flat_append]; simpa [flat] using hown1)⟩
    · have hkl : k = a.rates.length := by omega
      subst hkl
      have hdk : decide ((a.rates.length : Int) ≤ (a.rates.length : Int) - 1) = false := decide_eq_false (by omega)
      have hslr := slr_of_owns HO.out (by rw [List.length_take, List.length_reverse]; omega)
      rw [List.take_of_length_le (by rw [List.length_reverse]; exact Nat.le_refl _)] at hslr
      obtain ⟨A2, cp2, rfl, _⟩ := hslr.shape
      have hlr : a.rates.reverse.length = a.rates.length := List.length_reverse
      rw [hlr] at hslr ⊢
      have hsb : ∀ W, Below wr.heap.size wr W → SlR Rate.cells 5 W (.slice A2 a.rates.length cp2) a.rates.reverse := fun W hB => hslr.below hB
      clear hslr HO
      have HSB := Lib.hid hsb; clear hsb
      have hwf2 : ∀ r ∈ a.rates.reverse, r.wf := fun r hr => HW.out.rates r (List.mem_reverse.1 hr)
      have HWF := Lib.hid hwf2; clear hwf2
      obtain ⟨⟨i, e⟩, hN⟩ : ∃ p, newS a.base a.rates = p := ⟨_, rfl⟩
      obtain ⟨⟨j, f⟩, hM⟩ : ∃ p, newS a.base a.rates.reverse = p := ⟨_, rfl⟩
      have hiff := newS_reverse a.base a.rates
      rw [hN, hM] at hiff
      simp only at hiff
      have HN := Lib.hid hN; have HM := Lib.hid hM; clear hN hM
      have HLR := Lib.hid hlr; clear hlr
      by_cases he : e = 0
      · have hf := hiff.2 he
        subst he hf
        clear hiff
        have hnew := fun (W : World) (hB : Below w.heap.size w W) => fx_New_ok HN.out _ W (HLS.out W hB).1 (HLS.out W hB).2 HW.out.rates HW.out.base HW.out.len
        have hnew2 := fun (W : World) (hB : Below wr.heap.size wr W) => fx_New_ok HM.out _ W (HLS.out W (Bt hbr hB)).1 (HSB.out W hB) HWF.out HW.out.base (by rw [HLR.out]; exact HW.out.len)
        have HNE := Lib.hid hnew; have HNE2 := Lib.hid hnew2; clear hnew hnew2
        have hF := fun (W : World) (B tb : Nat) (hB : Below w.heap.size w W) (hT : Tab W B tb a.base a.rates.length a.rates) (hO : Okay a.base a.rates) => fx_Find.calls a.base a.frm a.kind a.day a.rates B tb a.rates.length W (HLS.out W hB).1 HW.out.frm HW.out.kind hT hO
        have hG := fun (W : World) (B tb : Nat) (hB : Below w.heap.size w W) (hT : Tab W B tb a.base a.rates.reverse.length a.rates.reverse) (hO : Okay a.base a.rates.reverse) => fx_Find.calls a.base a.frm a.kind a.day a.rates.reverse B tb a.rates.reverse.length W (HLS.out W hB).1 HW.out.frm HW.out.kind hT hO
        have HF := Lib.hid hF; have HG := Lib.hid hG; clear hF hG
        have hef := eq_frac
        go_upto_region 9 with (go_at_call 12; refine (HNE.out _ hbr).mono ?_; rintro e w1 ⟨tb, rfl, hb1, hT1, hO1⟩; have hk1 := hask.below hb1; clear kz k0 k1 k2 k3 k4 k5 k6 k7; obtain ⟨kz, k0, k1, k2, k3, k4, k5, k6, k7⟩ := id hk1)
        go_upto_region 10 with (go_at_call 12; refine (HNE2.out _ hb1).mono ?_; rintro e w2 ⟨ub, rfl, hb2, hU2, hO2⟩; have hk2 := hk1.below hb2; clear kz k0 k1 k2 k3 k4 k5 k6 k7; obtain ⟨kz, k0, k1, k2, k3, k4, k5, k6, k7⟩ := id hk2)
        have hT2 := hT1.mono hb2
        have c2 := Bt (Bt hbr hb1) hb2
        have hfe := findS_reverse (base := a.base) hO1.1 hO2.1 a.frm a.kind a.day
        have hF := HF.out _ _ _ c2 hT2 hO1
        have hG := fun W (hB : Below w2.heap.size w2 W) => HG.out W _ _ (Bt c2 hB) (hU2.mono hB) hO2
        rw [hfe] at hG
        obtain ⟨⟨f1, f2, f3⟩, hfv⟩ : ∃ f, findS a.base a.rates a.frm a.kind a.day = f := ⟨_, rfl⟩
        rw [hfv] at hF hG
        simp only at hF hG
        clear HF HG hfe hfv
        have HF := Lib.hid hF; have HG := Lib.hid hG
        clear hF hG
        go_upto_region 11 with (go_at_call 16; refine (HF.out).mono ?_; rintro e w3 ⟨rfl, hb3⟩; have hk3 := hk2.below hb3; clear kz k0 k1 k2 k3 k4 k5 k6 k7; obtain ⟨kz, k0, k1, k2, k3, k4, k5, k6, k7⟩ := id hk3)
        have d3 := Ba hb3 (.cells #[.int .i64 f1, .int .i64 f2] 37)
        go_wp2_with (first
          | (go_at_call 16; refine (HG.out _ d3).mono ?_; rintro e w4 ⟨rfl, hb4⟩; have c4 := Bt c2 (Bt d3 hb4); have hz1 := (Two.new w3 (.int .i64 f1) (.int .i64 f2) 37).below (by simp) hb4; obtain ⟨za, zb, _, _⟩ := hz1; have hz2 : w3.heap.size < w4.heap.size := by have := hb4.size; simp at this; omega)
          | (go_at_call 11; refine (HLI.out _ (Ba c4 _)).mono ?_; rintro e w8 ⟨rfl, hb8⟩))
        go_ret
        exact ⟨rfl, Bt (Ba c4 _) hb8⟩
      · have hf : f ≠ 0 := fun h => he (hiff.1 h)
        have hnew := fun (W : World) (hB : Below w.heap.size w W) => fx_New_err HN.out he _ W (HLS.out W hB).1 (HLS.out W hB).2 HW.out.rates HW.out.base HW.out.len
        have hnew2 := fun (W : World) (hB : Below wr.heap.size wr W) => fx_New_err HM.out hf _ W (HLS.out W (Bt hbr hB)).1 (HSB.out W hB) HWF.out HW.out.base (by rw [HLR.out]; exact HW.out.len)
        have HNE := Lib.hid hnew; have HNE2 := Lib.hid hnew2; clear hnew hnew2
        have heb : (e == 0) = false := by simp [he]
        have hfb : (f == 0) = false := by simp [hf]
        have hef := eq_frac
        clear hiff he hf
        go_upto_region 9 with (go_at_call 12; refine (HNE.out _ hbr).mono ?_; rintro e w1 ⟨rfl, hb1⟩; have hk1 := hask.below hb1; clear kz k0 k1 k2 k3 k4 k5 k6 k7; obtain ⟨kz, k0, k1, k2, k3, k4, k5, k6, k7⟩ := id hk1)
        go_upto_region 10 with (go_at_call 12; refine (HNE2.out _ hb1).mono ?_; rintro e w2 ⟨rfl, hb2⟩; have hk2 := hk1.below hb2; clear kz k0 k1 k2 k3 k4 k5 k6 k7; obtain ⟨kz, k0, k1, k2, k3, k4, k5, k6, k7⟩ := id hk2)
        have c2 := Bt (Bt hbr hb1) hb2
        go_upto_region 11 with (go_at_call 16; refine (fx_Find.nil _ _ _ _).mono ?_; rintro e w3 ⟨rfl, hb3⟩; have hk3 := hk2.below hb3; clear kz k0 k1 k2 k3 k4 k5 k6 k7; obtain ⟨kz, k0, k1, k2, k3, k4, k5, k6, k7⟩ := id hk3)
        have d3 := Ba hb3 (.cells #[.int .i64 0, .int .i64 0] 37)
        go_wp2_with (first
          | (go_at_call 16; refine (fx_Find.nil _ _ _ _).mono ?_; rintro e w4 ⟨rfl, hb4⟩; have c4 := Bt c2 (Bt d3 hb4); have hz1 := (Two.new w3 (.int .i64 0) (.int .i64 0) 37).below (by simp) hb4; obtain ⟨za, zb, _, _⟩ := hz1; have hz2 : w3.heap.size < w4.heap.size := by have := hb4.size; simp at this; omega)
          | (go_at_call 11; refine (HLI.out _ (Ba c4 _)).mono ?_; rintro e w8 ⟨rfl, hb8⟩))
        go_ret
        exact ⟨rfl, Bt (Ba c4 _) hb8⟩

end Go.Proofs.YtncbfpigojeekaaDoor
