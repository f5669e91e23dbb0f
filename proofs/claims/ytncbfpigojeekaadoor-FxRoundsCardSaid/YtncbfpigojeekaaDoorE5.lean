/- The law FxInverse, the walk. -/
import Derived.Test.YtncbfpigojeekaaDoorE4
namespace Go.Proofs.YtncbfpigojeekaaDoor
open Go.RowKit Go.Lib

set_option maxRecDepth 100000 in
set_option maxHeartbeats 8000000 in
theorem law11_FxInverse.calls (a : Ask) (lv : Value) (w : World) (hl : DaysLaid w) (hs : SlR Rate.cells 5 w lv a.rates) (hw : a.wf) :
    Calls Tryd.prog 7 #[a.v lv] w fun e w' => e = .returned (.bool true) ∧ Below w.heap.size w w' := by
  have hlives := fun (W : World) (hB : Below w.heap.size w W) => law11_lives.calls W (hl.below hB)
  have HLI := Lib.hid hlives; clear hlives
  have hls : ∀ W, Below w.heap.size w W → DaysLaid W ∧ SlR Rate.cells 5 W lv a.rates := fun W hB => ⟨hl.below hB, hs.below hB⟩
  obtain ⟨A, cp, rfl, _⟩ := hs.shape
  have HLS := Lib.hid hls; clear hls hl hs
  unfold Ask.v
  have HW := Lib.hid hw; clear hw
  by_cases h1 : 60 < a.rates.length
  · have b1 : decide (60 < a.rates.length) = true := decide_eq_true h1
    go_enter Tryd.func7, Tryd.ntmps7
    go_wp2_with (first
      | (go_at_call 10; refine (law11_large.calls _ _ _ _).mono ?_; rintro e w' ⟨rfl, rfl⟩; rw [b1])
      | (go_at_call 11; refine (HLI.out _ (Bn _ _)).mono ?_; rintro e w1 ⟨rfl, hb1⟩))
    go_ret
    exact ⟨rfl, bc1 _ _ _ hb1⟩
  have b1 : decide (60 < a.rates.length) = false := decide_eq_false h1
  obtain ⟨⟨i, e⟩, hN⟩ : ∃ p, newS a.base a.rates = p := ⟨_, rfl⟩
  have HN := Lib.hid hN; clear hN
  by_cases he : e = 0
  · subst he
    have hnew := fun (W : World) (hB : Below w.heap.size w W) => fx_New_ok HN.out _ W (HLS.out W hB).1 (HLS.out W hB).2 HW.out.rates HW.out.base HW.out.len
    have HNE := Lib.hid hnew; clear hnew
    have hG := fun (W : World) (B tb : Nat) (hB : Below w.heap.size w W) (hT : Tab W B tb a.base a.rates.length a.rates) (hO : Okay a.base a.rates) => fx_Cross.calls a.base a.frm a.too a.kind a.day a.rates B tb a.rates.length W (HLS.out W hB).1 HW.out.frm HW.out.too HW.out.kind hT hO
    have hK := fun (W : World) (B tb : Nat) (hB : Below w.heap.size w W) (hT : Tab W B tb a.base a.rates.length a.rates) (hO : Okay a.base a.rates) => fx_Cross.calls a.base a.too a.frm a.kind a.day a.rates B tb a.rates.length W (HLS.out W hB).1 HW.out.too HW.out.frm HW.out.kind hT hO
    have hS := fun (W : World) (B tb : Nat) (hB : Below w.heap.size w W) (hT : Tab W B tb a.base a.rates.length a.rates) (hO : Okay a.base a.rates) => fx_Cross.calls a.base a.frm a.frm a.kind a.day a.rates B tb a.rates.length W (HLS.out W hB).1 HW.out.frm HW.out.frm HW.out.kind hT hO
    have hk0 := AskAt.new w a (.slice A a.rates.length cp) 35
    have HG := Lib.hid hG; have HK := Lib.hid hK; have HS := Lib.hid hS
    clear hG hK hS
    go_enter Tryd.func7, Tryd.ntmps7
    go_upto_region 6 with (first
      | (go_at_call 10; refine (law11_large.calls _ _ _ _).mono ?_; rintro e w' ⟨rfl, rfl⟩; rw [b1])
      | (go_at_call 12; refine (HNE.out _ (Bn _ _)).mono ?_; rintro e w1 ⟨tb, rfl, hb1, hT1, hO⟩))
    have hk1 := hk0.below hb1
    have c1 := bc1 _ _ _ hb1
    have hci := cross_inverse hO a.frm a.too a.kind a.day
    have hG := HG.out _ _ _ c1 hT1 hO
    have hK := fun W (hB : Below w1.heap.size w1 W) => HK.out W _ _ (Bt c1 hB) (hT1.mono hB) hO
    have hS := fun W (hB : Below w1.heap.size w1 W) => HS.out W _ _ (Bt c1 hB) (hT1.mono hB) hO
    obtain ⟨⟨g1, g2, g3⟩, hg⟩ : ∃ g, crossS a.base a.rates a.frm a.too a.kind a.day = g := ⟨_, rfl⟩
    obtain ⟨⟨m1, m2, m3⟩, hm⟩ : ∃ g, crossS a.base a.rates a.too a.frm a.kind a.day = g := ⟨_, rfl⟩
    rw [hg] at hG hci
    rw [hm] at hK hci
    simp only at hG hK hci
    clear HG HK HS hg hm
    have HG := Lib.hid hG; have HK := Lib.hid hK
    clear hG hK
    obtain ⟨kz, k0, k1, k2, k3, k4, k5, k6, k7⟩ := id hk1
    rcases hci with ⟨z1, z2, hself, p1, p2, q1, q2⟩ | ⟨n1, n2⟩
    · subst z1 z2 q1 q2
      rw [hself] at hS
      simp only at hS
      have HS := Lib.hid hS
      clear hS hself
      go_upto_region 7 with (go_at_call 17; refine (HG.out).mono ?_; rintro e w2 ⟨rfl, hb2⟩; have hk2 := hk1.below hb2; clear kz k0 k1 k2 k3 k4 k5 k6 k7; obtain ⟨kz, k0, k1, k2, k3, k4, k5, k6, k7⟩ := id hk2)
      go_upto_region 8 with (go_at_call 17; refine (HK.out _ hb2).mono ?_; rintro e w3 ⟨rfl, hb3⟩; have c3 := Bt hb2 hb3; have hk3 := hk2.below hb3; clear kz k0 k1 k2 k3 k4 k5 k6 k7; obtain ⟨kz, k0, k1, k2, k3, k4, k5, k6, k7⟩ := id hk3)
      go_wp2_with (first
        | (go_at_call 17; refine (HS.out _ c3).mono ?_; rintro e w4 ⟨rfl, hb4⟩; have c4 := Bt c3 hb4)
        | (go_at_call 11; refine (HLI.out _ (Bt c1 c4)).mono ?_; rintro e w8 ⟨rfl, hb8⟩))
      go_ret
      exact ⟨rfl, Bt (Bt c1 c4) hb8⟩
    · clear hS
      have nb1 : (g3 == 0) = false := by simp [n1]
      have nb2 : (m3 == 0) = false := by simp [n2]
      go_upto_region 7 with (go_at_call 17; refine (HG.out).mono ?_; rintro e w2 ⟨rfl, hb2⟩; have hk2 := hk1.below hb2; clear kz k0 k1 k2 k3 k4 k5 k6 k7; obtain ⟨kz, k0, k1, k2, k3, k4, k5, k6, k7⟩ := id hk2)
      go_wp2_with (first
        | (go_at_call 17; refine (HK.out _ hb2).mono ?_; rintro e w3 ⟨rfl, hb3⟩; have c3 := Bt hb2 hb3)
        | (go_at_call 11; refine (HLI.out _ (Bt c1 c3)).mono ?_; rintro e w8 ⟨rfl, hb8⟩))
      go_ret
      exact ⟨by show Ending.returned (.bool (g3 != 0 && m3 != 0)) = _; simp [n1, n2], Bt (Bt c1 c3) hb8⟩
  · have hnew := fun (W : World) (hB : Below w.heap.size w W) => fx_New_err HN.out he _ W (HLS.out W hB).1 (HLS.out W hB).2 HW.out.rates HW.out.base HW.out.len
    have HNE := Lib.hid hnew; clear hnew
    have heb : (e == 0) = false := by simp [he]
    go_enter Tryd.func7, Tryd.ntmps7
    go_wp2_with (first
      | (go_at_call 10; refine (law11_large.calls _ _ _ _).mono ?_; rintro e w' ⟨rfl, rfl⟩; rw [b1])
      | (go_at_call 12; refine (HNE.out _ (Bn _ _)).mono ?_; rintro e w1 ⟨rfl, hb1⟩)
      | (go_at_call 11; refine (HLI.out _ (bc1 _ _ _ hb1)).mono ?_; rintro e w8 ⟨rfl, hb8⟩))
    go_ret
    exact ⟨rfl, Bt (bc1 _ _ _ hb1) hb8⟩

end Go.Proofs.YtncbfpigojeekaaDoor
