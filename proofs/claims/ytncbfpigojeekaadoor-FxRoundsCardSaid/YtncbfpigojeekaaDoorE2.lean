/- The law FxNewReference, the walk. -/
import Derived.Test.YtncbfpigojeekaaDoorE1
namespace Go.Proofs.YtncbfpigojeekaaDoor
open Go.RowKit Go.Lib

set_option maxHeartbeats 1000000 in
theorem law11_large.calls (A : Option Addr) (n c : Nat) (w : World) :
    Calls Tryd.prog 10 #[.slice A n c] w fun e w' => e = .returned (.bool (decide (60 < n))) ∧ w = w' := by
  have e : decide ((60 : Int) < (n : Int)) = decide (60 < n) := by simp; omega
  have HE := Lib.hid e; clear e
  go_enter Tryd.func10, Tryd.ntmps10
  go_wp2
  go_ret
  exact ⟨by rw [← HE.out]; rfl, rfl⟩

set_option maxRecDepth 100000 in
set_option maxHeartbeats 4000000 in
theorem law11_FxNewReference.calls (base : ByteArray) (l : List Rate) (lv : Value) (w : World) (hl : DaysLaid w) (hs : SlR Rate.cells 5 w lv l) (hw : ∀ r ∈ l, r.wf) (hb : base.size ≤ 140737488351232) (hlen : l.length ≤ 4611686018427387904) :
    Calls Tryd.prog 3 #[.string base, lv] w fun e w' => e = .returned (.bool true) ∧ Below w.heap.size w w' := by
  have hlives := fun (W : World) (hB : Below w.heap.size w W) => law11_lives.calls W (hl.below hB)
  have hcheck := fun (W : World) (hB : Below w.heap.size w W) => ref11_Check.calls base l lv W (hs.below hB) hw hlen
  have HA := Lib.hid (And.intro hl (And.intro hs hw))
  obtain ⟨A, cp, hlv, _⟩ := hs.shape
  obtain ⟨lv0, hlv0⟩ : ∃ v, lv = v := ⟨_, rfl⟩
  rw [hlv0] at HA
  rw [hlv] at hlv0 hcheck ⊢
  subst hlv0
  obtain ⟨⟨i, e⟩, hN⟩ : ∃ p, newS base l = p := ⟨_, rfl⟩
  rw [hN] at hcheck
  simp only at hcheck
  have HLI := Lib.hid hlives; have HCH := Lib.hid hcheck; have HN := Lib.hid hN
  clear hlives hcheck hN hl hs hw hlv
  by_cases h1 : 60 < l.length
  · have b1 : decide (60 < l.length) = true := decide_eq_true h1
    by_cases h2 : l.length ≤ 2000
    · have b2 : (l.length : Int) ≤ 2000 := by omega
      go_enter Tryd.func3, Tryd.ntmps3
      go_wp2_with (first | (go_at_call 10; refine (law11_large.calls _ _ _ _).mono ?_; rintro e w' ⟨rfl, rfl⟩; rw [b1]) | (go_at_call 11; refine (HLI.out _ (Below.refl _ _)).mono ?_; rintro e w3 ⟨rfl, hb3⟩))
      go_ret
      exact ⟨rfl, hb3⟩
    · have b2 : decide ((l.length : Int) ≤ 2000) = false := by simp; omega
      by_cases h3 : 2010 < l.length
      · have b3 : (2010 : Int) < (l.length : Int) := by omega
        go_enter Tryd.func3, Tryd.ntmps3
        go_wp2_with (first | (go_at_call 10; refine (law11_large.calls _ _ _ _).mono ?_; rintro e w' ⟨rfl, rfl⟩; rw [b1]) | (go_at_call 11; refine (HLI.out _ (Below.refl _ _)).mono ?_; rintro e w3 ⟨rfl, hb3⟩))
        go_ret
        exact ⟨rfl, hb3⟩
      · have b3 : ¬ (2010 : Int) < (l.length : Int) := by omega
        by_cases he : e = 0
        · subst he
          have HNE := Lib.hid (fx_New_ok HN.out (.slice A l.length cp) w HA.out.1 HA.out.2.1 HA.out.2.2 hb hlen)
          go_enter Tryd.func3, Tryd.ntmps3
          go_wp2_with (first
            | (go_at_call 10; refine (law11_large.calls _ _ _ _).mono ?_; rintro e w' ⟨rfl, rfl⟩; rw [b1])
            | (go_at_call 12; refine (HNE.out).mono ?_; rintro e w1 ⟨tb, rfl, hb1, hT, hO⟩)
            | (go_at_call 13; refine (HCH.out _ hb1).mono ?_; rintro e w2 ⟨rfl, hb2⟩; have hT2 := hT.mono hb2)
            | (go_at_call 14; refine (fx_Base.calls _ hT2).mono ?_; rintro e w' ⟨rfl, rfl⟩)
            | (go_at_call 15; refine (fx_Len.calls _ hT2).mono ?_; rintro e w' ⟨rfl, rfl⟩)
            | (go_at_call 11; refine (HLI.out _ (Bt hb1 hb2)).mono ?_; rintro e w3 ⟨rfl, hb3⟩))
          go_ret
          exact ⟨rfl, Bt (Bt hb1 hb2) hb3⟩
        · have HNE := Lib.hid (fx_New_err HN.out he (.slice A l.length cp) w HA.out.1 HA.out.2.1 HA.out.2.2 hb hlen)
          have heb : (e == 0) = false := by simp [he]
          go_enter Tryd.func3, Tryd.ntmps3
          go_wp2_with (first
            | (go_at_call 10; refine (law11_large.calls _ _ _ _).mono ?_; rintro e w' ⟨rfl, rfl⟩; rw [b1])
            | (go_at_call 12; refine (HNE.out).mono ?_; rintro e w1 ⟨rfl, hb1⟩)
            | (go_at_call 13; refine (HCH.out _ hb1).mono ?_; rintro e w2 ⟨rfl, hb2⟩)
            | (go_at_call 14; refine (fx_Base.nil _).mono ?_; rintro e w' ⟨rfl, rfl⟩)
            | (go_at_call 15; refine (fx_Len.nil _).mono ?_; rintro e w' ⟨rfl, rfl⟩)
            | (go_at_call 11; refine (HLI.out _ (Bt hb1 hb2)).mono ?_; rintro e w3 ⟨rfl, hb3⟩))
          go_ret
          exact ⟨rfl, Bt (Bt hb1 hb2) hb3⟩
  · have b1 : decide (60 < l.length) = false := decide_eq_false h1
    have b3 : ¬ (2010 : Int) < (l.length : Int) := by omega
    by_cases he : e = 0
    · subst he
      have HNE := Lib.hid (fx_New_ok HN.out (.slice A l.length cp) w HA.out.1 HA.out.2.1 HA.out.2.2 hb hlen)
      go_enter Tryd.func3, Tryd.ntmps3
      go_wp2_with (first
        | (go_at_call 10; refine (law11_large.calls _ _ _ _).mono ?_; rintro e w' ⟨rfl, rfl⟩; rw [b1])
        | (go_at_call 12; refine (HNE.out).mono ?_; rintro e w1 ⟨tb, rfl, hb1, hT, hO⟩)
        | (go_at_call 13; refine (HCH.out _ hb1).mono ?_; rintro e w2 ⟨rfl, hb2⟩; have hT2 := hT.mono hb2)
        | (go_at_call 14; refine (fx_Base.calls _ hT2).mono ?_; rintro e w' ⟨rfl, rfl⟩)
        | (go_at_call 15; refine (fx_Len.calls _ hT2).mono ?_; rintro e w' ⟨rfl, rfl⟩)
        | (go_at_call 11; refine (HLI.out _ (Bt hb1 hb2)).mono ?_; rintro e w3 ⟨rfl, hb3⟩))
      go_ret
      exact ⟨rfl, Bt (Bt hb1 hb2) hb3⟩
    · have HNE := Lib.hid (fx_New_err HN.out he (.slice A l.length cp) w HA.out.1 HA.out.2.1 HA.out.2.2 hb hlen)
      have heb : (e == 0) = false := by simp [he]
      go_enter Tryd.func3, Tryd.ntmps3
      go_wp2_with (first
        | (go_at_call 10; refine (law11_large.calls _ _ _ _).mono ?_; rintro e w' ⟨rfl, rfl⟩; rw [b1])
        | (go_at_call 12; refine (HNE.out).mono ?_; rintro e w1 ⟨rfl, hb1⟩)
        | (go_at_call 13; refine (HCH.out _ hb1).mono ?_; rintro e w2 ⟨rfl, hb2⟩)
        | (go_at_call 14; refine (fx_Base.nil _).mono ?_; rintro e w' ⟨rfl, rfl⟩)
        | (go_at_call 15; refine (fx_Len.nil _).mono ?_; rintro e w' ⟨rfl, rfl⟩)
        | (go_at_call 11; refine (HLI.out _ (Bt hb1 hb2)).mono ?_; rintro e w3 ⟨rfl, hb3⟩))
      go_ret
      exact ⟨rfl, Bt (Bt hb1 hb2) hb3⟩

end Go.Proofs.YtncbfpigojeekaaDoor
