/- The statement OwnersNew (P43.1) is proved: for every row of holdings, with start-up's table of month lengths as the program's text lays it, the law returns true and its arguments read as they did. -/
import Derived.Test.YtikdiepcfdimgaaGreatDoorZbf
import Derived.Test.YtikdiepcfdimgaaGreatDoorTie
import Derived.Test.YtikdiepcfdimgaaGreatDoorCards
import Derived.SevenTiedAt
set_option linter.all false
namespace Go.Proofs.YtikdiepcfdimgaaGreatDoor.POw
open Go.RowKit Go.Lib Go.Proofs.YtikdiepcfdimgaaGreatDoorW.PrintWords Go.Proofs.YtikdiepcfdimgaaGreatDoorW.PrintLast
set_option maxRecDepth 100000 in
set_option maxHeartbeats 8000000 in
theorem go_law_New (A : Option Addr) (c : Nat) (l : List Hold) (w : World) (hC : Kd.C k56 w A l.length l) (hlc : l.length ≤ c) (hI : HI l) (hL : DaysLaid w) :
    Calls Tryz.prog 3 #[.slice A l.length c] w fun e w' => e = .returned (.bool true) ∧ Below w.heap.size w w' := by
  have hmx := Kd.C_max hC
  have HLI := Lib.hid (go_light A c l w hC hlc)
  have HLV := Lib.hid (fun (W : World) (hW : Below w.heap.size w W) => go_lives W (hL.below hW))
  by_cases hgo : lightB l = true ∨ (200 < l.length ∧ l.length ≤ 210)
  · have hs : l.length ≤ 200 → ∀ h ∈ l, h.f0.size ≤ 100 ∧ h.f1.size ≤ 100 := fun hle => by
      rcases hgo with h | h
      · exact (lightB_spec h).2
      · omega
    have hl1 : l.length ≤ 1000 := by
      rcases hgo with h | h
      · have := (lightB_spec h).1; omega
      · omega
    obtain ⟨i, er, og, ⟨k1, h1⟩, ⟨k2, h2⟩, h3, h4⟩ := new_both l hs
    have HCH := Lib.hid (fun (W : World) (hW : Below w.heap.size w W) => go_refCheck k2 A c l (i, er) W (Kd.C_below hC hW) hlc hl1 (fun hle q hq => ⟨(hs hle q hq).1, (hs hle q hq).2, hI q hq⟩) (h2 k2 (Nat.le_refl _)))
    have HNW := Lib.hid (fun (W : World) (hW : Below w.heap.size w W) => gp_New k1 A c l i er og W (Kd.C_below hC hW) (fun hle q hq => ⟨(hs hle q hq).1, (hs hle q hq).2, hI q hq⟩) (hL.below hW) (h1 k1 (Nat.le_refl _)))
    have HGO := Lib.hid hgo
    by_cases he : er = 0
    · obtain ⟨rfl, hg⟩ := h3 he
      subst he
      clear h1 h2 h3 h4 hC hL hI hg hs hgo
      cases hlb : lightB l with
      | true =>
        rw [hlb] at HLI
        clear hlb HGO
        go_enter Tryz.func3, Tryz.ntmps3
        go_wp2_with (first
          | (go_at_call 10; refine HLI.out.mono ?_; rintro e w1 ⟨rfl, hb1⟩)
          | (go_at_call 12; refine (HNW.out _ hb1).mono ?_; rintro e w2 ⟨p, rfl, ⟨g, rfl, hG⟩, hb2⟩; have HB2 := Lib.hid (hb1.trans (hb2.mono hb1.size)))
          | (go_at_call 13; refine (HCH.out _ HB2.out).mono ?_; rintro e w3 ⟨rfl, hb3⟩; have HB3 := Lib.hid (HB2.out.trans (hb3.mono HB2.out.size)))
          | (go_at_call 11; refine (HLV.out _ HB3.out).mono ?_; rintro e w4 ⟨rfl, hb4⟩; have HB4 := Lib.hid (HB3.out.trans (hb4.mono HB3.out.size))))
        go_ret
        exact ⟨rfl, HB4.out⟩
      | false =>
        have hn := HGO.out.resolve_left (by rw [hlb]; simp)
        have hn1 : (200 : Int) < (l.length : Int) := by omega
        have hn2 : (l.length : Int) ≤ 210 := by omega
        rw [hlb] at HLI
        clear hlb HGO hn
        go_enter Tryz.func3, Tryz.ntmps3
        go_wp2_with (first
          | (go_at_call 10; refine HLI.out.mono ?_; rintro e w1 ⟨rfl, hb1⟩)
          | (go_at_call 12; refine (HNW.out _ hb1).mono ?_; rintro e w2 ⟨p, rfl, ⟨g, rfl, hG⟩, hb2⟩; have HB2 := Lib.hid (hb1.trans (hb2.mono hb1.size)))
          | (go_at_call 13; refine (HCH.out _ HB2.out).mono ?_; rintro e w3 ⟨rfl, hb3⟩; have HB3 := Lib.hid (HB2.out.trans (hb3.mono HB2.out.size)))
          | (go_at_call 11; refine (HLV.out _ HB3.out).mono ?_; rintro e w4 ⟨rfl, hb4⟩; have HB4 := Lib.hid (HB3.out.trans (hb4.mono HB3.out.size))))
        go_ret
        exact ⟨rfl, HB4.out⟩
    · obtain rfl := h4 he
      have he0 : (er == 0) = false := by simpa using he
      have he1 : (er != 0) = true := by simpa using he
      clear h1 h2 h3 h4 hC hL hI hs he hgo
      cases hlb : lightB l with
      | true =>
        rw [hlb] at HLI
        clear hlb HGO
        go_enter Tryz.func3, Tryz.ntmps3
        go_wp2_with (first
          | (go_at_call 10; refine HLI.out.mono ?_; rintro e w1 ⟨rfl, hb1⟩)
          | (go_at_call 12; refine (HNW.out _ hb1).mono ?_; rintro e w2 ⟨p, rfl, rfl, hb2⟩; have HB2 := Lib.hid (hb1.trans (hb2.mono hb1.size)))
          | (go_at_call 13; refine (HCH.out _ HB2.out).mono ?_; rintro e w3 ⟨rfl, hb3⟩; have HB3 := Lib.hid (HB2.out.trans (hb3.mono HB2.out.size)))
          | (go_at_call 11; refine (HLV.out _ HB3.out).mono ?_; rintro e w4 ⟨rfl, hb4⟩; have HB4 := Lib.hid (HB3.out.trans (hb4.mono HB3.out.size))))
        go_ret
        exact ⟨rfl, HB4.out⟩
      | false =>
        have hn := HGO.out.resolve_left (by rw [hlb]; simp)
        have hn1 : (200 : Int) < (l.length : Int) := by omega
        have hn2 : (l.length : Int) ≤ 210 := by omega
        rw [hlb] at HLI
        clear hlb HGO hn
        go_enter Tryz.func3, Tryz.ntmps3
        go_wp2_with (first
          | (go_at_call 10; refine HLI.out.mono ?_; rintro e w1 ⟨rfl, hb1⟩)
          | (go_at_call 12; refine (HNW.out _ hb1).mono ?_; rintro e w2 ⟨p, rfl, rfl, hb2⟩; have HB2 := Lib.hid (hb1.trans (hb2.mono hb1.size)))
          | (go_at_call 13; refine (HCH.out _ HB2.out).mono ?_; rintro e w3 ⟨rfl, hb3⟩; have HB3 := Lib.hid (HB2.out.trans (hb3.mono HB2.out.size)))
          | (go_at_call 11; refine (HLV.out _ HB3.out).mono ?_; rintro e w4 ⟨rfl, hb4⟩; have HB4 := Lib.hid (HB3.out.trans (hb4.mono HB3.out.size))))
        go_ret
        exact ⟨rfl, HB4.out⟩
  · have hlb : lightB l = false := by
      cases c : lightB l with
      | false => rfl
      | true => exact absurd (.inl c) hgo
    rw [hlb] at HLI
    by_cases hn : l.length ≤ 200
    · have hn1 : (l.length : Int) ≤ 200 := by omega
      clear hC hL hI hgo hlb hn
      go_enter Tryz.func3, Tryz.ntmps3
      go_wp2_with (first
        | (go_at_call 10; refine HLI.out.mono ?_; rintro e w1 ⟨rfl, hb1⟩; have HB1 := Lib.hid hb1; clear hb1)
        | (go_at_call 11; refine (HLV.out _ HB1.out).mono ?_; rintro e w4 ⟨rfl, hb4⟩; have HB4 := Lib.hid (HB1.out.trans (hb4.mono HB1.out.size))))
      go_ret
      exact ⟨rfl, HB4.out⟩
    · have hn1 : (200 : Int) < (l.length : Int) := by omega
      have hn2 : (210 : Int) < (l.length : Int) := by
        have : ¬ (200 < l.length ∧ l.length ≤ 210) := fun h => hgo (.inr h)
        omega
      clear hC hL hI hgo hlb hn
      go_enter Tryz.func3, Tryz.ntmps3
      go_wp2_with (first
        | (go_at_call 10; refine HLI.out.mono ?_; rintro e w1 ⟨rfl, hb1⟩; have HB1 := Lib.hid hb1; clear hb1)
        | (go_at_call 11; refine (HLV.out _ HB1.out).mono ?_; rintro e w4 ⟨rfl, hb4⟩; have HB4 := Lib.hid (HB1.out.trans (hb4.mono HB1.out.size))))
      go_ret
      exact ⟨rfl, HB4.out⟩
end Go.Proofs.YtikdiepcfdimgaaGreatDoor.POw
namespace Go.Proofs.YtikdiepcfdimgaaGreatDoor.RowOwnersNew
open Go.RowKit Go.Lib Go.ChangeShapes Go.WideShapes Go.ChangeAt Go.Proofs.YtikdiepcfdimgaaGreatDoorW.PrintWords Go.Proofs.YtikdiepcfdimgaaGreatDoorW.PrintLast
open POw (open_holds)
theorem own : ownKnob Tryz.prog.godebug = none := by kernel_rfl
theorem laidOut : laidOutB Tryz.prog = true := by kernel_rfl
set_option maxRecDepth 100000 in
theorem lifted (os : Os) (started : os.Started) (H : Type) (enc : TypeId × Value → H) :
    ReturnsInHanded {} Tryz.checked os 3 .any (fun w args => (Rows.ownersNewSpec.pre enc Tryz.prog Tryz.f3 [] false w args ∧ laidMetH Tryz.prog [("accounting/days.lengths", Rows.laid_accounting_days_lengths)] w) ∧ sizedMet enc Tryz.prog Tryz.f3 (OpenSpec.ofChange Rows.ownersNewSpec) false w args)
      (Rows.ownersNewSpec.post enc Tryz.prog Tryz.f3 false true false false) := by
  refine returnsInHanded_of_change_and (C := Tryz.checked) (X := fun w _ => laidMetH Tryz.prog [("accounting/days.lengths", Rows.laid_accounting_days_lengths)] w) (fun _ _ _ hh h => h.of_heap hh) own started (by kernel_rfl) Tryz.func3
    (ChangeSpec.witness_shaped (enc := enc) (C := Tryz.checked) (os := os) (X := fun w _ => laidMetH Tryz.prog [("accounting/days.lengths", Rows.laid_accounting_days_lengths)] w) false (World.doorLaid Tryz.prog 400 os) #[.slice none 0 0] 8 rfl (World.shaped_of_RefB (by kernel_rfl) (by kernel_rfl)) (by kernel_rfl) (by kernel_rfl) (by kernel_rfl) (days_met os _)) ?_
  intro W base args ds gs before hval0 hW _ hsz0 hL _
  have hsz : (DataW.weightsEach Tryz.prog (Tryz.f3.params.toList ++ Rows.ownersNewSpec.plain.varTypes Tryz.prog) (ds ++ gs)).all (· ≤ reachBytes) = true := hsz0
  have hval : ∀ (j : Nat) t v, Tryz.f3.params[j]? = some t → args[j]? = some v → Value.okWide Tryz.prog W .any base t v := hval0
  have hW' := hW
  obtain ⟨p, q, hA0, hV, rfl, hfz, hnd⟩ := hW
  have hA : DataW.TrodAll enc Tryz.prog W 0 (fun _ => true) true Tryz.f3.params.toList args.toList ds p := hA0
  rw [Tryz.params3] at hA hval hsz
  obtain ⟨v0, vs0, d0, ds0, p0, q0, hargs, rfl, rfl, h0, r0⟩ := trodAll_cons hA
  obtain ⟨rfl, rfl, rfl⟩ := trodAll_nil r0
  obtain rfl : args = #[v0] := by cases args; simp_all
  obtain ⟨rfl, rfl⟩ := trodVars_none hV
  have lt0 : ∀ x ∈ p0, x.block < W.heap.size := by obtain ⟨m, hm⟩ := h0; exact DataW.trod_lt m _ _ _ hm
  obtain ⟨a0, len0, cap0, rfl⟩ := okWide_slice Tryz.underlying22 (hval 0 22 v0 rfl rfl)
  obtain ⟨l0, rfl, hr0, hc0, hi0⟩ := open_holds h0
  have hdl := days_of_laid hL
  clear hA0 hval0 hsz0 hsz
  refine (POw.go_law_New a0 cap0 l0 W hr0 hc0 hi0 hdl).mono fun e W' ⟨he, bel⟩ => ?_
  subst he
  exact ⟨_, rfl, _, _, _, [], _, [], hW', trodAll_mk1 (shut_bool Tryz.underlying4 _), (trodAll_cons_mk (Below.trod laidOut (by kernel_rfl) (of_decide_eq_true (by kernel_rfl)) h0 bel lt0) trodAll_mk0), rfl, bel.frame _, fun h => by cases h⟩
theorem row_holds : Rows.OwnersNewSaid :=
  OpenClaim.holds_of_wide 3 Tryz.f3 rfl rfl rfl rfl rfl rfl rfl ⟨rfl, rfl, rfl, rfl, rfl⟩ rfl rfl rfl rfl rfl (by kernel_rfl) Tryz.func3 (by kernel_rfl)
    (of_decide_eq_true (by kernel_rfl)) (by unfold Func.isWrapper; first | (rw [if_pos (by decide +kernel)]; kernel_rfl) | (rw [if_neg (by decide +kernel)]; exact ⟨rfl, rfl⟩))
    (fun os started H enc _ => lifted os started H enc)
end Go.Proofs.YtikdiepcfdimgaaGreatDoor.RowOwnersNew
namespace Go.Proofs.YtikdiepcfdimgaaGreatDoor
open Go
theorem ownersNew_card : Rows.OwnersNewCardSaid :=
  Claim7.holds_tied_plain_at .later [] [.data] true Rows.ownersNewCard.stood.harness false
    RowOwnersNew.row_holds (fun _ h => by cases h) (by kernel_rfl) (fun _ h => by cases h) ownersNew_row_tie rfl ⟨rfl, rfl⟩ (by kernel_rfl) rfl
    (fun f fn hf hfn => by
      obtain rfl : f = 3 := Option.some.inj ((show Tryz.prog.funcNamed "accounting/accountinglaw43.OwnersNew" = some 3 by kernel_rfl).symm.trans hf) |>.symm
      obtain rfl : fn = Tryz.f3 := (Option.some.inj (Tryz.func3.symm.trans hfn)).symm
      exact ⟨by kernel_rfl, fun j t ht => by
        rw [Tryz.params3] at ht
        have hm : t ∈ [22] := by simpa using Array.mem_of_getElem? ht
        have hall : ([22].all fun u => !Tryz.prog.wantsStandIn u) = true := by kernel_rfl
        exact (show Tryz.prog.wantsStandIn t = false by simpa using List.all_eq_true.1 hall t hm)⟩)
    (by kernel_rfl)
#print axioms ownersNew_card
end Go.Proofs.YtikdiepcfdimgaaGreatDoor
