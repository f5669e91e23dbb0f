/- The statement OwnersSince (P43.5) is proved: for every row of holdings and every place, with start-up's table of month lengths as the program's text lays it, the law returns true and its arguments read as they did. -/
import Derived.Test.YtikdiepcfdimgaaGreatDoorZbf
import Derived.Test.YtikdiepcfdimgaaGreatDoorTie
import Derived.Test.YtikdiepcfdimgaaGreatDoorCards
import Derived.SevenTiedAt
set_option linter.all false
namespace Go.Proofs.YtikdiepcfdimgaaGreatDoor.POw
open Go.RowKit Go.Lib Go.Proofs.YtikdiepcfdimgaaGreatDoorW.PrintWords Go.Proofs.YtikdiepcfdimgaaGreatDoorW.PrintLast
set_option maxRecDepth 100000 in
set_option maxHeartbeats 8000000 in
theorem go_law_Since (A : Option Addr) (c : Nat) (l : List Hold) (top ent : ByteArray) (day : Int) (w : World) (hC : Kd.C k56 w A l.length l) (hlc : l.length ≤ c) (hI : HI l) (hL : DaysLaid w) :
    Calls Tryz.prog 6 #[.slice A l.length c, .agg #[.string top, .string ent, .int .i64 day]] w fun e w' => e = .returned (.bool true) ∧ Below w.heap.size w w' := by
  have hba := (Below.refl w.heap.size w).alloc (Nat.le_refl _) (.cells #[.string top, .string ent, .int .i64 day] 32)
  have HP0 := Lib.hid (PBox.made w top ent day)
  have HB0 := Lib.hid hba
  obtain ⟨f0, f1, f2⟩ := HP0.out.facts
  have HLV := Lib.hid (fun (W : World) (hW : Below w.heap.size w W) => go_lives W (hL.below hW))
  have HSH := Lib.hid (fun (W : World) => go_short top ent day W)
  by_cases hok : lightB l = true ∧ Group l
  · have HMD := Lib.hid (go_made_yes A c l _ (Kd.C_below hC hba) hlc hI (hL.below hba) hok)
    by_cases hsh : shortB top ent = true
    · rw [hsh] at HSH
      have hsh' := hsh
      unfold shortB at hsh'
      simp only [Bool.and_eq_true, decide_eq_true_eq] at hsh'
      obtain ⟨hlb, hgr⟩ := hok
      have hl14 := (lightB_spec hlb).1
      have hgd := hgr.good
      obtain ⟨res, ⟨k1, h1⟩, hp⟩ := hgd.since_prog top ent day
      obtain ⟨res', ⟨k2, h2⟩, hq⟩ := hgd.since_ref top ent hsh'.1 day
      have hee : res' = res := hq.unique hp
      subst hee
      have HEF := Lib.hid (fun (W : World) (hW : Below w.heap.size w W) (g : Nat) (hG : GrP W g (grOf l gr0)) => gp_Since hG hgd k1 top ent day res' (by omega) (by omega) (hL.below hW) (h1 k1 (Nat.le_refl _)))
      have HRF := Lib.hid (fun (W : World) (hW : Below w.heap.size w W) => go_refSince k2 200000 c A l top ent day W res' (Kd.C_below hC hW) hlc (by omega) (h2 k2 (Nat.le_refl _)))
      obtain ⟨ra, rb⟩ := res'
      clear hp hq h1 h2 hgd
      clear hsh hsh' hlb hgr hl14 hC hL hI hba
      go_enter Tryz.func6, Tryz.ntmps6
      go_wp2_with (first
        | (go_at_call 14; refine HMD.out.mono ?_; rintro e w1 ⟨g, rfl, hG, hb1⟩; have HB := Lib.hid (HB0.out.trans (hb1.mono HB0.out.size)); have HP := Lib.hid (HP0.out.below hb1); obtain ⟨g0, g1, g2⟩ := HP.out.facts; have HG := Lib.hid hG; clear hG hb1)
        | (go_at_call 15; refine (HSH.out _).mono ?_; rintro e w2 ⟨rfl, hb2⟩; replace HB := Lib.hid (HB.out.trans (hb2.mono HB.out.size)); replace HP := Lib.hid (HP.out.below hb2); replace HG := Lib.hid (HG.out.below hb2); obtain ⟨g0, g1, g2⟩ := HP.out.facts; clear hb2)
        | (go_at_call 21; refine (HEF.out _ HB.out g HG.out).mono ?_; rintro e w3 ⟨rfl, hb3⟩; replace HB := Lib.hid (HB.out.trans (hb3.mono HB.out.size)); replace HP := Lib.hid (HP.out.below hb3); clear hb3 g0 g1 g2; obtain ⟨g0, g1, g2⟩ := HP.out.facts)
        | (go_at_call 22; refine (HRF.out _ HB.out).mono ?_; rintro e w4 ⟨rfl, hb4⟩; replace HB := Lib.hid (HB.out.trans (hb4.mono HB.out.size)); clear hb4)
        | (go_at_call 11; refine (HLV.out _ HB.out).mono ?_; rintro e w6 ⟨rfl, hb6⟩; replace HB := Lib.hid (HB.out.trans (hb6.mono HB.out.size)); clear hb6))
      go_ret
      exact ⟨rfl, HB.out⟩
    · have hs0 : shortB top ent = false := by simpa using hsh
      rw [hs0] at HSH
      clear hok hsh hs0 hC hL hI hba
      go_enter Tryz.func6, Tryz.ntmps6
      go_wp2_with (first
        | (go_at_call 14; refine HMD.out.mono ?_; rintro e w1 ⟨g, rfl, hG, hb1⟩; have HB := Lib.hid (HB0.out.trans (hb1.mono HB0.out.size)); have HP := Lib.hid (HP0.out.below hb1); obtain ⟨g0, g1, g2⟩ := HP.out.facts; clear hG hb1)
        | (go_at_call 15; refine (HSH.out _).mono ?_; rintro e w2 ⟨rfl, hb2⟩; replace HB := Lib.hid (HB.out.trans (hb2.mono HB.out.size)); clear hb2)
        | (go_at_call 11; refine (HLV.out _ HB.out).mono ?_; rintro e w4 ⟨rfl, hb4⟩; replace HB := Lib.hid (HB.out.trans (hb4.mono HB.out.size)); clear hb4))
      go_ret
      exact ⟨rfl, HB.out⟩
  · have HMD := Lib.hid (go_made_no A c l _ (Kd.C_below hC hba) hlc hI (hL.below hba) hok)
    clear hok hC hL hI hba
    go_enter Tryz.func6, Tryz.ntmps6
    go_wp2_with (first
      | (go_at_call 14; refine HMD.out.mono ?_; rintro e w1 ⟨rfl, hb1⟩; have HB := Lib.hid (HB0.out.trans (hb1.mono HB0.out.size)); clear hb1)
      | (go_at_call 11; refine (HLV.out _ HB.out).mono ?_; rintro e w4 ⟨rfl, hb4⟩; replace HB := Lib.hid (HB.out.trans (hb4.mono HB.out.size)); clear hb4))
    go_ret
    exact ⟨rfl, HB.out⟩
end Go.Proofs.YtikdiepcfdimgaaGreatDoor.POw
namespace Go.Proofs.YtikdiepcfdimgaaGreatDoor.RowOwnersSince
open Go.RowKit Go.Lib Go.ChangeShapes Go.WideShapes Go.ChangeAt Go.Proofs.YtikdiepcfdimgaaGreatDoorW.PrintWords Go.Proofs.YtikdiepcfdimgaaGreatDoorW.PrintLast
open POw (open_holds open_place)
theorem own : ownKnob Tryz.prog.godebug = none := by kernel_rfl
theorem laidOut : laidOutB Tryz.prog = true := by kernel_rfl
set_option maxRecDepth 100000 in
theorem lifted (os : Os) (started : os.Started) (H : Type) (enc : TypeId × Value → H) :
    ReturnsInHanded {} Tryz.checked os 6 .any (fun w args => (Rows.ownersSinceSpec.pre enc Tryz.prog Tryz.f6 [] false w args ∧ laidMetH Tryz.prog [("accounting/days.lengths", Rows.laid_accounting_days_lengths)] w) ∧ sizedMet enc Tryz.prog Tryz.f6 (OpenSpec.ofChange Rows.ownersSinceSpec) false w args)
      (Rows.ownersSinceSpec.post enc Tryz.prog Tryz.f6 false true false false) := by
  refine returnsInHanded_of_change_and (C := Tryz.checked) (X := fun w _ => laidMetH Tryz.prog [("accounting/days.lengths", Rows.laid_accounting_days_lengths)] w) (fun _ _ _ hh h => h.of_heap hh) own started (by kernel_rfl) Tryz.func6
    (ChangeSpec.witness_shaped (enc := enc) (C := Tryz.checked) (os := os) (X := fun w _ => laidMetH Tryz.prog [("accounting/days.lengths", Rows.laid_accounting_days_lengths)] w) false (World.doorLaid Tryz.prog 400 os) #[.slice none 0 0, .agg #[.string ByteArray.empty, .string ByteArray.empty, .int .i64 0]] 8 rfl (World.shaped_of_RefB (by kernel_rfl) (by kernel_rfl)) (by kernel_rfl) (by kernel_rfl) (by kernel_rfl) (days_met os _)) ?_
  intro W base args ds gs before hval0 hW _ hsz0 hL _
  have hsz : (DataW.weightsEach Tryz.prog (Tryz.f6.params.toList ++ Rows.ownersSinceSpec.plain.varTypes Tryz.prog) (ds ++ gs)).all (· ≤ reachBytes) = true := hsz0
  have hval : ∀ (j : Nat) t v, Tryz.f6.params[j]? = some t → args[j]? = some v → Value.okWide Tryz.prog W .any base t v := hval0
  have hW' := hW
  obtain ⟨p, q, hA0, hV, rfl, hfz, hnd⟩ := hW
  have hA : DataW.TrodAll enc Tryz.prog W 0 (fun _ => true) true Tryz.f6.params.toList args.toList ds p := hA0
  rw [Tryz.params6] at hA hval hsz
  obtain ⟨v0, vs0, d0, ds0, p0, q0, hargs, rfl, rfl, h0, r0⟩ := trodAll_cons hA
  obtain ⟨v1, vs1, d1, ds1, p1, q1, rfl, rfl, rfl, h1, r1⟩ := trodAll_cons r0
  obtain ⟨rfl, rfl, rfl⟩ := trodAll_nil r1
  obtain rfl : args = #[v0, v1] := by cases args; simp_all
  obtain ⟨rfl, rfl⟩ := trodVars_none hV
  have lt0 : ∀ x ∈ p0, x.block < W.heap.size := by obtain ⟨m, hm⟩ := h0; exact DataW.trod_lt m _ _ _ hm
  obtain ⟨a0, len0, cap0, rfl⟩ := okWide_slice Tryz.underlying22 (hval 0 22 v0 rfl rfl)
  obtain ⟨l0, rfl, hr0, hc0, hi0⟩ := open_holds h0
  have lt1 : ∀ x ∈ p1, x.block < W.heap.size := by obtain ⟨m, hm⟩ := h1; exact DataW.trod_lt m _ _ _ hm
  obtain ⟨top, ent, day, rfl⟩ := open_place h1
  have hdl := days_of_laid hL
  clear hA0 hval0 hsz0 hsz
  refine (POw.go_law_Since a0 cap0 l0 top ent day W hr0 hc0 hi0 hdl).mono fun e W' ⟨he, bel⟩ => ?_
  subst he
  exact ⟨_, rfl, _, _, _, [], _, [], hW', trodAll_mk1 (shut_bool Tryz.underlying4 _), (trodAll_cons_mk (Below.trod laidOut (by kernel_rfl) (of_decide_eq_true (by kernel_rfl)) h0 bel lt0) (trodAll_cons_mk (Below.trod laidOut (by kernel_rfl) (of_decide_eq_true (by kernel_rfl)) h1 bel lt1) trodAll_mk0)), rfl, bel.frame _, fun h => by cases h⟩
theorem row_holds : Rows.OwnersSinceSaid :=
  OpenClaim.holds_of_wide 6 Tryz.f6 rfl rfl rfl rfl rfl rfl rfl ⟨rfl, rfl, rfl, rfl, rfl⟩ rfl rfl rfl rfl rfl (by kernel_rfl) Tryz.func6 (by kernel_rfl)
    (of_decide_eq_true (by kernel_rfl)) (by unfold Func.isWrapper; first | (rw [if_pos (by decide +kernel)]; kernel_rfl) | (rw [if_neg (by decide +kernel)]; exact ⟨rfl, rfl⟩))
    (fun os started H enc _ => lifted os started H enc)
end Go.Proofs.YtikdiepcfdimgaaGreatDoor.RowOwnersSince
namespace Go.Proofs.YtikdiepcfdimgaaGreatDoor
open Go
theorem ownersSince_card : Rows.OwnersSinceCardSaid :=
  Claim7.holds_tied_plain_at .later [] [.data] true Rows.ownersSinceCard.stood.harness false
    RowOwnersSince.row_holds (fun _ h => by cases h) (by kernel_rfl) (fun _ h => by cases h) ownersSince_row_tie rfl ⟨rfl, rfl⟩ (by kernel_rfl) rfl
    (fun f fn hf hfn => by
      obtain rfl : f = 6 := Option.some.inj ((show Tryz.prog.funcNamed "accounting/accountinglaw43.OwnersSince" = some 6 by kernel_rfl).symm.trans hf) |>.symm
      obtain rfl : fn = Tryz.f6 := (Option.some.inj (Tryz.func6.symm.trans hfn)).symm
      exact ⟨by kernel_rfl, fun j t ht => by
        rw [Tryz.params6] at ht
        have hm : t ∈ [22, 32] := by simpa using Array.mem_of_getElem? ht
        have hall : ([22, 32].all fun u => !Tryz.prog.wantsStandIn u) = true := by kernel_rfl
        exact (show Tryz.prog.wantsStandIn t = false by simpa using List.all_eq_true.1 hall t hm)⟩)
    (by kernel_rfl)
#print axioms ownersSince_card
end Go.Proofs.YtikdiepcfdimgaaGreatDoor
