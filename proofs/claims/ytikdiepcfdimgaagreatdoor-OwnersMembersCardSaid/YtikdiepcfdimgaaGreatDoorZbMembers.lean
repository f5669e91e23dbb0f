/- The statement OwnersMembers (P43.3) is proved: for every row of holdings and every place, with start-up's table of month lengths as the program's text lays it, the law returns true and its arguments read as they did. -/
import Derived.Test.YtikdiepcfdimgaaGreatDoorZbf
import Derived.Test.YtikdiepcfdimgaaGreatDoorTie
import Derived.Test.YtikdiepcfdimgaaGreatDoorCards
import Derived.SevenTiedAt
set_option linter.all false
namespace Go.Proofs.YtikdiepcfdimgaaGreatDoor.POw
open Go.RowKit Go.Lib Go.Proofs.YtikdiepcfdimgaaGreatDoorW.PrintWords Go.Proofs.YtikdiepcfdimgaaGreatDoorW.PrintLast
theorem same_main (l : List ByteArray) (hl : l.length ≤ 20000) : ∀ (g i : Nat), i + g = l.length → Ev (fun k => accountingref15_SameTexts.l0 k l l (i : Int)) true
  | 0, i, hg => by
    refine ⟨1, fun k hk => ?_⟩
    obtain ⟨j, rfl⟩ : ∃ j, k = j + 1 := ⟨k - 1, by omega⟩
    show accountingref15_SameTexts.l0 (j + 1) l l (i : Int) = _
    rw [accountingref15_SameTexts.l0, if_neg (by omega)]
  | g + 1, i, hg => by
    have e : wrap64 ((i : Int) + 1) = ((i + 1 : Nat) : Int) := by rw [wr_ (by omega)]; omega
    obtain ⟨k0, E⟩ := same_main l hl g (i + 1) (by omega)
    refine ⟨k0 + 1, fun k hk => ?_⟩
    obtain ⟨j, rfl⟩ : ∃ j, k = j + 1 := ⟨k - 1, by omega⟩
    have F := E j (by omega)
    simp only at F
    show accountingref15_SameTexts.l0 (j + 1) l l (i : Int) = _
    rw [accountingref15_SameTexts.l0, if_pos (by omega), if_pos (by omega), if_pos (by omega), if_pos rfl, e, F]
theorem same_ev (l : List ByteArray) (hl : l.length ≤ 20000) : Ev (fun k => accountingref15_SameTexts.f k l l) true := by
  obtain ⟨k0, E⟩ := same_main l hl l.length 0 (by omega)
  refine ⟨k0, fun k hk => ?_⟩
  show accountingref15_SameTexts.f k l l = _
  unfold accountingref15_SameTexts.f
  rw [if_pos rfl]
  exact E k hk
theorem go_same {w : World} {A A' : Option Addr} {c c' : Nat} {l : List ByteArray} (h1 : Kd.C Kd.string w A l.length l) (hc : l.length ≤ c) (h2 : Kd.C Kd.string w A' l.length l) (hc' : l.length ≤ c') (hl : l.length ≤ 20000) :
    Calls Tryz.prog 16 #[.slice A l.length c, .slice A' l.length c'] w fun e w' => e = .returned (.bool true) ∧ Below w.heap.size w w' := by
  obtain ⟨k, E⟩ := same_ev l hl
  refine (accountingref15_SameTexts.calls k A c l A' c' l true w h1 hc h2 hc' (E k (Nat.le_refl _))).mono ?_
  rintro e w' ⟨rfl, hd⟩
  exact ⟨rfl, hd.below⟩
theorem gp_Members_is {w : World} {L : List Hold} {g : Nat} (h : GrP w g (grOf L gr0)) (gd : Good L) (kf : Nat) (top : ByteArray) (day : Int) (r : Option (ByteArray → Bool)) (ht : top.size ≤ 1000) (hL : DaysLaid w) (hF : membF kf (grOf L gr0) top day = some r) {res : List ByteArray} (hli : ListIs res r) :
    Calls Tryz.prog 17 #[.pointer (some ⟨g, 0, none⟩), .string top, .int .i64 day] w fun e w' => ∃ A c, e = .returned (.slice A res.length c) ∧ Kd.C Kd.string w' A res.length res ∧ res.length ≤ c ∧ Below w.heap.size w w' := by
  refine (gp_Members h gd kf top day r ht hL hF).mono ?_
  rintro e w' ⟨A, c, l, rfl, hC, hc, hl, hb⟩
  obtain rfl : l = res := list_of hl hli.1 hli.2
  exact ⟨A, c, rfl, hC, hc, hb⟩
theorem gp_refMembers (kf : Nat) (A : Option Addr) (c : Nat) (l : List Hold) (top : ByteArray) (day : Int) (res : List ByteArray) (w : World) (hC : Kd.C k56 w A l.length l) (hlc : l.length ≤ c) (hl : l.length ≤ 1000) (hF : refMembers kf l top day = some res) :
    Calls Tryz.prog 18 #[.slice A l.length c, .string top, .int .i64 day] w fun e w' => ∃ A c, e = .returned (.slice A res.length c) ∧ Kd.C Kd.string w' A res.length res ∧ res.length ≤ c ∧ Below w.heap.size w w' := by
  refine (go_refMembers kf A c l top day res w hC hlc hl hF).mono ?_
  rintro e w' ⟨v, rfl, hown, hb⟩
  obtain ⟨A, c, rfl, hc, hC⟩ := strs_C hown
  exact ⟨A, c, rfl, hC, hc, hb⟩
set_option maxRecDepth 100000 in
set_option maxHeartbeats 8000000 in
theorem go_law_Members (A : Option Addr) (c : Nat) (l : List Hold) (top ent : ByteArray) (day : Int) (w : World) (hC : Kd.C k56 w A l.length l) (hlc : l.length ≤ c) (hI : HI l) (hL : DaysLaid w) :
    Calls Tryz.prog 4 #[.slice A l.length c, .agg #[.string top, .string ent, .int .i64 day]] w fun e w' => e = .returned (.bool true) ∧ Below w.heap.size w w' := by
  have hba := (Below.refl w.heap.size w).alloc (Nat.le_refl _) (.cells #[.string top, .string ent, .int .i64 day] 32)
  have HP0 := Lib.hid (PBox.made w top ent day)
  have HB0 := Lib.hid hba
  obtain ⟨f0, f1, f2⟩ := HP0.out.facts
  have HLV := Lib.hid (fun (W : World) (hW : Below w.heap.size w W) => go_lives W (hL.below hW))
  have HSH := Lib.hid (fun (W : World) => go_short top ent day W)
  by_cases hok : lightB l = true ∧ Group l
  · have HMD := Lib.hid (go_made_yes A c l _ (Kd.C_below hC hba) hlc hI (hL.below hba) hok)
    by_cases hsh : shortB top ent = true
    · rw [hsh] at HSH
      have hsh' := hsh
      unfold shortB at hsh'
      simp only [Bool.and_eq_true, decide_eq_true_eq] at hsh'
      obtain ⟨hlb, hgr⟩ := hok
      have hl14 := (lightB_spec hlb).1
      have hgd := hgr.good
      obtain ⟨r, ⟨k1, h1⟩, hp⟩ := hgd.memb_ev top day
      obtain ⟨res, r', ⟨k2, h2⟩, hq, hli, hrl⟩ := hgd.members_ev top day hsh'.1
      obtain rfl := hq.unique hp
      have HRL := Lib.hid hrl
      have HME := Lib.hid (fun (W : World) (hW : Below w.heap.size w W) (g : Nat) (hG : GrP W g (grOf l gr0)) => gp_Members_is hG hgd k1 top day r' (by omega) (hL.below hW) (h1 k1 (Nat.le_refl _)) hli)
      have HRF := Lib.hid (fun (W : World) (hW : Below w.heap.size w W) => gp_refMembers k2 A c l top day res W (Kd.C_below hC hW) hlc (by omega) (h2 k2 (Nat.le_refl _)))
      clear hp hq h1 h2 hgd hli hrl
      clear hsh hsh' hlb hgr hl14 hC hL hI hba
      go_enter Tryz.func4, Tryz.ntmps4
      go_upto_region 4 with (first
        | (go_at_call 14; refine HMD.out.mono ?_; rintro e w1 ⟨g, rfl, hG, hb1⟩; have HB := Lib.hid (HB0.out.trans (hb1.mono HB0.out.size)); have HP := Lib.hid (HP0.out.below hb1); obtain ⟨g0, g1, g2⟩ := HP.out.facts; have HG := Lib.hid hG; clear hG hb1)
        | (go_at_call 15; refine (HSH.out _).mono ?_; rintro e w2 ⟨rfl, hb2⟩; replace HB := Lib.hid (HB.out.trans (hb2.mono HB.out.size)); replace HP := Lib.hid (HP.out.below hb2); replace HG := Lib.hid (HG.out.below hb2); obtain ⟨g0, g1, g2⟩ := HP.out.facts; clear hb2))
      obtain ⟨z, hz⟩ : ∃ z, w.heap.size = z := ⟨_, rfl⟩
      rw [hz] at HP
      have HPd := Lib.hid (show PBox w2.drew z top ent day from HP.out)
      have HGd := Lib.hid (HG.out.below ((Below.refl _ w2).drew))
      have HBd := Lib.hid (HB.out.drew)
      rw [hz]
      clear f0 f1 f2 g0 g1 g2
      refine start_ (n := 17) (S := fun w' => w'.cell? ⟨z, 0, none⟩ = some (.string top) ∧ w'.cell? ⟨z, 2, none⟩ = some (.int .i64 day)) (ds := []) #[false, false, false, false, false, false, false, false, false, false, false, false, false, false, false, false, false] (by kernel_rfl) rfl rfl ⟨HPd.out.facts.1, HPd.out.facts.2.2⟩ (fun hHeld => ?_)
      refine pure_ (i := 0) (N := some 20) (v := ?_) (a' := ?_) #[true, false, false, false, false, false, false, false, false, false, false, false, false, false, false, false, false] rfl rfl (by kernel_rfl) (fun _ _ _ h => h) (Or.inl ⟨by rfl, ?_⟩) ?_ ?_
      rotate_left
      · intro w'
        go_simp
        with_reducible rfl
      rotate_left
      · simp only [Act.put, pkA, pkZ, pkS, i64_w, i32_w]
        rfl
      refine pure_ (i := 1) (N := some 21) (v := ?_) (a' := ?_) #[true, true, false, false, false, false, false, false, false, false, false, false, false, false, false, false, false] rfl rfl (by kernel_rfl) (fun _ _ _ h => h) (Or.inl ⟨by rfl, ?_⟩) ?_ ?_
      rotate_left
      · intro w'
        go_simp
        with_reducible rfl
      rotate_left
      · simp only [Act.put, pkA, pkZ, pkS, i64_w, i32_w]
        rfl
      refine pure_ (i := 3) (N := some 23) (v := ?_) (a' := ?_) #[true, true, false, true, false, false, false, false, false, false, false, false, false, false, false, false, false] rfl rfl (by kernel_rfl) (fun _ _ _ h => h) (Or.inl ⟨by rfl, ?_⟩) ?_ ?_
      rotate_left
      · intro w'
        go_simp
        with_reducible rfl
      rotate_left
      · simp only [Act.put, pkA, pkZ, pkS, i64_w, i32_w]
        rfl
      refine pure_ (i := 6) (N := some 26) (v := ?_) (a' := ?_) #[true, true, false, true, false, false, true, false, false, false, false, false, false, false, false, false, false] rfl rfl (by kernel_rfl) (fun _ _ _ h => h) (Or.inl ⟨by rfl, ?_⟩) ?_ ?_
      rotate_left
      · intro w'
        go_simp
        with_reducible rfl
      rotate_left
      · simp only [Act.put, pkA, pkZ, pkS, i64_w, i32_w]
        rfl
      refine pure_ (i := 7) (N := some 27) (v := ?_) (a' := ?_) #[true, true, false, true, false, false, true, true, false, false, false, false, false, false, false, false, false] rfl rfl (by kernel_rfl) (fun _ _ _ h => h) (Or.inl ⟨by rfl, ?_⟩) ?_ ?_
      rotate_left
      · intro w'
        go_simp
        with_reducible rfl
      rotate_left
      · simp only [Act.put, pkA, pkZ, pkS, i64_w, i32_w]
        rfl
      refine pure_ (i := 9) (N := some 29) (v := ?_) (a' := ?_) #[true, true, false, true, false, false, true, true, false, true, false, false, false, false, false, false, false] rfl rfl (by kernel_rfl) (fun _ _ _ h => h) (Or.inl ⟨by rfl, ?_⟩) ?_ ?_
      rotate_left
      · intro w'
        go_simp
        with_reducible rfl
      rotate_left
      · simp only [Act.put, pkA, pkZ, pkS, i64_w, i32_w]
        rfl
      refine take_ (i := 2) (N := some 22) (v := ?_) (a' := ?_) #[true, true, true, true, false, false, true, true, false, true, false, false, false, false, false, false, false] rfl rfl (by kernel_rfl) (fun _ _ _ h => h) (Or.inl ⟨by rfl, ?_⟩) hHeld ?_ ?_
      rotate_left
      · rintro w' ⟨s0, s1⟩
        go_simp
        with_reducible rfl
      rotate_left
      · simp only [Act.put, pkA, pkZ, pkS, i64_w, i32_w]
        rfl
      refine take_ (i := 4) (N := some 24) (v := ?_) (a' := ?_) #[true, true, true, true, true, false, true, true, false, true, false, false, false, false, false, false, false] rfl rfl (by kernel_rfl) (fun _ _ _ h => h) (Or.inl ⟨by rfl, ?_⟩) hHeld ?_ ?_
      rotate_left
      · rintro w' ⟨s0, s1⟩
        go_simp
        with_reducible rfl
      rotate_left
      · simp only [Act.put, pkA, pkZ, pkS, i64_w, i32_w]
        rfl
      refine take_ (i := 8) (N := some 28) (v := ?_) (a' := ?_) #[true, true, true, true, true, false, true, true, true, true, false, false, false, false, false, false, false] rfl rfl (by kernel_rfl) (fun _ _ _ h => h) (Or.inl ⟨by rfl, ?_⟩) hHeld ?_ ?_
      rotate_left
      · rintro w' ⟨s0, s1⟩
        go_simp
        with_reducible rfl
      rotate_left
      · simp only [Act.put, pkA, pkZ, pkS, i64_w, i32_w]
        rfl
      refine take_ (i := 10) (N := some 30) (v := ?_) (a' := ?_) #[true, true, true, true, true, false, true, true, true, true, true, false, false, false, false, false, false] rfl rfl (by kernel_rfl) (fun _ _ _ h => h) (Or.inl ⟨by rfl, ?_⟩) hHeld ?_ ?_
      rotate_left
      · rintro w' ⟨s0, s1⟩
        go_simp
        with_reducible rfl
      rotate_left
      · simp only [Act.put, pkA, pkZ, pkS, i64_w, i32_w]
        rfl
      refine one_ (i := 5) (N := some 25) #[true, true, true, true, true, true, true, true, true, true, true, false, false, false, false, false, false] rfl rfl (by kernel_rfl) (by decide) (fun K hK => ?_)
      refine goes_ Tryz.func17 (by kernel_rfl) rfl #[.pointer (some ⟨g, 0, none⟩), .string top, .int .i64 day] (by rfl) rfl rfl (by simp only [List.map_toArray, List.map_cons, List.map_nil] <;> rfl) ?_
      refine (HME.out _ HBd.out g HGd.out).mono ?_
      rintro e w5 ⟨A5, c5, rfl, hC5, hc5, hb5⟩
      refine ⟨_, rfl, ?_⟩
      have HB5 := Lib.hid (HBd.out.trans (hb5.mono HBd.out.size))
      have HP5 := Lib.hid (HPd.out.below hb5)
      have HC5 := Lib.hid hC5
      clear hC5
      refine hK.out _ _ ⟨(HP5.out.facts).1, (HP5.out.facts).2.2⟩ (fun hHeld => ?_)
      clear hK K
      refine norm_ (a' := ?_) ?_ ?_
      rotate_left
      · show Act.put _ (some 25) _ = _
        simp only [Act.put, pkA, pkZ, pkS, i64_w, i32_w]
        rfl
      refine one_ (i := 11) (N := some 31) #[true, true, true, true, true, true, true, true, true, true, true, true, false, false, false, false, false] rfl rfl (by kernel_rfl) (by decide) (fun K hK => ?_)
      refine goes_ Tryz.func18 (by kernel_rfl) rfl #[.slice A l.length c, .string top, .int .i64 day] (by rfl) rfl rfl (by simp only [List.map_toArray, List.map_cons, List.map_nil] <;> rfl) ?_
      refine (HRF.out _ HB5.out).mono ?_
      rintro e w6 ⟨A6, c6, rfl, hC6, hc6, hb6⟩
      refine ⟨_, rfl, ?_⟩
      have HB6 := Lib.hid (HB5.out.trans (hb6.mono HB5.out.size))
      have HP6 := Lib.hid (HP5.out.below hb6)
      have HC6 := Lib.hid hC6
      have HC56 := Lib.hid (Kd.C_below HC5.out hb6)
      clear hC6
      refine hK.out _ _ ⟨(HP6.out.facts).1, (HP6.out.facts).2.2⟩ (fun hHeld => ?_)
      clear hK K
      refine norm_ (a' := ?_) ?_ ?_
      rotate_left
      · show Act.put _ (some 31) _ = _
        simp only [Act.put, pkA, pkZ, pkS, i64_w, i32_w]
        rfl
      refine one_ (i := 12) (N := some 32) #[true, true, true, true, true, true, true, true, true, true, true, true, true, false, false, false, false] rfl rfl (by kernel_rfl) (by decide) (fun K hK => ?_)
      refine goes_ Tryz.func16 (by kernel_rfl) rfl #[.slice A5 res.length c5, .slice A6 res.length c6] (by rfl) rfl rfl (by simp only [List.map_toArray, List.map_cons, List.map_nil] <;> rfl) ?_
      refine (go_same HC56.out hc5 HC6.out hc6 (Nat.le_trans HRL.out (by decide))).mono ?_
      rintro e w7 ⟨rfl, hb7⟩
      refine ⟨_, rfl, ?_⟩
      have HB7 := Lib.hid (HB6.out.trans (hb7.mono HB6.out.size))
      have HP7 := Lib.hid (HP6.out.below hb7)
      refine hK.out _ _ ⟨(HP7.out.facts).1, (HP7.out.facts).2.2⟩ (fun hHeld => ?_)
      clear hK K
      refine norm_ (a' := ?_) ?_ ?_
      rotate_left
      · show Act.put _ (some 32) _ = _
        simp only [Act.put, pkA, pkZ, pkS, i64_w, i32_w]
        rfl
      refine pure_ (i := 13) (N := some 33) (v := ?_) (a' := ?_) #[true, true, true, true, true, true, true, true, true, true, true, true, true, true, false, false, false] rfl rfl (by kernel_rfl) (fun _ _ _ h => h) (Or.inl ⟨by rfl, ?_⟩) ?_ ?_
      rotate_left
      · intro w'
        go_simp
        with_reducible rfl
      rotate_left
      · simp only [Act.put, pkA, pkZ, pkS, i64_w, i32_w]
        rfl
      refine one_ (i := 14) (N := some 34) #[true, true, true, true, true, true, true, true, true, true, true, true, true, true, true, false, false] rfl rfl (by kernel_rfl) (by decide) (fun K hK => ?_)
      refine goes_ Tryz.func11 (by kernel_rfl) rfl #[] (by rfl) rfl rfl (by simp only [List.map_toArray, List.map_cons, List.map_nil] <;> rfl) ?_
      refine (HLV.out _ HB7.out).mono ?_
      rintro e w8 ⟨rfl, hb8⟩
      refine ⟨_, rfl, ?_⟩
      have HB8 := Lib.hid (HB7.out.trans (hb8.mono HB7.out.size))
      have HP8 := Lib.hid (HP7.out.below hb8)
      refine hK.out _ _ ⟨(HP8.out.facts).1, (HP8.out.facts).2.2⟩ (fun hHeld => ?_)
      clear hK K
      refine norm_ (a' := ?_) ?_ ?_
      rotate_left
      · show Act.put _ (some 34) _ = _
        simp only [Act.put, pkA, pkZ, pkS, i64_w, i32_w]
        rfl
      refine pure_ (i := 15) (N := some 35) (v := ?_) (a' := ?_) #[true, true, true, true, true, true, true, true, true, true, true, true, true, true, true, true, false] rfl rfl (by kernel_rfl) (fun _ _ _ h => h) (Or.inl ⟨by rfl, ?_⟩) ?_ ?_
      rotate_left
      · intro w'
        go_simp
        with_reducible rfl
      rotate_left
      · simp only [Act.put, pkA, pkZ, pkS, i64_w, i32_w]
        rfl
      refine pure_ (i := 16) (N := some 4) (v := ?_) (a' := ?_) #[true, true, true, true, true, true, true, true, true, true, true, true, true, true, true, true, true] rfl rfl (by kernel_rfl) (fun _ _ _ h => h) (Or.inl ⟨by rfl, ?_⟩) ?_ ?_
      rotate_left
      · intro w'
        go_simp
        with_reducible rfl
      rotate_left
      · simp only [Act.put, pkA, pkZ, pkS, i64_w, i32_w]
        rfl
      refine done_ (by kernel_rfl) ?_
      clear hHeld
      go_wp2
      go_ret
      exact ⟨rfl, HB8.out⟩
    · have hs0 : shortB top ent = false := by simpa using hsh
      rw [hs0] at HSH
      clear hok hsh hs0 hC hL hI hba
      go_enter Tryz.func4, Tryz.ntmps4
      go_wp2_with (first
        | (go_at_call 14; refine HMD.out.mono ?_; rintro e w1 ⟨g, rfl, hG, hb1⟩; have HB := Lib.hid (HB0.out.trans (hb1.mono HB0.out.size)); have HP := Lib.hid (HP0.out.below hb1); obtain ⟨g0, g1, g2⟩ := HP.out.facts; clear hG hb1)
        | (go_at_call 15; refine (HSH.out _).mono ?_; rintro e w2 ⟨rfl, hb2⟩; replace HB := Lib.hid (HB.out.trans (hb2.mono HB.out.size)); clear hb2)
        | (go_at_call 11; refine (HLV.out _ HB.out).mono ?_; rintro e w4 ⟨rfl, hb4⟩; replace HB := Lib.hid (HB.out.trans (hb4.mono HB.out.size)); clear hb4))
      go_ret
      exact ⟨rfl, HB.out⟩
  · have HMD := Lib.hid (go_made_no A c l _ (Kd.C_below hC hba) hlc hI (hL.below hba) hok)
    clear hok hC hL hI hba
    go_enter Tryz.func4, Tryz.ntmps4
    go_wp2_with (first
      | (go_at_call 14; refine HMD.out.mono ?_; rintro e w1 ⟨rfl, hb1⟩; have HB := Lib.hid (HB0.out.trans (hb1.mono HB0.out.size)); clear hb1)
      | (go_at_call 11; refine (HLV.out _ HB.out).mono ?_; rintro e w4 ⟨rfl, hb4⟩; replace HB := Lib.hid (HB.out.trans (hb4.mono HB.out.size)); clear hb4))
    go_ret
    exact ⟨rfl, HB.out⟩
end Go.Proofs.YtikdiepcfdimgaaGreatDoor.POw
namespace Go.Proofs.YtikdiepcfdimgaaGreatDoor.RowOwnersMembers
open Go.RowKit Go.Lib Go.ChangeShapes Go.WideShapes Go.ChangeAt Go.Proofs.YtikdiepcfdimgaaGreatDoorW.PrintWords Go.Proofs.YtikdiepcfdimgaaGreatDoorW.PrintLast
open POw (open_holds open_place)
theorem own : ownKnob Tryz.prog.godebug = none := by kernel_rfl
theorem laidOut : laidOutB Tryz.prog = true := by kernel_rfl
set_option maxRecDepth 100000 in
theorem lifted (os : Os) (started : os.Started) (H : Type) (enc : TypeId × Value → H) :
    ReturnsInHanded {} Tryz.checked os 4 .any (fun w args => (Rows.ownersMembersSpec.pre enc Tryz.prog Tryz.f4 [] false w args ∧ laidMetH Tryz.prog [("accounting/days.lengths", Rows.laid_accounting_days_lengths)] w) ∧ sizedMet enc Tryz.prog Tryz.f4 (OpenSpec.ofChange Rows.ownersMembersSpec) false w args)
      (Rows.ownersMembersSpec.post enc Tryz.prog Tryz.f4 false true false false) := by
  refine returnsInHanded_of_change_and (C := Tryz.checked) (X := fun w _ => laidMetH Tryz.prog [("accounting/days.lengths", Rows.laid_accounting_days_lengths)] w) (fun _ _ _ hh h => h.of_heap hh) own started (by kernel_rfl) Tryz.func4
    (ChangeSpec.witness_shaped (enc := enc) (C := Tryz.checked) (os := os) (X := fun w _ => laidMetH Tryz.prog [("accounting/days.lengths", Rows.laid_accounting_days_lengths)] w) false (World.doorLaid Tryz.prog 400 os) #[.slice none 0 0, .agg #[.string ByteArray.empty, .string ByteArray.empty, .int .i64 0]] 8 rfl (World.shaped_of_RefB (by kernel_rfl) (by kernel_rfl)) (by kernel_rfl) (by kernel_rfl) (by kernel_rfl) (days_met os _)) ?_
  intro W base args ds gs before hval0 hW _ hsz0 hL _
  have hsz : (DataW.weightsEach Tryz.prog (Tryz.f4.params.toList ++ Rows.ownersMembersSpec.plain.varTypes Tryz.prog) (ds ++ gs)).all (· ≤ reachBytes) = true := hsz0
  have hval : ∀ (j : Nat) t v, Tryz.f4.params[j]? = some t → args[j]? = some v → Value.okWide Tryz.prog W .any base t v := hval0
  have hW' := hW
  obtain ⟨p, q, hA0, hV, rfl, hfz, hnd⟩ := hW
  have hA : DataW.TrodAll enc Tryz.prog W 0 (fun _ => true) true Tryz.f4.params.toList args.toList ds p := hA0
  rw [Tryz.params4] at hA hval hsz
  obtain ⟨v0, vs0, d0, ds0, p0, q0, hargs, rfl, rfl, h0, r0⟩ := trodAll_cons hA
  obtain ⟨v1, vs1, d1, ds1, p1, q1, rfl, rfl, rfl, h1, r1⟩ := trodAll_cons r0
  obtain ⟨rfl, rfl, rfl⟩ := trodAll_nil r1
  obtain rfl : args = #[v0, v1] := by cases args; simp_all
  obtain ⟨rfl, rfl⟩ := trodVars_none hV
  have lt0 : ∀ x ∈ p0, x.block < W.heap.size := by obtain ⟨m, hm⟩ := h0; exact DataW.trod_lt m _ _ _ hm
  obtain ⟨a0, len0, cap0, rfl⟩ := okWide_slice Tryz.underlying22 (hval 0 22 v0 rfl rfl)
  obtain ⟨l0, rfl, hr0, hc0, hi0⟩ := open_holds h0
  have lt1 : ∀ x ∈ p1, x.block < W.heap.size := by obtain ⟨m, hm⟩ := h1; exact DataW.trod_lt m _ _ _ hm
  obtain ⟨top, ent, day, rfl⟩ := open_place h1
  have hdl := days_of_laid hL
  clear hA0 hval0 hsz0 hsz
  refine (POw.go_law_Members a0 cap0 l0 top ent day W hr0 hc0 hi0 hdl).mono fun e W' ⟨he, bel⟩ => ?_
  subst he
  exact ⟨_, rfl, _, _, _, [], _, [], hW', trodAll_mk1 (shut_bool Tryz.underlying4 _), (trodAll_cons_mk (Below.trod laidOut (by kernel_rfl) (of_decide_eq_true (by kernel_rfl)) h0 bel lt0) (trodAll_cons_mk (Below.trod laidOut (by kernel_rfl) (of_decide_eq_true (by kernel_rfl)) h1 bel lt1) trodAll_mk0)), rfl, bel.frame _, fun h => by cases h⟩
theorem row_holds : Rows.OwnersMembersSaid :=
  OpenClaim.holds_of_wide 4 Tryz.f4 rfl rfl rfl rfl rfl rfl rfl ⟨rfl, rfl, rfl, rfl, rfl⟩ rfl rfl rfl rfl rfl (by kernel_rfl) Tryz.func4 (by kernel_rfl)
    (of_decide_eq_true (by kernel_rfl)) (by unfold Func.isWrapper; first | (rw [if_pos (by decide +kernel)]; kernel_rfl) | (rw [if_neg (by decide +kernel)]; exact ⟨rfl, rfl⟩))
    (fun os started H enc _ => lifted os started H enc)
end Go.Proofs.YtikdiepcfdimgaaGreatDoor.RowOwnersMembers
namespace Go.Proofs.YtikdiepcfdimgaaGreatDoor
open Go
theorem ownersMembers_card : Rows.OwnersMembersCardSaid :=
  Claim7.holds_tied_plain_at .later [] [.data] true Rows.ownersMembersCard.stood.harness false
    RowOwnersMembers.row_holds (fun _ h => by cases h) (by kernel_rfl) (fun _ h => by cases h) ownersMembers_row_tie rfl ⟨rfl, rfl⟩ (by kernel_rfl) rfl
    (fun f fn hf hfn => by
      obtain rfl : f = 4 := Option.some.inj ((show Tryz.prog.funcNamed "accounting/accountinglaw43.OwnersMembers" = some 4 by kernel_rfl).symm.trans hf) |>.symm
      obtain rfl : fn = Tryz.f4 := (Option.some.inj (Tryz.func4.symm.trans hfn)).symm
      exact ⟨by kernel_rfl, fun j t ht => by
        rw [Tryz.params4] at ht
        have hm : t ∈ [22, 32] := by simpa using Array.mem_of_getElem? ht
        have hall : ([22, 32].all fun u => !Tryz.prog.wantsStandIn u) = true := by kernel_rfl
        exact (show Tryz.prog.wantsStandIn t = false by simpa using List.all_eq_true.1 hall t hm)⟩)
    (by kernel_rfl)
#print axioms ownersMembers_card
end Go.Proofs.YtikdiepcfdimgaaGreatDoor
