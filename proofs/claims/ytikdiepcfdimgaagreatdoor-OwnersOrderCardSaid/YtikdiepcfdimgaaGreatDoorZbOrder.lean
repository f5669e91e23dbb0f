/- The statement OwnersOrder (P43.1 to P43.4) is proved: for every row of holdings and every place, with start-up's table of month lengths as the program's text lays it, the law returns true and its arguments read as they did. -/
import Derived.Test.YtikdiepcfdimgaaGreatDoorZbf
import Derived.Test.YtikdiepcfdimgaaGreatDoorTie
import Derived.Test.YtikdiepcfdimgaaGreatDoorCards
import Derived.SevenTiedAt
set_option linter.all false
namespace Go.Proofs.YtikdiepcfdimgaaGreatDoor.POw
open Go.RowKit Go.Lib Go.Proofs.YtikdiepcfdimgaaGreatDoorW.PrintWords Go.Proofs.YtikdiepcfdimgaaGreatDoorW.PrintLast
theorem same_main (l : List ByteArray) (hl : l.length ≤ 20000) : ∀ (g i : Nat), i + g = l.length → Ev (fun k => accountingref15_SameTexts.l0 k l l (i : Int)) true
  | 0, i, hg => by
    refine ⟨1, fun k hk => ?_⟩
    obtain ⟨j, rfl⟩ : ∃ j, k = j + 1 := ⟨k - 1, by omega⟩
    show accountingref15_SameTexts.l0 (j + 1) l l (i : Int) = _
    rw [accountingref15_SameTexts.l0, if_neg (by omega)]
  | g + 1, i, hg => by
    have e : wrap64 ((i : Int) + 1) = ((i + 1 : Nat) : Int) := by rw [wr_ (by omega)]; omega
    obtain ⟨k0, E⟩ := same_main l hl g (i + 1) (by omega)
    refine ⟨k0 + 1, fun k hk => ?_⟩
    obtain ⟨j, rfl⟩ : ∃ j, k = j + 1 := ⟨k - 1, by omega⟩
    have F := E j (by omega)
    simp only at F
    show accountingref15_SameTexts.l0 (j + 1) l l (i : Int) = _
    rw [accountingref15_SameTexts.l0, if_pos (by omega), if_pos (by omega), if_pos (by omega), if_pos rfl, e, F]
theorem same_ev (l : List ByteArray) (hl : l.length ≤ 20000) : Ev (fun k => accountingref15_SameTexts.f k l l) true := by
  obtain ⟨k0, E⟩ := same_main l hl l.length 0 (by omega)
  refine ⟨k0, fun k hk => ?_⟩
  show accountingref15_SameTexts.f k l l = _
  unfold accountingref15_SameTexts.f
  rw [if_pos rfl]
  exact E k hk
theorem go_same {w : World} {A A' : Option Addr} {c c' : Nat} {l : List ByteArray} (h1 : Kd.C Kd.string w A l.length l) (hc : l.length ≤ c) (h2 : Kd.C Kd.string w A' l.length l) (hc' : l.length ≤ c') (hl : l.length ≤ 20000) :
    Calls Tryz.prog 16 #[.slice A l.length c, .slice A' l.length c'] w fun e w' => e = .returned (.bool true) ∧ Below w.heap.size w w' := by
  obtain ⟨k, E⟩ := same_ev l hl
  refine (accountingref15_SameTexts.calls k A c l A' c' l true w h1 hc h2 hc' (E k (Nat.le_refl _))).mono ?_
  rintro e w' ⟨rfl, hd⟩
  exact ⟨rfl, hd.below⟩
theorem gp_Members_is {w : World} {L : List Hold} {g : Nat} (h : GrP w g (grOf L gr0)) (gd : Good L) (kf : Nat) (top : ByteArray) (day : Int) (r : Option (ByteArray → Bool)) (ht : top.size ≤ 1000) (hL : DaysLaid w) (hF : membF kf (grOf L gr0) top day = some r) {res : List ByteArray} (hli : ListIs res r) :
    Calls Tryz.prog 17 #[.pointer (some ⟨g, 0, none⟩), .string top, .int .i64 day] w fun e w' => ∃ A c, e = .returned (.slice A res.length c) ∧ Kd.C Kd.string w' A res.length res ∧ res.length ≤ c ∧ Below w.heap.size w w' := by
  refine (gp_Members h gd kf top day r ht hL hF).mono ?_
  rintro e w' ⟨A, c, l, rfl, hC, hc, hl, hb⟩
  obtain rfl : l = res := list_of hl hli.1 hli.2
  exact ⟨A, c, rfl, hC, hc, hb⟩
theorem own_holds {w : World} {B : Nat} {v : Value} {l : List Hold} (h : w.ownsRow B 56 5 v l.length (l.flatMap hcs)) (hl : l.length ≤ 1000) : ∃ A c, v = .slice A l.length c ∧ Kd.C k56 w A l.length l := by
  have hr := reps_holds w B (fun k => True ∧ some k ≠ v.ownBlock) l
  have : Kd.R k56 56 w B (fun _ => True) v l :=
    ⟨fun _ _ => trivial, l.flatMap hcs, by have h3 : (k56).sz = 5 := rfl; rw [h3]; exact h, hr⟩
  obtain ⟨A, c, e, _, hC⟩ := Kd.R_reads this
  exact ⟨A, c, e, hC⟩
set_option maxRecDepth 100000 in
set_option maxHeartbeats 8000000 in
theorem go_law_Order (A : Option Addr) (c : Nat) (l : List Hold) (top ent : ByteArray) (day : Int) (w : World) (hC : Kd.C k56 w A l.length l) (hlc : l.length ≤ c) (hI : HI l) (hL : DaysLaid w) :
    Calls Tryz.prog 9 #[.slice A l.length c, .agg #[.string top, .string ent, .int .i64 day]] w fun e w' => e = .returned (.bool true) ∧ Below w.heap.size w w' := by
  have hba := (Below.refl w.heap.size w).alloc (Nat.le_refl _) (.cells #[.string top, .string ent, .int .i64 day] 32)
  have HP0 := Lib.hid (PBox.made w top ent day)
  have HB0 := Lib.hid hba
  obtain ⟨f0, f1, f2⟩ := HP0.out.facts
  have HLV := Lib.hid (fun (W : World) (hW : Below w.heap.size w W) => go_lives W (hL.below hW))
  have HSH := Lib.hid (fun (W : World) => go_short top ent day W)
  by_cases hok : lightB l = true ∧ Group l
  · have HMD := Lib.hid (go_made_yes A c l _ (Kd.C_below hC hba) hlc hI (hL.below hba) hok)
    by_cases hsh : shortB top ent = true
    · rw [hsh] at HSH
      have hsh' := hsh
      unfold shortB at hsh'
      simp only [Bool.and_eq_true, decide_eq_true_eq] at hsh'
      obtain ⟨hlb, hgr⟩ := hok
      have hl14 := (lightB_spec hlb).1
      have hgd := hgr.good
      obtain ⟨r, hr⟩ := hgr.rank
      have hpm : l.Perm l.reverse := (List.reverse_perm l).symm
      have hgr' := hgr.perm hpm
      have hgd' := hgr'.good
      have hm : ∀ q, q ∈ l ↔ q ∈ l.reverse := fun q => hpm.mem_iff
      have hm' : ∀ q, q ∈ l.reverse ↔ q ∈ l := fun q => (hm q).symm
      have hr' : Rank l.reverse r := fun o x he => hr o x (he.mono (fun q hq => (hm q).2 hq))
      obtain ⟨⟨k0, h0⟩, _⟩ := hgr'.new
      obtain ⟨ef, ⟨k1, h1⟩, hp⟩ := hgd.effective_prog hr top ent day
      obtain ⟨ef', ⟨k2, h2⟩, hq⟩ := hgd'.effective_prog hr' top ent day
      have hee : ef' = ef := by
        rcases hp with ⟨n1, rfl⟩ | ⟨P, p1, p2, rfl⟩
        · rcases hq with ⟨_, rfl⟩ | ⟨Q, q1, q2, _⟩
          · rfl
          · exact absurd (hgd'.im_eq hgd hm' q2) n1
        · rcases hq with ⟨n1, _⟩ | ⟨Q, q1, q2, rfl⟩
          · exact absurd (hgd.im_eq hgd' hm p2) n1
          · rw [(hgd.least_same hgd' hm p1).unique q1, hgd.effN_eq hgd' hm]
      subst hee
      obtain ⟨mb, ⟨k3, h3⟩, hp3⟩ := hgd.memb_ev top day
      obtain ⟨mb', ⟨k4, h4⟩, hp4⟩ := hgd'.memb_ev top day
      obtain ⟨res, r', _, hp5, hli, hrl⟩ := hgd.members_ev top day hsh'.1
      obtain rfl := hp5.unique hp3
      obtain rfl := hp4.unique (hgd.memb_same hgd' hm hp3)
      have hen := ent_same hm
      have HRL := Lib.hid hrl
      have HNL := Lib.hid (show (entL l []).length ≤ 20000 by have := hgd.ent_len; omega)
      have HSZ := Lib.hid (show ∀ q ∈ l.reverse, q.f0.size ≤ 100 ∧ q.f1.size ≤ 100 ∧ inI q.f2.f0 ∧ inI q.f2.f1 from fun q hq => ⟨((lightB_spec hlb).2 q (hm' q |>.1 hq)).1, ((lightB_spec hlb).2 q (hm' q |>.1 hq)).2, hI q (hm' q |>.1 hq)⟩)
      have HNW := Lib.hid (fun (W : World) (hW : Below w.heap.size w W) (A' : Option Addr) (c' : Nat) (hC' : Kd.C k56 W A' l.reverse.length l.reverse) => (show Calls Tryz.prog 12 #[.slice A' l.length c'] W _ from by
        have := gp_New k0 A' c' l.reverse 0 0 (some (grOf l.reverse gr0)) W hC' (fun _ => HSZ.out) (hL.below hW) (h0 k0 (Nat.le_refl _))
        rw [List.length_reverse] at this
        exact this))
      have HEF := Lib.hid (fun (W : World) (hW : Below w.heap.size w W) (g : Nat) (hG : GrP W g (grOf l gr0)) => gp_Effective hG hgd k1 (r ent + 1) top ent day ef' (by omega) (by omega) (hL.below hW) (h1 k1 (Nat.le_refl _)))
      have HE1 := Lib.hid (fun (W : World) (hW : Below w.heap.size w W) (g : Nat) (hG : GrP W g (grOf l.reverse gr0)) => gp_Effective hG hgd' k2 (r ent + 1) top ent day ef' (by omega) (by omega) (hL.below hW) (h2 k2 (Nat.le_refl _)))
      have HME := Lib.hid (fun (W : World) (hW : Below w.heap.size w W) (g : Nat) (hG : GrP W g (grOf l gr0)) => gp_Members_is hG hgd k3 top day _ (by omega) (hL.below hW) (h3 k3 (Nat.le_refl _)) hli)
      have HM2 := Lib.hid (fun (W : World) (hW : Below w.heap.size w W) (g : Nat) (hG : GrP W g (grOf l.reverse gr0)) => gp_Members_is hG hgd' k4 top day _ (by omega) (hL.below hW) (h4 k4 (Nat.le_refl _)) hli)
      have HEN := Lib.hid (fun (W : World) (g : Nat) (hG : GrP W g (grOf l gr0)) => gp_Entities hG hgd)
      have HE2 := Lib.hid (fun (W : World) (g : Nat) (hG : GrP W g (grOf l.reverse gr0)) => (by
        have := gp_Entities hG hgd'
        rw [← hen] at this
        exact this : Calls Tryz.prog 24 #[.pointer (some ⟨g, 0, none⟩)] W fun e w' => ∃ A c, e = .returned (.slice A (entL l []).length c) ∧ Kd.C Kd.string w' A (entL l []).length (entL l []) ∧ (entL l []).length ≤ c ∧ Below W.heap.size W w'))
      have HC := Lib.hid hC
      have HLZ := Lib.hid hl14
      obtain ⟨ra, rb, re⟩ := ef'
      obtain ⟨i0, hi0, hi1, hi2, hi3⟩ := info_parts info_hold
      clear hp hq h0 h1 h2 h3 h4 hp3 hp4 hp5 hgd hgd' hgr' hr hr' hpm hm hm' hen hli hrl
      clear hsh hsh' hlb hgr hl14 hC hL hI hba
      go_enter Tryz.func9, Tryz.ntmps9
      go_upto_region 4 with (first
        | (go_at_call 14; refine HMD.out.mono ?_; rintro e w1 ⟨g, rfl, hG, hb1⟩; have HB := Lib.hid (HB0.out.trans (hb1.mono HB0.out.size)); have HP := Lib.hid (HP0.out.below hb1); obtain ⟨g0, g1, g2⟩ := HP.out.facts; have HG := Lib.hid hG; clear hG hb1)
        | (go_at_call 15; refine (HSH.out _).mono ?_; rintro e w2 ⟨rfl, hb2⟩; replace HB := Lib.hid (HB.out.trans (hb2.mono HB.out.size)); replace HP := Lib.hid (HP.out.below hb2); replace HG := Lib.hid (HG.out.below hb2); obtain ⟨g0, g1, g2⟩ := HP.out.facts; clear hb2))
      obtain ⟨z, hz⟩ : ∃ z, w.heap.size = z := ⟨_, rfl⟩
      rw [hz] at HP
      rw [hz]
      clear f0 f1 f2 g0 g1 g2 hz
      go_wp2
      have hl14 := HLZ.out
      have hwz : wrap64 ((l.length : Int) - 1) = (l.length : Int) - 1 := wr_ (by omega)
      go_loopg [7, 8] l.length (fun n t7 t8 wr => ∃ (k : Nat) (v : Value), n = k ∧ k ≤ l.length ∧ v = t7 ∧ t8 = .int .i64 ((k : Int) - 1) ∧ Below w2.heap.size w2 wr ∧ Hid (wr.ownsRow w2.heap.size 56 5 v (l.length - k) ((l.drop k).reverse.flatMap hcs)))
      case atStart => exact ⟨l.length, _, rfl, Nat.le_refl _, rfl, by go_num, Below.refl _ _, Lib.hid (by rw [List.drop_length, Nat.sub_self]; exact World.ownsRow_nil _ _ _ _)⟩
      case round =>
        clear hwz
        obtain ⟨k, v, rfl, hk, rfl, rfl, hbr, HO⟩ := hrel
        cases gk with
        | succ k =>
          have hlt : k < l.length := by omega
          obtain ⟨b, o, hAe, hbl, q0, q1, q2, q3, q4⟩ := holds_at (Kd.C_below HC.out (HB.out.trans (hbr.mono HB.out.size))) k hlt
          subst hAe
          obtain ⟨x, hx⟩ : ∃ x, l[k] = x := ⟨_, rfl⟩
          rw [hx] at q0 q1 q2 q3 q4
          have hki : (k : Int) < (l.length : Int) := by omega
          have HX := Lib.hid hx
          clear hx
          obtain ⟨Av, cv, hve, hnc, _, _⟩ := own_form HO.out
          subst hve
          have hal := (Below.refl wr.heap.size wr).alloc (Nat.le_refl _) (.cells (hcs x).toArray 56)
          have HOA := Lib.hid (pw_own_below HO.out hal)
          have HNB := Lib.hid ((Go.MapKept.heap_alloc wr (.cells (hcs x).toArray 56)).1)
          have HAL := Lib.hid (hbr.alloc hbr.size (.cells (hcs x).toArray 56))
          clear hal
          go_wp2_with (at_builtin; (refine wpList_append_any rfl (.tmp 36) (.tmp 41) 22 rfl w2.heap.size 56 i0 _ 5 56 Tryz.underlying22 hi0 hi1 hi2 hi3 rfl (by omega) _ (l.length - (k + 1)) _ rfl HOA.out _ 1 _ (hcs x) rfl rfl (fun j u hu => ⟨_, rfl, World.news_of_block HNB.out j u hu⟩) (by intro u hu; simp [hcs] at hu; rcases hu with h | h | h | h | h <;> (subst h; rfl)) (by unfold maxLen; omega) (by omega) (by rw [World.size_alloc]; have := hbr.size; omega) ?_; intro v1 w4 own1 gr1 fr1))
          have hB4 := pw_below_grown HAL.out _ HAL.out.size gr1 (own_base HOA.out)
          go_roundg k
          case measure => omega
          case rel => exact ⟨k, v1, rfl, by omega, rfl, by go_num, hB4, Lib.hid (by
            have e1 : l.length - (k + 1) + 1 = l.length - k := by omega
            have e2 : (l.drop (k + 1)).reverse.flatMap hcs ++ hcs x = (l.drop k).reverse.flatMap hcs := by
              rw [List.drop_eq_getElem_cons hlt, HX.out, List.reverse_cons, List.flatMap_append]
              simp
            rw [e1, e2] at own1
            exact own1)⟩
        | zero =>
          have hO := HO.out
          rw [List.drop_zero, Nat.sub_zero] at hO
          have hnl : l.reverse.length ≤ 1000 := by rw [List.length_reverse]; omega
          obtain ⟨Av, cv, hve, HCR⟩ := own_holds (l := l.reverse) (by rw [List.length_reverse]; exact hO) hnl
          rw [List.length_reverse] at hve
          subst hve
          have HCV := Lib.hid HCR
          replace HB := Lib.hid (HB.out.trans (hbr.mono HB.out.size)); replace HP := Lib.hid (HP.out.below hbr); replace HG := Lib.hid (HG.out.below hbr)
          clear hO HO hnl HCR
          go_upto_region 12 with (first
            | (go_at_call 12; refine (HNW.out _ HB.out _ _ HCV.out).mono ?_; rintro e w5 ⟨p, rfl, ⟨gh, rfl, hJ⟩, hb5⟩; have HJ := Lib.hid hJ; replace HB := Lib.hid (HB.out.trans (hb5.mono HB.out.size)); replace HP := Lib.hid (HP.out.below hb5); replace HG := Lib.hid (HG.out.below hb5); clear hb5 hJ))
          obtain ⟨g0, g1, g2⟩ := HP.out.facts
          go_upto_region 13 with (first
            | (go_at_call 19; refine (HEF.out _ HB.out g HG.out).mono ?_; rintro e w3 ⟨rfl, hb3⟩; replace HB := Lib.hid (HB.out.trans (hb3.mono HB.out.size)); replace HP := Lib.hid (HP.out.below hb3); replace HG := Lib.hid (HG.out.below hb3); replace HJ := Lib.hid (HJ.out.below hb3); clear hb3))
          have hba3 := (Below.refl w3.heap.size w3).alloc (Nat.le_refl _) (.cells #[.int .i64 ra, .int .i64 rb] 42)
          have HF := Lib.hid (FrcAt.made w3 ⟨ra, rb⟩)
          obtain ⟨z3, hz3⟩ : ∃ z, w3.heap.size = z := ⟨_, rfl⟩
          obtain ⟨W3, hW3⟩ : ∃ W, w3.alloc (.cells #[.int .i64 ra, .int .i64 rb] 42) = W := ⟨_, rfl⟩
          simp only at HF
          rw [hW3] at hba3 HF ⊢
          replace HB := Lib.hid (HB.out.trans (hba3.mono HB.out.size)); replace HP := Lib.hid (HP.out.below hba3); replace HG := Lib.hid (HG.out.below hba3); replace HJ := Lib.hid (HJ.out.below hba3)
          rw [hz3] at HF ⊢
          clear hba3 hW3 hz3 g0 g1 g2
          obtain ⟨g0, g1, g2⟩ := HP.out.facts
          go_upto_region 14 with (first
            | (go_at_call 19; refine (HE1.out _ HB.out gh HJ.out).mono ?_; rintro e w4 ⟨rfl, hb4⟩; replace HB := Lib.hid (HB.out.trans (hb4.mono HB.out.size)); replace HP := Lib.hid (HP.out.below hb4); replace HG := Lib.hid (HG.out.below hb4); replace HJ := Lib.hid (HJ.out.below hb4); replace HF := Lib.hid (HF.out.below hb4); clear hb4))
          have hba4 := (Below.refl w4.heap.size w4).alloc (Nat.le_refl _) (.cells #[.int .i64 ra, .int .i64 rb] 42)
          have HH := Lib.hid (FrcAt.made w4 ⟨ra, rb⟩)
          obtain ⟨z4, hz4⟩ : ∃ z, w4.heap.size = z := ⟨_, rfl⟩
          obtain ⟨W4, hW4⟩ : ∃ W, w4.alloc (.cells #[.int .i64 ra, .int .i64 rb] 42) = W := ⟨_, rfl⟩
          simp only at HH
          rw [hW4] at hba4 HH ⊢
          replace HB := Lib.hid (HB.out.trans (hba4.mono HB.out.size)); replace HP := Lib.hid (HP.out.below hba4); replace HG := Lib.hid (HG.out.below hba4); replace HJ := Lib.hid (HJ.out.below hba4); replace HF := Lib.hid (HF.out.below hba4)
          rw [hz4] at HH ⊢
          clear hba4 hW4 hz4 g0 g1 g2
          have hdr := (Below.refl W4.heap.size W4).drew
          have HPd := Lib.hid (HP.out.below hdr)
          have HGd := Lib.hid (HG.out.below hdr)
          have HJd := Lib.hid (HJ.out.below hdr)
          have HFd := Lib.hid (HF.out.below hdr)
          have HHd := Lib.hid (HH.out.below hdr)
          have HBd := Lib.hid (HB.out.drew)
          clear hdr
          refine start_ (n := 34) (S := fun w' => w'.cell? ⟨z, 0, none⟩ = some (.string top) ∧ w'.cell? ⟨z, 2, none⟩ = some (.int .i64 day) ∧ w'.cell? ⟨z3, 0, none⟩ = some (.int .i64 ra) ∧ w'.cell? ⟨z3, 1, none⟩ = some (.int .i64 rb) ∧ w'.cell? ⟨z4, 0, none⟩ = some (.int .i64 ra) ∧ w'.cell? ⟨z4, 1, none⟩ = some (.int .i64 rb)) (ds := []) #[false, false, false, false, false, false, false, false, false, false, false, false, false, false, false, false, false, false, false, false, false, false, false, false, false, false, false, false, false, false, false, false, false, false] (by kernel_rfl) rfl rfl ⟨HPd.out.facts.1, HPd.out.facts.2.2, HFd.out.facts.1, HFd.out.facts.2.1, HHd.out.facts.1, HHd.out.facts.2.1⟩ (fun hHeld => ?_)
          refine take_ (i := 0) (N := some 77) (v := ?_) (a' := ?_) #[true, false, false, false, false, false, false, false, false, false, false, false, false, false, false, false, false, false, false, false, false, false, false, false, false, false, false, false, false, false, false, false, false, false] rfl rfl (by kernel_rfl) (fun _ _ _ h => h) (Or.inl ⟨by rfl, ?_⟩) hHeld ?_ ?_
          rotate_left
          · rintro w' ⟨s0, s1, s2, s3, s4, s5⟩
            go_simp
            with_reducible rfl
          rotate_left
          · simp only [Act.put, pkA, pkZ, pkS, i64_w, i32_w]
            rfl
          refine take_ (i := 1) (N := some 78) (v := ?_) (a' := ?_) #[true, true, false, false, false, false, false, false, false, false, false, false, false, false, false, false, false, false, false, false, false, false, false, false, false, false, false, false, false, false, false, false, false, false] rfl rfl (by kernel_rfl) (fun _ _ _ h => h) (Or.inl ⟨by rfl, ?_⟩) hHeld ?_ ?_
          rotate_left
          · rintro w' ⟨s0, s1, s2, s3, s4, s5⟩
            go_simp
            with_reducible rfl
          rotate_left
          · simp only [Act.put, pkA, pkZ, pkS, i64_w, i32_w]
            rfl
          refine pure_ (i := 2) (N := some 79) (v := ?_) (a' := ?_) #[true, true, true, false, false, false, false, false, false, false, false, false, false, false, false, false, false, false, false, false, false, false, false, false, false, false, false, false, false, false, false, false, false, false] rfl rfl (by kernel_rfl) (fun _ _ _ h => h) (Or.inl ⟨by rfl, ?_⟩) ?_ ?_
          rotate_left
          · intro w'
            go_simp
            with_reducible rfl
          rotate_left
          · simp only [Act.put, pkA, pkZ, pkS, i64_w, i32_w]
            rfl
          refine pure_ (i := 3) (N := some 80) (v := ?_) (a' := ?_) #[true, true, true, true, false, false, false, false, false, false, false, false, false, false, false, false, false, false, false, false, false, false, false, false, false, false, false, false, false, false, false, false, false, false] rfl rfl (by kernel_rfl) (fun _ _ _ h => h) (Or.inl ⟨by rfl, ?_⟩) ?_ ?_
          rotate_left
          · intro w'
            go_simp
            with_reducible rfl
          rotate_left
          · simp only [Act.put, pkA, pkZ, pkS, i64_w, i32_w]
            rfl
          refine pure_ (i := 4) (N := some 81) (v := ?_) (a' := ?_) #[true, true, true, true, true, false, false, false, false, false, false, false, false, false, false, false, false, false, false, false, false, false, false, false, false, false, false, false, false, false, false, false, false, false] rfl rfl (by kernel_rfl) (fun _ _ _ h => h) (Or.inl ⟨by rfl, ?_⟩) ?_ ?_
          rotate_left
          · intro w'
            go_simp
            with_reducible rfl
          rotate_left
          · simp only [Act.put, pkA, pkZ, pkS, i64_w, i32_w]
            rfl
          refine pure_ (i := 5) (N := some 82) (v := ?_) (a' := ?_) #[true, true, true, true, true, true, false, false, false, false, false, false, false, false, false, false, false, false, false, false, false, false, false, false, false, false, false, false, false, false, false, false, false, false] rfl rfl (by kernel_rfl) (fun _ _ _ h => h) (Or.inl ⟨by rfl, ?_⟩) ?_ ?_
          rotate_left
          · intro w'
            go_simp
            with_reducible rfl
          rotate_left
          · simp only [Act.put, pkA, pkZ, pkS, i64_w, i32_w]
            rfl
          refine pure_ (i := 6) (N := some 83) (v := ?_) (a' := ?_) #[true, true, true, true, true, true, true, false, false, false, false, false, false, false, false, false, false, false, false, false, false, false, false, false, false, false, false, false, false, false, false, false, false, false] rfl rfl (by kernel_rfl) (fun _ _ _ h => h) (Or.inl ⟨by rfl, ?_⟩) ?_ ?_
          rotate_left
          · intro w'
            go_simp
            with_reducible rfl
          rotate_left
          · simp only [Act.put, pkA, pkZ, pkS, i64_w, i32_w]
            rfl
          refine pure_ (i := 7) (N := some 84) (v := ?_) (a' := ?_) #[true, true, true, true, true, true, true, true, false, false, false, false, false, false, false, false, false, false, false, false, false, false, false, false, false, false, false, false, false, false, false, false, false, false] rfl rfl (by kernel_rfl) (fun _ _ _ h => h) (Or.inl ⟨by rfl, ?_⟩) ?_ ?_
          rotate_left
          · intro w'
            go_simp
            with_reducible rfl
          rotate_left
          · simp only [Act.put, pkA, pkZ, pkS, i64_w, i32_w]
            rfl
          refine pure_ (i := 8) (N := some 85) (v := ?_) (a' := ?_) #[true, true, true, true, true, true, true, true, true, false, false, false, false, false, false, false, false, false, false, false, false, false, false, false, false, false, false, false, false, false, false, false, false, false] rfl rfl (by kernel_rfl) (fun _ _ _ h => h) (Or.inl ⟨by rfl, ?_⟩) ?_ ?_
          rotate_left
          · intro w'
            go_simp
            with_reducible rfl
          rotate_left
          · simp only [Act.put, pkA, pkZ, pkS, i64_w, i32_w]
            rfl
          refine pure_ (i := 9) (N := some 86) (v := ?_) (a' := ?_) #[true, true, true, true, true, true, true, true, true, true, false, false, false, false, false, false, false, false, false, false, false, false, false, false, false, false, false, false, false, false, false, false, false, false] rfl rfl (by kernel_rfl) (fun _ _ _ h => h) (Or.inl ⟨by rfl, ?_⟩) ?_ ?_
          rotate_left
          · intro w'
            go_simp
            with_reducible rfl
          rotate_left
          · simp only [Act.put, pkA, pkZ, pkS, i64_w, i32_w]
            rfl
          refine pure_ (i := 10) (N := some 87) (v := ?_) (a' := ?_) #[true, true, true, true, true, true, true, true, true, true, true, false, false, false, false, false, false, false, false, false, false, false, false, false, false, false, false, false, false, false, false, false, false, false] rfl rfl (by kernel_rfl) (fun _ _ _ h => h) (Or.inl ⟨by rfl, ?_⟩) ?_ ?_
          rotate_left
          · intro w'
            go_simp
            with_reducible rfl
          rotate_left
          · simp only [Act.put, pkA, pkZ, pkS, i64_w, i32_w]
            rfl
          refine pure_ (i := 12) (N := some 89) (v := ?_) (a' := ?_) #[true, true, true, true, true, true, true, true, true, true, true, false, true, false, false, false, false, false, false, false, false, false, false, false, false, false, false, false, false, false, false, false, false, false] rfl rfl (by kernel_rfl) (fun _ _ _ h => h) (Or.inl ⟨by rfl, ?_⟩) ?_ ?_
          rotate_left
          · intro w'
            go_simp
            with_reducible rfl
          rotate_left
          · simp only [Act.put, pkA, pkZ, pkS, i64_w, i32_w]
            rfl
          refine pure_ (i := 15) (N := some 92) (v := ?_) (a' := ?_) #[true, true, true, true, true, true, true, true, true, true, true, false, true, false, false, true, false, false, false, false, false, false, false, false, false, false, false, false, false, false, false, false, false, false] rfl rfl (by kernel_rfl) (fun _ _ _ h => h) (Or.inl ⟨by rfl, ?_⟩) ?_ ?_
          rotate_left
          · intro w'
            go_simp
            with_reducible rfl
          rotate_left
          · simp only [Act.put, pkA, pkZ, pkS, i64_w, i32_w]
            rfl
          refine pure_ (i := 16) (N := some 93) (v := ?_) (a' := ?_) #[true, true, true, true, true, true, true, true, true, true, true, false, true, false, false, true, true, false, false, false, false, false, false, false, false, false, false, false, false, false, false, false, false, false] rfl rfl (by kernel_rfl) (fun _ _ _ h => h) (Or.inl ⟨by rfl, ?_⟩) ?_ ?_
          rotate_left
          · intro w'
            go_simp
            with_reducible rfl
          rotate_left
          · simp only [Act.put, pkA, pkZ, pkS, i64_w, i32_w]
            rfl
          refine pure_ (i := 18) (N := some 95) (v := ?_) (a' := ?_) #[true, true, true, true, true, true, true, true, true, true, true, false, true, false, false, true, true, false, true, false, false, false, false, false, false, false, false, false, false, false, false, false, false, false] rfl rfl (by kernel_rfl) (fun _ _ _ h => h) (Or.inl ⟨by rfl, ?_⟩) ?_ ?_
          rotate_left
          · intro w'
            go_simp
            with_reducible rfl
          rotate_left
          · simp only [Act.put, pkA, pkZ, pkS, i64_w, i32_w]
            rfl
          refine take_ (i := 11) (N := some 88) (v := ?_) (a' := ?_) #[true, true, true, true, true, true, true, true, true, true, true, true, true, false, false, true, true, false, true, false, false, false, false, false, false, false, false, false, false, false, false, false, false, false] rfl rfl (by kernel_rfl) (fun _ _ _ h => h) (Or.inl ⟨by rfl, ?_⟩) hHeld ?_ ?_
          rotate_left
          · rintro w' ⟨s0, s1, s2, s3, s4, s5⟩
            go_simp
            with_reducible rfl
          rotate_left
          · simp only [Act.put, pkA, pkZ, pkS, i64_w, i32_w]
            rfl
          refine take_ (i := 13) (N := some 90) (v := ?_) (a' := ?_) #[true, true, true, true, true, true, true, true, true, true, true, true, true, true, false, true, true, false, true, false, false, false, false, false, false, false, false, false, false, false, false, false, false, false] rfl rfl (by kernel_rfl) (fun _ _ _ h => h) (Or.inl ⟨by rfl, ?_⟩) hHeld ?_ ?_
          rotate_left
          · rintro w' ⟨s0, s1, s2, s3, s4, s5⟩
            go_simp
            with_reducible rfl
          rotate_left
          · simp only [Act.put, pkA, pkZ, pkS, i64_w, i32_w]
            rfl
          refine take_ (i := 17) (N := some 94) (v := ?_) (a' := ?_) #[true, true, true, true, true, true, true, true, true, true, true, true, true, true, false, true, true, true, true, false, false, false, false, false, false, false, false, false, false, false, false, false, false, false] rfl rfl (by kernel_rfl) (fun _ _ _ h => h) (Or.inl ⟨by rfl, ?_⟩) hHeld ?_ ?_
          rotate_left
          · rintro w' ⟨s0, s1, s2, s3, s4, s5⟩
            go_simp
            with_reducible rfl
          rotate_left
          · simp only [Act.put, pkA, pkZ, pkS, i64_w, i32_w]
            rfl
          refine take_ (i := 19) (N := some 96) (v := ?_) (a' := ?_) #[true, true, true, true, true, true, true, true, true, true, true, true, true, true, false, true, true, true, true, true, false, false, false, false, false, false, false, false, false, false, false, false, false, false] rfl rfl (by kernel_rfl) (fun _ _ _ h => h) (Or.inl ⟨by rfl, ?_⟩) hHeld ?_ ?_
          rotate_left
          · rintro w' ⟨s0, s1, s2, s3, s4, s5⟩
            go_simp
            with_reducible rfl
          rotate_left
          · simp only [Act.put, pkA, pkZ, pkS, i64_w, i32_w]
            rfl
          refine one_ (i := 14) (N := some 91) #[true, true, true, true, true, true, true, true, true, true, true, true, true, true, true, true, true, true, true, true, false, false, false, false, false, false, false, false, false, false, false, false, false, false] rfl rfl (by kernel_rfl) (by decide) (fun K hK => ?_)
          refine goes_ Tryz.func17 (by kernel_rfl) rfl #[.pointer (some ⟨g, 0, none⟩), .string top, .int .i64 day] (by rfl) rfl rfl (by simp only [List.map_toArray, List.map_cons, List.map_nil] <;> rfl) ?_
          refine (HME.out _ HBd.out g HGd.out).mono ?_
          rintro e w5 ⟨A5, c5, rfl, hC5, hc5, hb5⟩
          refine ⟨_, rfl, ?_⟩
          have HB5 := Lib.hid (HBd.out.trans (hb5.mono HBd.out.size))
          have HP5 := Lib.hid (HPd.out.below hb5)
          have HF5 := Lib.hid (HFd.out.below hb5)
          have HH5 := Lib.hid (HHd.out.below hb5)
          have HG5 := Lib.hid (HGd.out.below hb5)
          have HJ5 := Lib.hid (HJd.out.below hb5)
          have HC5 := Lib.hid hC5
          clear hC5
          refine hK.out _ _ ⟨(HP5.out.facts).1, (HP5.out.facts).2.2, (HF5.out.facts).1, (HF5.out.facts).2.1, (HH5.out.facts).1, (HH5.out.facts).2.1⟩ (fun hHeld => ?_)
          clear hK K
          refine norm_ (a' := ?_) ?_ ?_
          rotate_left
          · show Act.put _ (some 91) _ = _
            simp only [Act.put, pkA, pkZ, pkS, i64_w, i32_w]
            rfl
          refine one_ (i := 20) (N := some 97) #[true, true, true, true, true, true, true, true, true, true, true, true, true, true, true, true, true, true, true, true, true, false, false, false, false, false, false, false, false, false, false, false, false, false] rfl rfl (by kernel_rfl) (by decide) (fun K hK => ?_)
          refine goes_ Tryz.func17 (by kernel_rfl) rfl #[.pointer (some ⟨gh, 0, none⟩), .string top, .int .i64 day] (by rfl) rfl rfl (by simp only [List.map_toArray, List.map_cons, List.map_nil] <;> rfl) ?_
          refine (HM2.out _ HB5.out gh HJ5.out).mono ?_
          rintro e w6 ⟨A6, c6, rfl, hC6, hc6, hb6⟩
          refine ⟨_, rfl, ?_⟩
          have HB6 := Lib.hid (HB5.out.trans (hb6.mono HB5.out.size))
          have HP6 := Lib.hid (HP5.out.below hb6)
          have HF6 := Lib.hid (HF5.out.below hb6)
          have HH6 := Lib.hid (HH5.out.below hb6)
          have HG6 := Lib.hid (HG5.out.below hb6)
          have HJ6 := Lib.hid (HJ5.out.below hb6)
          have HC6 := Lib.hid hC6
          have HC56 := Lib.hid (Kd.C_below HC5.out hb6)
          clear hC6
          refine hK.out _ _ ⟨(HP6.out.facts).1, (HP6.out.facts).2.2, (HF6.out.facts).1, (HF6.out.facts).2.1, (HH6.out.facts).1, (HH6.out.facts).2.1⟩ (fun hHeld => ?_)
          clear hK K
          refine norm_ (a' := ?_) ?_ ?_
          rotate_left
          · show Act.put _ (some 97) _ = _
            simp only [Act.put, pkA, pkZ, pkS, i64_w, i32_w]
            rfl
          refine one_ (i := 21) (N := some 98) #[true, true, true, true, true, true, true, true, true, true, true, true, true, true, true, true, true, true, true, true, true, true, false, false, false, false, false, false, false, false, false, false, false, false] rfl rfl (by kernel_rfl) (by decide) (fun K hK => ?_)
          refine goes_ Tryz.func16 (by kernel_rfl) rfl #[.slice A5 res.length c5, .slice A6 res.length c6] (by rfl) rfl rfl (by simp only [List.map_toArray, List.map_cons, List.map_nil] <;> rfl) ?_
          refine (go_same HC56.out hc5 HC6.out hc6 (Nat.le_trans HRL.out (by decide))).mono ?_
          rintro e w7 ⟨rfl, hb7⟩
          refine ⟨_, rfl, ?_⟩
          have HB7 := Lib.hid (HB6.out.trans (hb7.mono HB6.out.size))
          have HP7 := Lib.hid (HP6.out.below hb7)
          have HF7 := Lib.hid (HF6.out.below hb7)
          have HH7 := Lib.hid (HH6.out.below hb7)
          have HG7 := Lib.hid (HG6.out.below hb7)
          have HJ7 := Lib.hid (HJ6.out.below hb7)
          refine hK.out _ _ ⟨(HP7.out.facts).1, (HP7.out.facts).2.2, (HF7.out.facts).1, (HF7.out.facts).2.1, (HH7.out.facts).1, (HH7.out.facts).2.1⟩ (fun hHeld => ?_)
          clear hK K
          refine norm_ (a' := ?_) ?_ ?_
          rotate_left
          · show Act.put _ (some 98) _ = _
            simp only [Act.put, pkA, pkZ, pkS, i64_w, i32_w]
            rfl
          refine pure_ (i := 22) (N := some 99) (v := ?_) (a' := ?_) #[true, true, true, true, true, true, true, true, true, true, true, true, true, true, true, true, true, true, true, true, true, true, true, false, false, false, false, false, false, false, false, false, false, false] rfl rfl (by kernel_rfl) (fun _ _ _ h => h) (Or.inl ⟨by rfl, ?_⟩) ?_ ?_
          rotate_left
          · intro w'
            go_simp
            with_reducible rfl
          rotate_left
          · simp only [Act.put, pkA, pkZ, pkS, i64_w, i32_w]
            rfl
          refine pure_ (i := 23) (N := some 100) (v := ?_) (a' := ?_) #[true, true, true, true, true, true, true, true, true, true, true, true, true, true, true, true, true, true, true, true, true, true, true, true, false, false, false, false, false, false, false, false, false, false] rfl rfl (by kernel_rfl) (fun _ _ _ h => h) (Or.inl ⟨by rfl, ?_⟩) ?_ ?_
          rotate_left
          · intro w'
            go_simp
            with_reducible rfl
          rotate_left
          · simp only [Act.put, pkA, pkZ, pkS, i64_w, i32_w]
            rfl
          refine pure_ (i := 24) (N := some 101) (v := ?_) (a' := ?_) #[true, true, true, true, true, true, true, true, true, true, true, true, true, true, true, true, true, true, true, true, true, true, true, true, true, false, false, false, false, false, false, false, false, false] rfl rfl (by kernel_rfl) (fun _ _ _ h => h) (Or.inl ⟨by rfl, ?_⟩) ?_ ?_
          rotate_left
          · intro w'
            go_simp
            with_reducible rfl
          rotate_left
          · simp only [Act.put, pkA, pkZ, pkS, i64_w, i32_w]
            rfl
          refine pure_ (i := 26) (N := some 103) (v := ?_) (a' := ?_) #[true, true, true, true, true, true, true, true, true, true, true, true, true, true, true, true, true, true, true, true, true, true, true, true, true, false, true, false, false, false, false, false, false, false] rfl rfl (by kernel_rfl) (fun _ _ _ h => h) (Or.inl ⟨by rfl, ?_⟩) ?_ ?_
          rotate_left
          · intro w'
            go_simp
            with_reducible rfl
          rotate_left
          · simp only [Act.put, pkA, pkZ, pkS, i64_w, i32_w]
            rfl
          refine one_ (i := 25) (N := some 102) #[true, true, true, true, true, true, true, true, true, true, true, true, true, true, true, true, true, true, true, true, true, true, true, true, true, true, true, false, false, false, false, false, false, false] rfl rfl (by kernel_rfl) (by decide) (fun K hK => ?_)
          refine goes_ Tryz.func24 (by kernel_rfl) rfl #[.pointer (some ⟨g, 0, none⟩)] (by rfl) rfl rfl (by simp only [List.map_toArray, List.map_cons, List.map_nil] <;> rfl) ?_
          refine (HEN.out _ g HG7.out).mono ?_
          rintro e w8 ⟨A8, c8, rfl, hC8, hc8, hb8⟩
          refine ⟨_, rfl, ?_⟩
          have HB8 := Lib.hid (HB7.out.trans (hb8.mono HB7.out.size))
          have HP8 := Lib.hid (HP7.out.below hb8)
          have HF8 := Lib.hid (HF7.out.below hb8)
          have HH8 := Lib.hid (HH7.out.below hb8)
          have HG8 := Lib.hid (HG7.out.below hb8)
          have HJ8 := Lib.hid (HJ7.out.below hb8)
          have HC8 := Lib.hid hC8
          clear hC8
          refine hK.out _ _ ⟨(HP8.out.facts).1, (HP8.out.facts).2.2, (HF8.out.facts).1, (HF8.out.facts).2.1, (HH8.out.facts).1, (HH8.out.facts).2.1⟩ (fun hHeld => ?_)
          clear hK K
          refine norm_ (a' := ?_) ?_ ?_
          rotate_left
          · show Act.put _ (some 102) _ = _
            simp only [Act.put, pkA, pkZ, pkS, i64_w, i32_w]
            rfl
          refine one_ (i := 27) (N := some 104) #[true, true, true, true, true, true, true, true, true, true, true, true, true, true, true, true, true, true, true, true, true, true, true, true, true, true, true, true, false, false, false, false, false, false] rfl rfl (by kernel_rfl) (by decide) (fun K hK => ?_)
          refine goes_ Tryz.func24 (by kernel_rfl) rfl #[.pointer (some ⟨gh, 0, none⟩)] (by rfl) rfl rfl (by simp only [List.map_toArray, List.map_cons, List.map_nil] <;> rfl) ?_
          refine (HE2.out _ gh HJ8.out).mono ?_
          rintro e w9 ⟨A9, c9, rfl, hC9, hc9, hb9⟩
          refine ⟨_, rfl, ?_⟩
          have HB9 := Lib.hid (HB8.out.trans (hb9.mono HB8.out.size))
          have HP9 := Lib.hid (HP8.out.below hb9)
          have HF9 := Lib.hid (HF8.out.below hb9)
          have HH9 := Lib.hid (HH8.out.below hb9)
          have HG9 := Lib.hid (HG8.out.below hb9)
          have HJ9 := Lib.hid (HJ8.out.below hb9)
          have HC9 := Lib.hid hC9
          have HC89 := Lib.hid (Kd.C_below HC8.out hb9)
          clear hC9
          refine hK.out _ _ ⟨(HP9.out.facts).1, (HP9.out.facts).2.2, (HF9.out.facts).1, (HF9.out.facts).2.1, (HH9.out.facts).1, (HH9.out.facts).2.1⟩ (fun hHeld => ?_)
          clear hK K
          refine norm_ (a' := ?_) ?_ ?_
          rotate_left
          · show Act.put _ (some 104) _ = _
            simp only [Act.put, pkA, pkZ, pkS, i64_w, i32_w]
            rfl
          refine one_ (i := 28) (N := some 105) #[true, true, true, true, true, true, true, true, true, true, true, true, true, true, true, true, true, true, true, true, true, true, true, true, true, true, true, true, true, false, false, false, false, false] rfl rfl (by kernel_rfl) (by decide) (fun K hK => ?_)
          refine goes_ Tryz.func16 (by kernel_rfl) rfl #[.slice A8 (entL l []).length c8, .slice A9 (entL l []).length c9] (by rfl) rfl rfl (by simp only [List.map_toArray, List.map_cons, List.map_nil] <;> rfl) ?_
          refine (go_same HC89.out hc8 HC9.out hc9 HNL.out).mono ?_
          rintro e wA ⟨rfl, hbA⟩
          refine ⟨_, rfl, ?_⟩
          have HBA := Lib.hid (HB9.out.trans (hbA.mono HB9.out.size))
          have HPA := Lib.hid (HP9.out.below hbA)
          have HFA := Lib.hid (HF9.out.below hbA)
          have HHA := Lib.hid (HH9.out.below hbA)
          have HGA := Lib.hid (HG9.out.below hbA)
          have HJA := Lib.hid (HJ9.out.below hbA)
          refine hK.out _ _ ⟨(HPA.out.facts).1, (HPA.out.facts).2.2, (HFA.out.facts).1, (HFA.out.facts).2.1, (HHA.out.facts).1, (HHA.out.facts).2.1⟩ (fun hHeld => ?_)
          clear hK K
          refine norm_ (a' := ?_) ?_ ?_
          rotate_left
          · show Act.put _ (some 105) _ = _
            simp only [Act.put, pkA, pkZ, pkS, i64_w, i32_w]
            rfl
          refine pure_ (i := 29) (N := some 106) (v := ?_) (a' := ?_) #[true, true, true, true, true, true, true, true, true, true, true, true, true, true, true, true, true, true, true, true, true, true, true, true, true, true, true, true, true, true, false, false, false, false] rfl rfl (by kernel_rfl) (fun _ _ _ h => h) (Or.inl ⟨by rfl, ?_⟩) ?_ ?_
          rotate_left
          · intro w'
            go_simp
            with_reducible rfl
          rotate_left
          · simp only [Act.put, pkA, pkZ, pkS, i64_w, i32_w]
            rfl
          refine pure_ (i := 30) (N := some 107) (v := ?_) (a' := ?_) #[true, true, true, true, true, true, true, true, true, true, true, true, true, true, true, true, true, true, true, true, true, true, true, true, true, true, true, true, true, true, true, false, false, false] rfl rfl (by kernel_rfl) (fun _ _ _ h => h) (Or.inl ⟨by rfl, ?_⟩) ?_ ?_
          rotate_left
          · intro w'
            go_simp
            with_reducible rfl
          rotate_left
          · simp only [Act.put, pkA, pkZ, pkS, i64_w, i32_w]
            rfl
          refine one_ (i := 31) (N := some 108) #[true, true, true, true, true, true, true, true, true, true, true, true, true, true, true, true, true, true, true, true, true, true, true, true, true, true, true, true, true, true, true, true, false, false] rfl rfl (by kernel_rfl) (by decide) (fun K hK => ?_)
          refine goes_ Tryz.func11 (by kernel_rfl) rfl #[] (by rfl) rfl rfl (by simp only [List.map_toArray, List.map_cons, List.map_nil] <;> rfl) ?_
          refine (HLV.out _ HBA.out).mono ?_
          rintro e wE ⟨rfl, hbE⟩
          refine ⟨_, rfl, ?_⟩
          have HBE := Lib.hid (HBA.out.trans (hbE.mono HBA.out.size))
          have HPE := Lib.hid (HPA.out.below hbE)
          have HFE := Lib.hid (HFA.out.below hbE)
          have HHE := Lib.hid (HHA.out.below hbE)
          have HGE := Lib.hid (HGA.out.below hbE)
          have HJE := Lib.hid (HJA.out.below hbE)
          refine hK.out _ _ ⟨(HPE.out.facts).1, (HPE.out.facts).2.2, (HFE.out.facts).1, (HFE.out.facts).2.1, (HHE.out.facts).1, (HHE.out.facts).2.1⟩ (fun hHeld => ?_)
          clear hK K
          refine norm_ (a' := ?_) ?_ ?_
          rotate_left
          · show Act.put _ (some 108) _ = _
            simp only [Act.put, pkA, pkZ, pkS, i64_w, i32_w]
            rfl
          refine pure_ (i := 32) (N := some 109) (v := ?_) (a' := ?_) #[true, true, true, true, true, true, true, true, true, true, true, true, true, true, true, true, true, true, true, true, true, true, true, true, true, true, true, true, true, true, true, true, true, false] rfl rfl (by kernel_rfl) (fun _ _ _ h => h) (Or.inl ⟨by rfl, ?_⟩) ?_ ?_
          rotate_left
          · intro w'
            go_simp
            with_reducible rfl
          rotate_left
          · simp only [Act.put, pkA, pkZ, pkS, i64_w, i32_w]
            rfl
          refine pure_ (i := 33) (N := some 4) (v := ?_) (a' := ?_) #[true, true, true, true, true, true, true, true, true, true, true, true, true, true, true, true, true, true, true, true, true, true, true, true, true, true, true, true, true, true, true, true, true, true] rfl rfl (by kernel_rfl) (fun _ _ _ h => h) (Or.inl ⟨by rfl, ?_⟩) ?_ ?_
          rotate_left
          · intro w'
            go_simp
            with_reducible rfl
          rotate_left
          · simp only [Act.put, pkA, pkZ, pkS, i64_w, i32_w]
            rfl
          refine done_ (by kernel_rfl) ?_
          clear hHeld
          go_wp2
          go_ret
          exact ⟨rfl, HBE.out⟩
    · have hs0 : shortB top ent = false := by simpa using hsh
      rw [hs0] at HSH
      clear hok hsh hs0 hC hL hI hba
      go_enter Tryz.func9, Tryz.ntmps9
      go_wp2_with (first
        | (go_at_call 14; refine HMD.out.mono ?_; rintro e w1 ⟨g, rfl, hG, hb1⟩; have HB := Lib.hid (HB0.out.trans (hb1.mono HB0.out.size)); have HP := Lib.hid (HP0.out.below hb1); obtain ⟨g0, g1, g2⟩ := HP.out.facts; clear hG hb1)
        | (go_at_call 15; refine (HSH.out _).mono ?_; rintro e w2 ⟨rfl, hb2⟩; replace HB := Lib.hid (HB.out.trans (hb2.mono HB.out.size)); clear hb2)
        | (go_at_call 11; refine (HLV.out _ HB.out).mono ?_; rintro e w4 ⟨rfl, hb4⟩; replace HB := Lib.hid (HB.out.trans (hb4.mono HB.out.size)); clear hb4))
      go_ret
      exact ⟨rfl, HB.out⟩
  · have HMD := Lib.hid (go_made_no A c l _ (Kd.C_below hC hba) hlc hI (hL.below hba) hok)
    clear hok hC hL hI hba
    go_enter Tryz.func9, Tryz.ntmps9
    go_wp2_with (first
      | (go_at_call 14; refine HMD.out.mono ?_; rintro e w1 ⟨rfl, hb1⟩; have HB := Lib.hid (HB0.out.trans (hb1.mono HB0.out.size)); clear hb1)
      | (go_at_call 11; refine (HLV.out _ HB.out).mono ?_; rintro e w4 ⟨rfl, hb4⟩; replace HB := Lib.hid (HB.out.trans (hb4.mono HB.out.size)); clear hb4))
    go_ret
    exact ⟨rfl, HB.out⟩
end Go.Proofs.YtikdiepcfdimgaaGreatDoor.POw
namespace Go.Proofs.YtikdiepcfdimgaaGreatDoor.RowOwnersOrder
open Go.RowKit Go.Lib Go.ChangeShapes Go.WideShapes Go.ChangeAt Go.Proofs.YtikdiepcfdimgaaGreatDoorW.PrintWords Go.Proofs.YtikdiepcfdimgaaGreatDoorW.PrintLast
open POw (open_holds open_place)
theorem own : ownKnob Tryz.prog.godebug = none := by kernel_rfl
theorem laidOut : laidOutB Tryz.prog = true := by kernel_rfl
set_option maxRecDepth 100000 in
theorem lifted (os : Os) (started : os.Started) (H : Type) (enc : TypeId × Value → H) :
    ReturnsInHanded {} Tryz.checked os 9 .any (fun w args => (Rows.ownersOrderSpec.pre enc Tryz.prog Tryz.f9 [] false w args ∧ laidMetH Tryz.prog [("accounting/days.lengths", Rows.laid_accounting_days_lengths)] w) ∧ sizedMet enc Tryz.prog Tryz.f9 (OpenSpec.ofChange Rows.ownersOrderSpec) false w args)
      (Rows.ownersOrderSpec.post enc Tryz.prog Tryz.f9 false true false false) := by
  refine returnsInHanded_of_change_and (C := Tryz.checked) (X := fun w _ => laidMetH Tryz.prog [("accounting/days.lengths", Rows.laid_accounting_days_lengths)] w) (fun _ _ _ hh h => h.of_heap hh) own started (by kernel_rfl) Tryz.func9
    (ChangeSpec.witness_shaped (enc := enc) (C := Tryz.checked) (os := os) (X := fun w _ => laidMetH Tryz.prog [("accounting/days.lengths", Rows.laid_accounting_days_lengths)] w) false (World.doorLaid Tryz.prog 400 os) #[.slice none 0 0, .agg #[.string ByteArray.empty, .string ByteArray.empty, .int .i64 0]] 8 rfl (World.shaped_of_RefB (by kernel_rfl) (by kernel_rfl)) (by kernel_rfl) (by kernel_rfl) (by kernel_rfl) (days_met os _)) ?_
  intro W base args ds gs before hval0 hW _ hsz0 hL _
  have hsz : (DataW.weightsEach Tryz.prog (Tryz.f9.params.toList ++ Rows.ownersOrderSpec.plain.varTypes Tryz.prog) (ds ++ gs)).all (· ≤ reachBytes) = true := hsz0
  have hval : ∀ (j : Nat) t v, Tryz.f9.params[j]? = some t → args[j]? = some v → Value.okWide Tryz.prog W .any base t v := hval0
  have hW' := hW
  obtain ⟨p, q, hA0, hV, rfl, hfz, hnd⟩ := hW
  have hA : DataW.TrodAll enc Tryz.prog W 0 (fun _ => true) true Tryz.f9.params.toList args.toList ds p := hA0
  rw [Tryz.params9] at hA hval hsz
  obtain ⟨v0, vs0, d0, ds0, p0, q0, hargs, rfl, rfl, h0, r0⟩ := trodAll_cons hA
  obtain ⟨v1, vs1, d1, ds1, p1, q1, rfl, rfl, rfl, h1, r1⟩ := trodAll_cons r0
  obtain ⟨rfl, rfl, rfl⟩ := trodAll_nil r1
  obtain rfl : args = #[v0, v1] := by cases args; simp_all
  obtain ⟨rfl, rfl⟩ := trodVars_none hV
  have lt0 : ∀ x ∈ p0, x.block < W.heap.size := by obtain ⟨m, hm⟩ := h0; exact DataW.trod_lt m _ _ _ hm
  obtain ⟨a0, len0, cap0, rfl⟩ := okWide_slice Tryz.underlying22 (hval 0 22 v0 rfl rfl)
  obtain ⟨l0, rfl, hr0, hc0, hi0⟩ := open_holds h0
  have lt1 : ∀ x ∈ p1, x.block < W.heap.size := by obtain ⟨m, hm⟩ := h1; exact DataW.trod_lt m _ _ _ hm
  obtain ⟨top, ent, day, rfl⟩ := open_place h1
  have hdl := days_of_laid hL
  clear hA0 hval0 hsz0 hsz
  refine (POw.go_law_Order a0 cap0 l0 top ent day W hr0 hc0 hi0 hdl).mono fun e W' ⟨he, bel⟩ => ?_
  subst he
  exact ⟨_, rfl, _, _, _, [], _, [], hW', trodAll_mk1 (shut_bool Tryz.underlying4 _), (trodAll_cons_mk (Below.trod laidOut (by kernel_rfl) (of_decide_eq_true (by kernel_rfl)) h0 bel lt0) (trodAll_cons_mk (Below.trod laidOut (by kernel_rfl) (of_decide_eq_true (by kernel_rfl)) h1 bel lt1) trodAll_mk0)), rfl, bel.frame _, fun h => by cases h⟩
theorem row_holds : Rows.OwnersOrderSaid :=
  OpenClaim.holds_of_wide 9 Tryz.f9 rfl rfl rfl rfl rfl rfl rfl ⟨rfl, rfl, rfl, rfl, rfl⟩ rfl rfl rfl rfl rfl (by kernel_rfl) Tryz.func9 (by kernel_rfl)
    (of_decide_eq_true (by kernel_rfl)) (by unfold Func.isWrapper; first | (rw [if_pos (by decide +kernel)]; kernel_rfl) | (rw [if_neg (by decide +kernel)]; exact ⟨rfl, rfl⟩))
    (fun os started H enc _ => lifted os started H enc)
end Go.Proofs.YtikdiepcfdimgaaGreatDoor.RowOwnersOrder
namespace Go.Proofs.YtikdiepcfdimgaaGreatDoor
open Go
theorem ownersOrder_card : Rows.OwnersOrderCardSaid :=
  Claim7.holds_tied_plain_at .later [] [.data] true Rows.ownersOrderCard.stood.harness false
    RowOwnersOrder.row_holds (fun _ h => by cases h) (by kernel_rfl) (fun _ h => by cases h) ownersOrder_row_tie rfl ⟨rfl, rfl⟩ (by kernel_rfl) rfl
    (fun f fn hf hfn => by
      obtain rfl : f = 9 := Option.some.inj ((show Tryz.prog.funcNamed "accounting/accountinglaw43.OwnersOrder" = some 9 by kernel_rfl).symm.trans hf) |>.symm
      obtain rfl : fn = Tryz.f9 := (Option.some.inj (Tryz.func9.symm.trans hfn)).symm
      exact ⟨by kernel_rfl, fun j t ht => by
        rw [Tryz.params9] at ht
        have hm : t ∈ [22, 32] := by simpa using Array.mem_of_getElem? ht
        have hall : ([22, 32].all fun u => !Tryz.prog.wantsStandIn u) = true := by kernel_rfl
        exact (show Tryz.prog.wantsStandIn t = false by simpa using List.all_eq_true.1 hall t hm)⟩)
    (by kernel_rfl)
#print axioms ownersOrder_card
end Go.Proofs.YtikdiepcfdimgaaGreatDoor
