/- The statement OwnersInner (P43.3 to P43.5) is proved: for every row of holdings and every place, with start-up's table of month lengths as the program's text lays it, the law returns true and its arguments read as they did. -/
import Derived.Test.YtikdiepcfdimgaaGreatDoorZbf
import Derived.Test.YtikdiepcfdimgaaGreatDoorTie
import Derived.Test.YtikdiepcfdimgaaGreatDoorCards
import Derived.SevenTiedAt
set_option linter.all false
namespace Go.Proofs.YtikdiepcfdimgaaGreatDoor.POw
open Go.RowKit Go.Lib Go.Proofs.YtikdiepcfdimgaaGreatDoorW.PrintWords Go.Proofs.YtikdiepcfdimgaaGreatDoorW.PrintLast
theorem gp_Members_is {w : World} {L : List Hold} {g : Nat} (h : GrP w g (grOf L gr0)) (gd : Good L) (kf : Nat) (top : ByteArray) (day : Int) (r : Option (ByteArray → Bool)) (ht : top.size ≤ 1000) (hL : DaysLaid w) (hF : membF kf (grOf L gr0) top day = some r) {res : List ByteArray} (hli : ListIs res r) :
    Calls Tryz.prog 17 #[.pointer (some ⟨g, 0, none⟩), .string top, .int .i64 day] w fun e w' => ∃ A c, e = .returned (.slice A res.length c) ∧ Kd.C Kd.string w' A res.length res ∧ res.length ≤ c ∧ Below w.heap.size w w' := by
  refine (gp_Members h gd kf top day r ht hL hF).mono ?_
  rintro e w' ⟨A, c, l, rfl, hC, hc, hl, hb⟩
  obtain rfl : l = res := list_of hl hli.1 hli.2
  exact ⟨A, c, rfl, hC, hc, hb⟩
theorem contains_main (l : List ByteArray) (s : ByteArray) (hl : l.length ≤ 20000) : ∀ (g i : Nat), i + g = l.length → Ev (fun k => accountinglaw43_contains.l0 k l s (i : Int)) (inL (l.drop i) s)
  | 0, i, hg => by
    rw [List.drop_eq_nil_of_le (by omega)]
    refine ⟨1, fun k hk => ?_⟩
    obtain ⟨j, rfl⟩ : ∃ j, k = j + 1 := ⟨k - 1, by omega⟩
    show accountinglaw43_contains.l0 (j + 1) l s (i : Int) = _
    rw [accountinglaw43_contains.l0, if_neg (by omega)]
    rfl
  | g + 1, i, hg => by
    have hi : i < l.length := by omega
    obtain ⟨x, hx⟩ : ∃ x, l[i] = x := ⟨_, rfl⟩
    rw [List.drop_eq_getElem_cons hi, hx]
    have e : wrap64 ((i : Int) + 1) = ((i + 1 : Nat) : Int) := by rw [wr_ (by omega)]; omega
    obtain ⟨k0, E⟩ := contains_main l s hl g (i + 1) (by omega)
    refine ⟨k0 + 1, fun k hk => ?_⟩
    obtain ⟨j, rfl⟩ : ∃ j, k = j + 1 := ⟨k - 1, by omega⟩
    have F := E j (by omega)
    simp only at F
    show accountinglaw43_contains.l0 (j + 1) l s (i : Int) = _
    rw [accountinglaw43_contains.l0, if_pos (by omega), if_pos (by omega), rd_str hi, hx, e]
    by_cases c : x = s
    · rw [if_pos ((toList_iff _ _).2 c)]; simp [inL, c]
    · rw [if_neg (fun h => c ((toList_iff _ _).1 h)), F]; simp [inL, c]
theorem go_contains {w : World} {A : Option Addr} {c : Nat} {l : List ByteArray} (s : ByteArray) (h : Kd.C Kd.string w A l.length l) (hc : l.length ≤ c) (hl : l.length ≤ 20000) :
    Calls Tryz.prog 23 #[.slice A l.length c, .string s] w fun e w' => e = .returned (.bool (inL l s)) ∧ Below w.heap.size w w' := by
  obtain ⟨k, E⟩ := contains_main l s hl l.length 0 (by omega)
  refine (accountinglaw43_contains.calls k A c l s (inL l s) w h hc (E k (Nat.le_refl _))).mono ?_
  rintro e w' ⟨rfl, hd⟩
  exact ⟨rfl, hd.below⟩
def MAt (w : World) (A : Option Addr) (m : List ByteArray) : Prop := Kd.C Kd.string w A m.length m
theorem MAt.below {w W : World} {A : Option Addr} {m : List ByteArray} (h : MAt w A m) (hb : Below w.heap.size w W) : MAt W A m := Kd.C_below h hb
theorem MAt.cell {w : World} {bm om i : Nat} {m : List ByteArray} {x : ByteArray} (h : MAt w (some ⟨bm, om, none⟩) m) (hi : i < m.length) (hx : m[i] = x) : w.cell? ⟨bm, om + i, none⟩ = some (.string x) := by
  obtain ⟨b, o, e, _, hc⟩ := kstr_at h i hi
  cases e
  rw [← hx]
  exact hc
section
variable {L : List Hold} {top : ByteArray} {day : Int} {r : Option (ByteArray → Bool)} {m : List ByteArray}
theorem mem_im (hr : MembIs L top day r) (hl : ListIs m r) {x : ByteArray} (hx : x ∈ m) : Im L top x day := by
  obtain ⟨p, e, hp⟩ := (hl.2 x).1 hx
  exact hr.im.1 (by rw [e]; exact hp)
theorem Good.mem_size (g : Good L) (ht : top.size ≤ 100) (hr : MembIs L top day r) (hl : ListIs m r) {x : ByteArray} (hx : x ∈ m) : x.size ≤ 100 := by
  obtain ⟨p, e, hp⟩ := (hl.2 x).1 hx
  rcases hr with ⟨_, _, P, e2, hP⟩ | ⟨_, e2⟩
  · rw [e2] at e; cases e
    rcases hP.sub x hp with rfl | h
    · exact ht
    · obtain ⟨q, hq, h | h⟩ := mem_ent.1 h
      · have := wcodeB_size (g.ok q hq).1; rw [h]; omega
      · have := wcodeB_size (g.ok q hq).2.1; rw [h]; omega
  · rw [e2] at e; cases e
theorem Good.memb_list (g : Good L) (t : ByteArray) (d : Int) (ht : t.size ≤ 100) : ∃ q k l, membF k (grOf L gr0) t d = some q ∧ MembIs L t d q ∧ ListIs l q ∧ List.length l ≤ 20000 := by
  obtain ⟨q, ⟨k, h⟩, hq⟩ := g.memb_ev t d
  obtain ⟨l, q', _, hq', hl, hz⟩ := g.members_ev t d ht
  obtain rfl := hq'.unique hq
  exact ⟨_, k, l, h k (Nat.le_refl _), hq, hl, by omega⟩
theorem inner_sub (hr : MembIs L top day r) (hl : ListIs m r) {x : ByteArray} (hx : x ∈ m) {q : Option (ByteArray → Bool)} {n : List ByteArray} (hq : MembIs L x day q) (hn : ListIs n q) : ∀ y ∈ n, inL m y = true := fun y hy => by
  rw [inL_iff]
  obtain ⟨p, e, hp⟩ := (hl.2 x).1 hx
  obtain ⟨p', e', hp'⟩ := (hn.2 y).1 hy
  rw [hl.2]
  refine ⟨p, e, ?_⟩
  rcases hr with ⟨_, _, P, e2, hP⟩ | ⟨_, e2⟩
  · rcases hq with ⟨_, _, Q, e3, hQ⟩ | ⟨_, e3⟩
    · rw [e2] at e; cases e
      rw [e3] at e'; cases e'
      exact hP.inner hp hQ y hp'
    · rw [e3] at e'; cases e'
  · rw [e2] at e; cases e
theorem mem_top (hr : MembIs L top day r) (hl : ListIs m r) (hn : m ≠ []) : inL m top = true := by
  rw [inL_iff, hl.2]
  rcases hr with ⟨_, _, P, e2, hP⟩ | ⟨_, e2⟩
  · exact ⟨P, e2, hP.tp⟩
  · exfalso
    apply hn
    cases m with
    | nil => rfl
    | cons a m =>
      obtain ⟨p, e, _⟩ := (hl.2 a).1 (List.mem_cons_self ..)
      rw [e2] at e; cases e
theorem inner_eff (h : Group L) {rk : ByteArray → Nat} (hk : Rank L rk) (hr : MembIs L top day r) (hl : ListIs m r) {x : ByteArray} (hx : x ∈ m) : ∃ k res, effectiveF k (rk x + 1) (grOf L gr0) top x day = some res ∧ Unit01 res := by
  obtain ⟨res, ⟨k, h1⟩, hp⟩ := h.good.effective_prog hk top x day
  refine ⟨k, res, h1 k (Nat.le_refl _), ?_⟩
  rcases hp with ⟨n, _⟩ | ⟨P, _, _, rfl⟩
  · exact absurd (mem_im hr hl hx) n
  · exact h.eff_unit hk day P top _ x (by omega)
theorem inner_since (g : Good L) (hr : MembIs L top day r) (hl : ListIs m r) {x : ByteArray} (hx : x ∈ m) : ∃ k fr, sinceF k (grOf L gr0) top x day = some (fr, true) ∧ 0 ≤ fr ∧ fr ≤ day ∧ day ≤ 109572 ∧ Im L top x fr ∧ ¬ Im L top x (fr - 1) := by
  obtain ⟨res, ⟨k, h1⟩, hs⟩ := g.since_prog top x day
  have him := mem_im hr hl hx
  obtain ⟨a1, a2, a3, a4, a5⟩ := hs.yes him
  refine ⟨k, res.1, ?_, a2, a3, him.day.2, a4 _ (Int.le_refl _) a3, a5⟩
  have := h1 k (Nat.le_refl _)
  simp only at this
  rw [this, ← a1]
theorem in_list {t x : ByteArray} {d : Int} {q : Option (ByteArray → Bool)} {n : List ByteArray} (hq : MembIs L t d q) (hn : ListIs n q) (h : Im L t x d) : inL n x = true := by
  rw [hn.inB]; exact hq.im.2 h
theorem not_in_list {t x : ByteArray} {d : Int} {q : Option (ByteArray → Bool)} {n : List ByteArray} (hq : MembIs L t d q) (hn : ListIs n q) (h : ¬ Im L t x d) : inL n x = false := by
  rw [hn.inB]
  cases c : inB q x with
  | false => rfl
  | true => exact absurd (hq.im.1 c) h
end
end Go.Proofs.YtikdiepcfdimgaaGreatDoor.POw
namespace Go.Proofs.YtikdiepcfdimgaaGreatDoor.POw
open Go.RowKit Go.Lib Go.Proofs.YtikdiepcfdimgaaGreatDoorW.PrintWords Go.Proofs.YtikdiepcfdimgaaGreatDoorW.PrintLast
set_option maxRecDepth 100000 in
set_option maxHeartbeats 8000000 in
theorem go_law_Inner (A : Option Addr) (c : Nat) (l : List Hold) (top ent : ByteArray) (day : Int) (w : World) (hC : Kd.C k56 w A l.length l) (hlc : l.length ≤ c) (hI : HI l) (hL : DaysLaid w) :
    Calls Tryz.prog 7 #[.slice A l.length c, .agg #[.string top, .string ent, .int .i64 day]] w fun e w' => e = .returned (.bool true) ∧ Below w.heap.size w w' := by
  have hba := (Below.refl w.heap.size w).alloc (Nat.le_refl _) (.cells #[.string top, .string ent, .int .i64 day] 32)
  have HP0 := Lib.hid (PBox.made w top ent day)
  have HB0 := Lib.hid hba
  obtain ⟨f0, f1, f2⟩ := HP0.out.facts
  have HLV := Lib.hid (fun (W : World) (hW : Below w.heap.size w W) => go_lives W (hL.below hW))
  have HSH := Lib.hid (fun (W : World) => go_short top ent day W)
  by_cases hok : lightB l = true ∧ Group l
  · have HMD := Lib.hid (go_made_yes A c l _ (Kd.C_below hC hba) hlc hI (hL.below hba) hok)
    by_cases hsh : shortB top ent = true
    · rw [hsh] at HSH
      have hsh' := hsh
      unfold shortB at hsh'
      simp only [Bool.and_eq_true, decide_eq_true_eq] at hsh'
      obtain ⟨hlb, hgr⟩ := hok
      have hl14 := (lightB_spec hlb).1
      have hgd := hgr.good
      obtain ⟨rk, hrk⟩ := hgr.rank
      obtain ⟨r, k1, m, h1, hmb, hli, hml⟩ := hgd.memb_list top day hsh'.1
      have HGR := Lib.hid hgr
      have HRK := Lib.hid hrk
      have HMB := Lib.hid hmb
      have HLI := Lib.hid hli
      have HML := Lib.hid hml
      have HTZ := Lib.hid hsh'.1
      have HL := Lib.hid hL
      have HME := Lib.hid (fun (W : World) (hW : Below w.heap.size w W) (g : Nat) (hG : GrP W g (grOf l gr0)) => gp_Members_is hG hgd k1 top day r (by omega) (hL.below hW) h1 hli)
      clear hrk h1 hmb hli hml hgd
      clear hsh hsh' hlb hgr hl14 hC hL hI hba
      go_enter Tryz.func7, Tryz.ntmps7
      go_upto_region 5 with (first
        | (go_at_call 14; refine HMD.out.mono ?_; rintro e w1 ⟨g, rfl, hG, hb1⟩; have HB := Lib.hid (HB0.out.trans (hb1.mono HB0.out.size)); have HP := Lib.hid (HP0.out.below hb1); obtain ⟨g0, g1, g2⟩ := HP.out.facts; have HG := Lib.hid hG; clear hG hb1)
        | (go_at_call 15; refine (HSH.out _).mono ?_; rintro e w2 ⟨rfl, hb2⟩; replace HB := Lib.hid (HB.out.trans (hb2.mono HB.out.size)); replace HP := Lib.hid (HP.out.below hb2); replace HG := Lib.hid (HG.out.below hb2); obtain ⟨g0, g1, g2⟩ := HP.out.facts; clear hb2)
        | (go_at_call 17; refine (HME.out _ HB.out g HG.out).mono ?_; rintro e w3 ⟨Am, cm, rfl, hCm, hcm, hb3⟩; replace HB := Lib.hid (HB.out.trans (hb3.mono HB.out.size)); replace HP := Lib.hid (HP.out.below hb3); replace HG := Lib.hid (HG.out.below hb3); have HM := Lib.hid (show MAt w3 Am m from hCm); have HCM := Lib.hid hcm; clear hb3 hCm hcm))
      obtain ⟨z, hz⟩ : ∃ z, w.heap.size = z := ⟨_, rfl⟩
      rw [hz] at HP
      rw [hz]
      clear f0 f1 f2 g0 g1 g2 hz
      have hml := HML.out
      go_wp2
      go_loopg [8] m.length (fun n t8 wr => ∃ i : Nat, n = m.length - i ∧ i ≤ m.length ∧ t8 = .int .i64 i ∧ Hid (Below w.heap.size w wr) ∧ Hid (PBox wr z top ent day) ∧ Hid (GrP wr g (grOf l gr0)) ∧ Hid (MAt wr Am m))
      case atStart => exact ⟨0, rfl, Nat.zero_le _, rfl, HB, HP, HG, HM⟩
      case round =>
        clear HB HP HG HM
        obtain ⟨i, rfl, hi, rfl, HB, HP, HG, HM⟩ := hrel
        by_cases hbm : i < m.length
        · obtain ⟨bm, om, hAm, _, _⟩ := kstr_at HM.out i hbm
          subst hAm
          obtain ⟨x, hxi⟩ : ∃ x, m[i] = x := ⟨_, rfl⟩
          have hxm : x ∈ m := hxi ▸ List.getElem_mem hbm
          have hxz := HGR.out.good.mem_size HTZ.out HMB.out HLI.out hxm
          obtain ⟨qx, k2, resx, h2, hqx, hlx, hzx⟩ := HGR.out.good.memb_list x day hxz
          obtain ⟨k3, ef, h3, hu⟩ := inner_eff HGR.out HRK.out HMB.out HLI.out hxm
          obtain ⟨k4, fr, h4, hf0, hf1, hf2, hfi, hfn⟩ := inner_since HGR.out.good HMB.out HLI.out hxm
          obtain ⟨qf, k5, resf, h5, hqf, hlf, hzf⟩ := HGR.out.good.memb_list top fr HTZ.out
          obtain ⟨qg, k6, resg, h6, hqg, hlg, hzg⟩ := HGR.out.good.memb_list top (wrap64 (fr - 1)) HTZ.out
          have HIF := Lib.hid (in_list hqf hlf hfi)
          have HIG := Lib.hid (not_in_list (x := x) hqg hlg (by rw [wr_ (by omega)]; exact hfn))
          have HRF := Lib.hid hzf
          have HRG := Lib.hid hzg
          have HRX := Lib.hid hzx
          have HSUB := Lib.hid (inner_sub HMB.out HLI.out hxm hqx hlx)
          have htz := HTZ.out
          have HIN := Lib.hid (fun (W : World) (hW : Below w.heap.size w W) (g : Nat) (hG : GrP W g (grOf l gr0)) => gp_Members_is hG HGR.out.good k2 x day qx (by omega) (HL.out.below hW) h2 hlx)
          have HEF := Lib.hid (fun (W : World) (hW : Below w.heap.size w W) (g : Nat) (hG : GrP W g (grOf l gr0)) => gp_Effective hG HGR.out.good k3 (rk x + 1) top x day ef (by omega) (by omega) (HL.out.below hW) h3)
          have HSI := Lib.hid (fun (W : World) (hW : Below w.heap.size w W) (g : Nat) (hG : GrP W g (grOf l gr0)) => gp_Since hG HGR.out.good k4 top x day (fr, true) (by omega) (by omega) (HL.out.below hW) h4)
          have HM1 := Lib.hid (fun (W : World) (hW : Below w.heap.size w W) (g : Nat) (hG : GrP W g (grOf l gr0)) => gp_Members_is hG HGR.out.good k5 top fr qf (by omega) (HL.out.below hW) h5 hlf)
          have HM0 := Lib.hid (fun (W : World) (hW : Below w.heap.size w W) (g : Nat) (hG : GrP W g (grOf l gr0)) => gp_Members_is hG HGR.out.good k6 top (wrap64 (fr - 1)) qg (by omega) (HL.out.below hW) h6 hlg)
          obtain ⟨ra, rb, re⟩ := ef
          have HU := Lib.hid hu
          have HF0 := Lib.hid hf0
          have HF1 := Lib.hid hf1
          have hmi : (i : Int) < (m.length : Int) := by omega
          clear hxm hxz h2 hqx hlx hzx h3 hu h4 hf0 hf1 hf2 hfi hfn h5 hqf hlf hzf h6 hqg hlg hzg htz
          go_upto_region 8 with fail
          have hdr := (Below.refl wr.heap.size wr).drew
          have HPd := Lib.hid (HP.out.below hdr)
          have HGd := Lib.hid (HG.out.below hdr)
          have HMd := Lib.hid (HM.out.below hdr)
          have HBd := Lib.hid (HB.out.drew)
          have HXd := Lib.hid (MAt.cell HMd.out hbm hxi)
          clear hdr
          refine start_ (n := 9) (S := fun w' => w'.cell? ⟨bm, om + i, none⟩ = some (.string x) ∧ w'.cell? ⟨z, 2, none⟩ = some (.int .i64 day)) (ds := []) #[false, false, false, false, false, false, false, false, false] (by kernel_rfl) rfl rfl ⟨HXd.out, HPd.out.facts.2.2⟩ (fun hHeld => ?_)
          refine pure_ (i := 0) (N := some 40) (v := ?_) (a' := ?_) #[true, false, false, false, false, false, false, false, false] rfl rfl (by kernel_rfl) (fun _ _ _ h => h) (Or.inl ⟨by rfl, ?_⟩) ?_ ?_
          rotate_left
          · intro w'
            go_simp
            with_reducible rfl
          rotate_left
          · simp only [Act.put, pkA, pkZ, pkS, i64_w, i32_w]
            rfl
          refine pure_ (i := 1) (N := some 41) (v := ?_) (a' := ?_) #[true, true, false, false, false, false, false, false, false] rfl rfl (by kernel_rfl) (fun _ _ _ h => h) (Or.inl ⟨by rfl, ?_⟩) ?_ ?_
          rotate_left
          · intro w'
            go_simp
            with_reducible rfl
          rotate_left
          · simp only [Act.put, pkA, pkZ, pkS, i64_w, i32_w]
            rfl
          refine pure_ (i := 2) (N := some 42) (v := ?_) (a' := ?_) #[true, true, true, false, false, false, false, false, false] rfl rfl (by kernel_rfl) (fun _ _ _ h => h) (Or.inl ⟨by rfl, ?_⟩) ?_ ?_
          rotate_left
          · intro w'
            go_simp
            with_reducible rfl
          rotate_left
          · simp only [Act.put, pkA, pkZ, pkS, i64_w, i32_w]
            rfl
          refine pure_ (i := 3) (N := some 43) (v := ?_) (a' := ?_) #[true, true, true, true, false, false, false, false, false] rfl rfl (by kernel_rfl) (fun _ _ _ h => h) (Or.inl ⟨by rfl, ?_⟩) ?_ ?_
          rotate_left
          · intro w'
            go_simp
            with_reducible rfl
          rotate_left
          · simp only [Act.put, pkA, pkZ, pkS, i64_w, i32_w]
            rfl
          refine pure_ (i := 5) (N := some 45) (v := ?_) (a' := ?_) #[true, true, true, true, false, true, false, false, false] rfl rfl (by kernel_rfl) (fun _ _ _ h => h) (Or.inl ⟨by rfl, ?_⟩) ?_ ?_
          rotate_left
          · intro w'
            go_simp
            with_reducible rfl
          rotate_left
          · simp only [Act.put, pkA, pkZ, pkS, i64_w, i32_w]
            rfl
          refine take_ (i := 4) (N := some 44) (v := ?_) (a' := ?_) #[true, true, true, true, true, true, false, false, false] rfl rfl (by kernel_rfl) (fun _ _ _ h => h) (Or.inl ⟨by rfl, ?_⟩) hHeld ?_ ?_
          rotate_left
          · rintro w' ⟨s0, s1⟩
            go_simp
            with_reducible rfl
          rotate_left
          · simp only [Act.put, pkA, pkZ, pkS, i64_w, i32_w]
            rfl
          refine take_ (i := 6) (N := some 46) (v := ?_) (a' := ?_) #[true, true, true, true, true, true, true, false, false] rfl rfl (by kernel_rfl) (fun _ _ _ h => h) (Or.inl ⟨by rfl, ?_⟩) hHeld ?_ ?_
          rotate_left
          · rintro w' ⟨s0, s1⟩
            go_simp
            with_reducible rfl
          rotate_left
          · simp only [Act.put, pkA, pkZ, pkS, i64_w, i32_w]
            rfl
          refine one_ (i := 7) (N := some 47) #[true, true, true, true, true, true, true, true, false] rfl rfl (by kernel_rfl) (by decide) (fun K hK => ?_)
          refine goes_ Tryz.func17 (by kernel_rfl) rfl #[.pointer (some ⟨g, 0, none⟩), .string x, .int .i64 day] (by rfl) rfl rfl (by simp only [List.map_toArray, List.map_cons, List.map_nil] <;> rfl) ?_
          refine (HIN.out _ HBd.out g HGd.out).mono ?_
          rintro e w5 ⟨A5, c5, rfl, hC5, hc5, hb5⟩
          refine ⟨_, rfl, ?_⟩
          have HB5 := Lib.hid (HBd.out.trans (hb5.mono HBd.out.size))
          have HP5 := Lib.hid (HPd.out.below hb5)
          have HG5 := Lib.hid (HGd.out.below hb5)
          have HM5 := Lib.hid (HMd.out.below hb5)
          have HX5 := Lib.hid (MAt.cell HM5.out hbm hxi)
          have HC5 := Lib.hid hC5
          have HD5 := Lib.hid hc5
          clear hC5 hc5
          refine hK.out _ _ ⟨HX5.out, HP5.out.facts.2.2⟩ (fun hHeld => ?_)
          clear hK K
          refine norm_ (a' := ?_) ?_ ?_
          rotate_left
          · show Act.put _ (some 47) _ = _
            simp only [Act.put, pkA, pkZ, pkS, i64_w, i32_w]
            rfl
          refine pure_ (i := 8) (N := some 9) (v := ?_) (a' := ?_) #[true, true, true, true, true, true, true, true, true] rfl rfl (by kernel_rfl) (fun _ _ _ h => h) (Or.inl ⟨by rfl, ?_⟩) ?_ ?_
          rotate_left
          · intro w'
            go_simp
            with_reducible rfl
          rotate_left
          · simp only [Act.put, pkA, pkZ, pkS, i64_w, i32_w]
            rfl
          refine done_ (by kernel_rfl) ?_
          clear hHeld
          have HBz := Lib.hid HB5.out
          clear HB HP HG HM HBd HPd HGd HMd HXd
          have hzx := HRX.out
          go_wp2
          go_loopg [10] resx.length (fun n t10 wq => ∃ j : Nat, n = resx.length - j ∧ j ≤ resx.length ∧ t10 = .int .i64 j ∧ Below w5.heap.size w5 wq)
          case atStart => exact ⟨0, rfl, Nat.zero_le _, rfl, Below.refl _ _⟩
          case round =>
            obtain ⟨j, rfl, hj, rfl, hbq⟩ := hrel
            by_cases hjl : j < resx.length
            · obtain ⟨b5, o5, hA5, _, q0⟩ := kstr_at (Kd.C_below HC5.out hbq) j hjl
              subst hA5
              obtain ⟨y, hy⟩ : ∃ y, resx[j] = y := ⟨_, rfl⟩
              have hyin := HSUB.out y (hy ▸ List.getElem_mem hjl)
              rw [hy] at q0
              have hct := go_contains y (HM5.out.below hbq) HCM.out HML.out
              rw [hyin] at hct
              have HCT := Lib.hid hct
              have hji : (j : Int) < (resx.length : Int) := by omega
              clear hy hyin hct
              go_wp2_with (go_at_call 23; refine HCT.out.mono ?_; rintro e w6 ⟨rfl, hb6⟩)
              go_roundg (resx.length - (j + 1))
              case measure => omega
              case rel => exact ⟨j + 1, rfl, by omega, by go_num, hbq.trans (hb6.mono hbq.size)⟩
            · obtain rfl : j = resx.length := by omega
              rename World => We
              go_upto_region 14 with fail
              have HBe := Lib.hid (HB5.out.trans (hbq.mono HB5.out.size))
              have HPe := Lib.hid (HP5.out.below hbq)
              have HGe := Lib.hid (HG5.out.below hbq)
              have HMe := Lib.hid (HM5.out.below hbq)
              have bl_ := (Below.refl We.heap.size We).drew
              clear hzx hj hjl hbq HB5 HP5 HG5 HM5 HX5 HC5 HD5 HBz
              refine start_ (n := 16) (S := fun w' => w'.cell? ⟨bm, om + i, none⟩ = some (.string x) ∧ w'.cell? ⟨z, 0, none⟩ = some (.string top) ∧ w'.cell? ⟨z, 2, none⟩ = some (.int .i64 day)) (ds := [14]) #[false, false, false, false, false, false, false, false, false, false, false, false, false, false, false, false] (by kernel_rfl) rfl rfl ⟨(MAt.cell (HMe.out.below bl_) hbm hxi), ((HPe.out.below bl_).facts).1, ((HPe.out.below bl_).facts).2.2⟩ (fun hHeld => ?_)
              refine pure_ (i := 0) (N := some 62) (v := ?_) (a' := ?_) #[true, false, false, false, false, false, false, false, false, false, false, false, false, false, false, false] rfl rfl (by kernel_rfl) (fun _ _ _ h => h) (Or.inl ⟨by rfl, ?_⟩) ?_ ?_
              rotate_left
              · intro w'
                go_simp
                with_reducible rfl
              rotate_left
              · simp only [Act.put, pkA, pkZ, pkS, i64_w, i32_w]
                rfl
              refine pure_ (i := 1) (N := some 63) (v := ?_) (a' := ?_) #[true, true, false, false, false, false, false, false, false, false, false, false, false, false, false, false] rfl rfl (by kernel_rfl) (fun _ _ _ h => h) (Or.inl ⟨by rfl, ?_⟩) ?_ ?_
              rotate_left
              · intro w'
                go_simp
                with_reducible rfl
              rotate_left
              · simp only [Act.put, pkA, pkZ, pkS, i64_w, i32_w]
                rfl
              refine pure_ (i := 3) (N := some 65) (v := ?_) (a' := ?_) #[true, true, false, true, false, false, false, false, false, false, false, false, false, false, false, false] rfl rfl (by kernel_rfl) (fun _ _ _ h => h) (Or.inl ⟨by rfl, ?_⟩) ?_ ?_
              rotate_left
              · intro w'
                go_simp
                with_reducible rfl
              rotate_left
              · simp only [Act.put, pkA, pkZ, pkS, i64_w, i32_w]
                rfl
              refine pure_ (i := 4) (N := some 66) (v := ?_) (a' := ?_) #[true, true, false, true, true, false, false, false, false, false, false, false, false, false, false, false] rfl rfl (by kernel_rfl) (fun _ _ _ h => h) (Or.inl ⟨by rfl, ?_⟩) ?_ ?_
              rotate_left
              · intro w'
                go_simp
                with_reducible rfl
              rotate_left
              · simp only [Act.put, pkA, pkZ, pkS, i64_w, i32_w]
                rfl
              refine pure_ (i := 5) (N := some 67) (v := ?_) (a' := ?_) #[true, true, false, true, true, true, false, false, false, false, false, false, false, false, false, false] rfl rfl (by kernel_rfl) (fun _ _ _ h => h) (Or.inl ⟨by rfl, ?_⟩) ?_ ?_
              rotate_left
              · intro w'
                go_simp
                with_reducible rfl
              rotate_left
              · simp only [Act.put, pkA, pkZ, pkS, i64_w, i32_w]
                rfl
              refine pure_ (i := 7) (N := some 69) (v := ?_) (a' := ?_) #[true, true, false, true, true, true, false, true, false, false, false, false, false, false, false, false] rfl rfl (by kernel_rfl) (fun _ _ _ h => h) (Or.inl ⟨by rfl, ?_⟩) ?_ ?_
              rotate_left
              · intro w'
                go_simp
                with_reducible rfl
              rotate_left
              · simp only [Act.put, pkA, pkZ, pkS, i64_w, i32_w]
                rfl
              refine take_ (i := 2) (N := some 64) (v := ?_) (a' := ?_) #[true, true, true, true, true, true, false, true, false, false, false, false, false, false, false, false] rfl rfl (by kernel_rfl) (fun _ _ _ h => h) (Or.inl ⟨by rfl, ?_⟩) hHeld ?_ ?_
              rotate_left
              · rintro w' ⟨s0, s1, s2⟩
                go_simp
                with_reducible rfl
              rotate_left
              · simp only [Act.put, pkA, pkZ, pkS, i64_w, i32_w]
                rfl
              refine take_ (i := 6) (N := some 68) (v := ?_) (a' := ?_) #[true, true, true, true, true, true, true, true, false, false, false, false, false, false, false, false] rfl rfl (by kernel_rfl) (fun _ _ _ h => h) (Or.inl ⟨by rfl, ?_⟩) hHeld ?_ ?_
              rotate_left
              · rintro w' ⟨s0, s1, s2⟩
                go_simp
                with_reducible rfl
              rotate_left
              · simp only [Act.put, pkA, pkZ, pkS, i64_w, i32_w]
                rfl
              refine take_ (i := 8) (N := some 70) (v := ?_) (a' := ?_) #[true, true, true, true, true, true, true, true, true, false, false, false, false, false, false, false] rfl rfl (by kernel_rfl) (fun _ _ _ h => h) (Or.inl ⟨by rfl, ?_⟩) hHeld ?_ ?_
              rotate_left
              · rintro w' ⟨s0, s1, s2⟩
                go_simp
                with_reducible rfl
              rotate_left
              · simp only [Act.put, pkA, pkZ, pkS, i64_w, i32_w]
                rfl
              refine join_ (σ := Nat) 2 #[true, true, true, true, true, true, true, true, true, true, true, true, true, true, false, false] (fun q => [(71, .tuple #[.agg #[.int .i64 ra, .int .i64 rb], .int .i64 re]), (61, .tuple #[.agg #[.int .i64 ra, .int .i64 rb], .int .i64 re]), (72, .agg #[.int .i64 ra, .int .i64 rb]), (73, .int .i64 re), (11, .pointer (some ⟨q, 0, none⟩))]) (fun q w' => Below We.heap.size We w' ∧ FrcAt w' q ⟨0, 0⟩ ∧ We.heap.size ≤ q) ?_ ?_
              rotate_left
              · intro hCont
                refine two_ (i := 9) (j := 13) (Ni := some 71) (Nj := some 11) #[true, true, true, true, true, true, true, true, true, true, false, false, false, false, false, false] #[true, true, true, true, true, true, true, true, true, false, false, false, false, true, false, false] rfl rfl rfl rfl (by kernel_rfl) (by decide) (by decide) (fun K hK => ?_) (fun K hK => ?_)
                · skip
                  refine goes_ Tryz.func19 (by kernel_rfl) rfl #[.pointer (some ⟨g, 0, none⟩), .string top, .string x, .int .i64 day] (by rfl) rfl rfl (by simp only [List.map_toArray, List.map_cons, List.map_nil] <;> rfl) ?_
                  refine (HEF.out _ (HBe.out.trans (bl_.mono HBe.out.size)) g (HGe.out.below bl_)).mono ?_
                  rintro e w7 ⟨rfl, hb7⟩
                  refine ⟨_, rfl, ?_⟩
                  have bl9_ := bl_.trans (hb7.mono bl_.size)
                  refine hK.out _ _ ⟨(MAt.cell (HMe.out.below bl9_) hbm hxi), ((HPe.out.below bl9_).facts).1, ((HPe.out.below bl9_).facts).2.2⟩ (fun hHeld => ?_)
                  clear hK K
                  refine norm_ (a' := ?_) ?_ ?_
                  rotate_left
                  · show Act.put _ (some 71) _ = _
                    simp only [Act.put, pkA, pkZ, pkS, i64_w, i32_w]
                    rfl
                  refine pure_ (i := 10) (N := some 61) (v := ?_) (a' := ?_) #[true, true, true, true, true, true, true, true, true, true, true, false, false, false, false, false] rfl rfl (by kernel_rfl) (fun _ _ _ h => h) (Or.inl ⟨by rfl, ?_⟩) ?_ ?_
                  rotate_left
                  · intro w'
                    go_simp
                    with_reducible rfl
                  rotate_left
                  · simp only [Act.put, pkA, pkZ, pkS, i64_w, i32_w]
                    rfl
                  refine pure_ (i := 11) (N := some 72) (v := ?_) (a' := ?_) #[true, true, true, true, true, true, true, true, true, true, true, true, false, false, false, false] rfl rfl (by kernel_rfl) (fun _ _ _ h => h) (Or.inl ⟨by rfl, ?_⟩) ?_ ?_
                  rotate_left
                  · intro w'
                    go_simp
                    with_reducible rfl
                  rotate_left
                  · simp only [Act.put, pkA, pkZ, pkS, i64_w, i32_w]
                    rfl
                  refine pure_ (i := 12) (N := some 73) (v := ?_) (a' := ?_) #[true, true, true, true, true, true, true, true, true, true, true, true, true, false, false, false] rfl rfl (by kernel_rfl) (fun _ _ _ h => h) (Or.inl ⟨by rfl, ?_⟩) ?_ ?_
                  rotate_left
                  · intro w'
                    go_simp
                    with_reducible rfl
                  rotate_left
                  · simp only [Act.put, pkA, pkZ, pkS, i64_w, i32_w]
                    rfl
                  refine one_ (i := 13) (N := some 11) #[true, true, true, true, true, true, true, true, true, true, true, true, true, true, false, false] rfl rfl (by kernel_rfl) (by decide) (fun K hK => ?_)
                  refine value_ (w1 := ?_) (v := ?_) (by rfl) rfl ?_ ?_
                  rotate_left 2
                  · go_simp
                    constructor
                    · rfl
                    · rfl
                  have bl9_13_ := bl9_.alloc bl9_.size (.cells #[.int .i64 0, .int .i64 0] 42)
                  refine hK.out _ _ ⟨(MAt.cell (HMe.out.below bl9_13_) hbm hxi), ((HPe.out.below bl9_13_).facts).1, ((HPe.out.below bl9_13_).facts).2.2⟩ (fun hHeld => ?_)
                  clear hK K
                  refine norm_ (a' := ?_) ?_ ?_
                  rotate_left
                  · show Act.put _ (some 11) _ = _
                    simp only [Act.put, pkA, pkZ, pkS, i64_w, i32_w]
                    rfl
                  exact norm_ (by simp only [putAll, Act.put, pkA, pkZ, pkS]) (hCont w7.heap.size _ ⟨bl9_13_, FrcAt.made w7 ⟨0, 0⟩, bl9_.size⟩)
                · skip
                  refine value_ (w1 := ?_) (v := ?_) (by rfl) rfl ?_ ?_
                  rotate_left 2
                  · go_simp
                    constructor
                    · rfl
                    · rfl
                  have bl13_ := bl_.alloc bl_.size (.cells #[.int .i64 0, .int .i64 0] 42)
                  refine hK.out _ _ ⟨(MAt.cell (HMe.out.below bl13_) hbm hxi), ((HPe.out.below bl13_).facts).1, ((HPe.out.below bl13_).facts).2.2⟩ (fun hHeld => ?_)
                  clear hK K
                  refine norm_ (a' := ?_) ?_ ?_
                  rotate_left
                  · show Act.put _ (some 11) _ = _
                    simp only [Act.put, pkA, pkZ, pkS, i64_w, i32_w]
                    rfl
                  refine one_ (i := 9) (N := some 71) #[true, true, true, true, true, true, true, true, true, true, false, false, false, true, false, false] rfl rfl (by kernel_rfl) (by decide) (fun K hK => ?_)
                  refine goes_ Tryz.func19 (by kernel_rfl) rfl #[.pointer (some ⟨g, 0, none⟩), .string top, .string x, .int .i64 day] (by rfl) rfl rfl (by simp only [List.map_toArray, List.map_cons, List.map_nil] <;> rfl) ?_
                  refine (HEF.out _ (HBe.out.trans (bl13_.mono HBe.out.size)) g (HGe.out.below bl13_)).mono ?_
                  rintro e w7 ⟨rfl, hb7⟩
                  refine ⟨_, rfl, ?_⟩
                  have bl13_9_ := bl13_.trans (hb7.mono bl13_.size)
                  refine hK.out _ _ ⟨(MAt.cell (HMe.out.below bl13_9_) hbm hxi), ((HPe.out.below bl13_9_).facts).1, ((HPe.out.below bl13_9_).facts).2.2⟩ (fun hHeld => ?_)
                  clear hK K
                  refine norm_ (a' := ?_) ?_ ?_
                  rotate_left
                  · show Act.put _ (some 71) _ = _
                    simp only [Act.put, pkA, pkZ, pkS, i64_w, i32_w]
                    rfl
                  refine pure_ (i := 10) (N := some 61) (v := ?_) (a' := ?_) #[true, true, true, true, true, true, true, true, true, true, true, false, false, true, false, false] rfl rfl (by kernel_rfl) (fun _ _ _ h => h) (Or.inl ⟨by rfl, ?_⟩) ?_ ?_
                  rotate_left
                  · intro w'
                    go_simp
                    with_reducible rfl
                  rotate_left
                  · simp only [Act.put, pkA, pkZ, pkS, i64_w, i32_w]
                    rfl
                  refine pure_ (i := 11) (N := some 72) (v := ?_) (a' := ?_) #[true, true, true, true, true, true, true, true, true, true, true, true, false, true, false, false] rfl rfl (by kernel_rfl) (fun _ _ _ h => h) (Or.inl ⟨by rfl, ?_⟩) ?_ ?_
                  rotate_left
                  · intro w'
                    go_simp
                    with_reducible rfl
                  rotate_left
                  · simp only [Act.put, pkA, pkZ, pkS, i64_w, i32_w]
                    rfl
                  refine pure_ (i := 12) (N := some 73) (v := ?_) (a' := ?_) #[true, true, true, true, true, true, true, true, true, true, true, true, true, true, false, false] rfl rfl (by kernel_rfl) (fun _ _ _ h => h) (Or.inl ⟨by rfl, ?_⟩) ?_ ?_
                  rotate_left
                  · intro w'
                    go_simp
                    with_reducible rfl
                  rotate_left
                  · simp only [Act.put, pkA, pkZ, pkS, i64_w, i32_w]
                    rfl
                  exact norm_ (by simp only [putAll, Act.put, pkA, pkZ, pkS]) (hCont We.heap.size _ ⟨bl13_9_, (FrcAt.made We.drew ⟨0, 0⟩).below hb7, Nat.le_refl _⟩)
              rintro z11 wj ⟨blj, frj, hzj⟩
              have hHeld := And.intro (MAt.cell (HMe.out.below blj) hbm hxi) (And.intro ((HPe.out.below blj).facts).1 ((HPe.out.below blj).facts).2.2)
              obtain ⟨ja, jb, jc, jd, jl⟩ := frj.facts
              refine norm_ (a' := ?_) ?_ ?_
              rotate_left
              · simp only [putAll, Act.put, pkA, pkZ, pkS]
                rfl
              refine last_ (i := 14) (N := none) #[true, true, true, true, true, true, true, true, true, true, true, true, true, true, true, false] rfl rfl (by kernel_rfl) (by decide) (fun K hK => ?_)
              refine skip_ (w1 := ?_) (by rfl) rfl ?_ ?_
              rotate_left
              · go_simp
                rfl
              refine hK.out _ _ ?_
              clear hK K
              refine pure_ (i := 15) (N := some 12) (v := ?_) (a' := ?_) #[true, true, true, true, true, true, true, true, true, true, true, true, true, true, true, true] rfl rfl (by kernel_rfl) (fun _ _ _ h => h) (Or.inl ⟨by rfl, ?_⟩) ?_ ?_
              rotate_left
              · intro w'
                go_simp
                with_reducible rfl
              rotate_left
              · simp only [Act.put, pkA, pkZ, pkS, i64_w, i32_w]
                rfl
              refine done_ (by kernel_rfl) ?_
              clear hHeld
              have HF7 := Lib.hid (FrcAt.set frj ra rb)
              have hb7 := (blj.setCell (p := ⟨z11, 0, none⟩) hzj (.int .i64 ra)).setCell (p := ⟨z11, 1, none⟩) hzj (.int .i64 rb)
              obtain ⟨W7, hW7⟩ : ∃ W, (wj.setCell ⟨z11, 0, none⟩ (.int .i64 ra)).setCell ⟨z11, 1, none⟩ (.int .i64 rb) = W := ⟨_, rfl⟩
              rw [hW7] at HF7 hb7 ⊢
              have HB := Lib.hid (HBe.out.trans (hb7.mono HBe.out.size)); have HP := Lib.hid (HPe.out.below hb7); have HG := Lib.hid (HGe.out.below hb7); have HM := Lib.hid (HMe.out.below hb7)
              clear hW7 hb7 ja jb jc jd jl frj blj HBe HPe HGe HMe bl_
              obtain ⟨a0, a1, _⟩ := HF7.out.facts
              simp only at a0 a1
              obtain ⟨u1, u2⟩ := HU.out
              simp only at u1 u2
              have ur : (re == 1) = false := by simpa using u1
              clear u1
              by_cases hre : re = 0
              · obtain ⟨v0, v1, v2⟩ := u2 hre
                subst hre
                clear u2 ur
                go_upto_region 17 with fail
                have hdr := (Below.refl W7.heap.size W7).drew
                have HPf := Lib.hid (HP.out.below hdr)
                have HGf := Lib.hid (HG.out.below hdr)
                have HMf := Lib.hid (HM.out.below hdr)
                have HBf := Lib.hid (HB.out.drew)
                have HXf := Lib.hid (MAt.cell HMf.out hbm hxi)
                clear hdr
                refine start_ (n := 15) (S := fun w' => w'.cell? ⟨bm, om + i, none⟩ = some (.string x) ∧ w'.cell? ⟨z, 0, none⟩ = some (.string top) ∧ w'.cell? ⟨z, 2, none⟩ = some (.int .i64 day)) (ds := []) #[false, false, false, false, false, false, false, false, false, false, false, false, false, false, false] (by kernel_rfl) rfl rfl ⟨HXf.out, HPf.out.facts.1, HPf.out.facts.2.2⟩ (fun hHeld => ?_)
                refine pure_ (i := 0) (N := some 93) (v := ?_) (a' := ?_) #[true, false, false, false, false, false, false, false, false, false, false, false, false, false, false] rfl rfl (by kernel_rfl) (fun _ _ _ h => h) (Or.inl ⟨by rfl, ?_⟩) ?_ ?_
                rotate_left
                · intro w'
                  go_simp
                  with_reducible rfl
                rotate_left
                · simp only [Act.put, pkA, pkZ, pkS, i64_w, i32_w]
                  rfl
                refine pure_ (i := 1) (N := some 94) (v := ?_) (a' := ?_) #[true, true, false, false, false, false, false, false, false, false, false, false, false, false, false] rfl rfl (by kernel_rfl) (fun _ _ _ h => h) (Or.inl ⟨by rfl, ?_⟩) ?_ ?_
                rotate_left
                · intro w'
                  go_simp
                  with_reducible rfl
                rotate_left
                · simp only [Act.put, pkA, pkZ, pkS, i64_w, i32_w]
                  rfl
                refine pure_ (i := 3) (N := some 96) (v := ?_) (a' := ?_) #[true, true, false, true, false, false, false, false, false, false, false, false, false, false, false] rfl rfl (by kernel_rfl) (fun _ _ _ h => h) (Or.inl ⟨by rfl, ?_⟩) ?_ ?_
                rotate_left
                · intro w'
                  go_simp
                  with_reducible rfl
                rotate_left
                · simp only [Act.put, pkA, pkZ, pkS, i64_w, i32_w]
                  rfl
                refine pure_ (i := 4) (N := some 97) (v := ?_) (a' := ?_) #[true, true, false, true, true, false, false, false, false, false, false, false, false, false, false] rfl rfl (by kernel_rfl) (fun _ _ _ h => h) (Or.inl ⟨by rfl, ?_⟩) ?_ ?_
                rotate_left
                · intro w'
                  go_simp
                  with_reducible rfl
                rotate_left
                · simp only [Act.put, pkA, pkZ, pkS, i64_w, i32_w]
                  rfl
                refine pure_ (i := 5) (N := some 98) (v := ?_) (a' := ?_) #[true, true, false, true, true, true, false, false, false, false, false, false, false, false, false] rfl rfl (by kernel_rfl) (fun _ _ _ h => h) (Or.inl ⟨by rfl, ?_⟩) ?_ ?_
                rotate_left
                · intro w'
                  go_simp
                  with_reducible rfl
                rotate_left
                · simp only [Act.put, pkA, pkZ, pkS, i64_w, i32_w]
                  rfl
                refine pure_ (i := 7) (N := some 100) (v := ?_) (a' := ?_) #[true, true, false, true, true, true, false, true, false, false, false, false, false, false, false] rfl rfl (by kernel_rfl) (fun _ _ _ h => h) (Or.inl ⟨by rfl, ?_⟩) ?_ ?_
                rotate_left
                · intro w'
                  go_simp
                  with_reducible rfl
                rotate_left
                · simp only [Act.put, pkA, pkZ, pkS, i64_w, i32_w]
                  rfl
                refine take_ (i := 2) (N := some 95) (v := ?_) (a' := ?_) #[true, true, true, true, true, true, false, true, false, false, false, false, false, false, false] rfl rfl (by kernel_rfl) (fun _ _ _ h => h) (Or.inl ⟨by rfl, ?_⟩) hHeld ?_ ?_
                rotate_left
                · rintro w' ⟨s0, s1, s2⟩
                  go_simp
                  with_reducible rfl
                rotate_left
                · simp only [Act.put, pkA, pkZ, pkS, i64_w, i32_w]
                  rfl
                refine take_ (i := 6) (N := some 99) (v := ?_) (a' := ?_) #[true, true, true, true, true, true, true, true, false, false, false, false, false, false, false] rfl rfl (by kernel_rfl) (fun _ _ _ h => h) (Or.inl ⟨by rfl, ?_⟩) hHeld ?_ ?_
                rotate_left
                · rintro w' ⟨s0, s1, s2⟩
                  go_simp
                  with_reducible rfl
                rotate_left
                · simp only [Act.put, pkA, pkZ, pkS, i64_w, i32_w]
                  rfl
                refine take_ (i := 8) (N := some 101) (v := ?_) (a' := ?_) #[true, true, true, true, true, true, true, true, true, false, false, false, false, false, false] rfl rfl (by kernel_rfl) (fun _ _ _ h => h) (Or.inl ⟨by rfl, ?_⟩) hHeld ?_ ?_
                rotate_left
                · rintro w' ⟨s0, s1, s2⟩
                  go_simp
                  with_reducible rfl
                rotate_left
                · simp only [Act.put, pkA, pkZ, pkS, i64_w, i32_w]
                  rfl
                refine one_ (i := 9) (N := some 102) #[true, true, true, true, true, true, true, true, true, true, false, false, false, false, false] rfl rfl (by kernel_rfl) (by decide) (fun K hK => ?_)
                refine goes_ Tryz.func21 (by kernel_rfl) rfl #[.pointer (some ⟨g, 0, none⟩), .string top, .string x, .int .i64 day] (by rfl) rfl rfl (by simp only [List.map_toArray, List.map_cons, List.map_nil] <;> rfl) ?_
                refine (HSI.out _ HBf.out g HGf.out).mono ?_
                rintro e w8 ⟨rfl, hb8⟩
                refine ⟨_, rfl, ?_⟩
                have HB8 := Lib.hid (HBf.out.trans (hb8.mono HBf.out.size))
                have HP8 := Lib.hid (HPf.out.below hb8)
                have HG8 := Lib.hid (HGf.out.below hb8)
                have HM8 := Lib.hid (HMf.out.below hb8)
                have HX8 := Lib.hid (MAt.cell HM8.out hbm hxi)
                refine hK.out _ _ ⟨HX8.out, HP8.out.facts.1, HP8.out.facts.2.2⟩ (fun hHeld => ?_)
                clear hK K
                refine norm_ (a' := ?_) ?_ ?_
                rotate_left
                · show Act.put _ (some 102) _ = _
                  simp only [Act.put, pkA, pkZ, pkS, i64_w, i32_w]
                  rfl
                refine pure_ (i := 10) (N := some 92) (v := ?_) (a' := ?_) #[true, true, true, true, true, true, true, true, true, true, true, false, false, false, false] rfl rfl (by kernel_rfl) (fun _ _ _ h => h) (Or.inl ⟨by rfl, ?_⟩) ?_ ?_
                rotate_left
                · intro w'
                  go_simp
                  with_reducible rfl
                rotate_left
                · simp only [Act.put, pkA, pkZ, pkS, i64_w, i32_w]
                  rfl
                refine pure_ (i := 11) (N := some 103) (v := ?_) (a' := ?_) #[true, true, true, true, true, true, true, true, true, true, true, true, false, false, false] rfl rfl (by kernel_rfl) (fun _ _ _ h => h) (Or.inl ⟨by rfl, ?_⟩) ?_ ?_
                rotate_left
                · intro w'
                  go_simp
                  with_reducible rfl
                rotate_left
                · simp only [Act.put, pkA, pkZ, pkS, i64_w, i32_w]
                  rfl
                refine pure_ (i := 12) (N := some 104) (v := ?_) (a' := ?_) #[true, true, true, true, true, true, true, true, true, true, true, true, true, false, false] rfl rfl (by kernel_rfl) (fun _ _ _ h => h) (Or.inl ⟨by rfl, ?_⟩) ?_ ?_
                rotate_left
                · intro w'
                  go_simp
                  with_reducible rfl
                rotate_left
                · simp only [Act.put, pkA, pkZ, pkS, i64_w, i32_w]
                  rfl
                refine pure_ (i := 13) (N := some 13) (v := ?_) (a' := ?_) #[true, true, true, true, true, true, true, true, true, true, true, true, true, true, false] rfl rfl (by kernel_rfl) (fun _ _ _ h => h) (Or.inl ⟨by rfl, ?_⟩) ?_ ?_
                rotate_left
                · intro w'
                  go_simp
                  with_reducible rfl
                rotate_left
                · simp only [Act.put, pkA, pkZ, pkS, i64_w, i32_w]
                  rfl
                refine pure_ (i := 14) (N := some 14) (v := ?_) (a' := ?_) #[true, true, true, true, true, true, true, true, true, true, true, true, true, true, true] rfl rfl (by kernel_rfl) (fun _ _ _ h => h) (Or.inl ⟨by rfl, ?_⟩) ?_ ?_
                rotate_left
                · intro w'
                  go_simp
                  with_reducible rfl
                rotate_left
                · simp only [Act.put, pkA, pkZ, pkS, i64_w, i32_w]
                  rfl
                refine done_ (by kernel_rfl) ?_
                clear hHeld
                replace HB := HB8; replace HP := HP8; replace HG := HG8; replace HM := HM8
                clear HX8 HBf HPf HGf HMf HXf
                go_upto_region 18 with fail
                have hdr := (Below.refl w8.heap.size w8).drew
                have HPk := Lib.hid (HP.out.below hdr)
                have HGk := Lib.hid (HG.out.below hdr)
                have HMk := Lib.hid (HM.out.below hdr)
                have HBk := Lib.hid (HB.out.drew)
                have HXk := Lib.hid (MAt.cell HMk.out hbm hxi)
                clear hdr
                have d0 : decide (fr < 0) = false := by have := HF0.out; rw [decide_eq_false_iff_not]; omega
                have d1 : decide (day < fr) = false := by have := HF1.out; rw [decide_eq_false_iff_not]; omega
                refine start_ (n := 38) (S := fun w' => w'.cell? ⟨bm, om + i, none⟩ = some (.string x) ∧ w'.cell? ⟨z, 0, none⟩ = some (.string top) ∧ w'.cell? ⟨z, 2, none⟩ = some (.int .i64 day)) (ds := []) #[false, false, false, false, false, false, false, false, false, false, false, false, false, false, false, false, false, false, false, false, false, false, false, false, false, false, false, false, false, false, false, false, false, false, false, false, false, false] (by kernel_rfl) rfl rfl ⟨HXk.out, HPk.out.facts.1, HPk.out.facts.2.2⟩ (fun hHeld => ?_)
                refine pure_ (i := 0) (N := some 105) (v := ?_) (a' := ?_) #[true, false, false, false, false, false, false, false, false, false, false, false, false, false, false, false, false, false, false, false, false, false, false, false, false, false, false, false, false, false, false, false, false, false, false, false, false, false] rfl rfl (by kernel_rfl) (fun _ _ _ h => h) (Or.inl ⟨by rfl, ?_⟩) ?_ ?_
                rotate_left
                · intro w'
                  go_simp
                  with_reducible rfl
                rotate_left
                · simp only [Act.put, pkA, pkZ, pkS, i64_w, i32_w]
                  rfl
                refine pure_ (i := 1) (N := some 106) (v := ?_) (a' := ?_) #[true, true, false, false, false, false, false, false, false, false, false, false, false, false, false, false, false, false, false, false, false, false, false, false, false, false, false, false, false, false, false, false, false, false, false, false, false, false] rfl rfl (by kernel_rfl) (fun _ _ _ h => h) (Or.inl ⟨by rfl, ?_⟩) ?_ ?_
                rotate_left
                · intro w'
                  go_simp
                  with_reducible rfl
                rotate_left
                · simp only [Act.put, pkA, pkZ, pkS, i64_w, i32_w]
                  rfl
                refine pure_ (i := 2) (N := some 107) (v := ?_) (a' := ?_) #[true, true, true, false, false, false, false, false, false, false, false, false, false, false, false, false, false, false, false, false, false, false, false, false, false, false, false, false, false, false, false, false, false, false, false, false, false, false] rfl rfl (by kernel_rfl) (fun _ _ _ h => h) (Or.inl ⟨by rfl, ?_⟩) ?_ ?_
                rotate_left
                · intro w'
                  go_simp
                  with_reducible rfl
                rotate_left
                · simp only [Act.put, pkA, pkZ, pkS, i64_w, i32_w]
                  rfl
                refine pure_ (i := 3) (N := some 108) (v := ?_) (a' := ?_) #[true, true, true, true, false, false, false, false, false, false, false, false, false, false, false, false, false, false, false, false, false, false, false, false, false, false, false, false, false, false, false, false, false, false, false, false, false, false] rfl rfl (by kernel_rfl) (fun _ _ _ h => h) (Or.inl ⟨by rfl, ?_⟩) ?_ ?_
                rotate_left
                · intro w'
                  go_simp
                  with_reducible rfl
                rotate_left
                · simp only [Act.put, pkA, pkZ, pkS, i64_w, i32_w]
                  rfl
                refine pure_ (i := 4) (N := some 109) (v := ?_) (a' := ?_) #[true, true, true, true, true, false, false, false, false, false, false, false, false, false, false, false, false, false, false, false, false, false, false, false, false, false, false, false, false, false, false, false, false, false, false, false, false, false] rfl rfl (by kernel_rfl) (fun _ _ _ h => h) (Or.inl ⟨by rfl, ?_⟩) ?_ ?_
                rotate_left
                · intro w'
                  go_simp
                  with_reducible rfl
                rotate_left
                · simp only [Act.put, pkA, pkZ, pkS, i64_w, i32_w]
                  rfl
                refine pure_ (i := 5) (N := some 110) (v := ?_) (a' := ?_) #[true, true, true, true, true, true, false, false, false, false, false, false, false, false, false, false, false, false, false, false, false, false, false, false, false, false, false, false, false, false, false, false, false, false, false, false, false, false] rfl rfl (by kernel_rfl) (fun _ _ _ h => h) (Or.inl ⟨by rfl, ?_⟩) ?_ ?_
                rotate_left
                · intro w'
                  go_simp
                  with_reducible rfl
                rotate_left
                · simp only [Act.put, pkA, pkZ, pkS, i64_w, i32_w]
                  rfl
                refine pure_ (i := 6) (N := some 111) (v := ?_) (a' := ?_) #[true, true, true, true, true, true, true, false, false, false, false, false, false, false, false, false, false, false, false, false, false, false, false, false, false, false, false, false, false, false, false, false, false, false, false, false, false, false] rfl rfl (by kernel_rfl) (fun _ _ _ h => h) (Or.inl ⟨by rfl, ?_⟩) ?_ ?_
                rotate_left
                · intro w'
                  go_simp
                  with_reducible rfl
                rotate_left
                · simp only [Act.put, pkA, pkZ, pkS, i64_w, i32_w]
                  rfl
                refine pure_ (i := 7) (N := some 112) (v := ?_) (a' := ?_) #[true, true, true, true, true, true, true, true, false, false, false, false, false, false, false, false, false, false, false, false, false, false, false, false, false, false, false, false, false, false, false, false, false, false, false, false, false, false] rfl rfl (by kernel_rfl) (fun _ _ _ h => h) (Or.inl ⟨by rfl, ?_⟩) ?_ ?_
                rotate_left
                · intro w'
                  go_simp
                  with_reducible rfl
                rotate_left
                · simp only [Act.put, pkA, pkZ, pkS, i64_w, i32_w]
                  rfl
                refine pure_ (i := 8) (N := some 113) (v := ?_) (a' := ?_) #[true, true, true, true, true, true, true, true, true, false, false, false, false, false, false, false, false, false, false, false, false, false, false, false, false, false, false, false, false, false, false, false, false, false, false, false, false, false] rfl rfl (by kernel_rfl) (fun _ _ _ h => h) (Or.inl ⟨by rfl, ?_⟩) ?_ ?_
                rotate_left
                · intro w'
                  go_simp
                  with_reducible rfl
                rotate_left
                · simp only [Act.put, pkA, pkZ, pkS, i64_w, i32_w]
                  rfl
                refine take_ (i := 9) (N := some 114) (v := ?_) (a' := ?_) #[true, true, true, true, true, true, true, true, true, true, false, false, false, false, false, false, false, false, false, false, false, false, false, false, false, false, false, false, false, false, false, false, false, false, false, false, false, false] rfl rfl (by kernel_rfl) (fun _ _ _ h => h) (Or.inl ⟨by rfl, ?_⟩) hHeld ?_ ?_
                rotate_left
                · rintro w' ⟨s0, s1, s2⟩
                  go_simp
                  with_reducible rfl
                rotate_left
                · simp only [Act.put, pkA, pkZ, pkS, i64_w, i32_w]
                  rfl
                refine pure_ (i := 10) (N := some 115) (v := ?_) (a' := ?_) #[true, true, true, true, true, true, true, true, true, true, true, false, false, false, false, false, false, false, false, false, false, false, false, false, false, false, false, false, false, false, false, false, false, false, false, false, false, false] rfl rfl (by kernel_rfl) (fun _ _ _ h => h) (Or.inl ⟨by rfl, ?_⟩) ?_ ?_
                rotate_left
                · intro w'
                  go_simp
                  with_reducible rfl
                rotate_left
                · simp only [Act.put, pkA, pkZ, pkS, i64_w, i32_w]
                  rfl
                refine pure_ (i := 11) (N := some 116) (v := ?_) (a' := ?_) #[true, true, true, true, true, true, true, true, true, true, true, true, false, false, false, false, false, false, false, false, false, false, false, false, false, false, false, false, false, false, false, false, false, false, false, false, false, false] rfl rfl (by kernel_rfl) (fun _ _ _ h => h) (Or.inl ⟨by rfl, ?_⟩) ?_ ?_
                rotate_left
                · intro w'
                  go_simp
                  with_reducible rfl
                rotate_left
                · simp only [Act.put, pkA, pkZ, pkS, i64_w, i32_w]
                  rfl
                refine pure_ (i := 12) (N := some 117) (v := ?_) (a' := ?_) #[true, true, true, true, true, true, true, true, true, true, true, true, true, false, false, false, false, false, false, false, false, false, false, false, false, false, false, false, false, false, false, false, false, false, false, false, false, false] rfl rfl (by kernel_rfl) (fun _ _ _ h => h) (Or.inl ⟨by rfl, ?_⟩) ?_ ?_
                rotate_left
                · intro w'
                  go_simp
                  with_reducible rfl
                rotate_left
                · simp only [Act.put, pkA, pkZ, pkS, i64_w, i32_w]
                  rfl
                refine pure_ (i := 13) (N := some 118) (v := ?_) (a' := ?_) #[true, true, true, true, true, true, true, true, true, true, true, true, true, true, false, false, false, false, false, false, false, false, false, false, false, false, false, false, false, false, false, false, false, false, false, false, false, false] rfl rfl (by kernel_rfl) (fun _ _ _ h => h) (Or.inl ⟨by rfl, ?_⟩) ?_ ?_
                rotate_left
                · intro w'
                  go_simp
                  with_reducible rfl
                rotate_left
                · simp only [Act.put, pkA, pkZ, pkS, i64_w, i32_w]
                  rfl
                refine pure_ (i := 14) (N := some 119) (v := ?_) (a' := ?_) #[true, true, true, true, true, true, true, true, true, true, true, true, true, true, true, false, false, false, false, false, false, false, false, false, false, false, false, false, false, false, false, false, false, false, false, false, false, false] rfl rfl (by kernel_rfl) (fun _ _ _ h => h) (Or.inl ⟨by rfl, ?_⟩) ?_ ?_
                rotate_left
                · intro w'
                  go_simp
                  with_reducible rfl
                rotate_left
                · simp only [Act.put, pkA, pkZ, pkS, i64_w, i32_w]
                  rfl
                refine pure_ (i := 16) (N := some 121) (v := ?_) (a' := ?_) #[true, true, true, true, true, true, true, true, true, true, true, true, true, true, true, false, true, false, false, false, false, false, false, false, false, false, false, false, false, false, false, false, false, false, false, false, false, false] rfl rfl (by kernel_rfl) (fun _ _ _ h => h) (Or.inl ⟨by rfl, ?_⟩) ?_ ?_
                rotate_left
                · intro w'
                  go_simp
                  with_reducible rfl
                rotate_left
                · simp only [Act.put, pkA, pkZ, pkS, i64_w, i32_w]
                  rfl
                refine pure_ (i := 18) (N := some 123) (v := ?_) (a' := ?_) #[true, true, true, true, true, true, true, true, true, true, true, true, true, true, true, false, true, false, true, false, false, false, false, false, false, false, false, false, false, false, false, false, false, false, false, false, false, false] rfl rfl (by kernel_rfl) (fun _ _ _ h => h) (Or.inl ⟨by rfl, ?_⟩) ?_ ?_
                rotate_left
                · intro w'
                  go_simp
                  with_reducible rfl
                rotate_left
                · simp only [Act.put, pkA, pkZ, pkS, i64_w, i32_w]
                  rfl
                refine pure_ (i := 19) (N := some 124) (v := ?_) (a' := ?_) #[true, true, true, true, true, true, true, true, true, true, true, true, true, true, true, false, true, false, true, true, false, false, false, false, false, false, false, false, false, false, false, false, false, false, false, false, false, false] rfl rfl (by kernel_rfl) (fun _ _ _ h => h) (Or.inl ⟨by rfl, ?_⟩) ?_ ?_
                rotate_left
                · intro w'
                  go_simp
                  with_reducible rfl
                rotate_left
                · simp only [Act.put, pkA, pkZ, pkS, i64_w, i32_w]
                  rfl
                refine pure_ (i := 20) (N := some 125) (v := ?_) (a' := ?_) #[true, true, true, true, true, true, true, true, true, true, true, true, true, true, true, false, true, false, true, true, true, false, false, false, false, false, false, false, false, false, false, false, false, false, false, false, false, false] rfl rfl (by kernel_rfl) (fun _ _ _ h => h) (Or.inl ⟨by rfl, ?_⟩) ?_ ?_
                rotate_left
                · intro w'
                  go_simp
                  with_reducible rfl
                rotate_left
                · simp only [Act.put, pkA, pkZ, pkS, i64_w, i32_w]
                  rfl
                refine take_ (i := 15) (N := some 120) (v := ?_) (a' := ?_) #[true, true, true, true, true, true, true, true, true, true, true, true, true, true, true, true, true, false, true, true, true, false, false, false, false, false, false, false, false, false, false, false, false, false, false, false, false, false] rfl rfl (by kernel_rfl) (fun _ _ _ h => h) (Or.inl ⟨by rfl, ?_⟩) hHeld ?_ ?_
                rotate_left
                · rintro w' ⟨s0, s1, s2⟩
                  go_simp
                  with_reducible rfl
                rotate_left
                · simp only [Act.put, pkA, pkZ, pkS, i64_w, i32_w]
                  rfl
                refine take_ (i := 21) (N := some 126) (v := ?_) (a' := ?_) #[true, true, true, true, true, true, true, true, true, true, true, true, true, true, true, true, true, false, true, true, true, true, false, false, false, false, false, false, false, false, false, false, false, false, false, false, false, false] rfl rfl (by kernel_rfl) (fun _ _ _ h => h) (Or.inl ⟨by rfl, ?_⟩) hHeld ?_ ?_
                rotate_left
                · rintro w' ⟨s0, s1, s2⟩
                  go_simp
                  with_reducible rfl
                rotate_left
                · simp only [Act.put, pkA, pkZ, pkS, i64_w, i32_w]
                  rfl
                refine one_ (i := 17) (N := some 122) #[true, true, true, true, true, true, true, true, true, true, true, true, true, true, true, true, true, true, true, true, true, true, false, false, false, false, false, false, false, false, false, false, false, false, false, false, false, false] rfl rfl (by kernel_rfl) (by decide) (fun K hK => ?_)
                refine goes_ Tryz.func17 (by kernel_rfl) rfl #[.pointer (some ⟨g, 0, none⟩), .string top, .int .i64 fr] (by rfl) rfl rfl (by simp only [List.map_toArray, List.map_cons, List.map_nil] <;> rfl) ?_
                refine (HM1.out _ HBk.out g HGk.out).mono ?_
                rintro e w9 ⟨A9, c9, rfl, hC9, hc9, hb9⟩
                refine ⟨_, rfl, ?_⟩
                have HB9 := Lib.hid (HBk.out.trans (hb9.mono HBk.out.size))
                have HP9 := Lib.hid (HPk.out.below hb9)
                have HG9 := Lib.hid (HGk.out.below hb9)
                have HM9 := Lib.hid (HMk.out.below hb9)
                have HX9 := Lib.hid (MAt.cell HM9.out hbm hxi)
                have HC9 := Lib.hid hC9
                clear hC9
                refine hK.out _ _ ⟨HX9.out, HP9.out.facts.1, HP9.out.facts.2.2⟩ (fun hHeld => ?_)
                clear hK K
                refine norm_ (a' := ?_) ?_ ?_
                rotate_left
                · show Act.put _ (some 122) _ = _
                  simp only [Act.put, pkA, pkZ, pkS, i64_w, i32_w]
                  rfl
                refine one_ (i := 22) (N := some 127) #[true, true, true, true, true, true, true, true, true, true, true, true, true, true, true, true, true, true, true, true, true, true, true, false, false, false, false, false, false, false, false, false, false, false, false, false, false, false] rfl rfl (by kernel_rfl) (by decide) (fun K hK => ?_)
                refine goes_ Tryz.func23 (by kernel_rfl) rfl #[.slice A9 resf.length c9, .string x] (by rfl) rfl rfl (by simp only [List.map_toArray, List.map_cons, List.map_nil] <;> rfl) ?_
                refine (go_contains _ HC9.out hc9 HRF.out).mono ?_
                rintro e wA ⟨rfl, hbA⟩
                refine ⟨_, rfl, ?_⟩
                rw [HIF.out]
                have HBA := Lib.hid (HB9.out.trans (hbA.mono HB9.out.size))
                have HPA := Lib.hid (HP9.out.below hbA)
                have HGA := Lib.hid (HG9.out.below hbA)
                have HMA := Lib.hid (HM9.out.below hbA)
                have HXA := Lib.hid (MAt.cell HMA.out hbm hxi)
                refine hK.out _ _ ⟨HXA.out, HPA.out.facts.1, HPA.out.facts.2.2⟩ (fun hHeld => ?_)
                clear hK K
                refine norm_ (a' := ?_) ?_ ?_
                rotate_left
                · show Act.put _ (some 127) _ = _
                  simp only [Act.put, pkA, pkZ, pkS, i64_w, i32_w]
                  rfl
                refine pure_ (i := 23) (N := some 128) (v := ?_) (a' := ?_) #[true, true, true, true, true, true, true, true, true, true, true, true, true, true, true, true, true, true, true, true, true, true, true, true, false, false, false, false, false, false, false, false, false, false, false, false, false, false] rfl rfl (by kernel_rfl) (fun _ _ _ h => h) (Or.inl ⟨by rfl, ?_⟩) ?_ ?_
                rotate_left
                · intro w'
                  go_simp
                  with_reducible rfl
                rotate_left
                · simp only [Act.put, pkA, pkZ, pkS, i64_w, i32_w]
                  rfl
                refine pure_ (i := 24) (N := some 129) (v := ?_) (a' := ?_) #[true, true, true, true, true, true, true, true, true, true, true, true, true, true, true, true, true, true, true, true, true, true, true, true, true, false, false, false, false, false, false, false, false, false, false, false, false, false] rfl rfl (by kernel_rfl) (fun _ _ _ h => h) (Or.inl ⟨by rfl, ?_⟩) ?_ ?_
                rotate_left
                · intro w'
                  go_simp
                  with_reducible rfl
                rotate_left
                · simp only [Act.put, pkA, pkZ, pkS, i64_w, i32_w]
                  rfl
                refine pure_ (i := 25) (N := some 130) (v := ?_) (a' := ?_) #[true, true, true, true, true, true, true, true, true, true, true, true, true, true, true, true, true, true, true, true, true, true, true, true, true, true, false, false, false, false, false, false, false, false, false, false, false, false] rfl rfl (by kernel_rfl) (fun _ _ _ h => h) (Or.inl ⟨by rfl, ?_⟩) ?_ ?_
                rotate_left
                · intro w'
                  go_simp
                  with_reducible rfl
                rotate_left
                · simp only [Act.put, pkA, pkZ, pkS, i64_w, i32_w]
                  rfl
                refine pure_ (i := 26) (N := some 131) (v := ?_) (a' := ?_) #[true, true, true, true, true, true, true, true, true, true, true, true, true, true, true, true, true, true, true, true, true, true, true, true, true, true, true, false, false, false, false, false, false, false, false, false, false, false] rfl rfl (by kernel_rfl) (fun _ _ _ h => h) (Or.inl ⟨by rfl, ?_⟩) ?_ ?_
                rotate_left
                · intro w'
                  go_simp
                  with_reducible rfl
                rotate_left
                · simp only [Act.put, pkA, pkZ, pkS, i64_w, i32_w]
                  rfl
                refine pure_ (i := 27) (N := some 132) (v := ?_) (a' := ?_) #[true, true, true, true, true, true, true, true, true, true, true, true, true, true, true, true, true, true, true, true, true, true, true, true, true, true, true, true, false, false, false, false, false, false, false, false, false, false] rfl rfl (by kernel_rfl) (fun _ _ _ h => h) (Or.inl ⟨by rfl, ?_⟩) ?_ ?_
                rotate_left
                · intro w'
                  go_simp
                  with_reducible rfl
                rotate_left
                · simp only [Act.put, pkA, pkZ, pkS, i64_w, i32_w]
                  rfl
                refine pure_ (i := 29) (N := some 134) (v := ?_) (a' := ?_) #[true, true, true, true, true, true, true, true, true, true, true, true, true, true, true, true, true, true, true, true, true, true, true, true, true, true, true, true, false, true, false, false, false, false, false, false, false, false] rfl rfl (by kernel_rfl) (fun _ _ _ h => h) (Or.inl ⟨by rfl, ?_⟩) ?_ ?_
                rotate_left
                · intro w'
                  go_simp
                  with_reducible rfl
                rotate_left
                · simp only [Act.put, pkA, pkZ, pkS, i64_w, i32_w]
                  rfl
                refine pure_ (i := 30) (N := some 135) (v := ?_) (a' := ?_) #[true, true, true, true, true, true, true, true, true, true, true, true, true, true, true, true, true, true, true, true, true, true, true, true, true, true, true, true, false, true, true, false, false, false, false, false, false, false] rfl rfl (by kernel_rfl) (fun _ _ _ h => h) (Or.inl ⟨by rfl, ?_⟩) ?_ ?_
                rotate_left
                · intro w'
                  go_simp
                  with_reducible rfl
                rotate_left
                · simp only [Act.put, pkA, pkZ, pkS, i64_w, i32_w]
                  rfl
                refine pure_ (i := 32) (N := some 137) (v := ?_) (a' := ?_) #[true, true, true, true, true, true, true, true, true, true, true, true, true, true, true, true, true, true, true, true, true, true, true, true, true, true, true, true, false, true, true, false, true, false, false, false, false, false] rfl rfl (by kernel_rfl) (fun _ _ _ h => h) (Or.inl ⟨by rfl, ?_⟩) ?_ ?_
                rotate_left
                · intro w'
                  go_simp
                  with_reducible rfl
                rotate_left
                · simp only [Act.put, pkA, pkZ, pkS, i64_w, i32_w]
                  rfl
                refine pure_ (i := 33) (N := some 138) (v := ?_) (a' := ?_) #[true, true, true, true, true, true, true, true, true, true, true, true, true, true, true, true, true, true, true, true, true, true, true, true, true, true, true, true, false, true, true, false, true, true, false, false, false, false] rfl rfl (by kernel_rfl) (fun _ _ _ h => h) (Or.inl ⟨by rfl, ?_⟩) ?_ ?_
                rotate_left
                · intro w'
                  go_simp
                  with_reducible rfl
                rotate_left
                · simp only [Act.put, pkA, pkZ, pkS, i64_w, i32_w]
                  rfl
                refine pure_ (i := 34) (N := some 139) (v := ?_) (a' := ?_) #[true, true, true, true, true, true, true, true, true, true, true, true, true, true, true, true, true, true, true, true, true, true, true, true, true, true, true, true, false, true, true, false, true, true, true, false, false, false] rfl rfl (by kernel_rfl) (fun _ _ _ h => h) (Or.inl ⟨by rfl, ?_⟩) ?_ ?_
                rotate_left
                · intro w'
                  go_simp
                  with_reducible rfl
                rotate_left
                · simp only [Act.put, pkA, pkZ, pkS, i64_w, i32_w]
                  rfl
                refine take_ (i := 28) (N := some 133) (v := ?_) (a' := ?_) #[true, true, true, true, true, true, true, true, true, true, true, true, true, true, true, true, true, true, true, true, true, true, true, true, true, true, true, true, true, true, true, false, true, true, true, false, false, false] rfl rfl (by kernel_rfl) (fun _ _ _ h => h) (Or.inl ⟨by rfl, ?_⟩) hHeld ?_ ?_
                rotate_left
                · rintro w' ⟨s0, s1, s2⟩
                  go_simp
                  with_reducible rfl
                rotate_left
                · simp only [Act.put, pkA, pkZ, pkS, i64_w, i32_w]
                  rfl
                refine take_ (i := 35) (N := some 140) (v := ?_) (a' := ?_) #[true, true, true, true, true, true, true, true, true, true, true, true, true, true, true, true, true, true, true, true, true, true, true, true, true, true, true, true, true, true, true, false, true, true, true, true, false, false] rfl rfl (by kernel_rfl) (fun _ _ _ h => h) (Or.inl ⟨by rfl, ?_⟩) hHeld ?_ ?_
                rotate_left
                · rintro w' ⟨s0, s1, s2⟩
                  go_simp
                  with_reducible rfl
                rotate_left
                · simp only [Act.put, pkA, pkZ, pkS, i64_w, i32_w]
                  rfl
                refine one_ (i := 31) (N := some 136) #[true, true, true, true, true, true, true, true, true, true, true, true, true, true, true, true, true, true, true, true, true, true, true, true, true, true, true, true, true, true, true, true, true, true, true, true, false, false] rfl rfl (by kernel_rfl) (by decide) (fun K hK => ?_)
                refine goes_ Tryz.func17 (by kernel_rfl) rfl #[.pointer (some ⟨g, 0, none⟩), .string top, .int .i64 (wrap64 (fr - 1))] (by rfl) rfl rfl (by simp only [List.map_toArray, List.map_cons, List.map_nil] <;> rfl) ?_
                refine (HM0.out _ HBA.out g HGA.out).mono ?_
                rintro e wB ⟨AB, cB, rfl, hCB, hcB, hbB⟩
                refine ⟨_, rfl, ?_⟩
                have HBB := Lib.hid (HBA.out.trans (hbB.mono HBA.out.size))
                have HPB := Lib.hid (HPA.out.below hbB)
                have HGB := Lib.hid (HGA.out.below hbB)
                have HMB := Lib.hid (HMA.out.below hbB)
                have HXB := Lib.hid (MAt.cell HMB.out hbm hxi)
                have HCB := Lib.hid hCB
                clear hCB
                refine hK.out _ _ ⟨HXB.out, HPB.out.facts.1, HPB.out.facts.2.2⟩ (fun hHeld => ?_)
                clear hK K
                refine norm_ (a' := ?_) ?_ ?_
                rotate_left
                · show Act.put _ (some 136) _ = _
                  simp only [Act.put, pkA, pkZ, pkS, i64_w, i32_w]
                  rfl
                refine one_ (i := 36) (N := some 141) #[true, true, true, true, true, true, true, true, true, true, true, true, true, true, true, true, true, true, true, true, true, true, true, true, true, true, true, true, true, true, true, true, true, true, true, true, true, false] rfl rfl (by kernel_rfl) (by decide) (fun K hK => ?_)
                refine goes_ Tryz.func23 (by kernel_rfl) rfl #[.slice AB resg.length cB, .string x] (by rfl) rfl rfl (by simp only [List.map_toArray, List.map_cons, List.map_nil] <;> rfl) ?_
                refine (go_contains _ HCB.out hcB HRG.out).mono ?_
                rintro e wE ⟨rfl, hbE⟩
                refine ⟨_, rfl, ?_⟩
                rw [HIG.out]
                have HBE := Lib.hid (HBB.out.trans (hbE.mono HBB.out.size))
                have HPE := Lib.hid (HPB.out.below hbE)
                have HGE := Lib.hid (HGB.out.below hbE)
                have HME := Lib.hid (HMB.out.below hbE)
                have HXE := Lib.hid (MAt.cell HME.out hbm hxi)
                refine hK.out _ _ ⟨HXE.out, HPE.out.facts.1, HPE.out.facts.2.2⟩ (fun hHeld => ?_)
                clear hK K
                refine norm_ (a' := ?_) ?_ ?_
                rotate_left
                · show Act.put _ (some 141) _ = _
                  simp only [Act.put, pkA, pkZ, pkS, i64_w, i32_w]
                  rfl
                refine pure_ (i := 37) (N := some 142) (v := ?_) (a' := ?_) #[true, true, true, true, true, true, true, true, true, true, true, true, true, true, true, true, true, true, true, true, true, true, true, true, true, true, true, true, true, true, true, true, true, true, true, true, true, true] rfl rfl (by kernel_rfl) (fun _ _ _ h => h) (Or.inl ⟨by rfl, ?_⟩) ?_ ?_
                rotate_left
                · intro w'
                  go_simp
                  with_reducible rfl
                rotate_left
                · simp only [Act.put, pkA, pkZ, pkS, i64_w, i32_w]
                  rfl
                refine done_ (by kernel_rfl) ?_
                clear hHeld
                go_wp2
                go_roundg (m.length - (i + 1))
                case measure => omega
                case rel => exact ⟨i + 1, rfl, by omega, by go_num, HBE, HPE, HGE, HME⟩
              · have ur0 : (re == 0) = false := by simpa using hre
                clear u2 hre
                go_upto_region 17 with fail
                have hdr := (Below.refl W7.heap.size W7).drew
                have HPf := Lib.hid (HP.out.below hdr)
                have HGf := Lib.hid (HG.out.below hdr)
                have HMf := Lib.hid (HM.out.below hdr)
                have HBf := Lib.hid (HB.out.drew)
                have HXf := Lib.hid (MAt.cell HMf.out hbm hxi)
                clear hdr
                refine start_ (n := 15) (S := fun w' => w'.cell? ⟨bm, om + i, none⟩ = some (.string x) ∧ w'.cell? ⟨z, 0, none⟩ = some (.string top) ∧ w'.cell? ⟨z, 2, none⟩ = some (.int .i64 day)) (ds := []) #[false, false, false, false, false, false, false, false, false, false, false, false, false, false, false] (by kernel_rfl) rfl rfl ⟨HXf.out, HPf.out.facts.1, HPf.out.facts.2.2⟩ (fun hHeld => ?_)
                refine pure_ (i := 0) (N := some 93) (v := ?_) (a' := ?_) #[true, false, false, false, false, false, false, false, false, false, false, false, false, false, false] rfl rfl (by kernel_rfl) (fun _ _ _ h => h) (Or.inl ⟨by rfl, ?_⟩) ?_ ?_
                rotate_left
                · intro w'
                  go_simp
                  with_reducible rfl
                rotate_left
                · simp only [Act.put, pkA, pkZ, pkS, i64_w, i32_w]
                  rfl
                refine pure_ (i := 1) (N := some 94) (v := ?_) (a' := ?_) #[true, true, false, false, false, false, false, false, false, false, false, false, false, false, false] rfl rfl (by kernel_rfl) (fun _ _ _ h => h) (Or.inl ⟨by rfl, ?_⟩) ?_ ?_
                rotate_left
                · intro w'
                  go_simp
                  with_reducible rfl
                rotate_left
                · simp only [Act.put, pkA, pkZ, pkS, i64_w, i32_w]
                  rfl
                refine pure_ (i := 3) (N := some 96) (v := ?_) (a' := ?_) #[true, true, false, true, false, false, false, false, false, false, false, false, false, false, false] rfl rfl (by kernel_rfl) (fun _ _ _ h => h) (Or.inl ⟨by rfl, ?_⟩) ?_ ?_
                rotate_left
                · intro w'
                  go_simp
                  with_reducible rfl
                rotate_left
                · simp only [Act.put, pkA, pkZ, pkS, i64_w, i32_w]
                  rfl
                refine pure_ (i := 4) (N := some 97) (v := ?_) (a' := ?_) #[true, true, false, true, true, false, false, false, false, false, false, false, false, false, false] rfl rfl (by kernel_rfl) (fun _ _ _ h => h) (Or.inl ⟨by rfl, ?_⟩) ?_ ?_
                rotate_left
                · intro w'
                  go_simp
                  with_reducible rfl
                rotate_left
                · simp only [Act.put, pkA, pkZ, pkS, i64_w, i32_w]
                  rfl
                refine pure_ (i := 5) (N := some 98) (v := ?_) (a' := ?_) #[true, true, false, true, true, true, false, false, false, false, false, false, false, false, false] rfl rfl (by kernel_rfl) (fun _ _ _ h => h) (Or.inl ⟨by rfl, ?_⟩) ?_ ?_
                rotate_left
                · intro w'
                  go_simp
                  with_reducible rfl
                rotate_left
                · simp only [Act.put, pkA, pkZ, pkS, i64_w, i32_w]
                  rfl
                refine pure_ (i := 7) (N := some 100) (v := ?_) (a' := ?_) #[true, true, false, true, true, true, false, true, false, false, false, false, false, false, false] rfl rfl (by kernel_rfl) (fun _ _ _ h => h) (Or.inl ⟨by rfl, ?_⟩) ?_ ?_
                rotate_left
                · intro w'
                  go_simp
                  with_reducible rfl
                rotate_left
                · simp only [Act.put, pkA, pkZ, pkS, i64_w, i32_w]
                  rfl
                refine take_ (i := 2) (N := some 95) (v := ?_) (a' := ?_) #[true, true, true, true, true, true, false, true, false, false, false, false, false, false, false] rfl rfl (by kernel_rfl) (fun _ _ _ h => h) (Or.inl ⟨by rfl, ?_⟩) hHeld ?_ ?_
                rotate_left
                · rintro w' ⟨s0, s1, s2⟩
                  go_simp
                  with_reducible rfl
                rotate_left
                · simp only [Act.put, pkA, pkZ, pkS, i64_w, i32_w]
                  rfl
                refine take_ (i := 6) (N := some 99) (v := ?_) (a' := ?_) #[true, true, true, true, true, true, true, true, false, false, false, false, false, false, false] rfl rfl (by kernel_rfl) (fun _ _ _ h => h) (Or.inl ⟨by rfl, ?_⟩) hHeld ?_ ?_
                rotate_left
                · rintro w' ⟨s0, s1, s2⟩
                  go_simp
                  with_reducible rfl
                rotate_left
                · simp only [Act.put, pkA, pkZ, pkS, i64_w, i32_w]
                  rfl
                refine take_ (i := 8) (N := some 101) (v := ?_) (a' := ?_) #[true, true, true, true, true, true, true, true, true, false, false, false, false, false, false] rfl rfl (by kernel_rfl) (fun _ _ _ h => h) (Or.inl ⟨by rfl, ?_⟩) hHeld ?_ ?_
                rotate_left
                · rintro w' ⟨s0, s1, s2⟩
                  go_simp
                  with_reducible rfl
                rotate_left
                · simp only [Act.put, pkA, pkZ, pkS, i64_w, i32_w]
                  rfl
                refine one_ (i := 9) (N := some 102) #[true, true, true, true, true, true, true, true, true, true, false, false, false, false, false] rfl rfl (by kernel_rfl) (by decide) (fun K hK => ?_)
                refine goes_ Tryz.func21 (by kernel_rfl) rfl #[.pointer (some ⟨g, 0, none⟩), .string top, .string x, .int .i64 day] (by rfl) rfl rfl (by simp only [List.map_toArray, List.map_cons, List.map_nil] <;> rfl) ?_
                refine (HSI.out _ HBf.out g HGf.out).mono ?_
                rintro e w8 ⟨rfl, hb8⟩
                refine ⟨_, rfl, ?_⟩
                have HB8 := Lib.hid (HBf.out.trans (hb8.mono HBf.out.size))
                have HP8 := Lib.hid (HPf.out.below hb8)
                have HG8 := Lib.hid (HGf.out.below hb8)
                have HM8 := Lib.hid (HMf.out.below hb8)
                have HX8 := Lib.hid (MAt.cell HM8.out hbm hxi)
                refine hK.out _ _ ⟨HX8.out, HP8.out.facts.1, HP8.out.facts.2.2⟩ (fun hHeld => ?_)
                clear hK K
                refine norm_ (a' := ?_) ?_ ?_
                rotate_left
                · show Act.put _ (some 102) _ = _
                  simp only [Act.put, pkA, pkZ, pkS, i64_w, i32_w]
                  rfl
                refine pure_ (i := 10) (N := some 92) (v := ?_) (a' := ?_) #[true, true, true, true, true, true, true, true, true, true, true, false, false, false, false] rfl rfl (by kernel_rfl) (fun _ _ _ h => h) (Or.inl ⟨by rfl, ?_⟩) ?_ ?_
                rotate_left
                · intro w'
                  go_simp
                  with_reducible rfl
                rotate_left
                · simp only [Act.put, pkA, pkZ, pkS, i64_w, i32_w]
                  rfl
                refine pure_ (i := 11) (N := some 103) (v := ?_) (a' := ?_) #[true, true, true, true, true, true, true, true, true, true, true, true, false, false, false] rfl rfl (by kernel_rfl) (fun _ _ _ h => h) (Or.inl ⟨by rfl, ?_⟩) ?_ ?_
                rotate_left
                · intro w'
                  go_simp
                  with_reducible rfl
                rotate_left
                · simp only [Act.put, pkA, pkZ, pkS, i64_w, i32_w]
                  rfl
                refine pure_ (i := 12) (N := some 104) (v := ?_) (a' := ?_) #[true, true, true, true, true, true, true, true, true, true, true, true, true, false, false] rfl rfl (by kernel_rfl) (fun _ _ _ h => h) (Or.inl ⟨by rfl, ?_⟩) ?_ ?_
                rotate_left
                · intro w'
                  go_simp
                  with_reducible rfl
                rotate_left
                · simp only [Act.put, pkA, pkZ, pkS, i64_w, i32_w]
                  rfl
                refine pure_ (i := 13) (N := some 13) (v := ?_) (a' := ?_) #[true, true, true, true, true, true, true, true, true, true, true, true, true, true, false] rfl rfl (by kernel_rfl) (fun _ _ _ h => h) (Or.inl ⟨by rfl, ?_⟩) ?_ ?_
                rotate_left
                · intro w'
                  go_simp
                  with_reducible rfl
                rotate_left
                · simp only [Act.put, pkA, pkZ, pkS, i64_w, i32_w]
                  rfl
                refine pure_ (i := 14) (N := some 14) (v := ?_) (a' := ?_) #[true, true, true, true, true, true, true, true, true, true, true, true, true, true, true] rfl rfl (by kernel_rfl) (fun _ _ _ h => h) (Or.inl ⟨by rfl, ?_⟩) ?_ ?_
                rotate_left
                · intro w'
                  go_simp
                  with_reducible rfl
                rotate_left
                · simp only [Act.put, pkA, pkZ, pkS, i64_w, i32_w]
                  rfl
                refine done_ (by kernel_rfl) ?_
                clear hHeld
                replace HB := HB8; replace HP := HP8; replace HG := HG8; replace HM := HM8
                clear HX8 HBf HPf HGf HMf HXf
                go_upto_region 18 with fail
                have hdr := (Below.refl w8.heap.size w8).drew
                have HPk := Lib.hid (HP.out.below hdr)
                have HGk := Lib.hid (HG.out.below hdr)
                have HMk := Lib.hid (HM.out.below hdr)
                have HBk := Lib.hid (HB.out.drew)
                have HXk := Lib.hid (MAt.cell HMk.out hbm hxi)
                clear hdr
                have d0 : decide (fr < 0) = false := by have := HF0.out; rw [decide_eq_false_iff_not]; omega
                have d1 : decide (day < fr) = false := by have := HF1.out; rw [decide_eq_false_iff_not]; omega
                refine start_ (n := 38) (S := fun w' => w'.cell? ⟨bm, om + i, none⟩ = some (.string x) ∧ w'.cell? ⟨z, 0, none⟩ = some (.string top) ∧ w'.cell? ⟨z, 2, none⟩ = some (.int .i64 day)) (ds := []) #[false, false, false, false, false, false, false, false, false, false, false, false, false, false, false, false, false, false, false, false, false, false, false, false, false, false, false, false, false, false, false, false, false, false, false, false, false, false] (by kernel_rfl) rfl rfl ⟨HXk.out, HPk.out.facts.1, HPk.out.facts.2.2⟩ (fun hHeld => ?_)
                refine pure_ (i := 0) (N := some 105) (v := ?_) (a' := ?_) #[true, false, false, false, false, false, false, false, false, false, false, false, false, false, false, false, false, false, false, false, false, false, false, false, false, false, false, false, false, false, false, false, false, false, false, false, false, false] rfl rfl (by kernel_rfl) (fun _ _ _ h => h) (Or.inl ⟨by rfl, ?_⟩) ?_ ?_
                rotate_left
                · intro w'
                  go_simp
                  with_reducible rfl
                rotate_left
                · simp only [Act.put, pkA, pkZ, pkS, i64_w, i32_w]
                  rfl
                refine pure_ (i := 1) (N := some 106) (v := ?_) (a' := ?_) #[true, true, false, false, false, false, false, false, false, false, false, false, false, false, false, false, false, false, false, false, false, false, false, false, false, false, false, false, false, false, false, false, false, false, false, false, false, false] rfl rfl (by kernel_rfl) (fun _ _ _ h => h) (Or.inl ⟨by rfl, ?_⟩) ?_ ?_
                rotate_left
                · intro w'
                  go_simp
                  with_reducible rfl
                rotate_left
                · simp only [Act.put, pkA, pkZ, pkS, i64_w, i32_w]
                  rfl
                refine pure_ (i := 2) (N := some 107) (v := ?_) (a' := ?_) #[true, true, true, false, false, false, false, false, false, false, false, false, false, false, false, false, false, false, false, false, false, false, false, false, false, false, false, false, false, false, false, false, false, false, false, false, false, false] rfl rfl (by kernel_rfl) (fun _ _ _ h => h) (Or.inl ⟨by rfl, ?_⟩) ?_ ?_
                rotate_left
                · intro w'
                  go_simp
                  with_reducible rfl
                rotate_left
                · simp only [Act.put, pkA, pkZ, pkS, i64_w, i32_w]
                  rfl
                refine pure_ (i := 3) (N := some 108) (v := ?_) (a' := ?_) #[true, true, true, true, false, false, false, false, false, false, false, false, false, false, false, false, false, false, false, false, false, false, false, false, false, false, false, false, false, false, false, false, false, false, false, false, false, false] rfl rfl (by kernel_rfl) (fun _ _ _ h => h) (Or.inl ⟨by rfl, ?_⟩) ?_ ?_
                rotate_left
                · intro w'
                  go_simp
                  with_reducible rfl
                rotate_left
                · simp only [Act.put, pkA, pkZ, pkS, i64_w, i32_w]
                  rfl
                refine pure_ (i := 4) (N := some 109) (v := ?_) (a' := ?_) #[true, true, true, true, true, false, false, false, false, false, false, false, false, false, false, false, false, false, false, false, false, false, false, false, false, false, false, false, false, false, false, false, false, false, false, false, false, false] rfl rfl (by kernel_rfl) (fun _ _ _ h => h) (Or.inl ⟨by rfl, ?_⟩) ?_ ?_
                rotate_left
                · intro w'
                  go_simp
                  with_reducible rfl
                rotate_left
                · simp only [Act.put, pkA, pkZ, pkS, i64_w, i32_w]
                  rfl
                refine pure_ (i := 5) (N := some 110) (v := ?_) (a' := ?_) #[true, true, true, true, true, true, false, false, false, false, false, false, false, false, false, false, false, false, false, false, false, false, false, false, false, false, false, false, false, false, false, false, false, false, false, false, false, false] rfl rfl (by kernel_rfl) (fun _ _ _ h => h) (Or.inl ⟨by rfl, ?_⟩) ?_ ?_
                rotate_left
                · intro w'
                  go_simp
                  with_reducible rfl
                rotate_left
                · simp only [Act.put, pkA, pkZ, pkS, i64_w, i32_w]
                  rfl
                refine pure_ (i := 6) (N := some 111) (v := ?_) (a' := ?_) #[true, true, true, true, true, true, true, false, false, false, false, false, false, false, false, false, false, false, false, false, false, false, false, false, false, false, false, false, false, false, false, false, false, false, false, false, false, false] rfl rfl (by kernel_rfl) (fun _ _ _ h => h) (Or.inl ⟨by rfl, ?_⟩) ?_ ?_
                rotate_left
                · intro w'
                  go_simp
                  with_reducible rfl
                rotate_left
                · simp only [Act.put, pkA, pkZ, pkS, i64_w, i32_w]
                  rfl
                refine pure_ (i := 7) (N := some 112) (v := ?_) (a' := ?_) #[true, true, true, true, true, true, true, true, false, false, false, false, false, false, false, false, false, false, false, false, false, false, false, false, false, false, false, false, false, false, false, false, false, false, false, false, false, false] rfl rfl (by kernel_rfl) (fun _ _ _ h => h) (Or.inl ⟨by rfl, ?_⟩) ?_ ?_
                rotate_left
                · intro w'
                  go_simp
                  with_reducible rfl
                rotate_left
                · simp only [Act.put, pkA, pkZ, pkS, i64_w, i32_w]
                  rfl
                refine pure_ (i := 8) (N := some 113) (v := ?_) (a' := ?_) #[true, true, true, true, true, true, true, true, true, false, false, false, false, false, false, false, false, false, false, false, false, false, false, false, false, false, false, false, false, false, false, false, false, false, false, false, false, false] rfl rfl (by kernel_rfl) (fun _ _ _ h => h) (Or.inl ⟨by rfl, ?_⟩) ?_ ?_
                rotate_left
                · intro w'
                  go_simp
                  with_reducible rfl
                rotate_left
                · simp only [Act.put, pkA, pkZ, pkS, i64_w, i32_w]
                  rfl
                refine take_ (i := 9) (N := some 114) (v := ?_) (a' := ?_) #[true, true, true, true, true, true, true, true, true, true, false, false, false, false, false, false, false, false, false, false, false, false, false, false, false, false, false, false, false, false, false, false, false, false, false, false, false, false] rfl rfl (by kernel_rfl) (fun _ _ _ h => h) (Or.inl ⟨by rfl, ?_⟩) hHeld ?_ ?_
                rotate_left
                · rintro w' ⟨s0, s1, s2⟩
                  go_simp
                  with_reducible rfl
                rotate_left
                · simp only [Act.put, pkA, pkZ, pkS, i64_w, i32_w]
                  rfl
                refine pure_ (i := 10) (N := some 115) (v := ?_) (a' := ?_) #[true, true, true, true, true, true, true, true, true, true, true, false, false, false, false, false, false, false, false, false, false, false, false, false, false, false, false, false, false, false, false, false, false, false, false, false, false, false] rfl rfl (by kernel_rfl) (fun _ _ _ h => h) (Or.inl ⟨by rfl, ?_⟩) ?_ ?_
                rotate_left
                · intro w'
                  go_simp
                  with_reducible rfl
                rotate_left
                · simp only [Act.put, pkA, pkZ, pkS, i64_w, i32_w]
                  rfl
                refine pure_ (i := 11) (N := some 116) (v := ?_) (a' := ?_) #[true, true, true, true, true, true, true, true, true, true, true, true, false, false, false, false, false, false, false, false, false, false, false, false, false, false, false, false, false, false, false, false, false, false, false, false, false, false] rfl rfl (by kernel_rfl) (fun _ _ _ h => h) (Or.inl ⟨by rfl, ?_⟩) ?_ ?_
                rotate_left
                · intro w'
                  go_simp
                  with_reducible rfl
                rotate_left
                · simp only [Act.put, pkA, pkZ, pkS, i64_w, i32_w]
                  rfl
                refine pure_ (i := 12) (N := some 117) (v := ?_) (a' := ?_) #[true, true, true, true, true, true, true, true, true, true, true, true, true, false, false, false, false, false, false, false, false, false, false, false, false, false, false, false, false, false, false, false, false, false, false, false, false, false] rfl rfl (by kernel_rfl) (fun _ _ _ h => h) (Or.inl ⟨by rfl, ?_⟩) ?_ ?_
                rotate_left
                · intro w'
                  go_simp
                  with_reducible rfl
                rotate_left
                · simp only [Act.put, pkA, pkZ, pkS, i64_w, i32_w]
                  rfl
                refine pure_ (i := 13) (N := some 118) (v := ?_) (a' := ?_) #[true, true, true, true, true, true, true, true, true, true, true, true, true, true, false, false, false, false, false, false, false, false, false, false, false, false, false, false, false, false, false, false, false, false, false, false, false, false] rfl rfl (by kernel_rfl) (fun _ _ _ h => h) (Or.inl ⟨by rfl, ?_⟩) ?_ ?_
                rotate_left
                · intro w'
                  go_simp
                  with_reducible rfl
                rotate_left
                · simp only [Act.put, pkA, pkZ, pkS, i64_w, i32_w]
                  rfl
                refine pure_ (i := 14) (N := some 119) (v := ?_) (a' := ?_) #[true, true, true, true, true, true, true, true, true, true, true, true, true, true, true, false, false, false, false, false, false, false, false, false, false, false, false, false, false, false, false, false, false, false, false, false, false, false] rfl rfl (by kernel_rfl) (fun _ _ _ h => h) (Or.inl ⟨by rfl, ?_⟩) ?_ ?_
                rotate_left
                · intro w'
                  go_simp
                  with_reducible rfl
                rotate_left
                · simp only [Act.put, pkA, pkZ, pkS, i64_w, i32_w]
                  rfl
                refine pure_ (i := 16) (N := some 121) (v := ?_) (a' := ?_) #[true, true, true, true, true, true, true, true, true, true, true, true, true, true, true, false, true, false, false, false, false, false, false, false, false, false, false, false, false, false, false, false, false, false, false, false, false, false] rfl rfl (by kernel_rfl) (fun _ _ _ h => h) (Or.inl ⟨by rfl, ?_⟩) ?_ ?_
                rotate_left
                · intro w'
                  go_simp
                  with_reducible rfl
                rotate_left
                · simp only [Act.put, pkA, pkZ, pkS, i64_w, i32_w]
                  rfl
                refine pure_ (i := 18) (N := some 123) (v := ?_) (a' := ?_) #[true, true, true, true, true, true, true, true, true, true, true, true, true, true, true, false, true, false, true, false, false, false, false, false, false, false, false, false, false, false, false, false, false, false, false, false, false, false] rfl rfl (by kernel_rfl) (fun _ _ _ h => h) (Or.inl ⟨by rfl, ?_⟩) ?_ ?_
                rotate_left
                · intro w'
                  go_simp
                  with_reducible rfl
                rotate_left
                · simp only [Act.put, pkA, pkZ, pkS, i64_w, i32_w]
                  rfl
                refine pure_ (i := 19) (N := some 124) (v := ?_) (a' := ?_) #[true, true, true, true, true, true, true, true, true, true, true, true, true, true, true, false, true, false, true, true, false, false, false, false, false, false, false, false, false, false, false, false, false, false, false, false, false, false] rfl rfl (by kernel_rfl) (fun _ _ _ h => h) (Or.inl ⟨by rfl, ?_⟩) ?_ ?_
                rotate_left
                · intro w'
                  go_simp
                  with_reducible rfl
                rotate_left
                · simp only [Act.put, pkA, pkZ, pkS, i64_w, i32_w]
                  rfl
                refine pure_ (i := 20) (N := some 125) (v := ?_) (a' := ?_) #[true, true, true, true, true, true, true, true, true, true, true, true, true, true, true, false, true, false, true, true, true, false, false, false, false, false, false, false, false, false, false, false, false, false, false, false, false, false] rfl rfl (by kernel_rfl) (fun _ _ _ h => h) (Or.inl ⟨by rfl, ?_⟩) ?_ ?_
                rotate_left
                · intro w'
                  go_simp
                  with_reducible rfl
                rotate_left
                · simp only [Act.put, pkA, pkZ, pkS, i64_w, i32_w]
                  rfl
                refine take_ (i := 15) (N := some 120) (v := ?_) (a' := ?_) #[true, true, true, true, true, true, true, true, true, true, true, true, true, true, true, true, true, false, true, true, true, false, false, false, false, false, false, false, false, false, false, false, false, false, false, false, false, false] rfl rfl (by kernel_rfl) (fun _ _ _ h => h) (Or.inl ⟨by rfl, ?_⟩) hHeld ?_ ?_
                rotate_left
                · rintro w' ⟨s0, s1, s2⟩
                  go_simp
                  with_reducible rfl
                rotate_left
                · simp only [Act.put, pkA, pkZ, pkS, i64_w, i32_w]
                  rfl
                refine take_ (i := 21) (N := some 126) (v := ?_) (a' := ?_) #[true, true, true, true, true, true, true, true, true, true, true, true, true, true, true, true, true, false, true, true, true, true, false, false, false, false, false, false, false, false, false, false, false, false, false, false, false, false] rfl rfl (by kernel_rfl) (fun _ _ _ h => h) (Or.inl ⟨by rfl, ?_⟩) hHeld ?_ ?_
                rotate_left
                · rintro w' ⟨s0, s1, s2⟩
                  go_simp
                  with_reducible rfl
                rotate_left
                · simp only [Act.put, pkA, pkZ, pkS, i64_w, i32_w]
                  rfl
                refine one_ (i := 17) (N := some 122) #[true, true, true, true, true, true, true, true, true, true, true, true, true, true, true, true, true, true, true, true, true, true, false, false, false, false, false, false, false, false, false, false, false, false, false, false, false, false] rfl rfl (by kernel_rfl) (by decide) (fun K hK => ?_)
                refine goes_ Tryz.func17 (by kernel_rfl) rfl #[.pointer (some ⟨g, 0, none⟩), .string top, .int .i64 fr] (by rfl) rfl rfl (by simp only [List.map_toArray, List.map_cons, List.map_nil] <;> rfl) ?_
                refine (HM1.out _ HBk.out g HGk.out).mono ?_
                rintro e w9 ⟨A9, c9, rfl, hC9, hc9, hb9⟩
                refine ⟨_, rfl, ?_⟩
                have HB9 := Lib.hid (HBk.out.trans (hb9.mono HBk.out.size))
                have HP9 := Lib.hid (HPk.out.below hb9)
                have HG9 := Lib.hid (HGk.out.below hb9)
                have HM9 := Lib.hid (HMk.out.below hb9)
                have HX9 := Lib.hid (MAt.cell HM9.out hbm hxi)
                have HC9 := Lib.hid hC9
                clear hC9
                refine hK.out _ _ ⟨HX9.out, HP9.out.facts.1, HP9.out.facts.2.2⟩ (fun hHeld => ?_)
                clear hK K
                refine norm_ (a' := ?_) ?_ ?_
                rotate_left
                · show Act.put _ (some 122) _ = _
                  simp only [Act.put, pkA, pkZ, pkS, i64_w, i32_w]
                  rfl
                refine one_ (i := 22) (N := some 127) #[true, true, true, true, true, true, true, true, true, true, true, true, true, true, true, true, true, true, true, true, true, true, true, false, false, false, false, false, false, false, false, false, false, false, false, false, false, false] rfl rfl (by kernel_rfl) (by decide) (fun K hK => ?_)
                refine goes_ Tryz.func23 (by kernel_rfl) rfl #[.slice A9 resf.length c9, .string x] (by rfl) rfl rfl (by simp only [List.map_toArray, List.map_cons, List.map_nil] <;> rfl) ?_
                refine (go_contains _ HC9.out hc9 HRF.out).mono ?_
                rintro e wA ⟨rfl, hbA⟩
                refine ⟨_, rfl, ?_⟩
                rw [HIF.out]
                have HBA := Lib.hid (HB9.out.trans (hbA.mono HB9.out.size))
                have HPA := Lib.hid (HP9.out.below hbA)
                have HGA := Lib.hid (HG9.out.below hbA)
                have HMA := Lib.hid (HM9.out.below hbA)
                have HXA := Lib.hid (MAt.cell HMA.out hbm hxi)
                refine hK.out _ _ ⟨HXA.out, HPA.out.facts.1, HPA.out.facts.2.2⟩ (fun hHeld => ?_)
                clear hK K
                refine norm_ (a' := ?_) ?_ ?_
                rotate_left
                · show Act.put _ (some 127) _ = _
                  simp only [Act.put, pkA, pkZ, pkS, i64_w, i32_w]
                  rfl
                refine pure_ (i := 23) (N := some 128) (v := ?_) (a' := ?_) #[true, true, true, true, true, true, true, true, true, true, true, true, true, true, true, true, true, true, true, true, true, true, true, true, false, false, false, false, false, false, false, false, false, false, false, false, false, false] rfl rfl (by kernel_rfl) (fun _ _ _ h => h) (Or.inl ⟨by rfl, ?_⟩) ?_ ?_
                rotate_left
                · intro w'
                  go_simp
                  with_reducible rfl
                rotate_left
                · simp only [Act.put, pkA, pkZ, pkS, i64_w, i32_w]
                  rfl
                refine pure_ (i := 24) (N := some 129) (v := ?_) (a' := ?_) #[true, true, true, true, true, true, true, true, true, true, true, true, true, true, true, true, true, true, true, true, true, true, true, true, true, false, false, false, false, false, false, false, false, false, false, false, false, false] rfl rfl (by kernel_rfl) (fun _ _ _ h => h) (Or.inl ⟨by rfl, ?_⟩) ?_ ?_
                rotate_left
                · intro w'
                  go_simp
                  with_reducible rfl
                rotate_left
                · simp only [Act.put, pkA, pkZ, pkS, i64_w, i32_w]
                  rfl
                refine pure_ (i := 25) (N := some 130) (v := ?_) (a' := ?_) #[true, true, true, true, true, true, true, true, true, true, true, true, true, true, true, true, true, true, true, true, true, true, true, true, true, true, false, false, false, false, false, false, false, false, false, false, false, false] rfl rfl (by kernel_rfl) (fun _ _ _ h => h) (Or.inl ⟨by rfl, ?_⟩) ?_ ?_
                rotate_left
                · intro w'
                  go_simp
                  with_reducible rfl
                rotate_left
                · simp only [Act.put, pkA, pkZ, pkS, i64_w, i32_w]
                  rfl
                refine pure_ (i := 26) (N := some 131) (v := ?_) (a' := ?_) #[true, true, true, true, true, true, true, true, true, true, true, true, true, true, true, true, true, true, true, true, true, true, true, true, true, true, true, false, false, false, false, false, false, false, false, false, false, false] rfl rfl (by kernel_rfl) (fun _ _ _ h => h) (Or.inl ⟨by rfl, ?_⟩) ?_ ?_
                rotate_left
                · intro w'
                  go_simp
                  with_reducible rfl
                rotate_left
                · simp only [Act.put, pkA, pkZ, pkS, i64_w, i32_w]
                  rfl
                refine pure_ (i := 27) (N := some 132) (v := ?_) (a' := ?_) #[true, true, true, true, true, true, true, true, true, true, true, true, true, true, true, true, true, true, true, true, true, true, true, true, true, true, true, true, false, false, false, false, false, false, false, false, false, false] rfl rfl (by kernel_rfl) (fun _ _ _ h => h) (Or.inl ⟨by rfl, ?_⟩) ?_ ?_
                rotate_left
                · intro w'
                  go_simp
                  with_reducible rfl
                rotate_left
                · simp only [Act.put, pkA, pkZ, pkS, i64_w, i32_w]
                  rfl
                refine pure_ (i := 29) (N := some 134) (v := ?_) (a' := ?_) #[true, true, true, true, true, true, true, true, true, true, true, true, true, true, true, true, true, true, true, true, true, true, true, true, true, true, true, true, false, true, false, false, false, false, false, false, false, false] rfl rfl (by kernel_rfl) (fun _ _ _ h => h) (Or.inl ⟨by rfl, ?_⟩) ?_ ?_
                rotate_left
                · intro w'
                  go_simp
                  with_reducible rfl
                rotate_left
                · simp only [Act.put, pkA, pkZ, pkS, i64_w, i32_w]
                  rfl
                refine pure_ (i := 30) (N := some 135) (v := ?_) (a' := ?_) #[true, true, true, true, true, true, true, true, true, true, true, true, true, true, true, true, true, true, true, true, true, true, true, true, true, true, true, true, false, true, true, false, false, false, false, false, false, false] rfl rfl (by kernel_rfl) (fun _ _ _ h => h) (Or.inl ⟨by rfl, ?_⟩) ?_ ?_
                rotate_left
                · intro w'
                  go_simp
                  with_reducible rfl
                rotate_left
                · simp only [Act.put, pkA, pkZ, pkS, i64_w, i32_w]
                  rfl
                refine pure_ (i := 32) (N := some 137) (v := ?_) (a' := ?_) #[true, true, true, true, true, true, true, true, true, true, true, true, true, true, true, true, true, true, true, true, true, true, true, true, true, true, true, true, false, true, true, false, true, false, false, false, false, false] rfl rfl (by kernel_rfl) (fun _ _ _ h => h) (Or.inl ⟨by rfl, ?_⟩) ?_ ?_
                rotate_left
                · intro w'
                  go_simp
                  with_reducible rfl
                rotate_left
                · simp only [Act.put, pkA, pkZ, pkS, i64_w, i32_w]
                  rfl
                refine pure_ (i := 33) (N := some 138) (v := ?_) (a' := ?_) #[true, true, true, true, true, true, true, true, true, true, true, true, true, true, true, true, true, true, true, true, true, true, true, true, true, true, true, true, false, true, true, false, true, true, false, false, false, false] rfl rfl (by kernel_rfl) (fun _ _ _ h => h) (Or.inl ⟨by rfl, ?_⟩) ?_ ?_
                rotate_left
                · intro w'
                  go_simp
                  with_reducible rfl
                rotate_left
                · simp only [Act.put, pkA, pkZ, pkS, i64_w, i32_w]
                  rfl
                refine pure_ (i := 34) (N := some 139) (v := ?_) (a' := ?_) #[true, true, true, true, true, true, true, true, true, true, true, true, true, true, true, true, true, true, true, true, true, true, true, true, true, true, true, true, false, true, true, false, true, true, true, false, false, false] rfl rfl (by kernel_rfl) (fun _ _ _ h => h) (Or.inl ⟨by rfl, ?_⟩) ?_ ?_
                rotate_left
                · intro w'
                  go_simp
                  with_reducible rfl
                rotate_left
                · simp only [Act.put, pkA, pkZ, pkS, i64_w, i32_w]
                  rfl
                refine take_ (i := 28) (N := some 133) (v := ?_) (a' := ?_) #[true, true, true, true, true, true, true, true, true, true, true, true, true, true, true, true, true, true, true, true, true, true, true, true, true, true, true, true, true, true, true, false, true, true, true, false, false, false] rfl rfl (by kernel_rfl) (fun _ _ _ h => h) (Or.inl ⟨by rfl, ?_⟩) hHeld ?_ ?_
                rotate_left
                · rintro w' ⟨s0, s1, s2⟩
                  go_simp
                  with_reducible rfl
                rotate_left
                · simp only [Act.put, pkA, pkZ, pkS, i64_w, i32_w]
                  rfl
                refine take_ (i := 35) (N := some 140) (v := ?_) (a' := ?_) #[true, true, true, true, true, true, true, true, true, true, true, true, true, true, true, true, true, true, true, true, true, true, true, true, true, true, true, true, true, true, true, false, true, true, true, true, false, false] rfl rfl (by kernel_rfl) (fun _ _ _ h => h) (Or.inl ⟨by rfl, ?_⟩) hHeld ?_ ?_
                rotate_left
                · rintro w' ⟨s0, s1, s2⟩
                  go_simp
                  with_reducible rfl
                rotate_left
                · simp only [Act.put, pkA, pkZ, pkS, i64_w, i32_w]
                  rfl
                refine one_ (i := 31) (N := some 136) #[true, true, true, true, true, true, true, true, true, true, true, true, true, true, true, true, true, true, true, true, true, true, true, true, true, true, true, true, true, true, true, true, true, true, true, true, false, false] rfl rfl (by kernel_rfl) (by decide) (fun K hK => ?_)
                refine goes_ Tryz.func17 (by kernel_rfl) rfl #[.pointer (some ⟨g, 0, none⟩), .string top, .int .i64 (wrap64 (fr - 1))] (by rfl) rfl rfl (by simp only [List.map_toArray, List.map_cons, List.map_nil] <;> rfl) ?_
                refine (HM0.out _ HBA.out g HGA.out).mono ?_
                rintro e wB ⟨AB, cB, rfl, hCB, hcB, hbB⟩
                refine ⟨_, rfl, ?_⟩
                have HBB := Lib.hid (HBA.out.trans (hbB.mono HBA.out.size))
                have HPB := Lib.hid (HPA.out.below hbB)
                have HGB := Lib.hid (HGA.out.below hbB)
                have HMB := Lib.hid (HMA.out.below hbB)
                have HXB := Lib.hid (MAt.cell HMB.out hbm hxi)
                have HCB := Lib.hid hCB
                clear hCB
                refine hK.out _ _ ⟨HXB.out, HPB.out.facts.1, HPB.out.facts.2.2⟩ (fun hHeld => ?_)
                clear hK K
                refine norm_ (a' := ?_) ?_ ?_
                rotate_left
                · show Act.put _ (some 136) _ = _
                  simp only [Act.put, pkA, pkZ, pkS, i64_w, i32_w]
                  rfl
                refine one_ (i := 36) (N := some 141) #[true, true, true, true, true, true, true, true, true, true, true, true, true, true, true, true, true, true, true, true, true, true, true, true, true, true, true, true, true, true, true, true, true, true, true, true, true, false] rfl rfl (by kernel_rfl) (by decide) (fun K hK => ?_)
                refine goes_ Tryz.func23 (by kernel_rfl) rfl #[.slice AB resg.length cB, .string x] (by rfl) rfl rfl (by simp only [List.map_toArray, List.map_cons, List.map_nil] <;> rfl) ?_
                refine (go_contains _ HCB.out hcB HRG.out).mono ?_
                rintro e wE ⟨rfl, hbE⟩
                refine ⟨_, rfl, ?_⟩
                rw [HIG.out]
                have HBE := Lib.hid (HBB.out.trans (hbE.mono HBB.out.size))
                have HPE := Lib.hid (HPB.out.below hbE)
                have HGE := Lib.hid (HGB.out.below hbE)
                have HME := Lib.hid (HMB.out.below hbE)
                have HXE := Lib.hid (MAt.cell HME.out hbm hxi)
                refine hK.out _ _ ⟨HXE.out, HPE.out.facts.1, HPE.out.facts.2.2⟩ (fun hHeld => ?_)
                clear hK K
                refine norm_ (a' := ?_) ?_ ?_
                rotate_left
                · show Act.put _ (some 141) _ = _
                  simp only [Act.put, pkA, pkZ, pkS, i64_w, i32_w]
                  rfl
                refine pure_ (i := 37) (N := some 142) (v := ?_) (a' := ?_) #[true, true, true, true, true, true, true, true, true, true, true, true, true, true, true, true, true, true, true, true, true, true, true, true, true, true, true, true, true, true, true, true, true, true, true, true, true, true] rfl rfl (by kernel_rfl) (fun _ _ _ h => h) (Or.inl ⟨by rfl, ?_⟩) ?_ ?_
                rotate_left
                · intro w'
                  go_simp
                  with_reducible rfl
                rotate_left
                · simp only [Act.put, pkA, pkZ, pkS, i64_w, i32_w]
                  rfl
                refine done_ (by kernel_rfl) ?_
                clear hHeld
                go_wp2
                go_roundg (m.length - (i + 1))
                case measure => omega
                case rel => exact ⟨i + 1, rfl, by omega, by go_num, HBE, HPE, HGE, HME⟩
        · obtain rfl : i = m.length := by omega
          have hml2 := HML.out
          by_cases hm0 : m = []
          · subst hm0
            clear hi hbm
            go_wp2_with (first
              | (go_at_call 11; refine (HLV.out _ HB.out).mono ?_; rintro e w6 ⟨rfl, hb6⟩; replace HB := Lib.hid (HB.out.trans (hb6.mono HB.out.size)); clear hb6))
            go_ret
            exact ⟨rfl, HB.out⟩
          · have hct := go_contains top HM.out HCM.out HML.out
            rw [mem_top HMB.out HLI.out hm0] at hct
            have HCT := Lib.hid hct
            have hne : ((m.length : Int) == 0) = false := by
              have : m.length ≠ 0 := fun e => hm0 (List.length_eq_zero_iff.1 e)
              simpa using this
            obtain ⟨g0, g1, g2⟩ := HP.out.facts
            clear hi hbm hct hm0
            go_wp2_with (first
              | (go_at_call 23; refine HCT.out.mono ?_; rintro e w5 ⟨rfl, hb5⟩; replace HB := Lib.hid (HB.out.trans (hb5.mono HB.out.size)); clear hb5)
              | (go_at_call 11; refine (HLV.out _ HB.out).mono ?_; rintro e w6 ⟨rfl, hb6⟩; replace HB := Lib.hid (HB.out.trans (hb6.mono HB.out.size)); clear hb6))
            go_ret
            exact ⟨rfl, HB.out⟩
    · have hs0 : shortB top ent = false := by simpa using hsh
      rw [hs0] at HSH
      clear hok hsh hs0 hC hL hI hba
      go_enter Tryz.func7, Tryz.ntmps7
      go_wp2_with (first
        | (go_at_call 14; refine HMD.out.mono ?_; rintro e w1 ⟨g, rfl, hG, hb1⟩; have HB := Lib.hid (HB0.out.trans (hb1.mono HB0.out.size)); have HP := Lib.hid (HP0.out.below hb1); obtain ⟨g0, g1, g2⟩ := HP.out.facts; clear hG hb1)
        | (go_at_call 15; refine (HSH.out _).mono ?_; rintro e w2 ⟨rfl, hb2⟩; replace HB := Lib.hid (HB.out.trans (hb2.mono HB.out.size)); clear hb2)
        | (go_at_call 11; refine (HLV.out _ HB.out).mono ?_; rintro e w4 ⟨rfl, hb4⟩; replace HB := Lib.hid (HB.out.trans (hb4.mono HB.out.size)); clear hb4))
      go_ret
      exact ⟨rfl, HB.out⟩
  · have HMD := Lib.hid (go_made_no A c l _ (Kd.C_below hC hba) hlc hI (hL.below hba) hok)
    clear hok hC hL hI hba
    go_enter Tryz.func7, Tryz.ntmps7
    go_wp2_with (first
      | (go_at_call 14; refine HMD.out.mono ?_; rintro e w1 ⟨rfl, hb1⟩; have HB := Lib.hid (HB0.out.trans (hb1.mono HB0.out.size)); clear hb1)
      | (go_at_call 11; refine (HLV.out _ HB.out).mono ?_; rintro e w4 ⟨rfl, hb4⟩; replace HB := Lib.hid (HB.out.trans (hb4.mono HB.out.size)); clear hb4))
    go_ret
    exact ⟨rfl, HB.out⟩
end Go.Proofs.YtikdiepcfdimgaaGreatDoor.POw
namespace Go.Proofs.YtikdiepcfdimgaaGreatDoor.RowOwnersInner
open Go.RowKit Go.Lib Go.ChangeShapes Go.WideShapes Go.ChangeAt Go.Proofs.YtikdiepcfdimgaaGreatDoorW.PrintWords Go.Proofs.YtikdiepcfdimgaaGreatDoorW.PrintLast
open POw (open_holds open_place)
theorem own : ownKnob Tryz.prog.godebug = none := by kernel_rfl
theorem laidOut : laidOutB Tryz.prog = true := by kernel_rfl
set_option maxRecDepth 100000 in
theorem lifted (os : Os) (started : os.Started) (H : Type) (enc : TypeId × Value → H) :
    ReturnsInHanded {} Tryz.checked os 7 .any (fun w args => (Rows.ownersInnerSpec.pre enc Tryz.prog Tryz.f7 [] false w args ∧ laidMetH Tryz.prog [("accounting/days.lengths", Rows.laid_accounting_days_lengths)] w) ∧ sizedMet enc Tryz.prog Tryz.f7 (OpenSpec.ofChange Rows.ownersInnerSpec) false w args)
      (Rows.ownersInnerSpec.post enc Tryz.prog Tryz.f7 false true false false) := by
  refine returnsInHanded_of_change_and (C := Tryz.checked) (X := fun w _ => laidMetH Tryz.prog [("accounting/days.lengths", Rows.laid_accounting_days_lengths)] w) (fun _ _ _ hh h => h.of_heap hh) own started (by kernel_rfl) Tryz.func7
    (ChangeSpec.witness_shaped (enc := enc) (C := Tryz.checked) (os := os) (X := fun w _ => laidMetH Tryz.prog [("accounting/days.lengths", Rows.laid_accounting_days_lengths)] w) false (World.doorLaid Tryz.prog 400 os) #[.slice none 0 0, .agg #[.string ByteArray.empty, .string ByteArray.empty, .int .i64 0]] 8 rfl (World.shaped_of_RefB (by kernel_rfl) (by kernel_rfl)) (by kernel_rfl) (by kernel_rfl) (by kernel_rfl) (days_met os _)) ?_
  intro W base args ds gs before hval0 hW _ hsz0 hL _
  have hsz : (DataW.weightsEach Tryz.prog (Tryz.f7.params.toList ++ Rows.ownersInnerSpec.plain.varTypes Tryz.prog) (ds ++ gs)).all (· ≤ reachBytes) = true := hsz0
  have hval : ∀ (j : Nat) t v, Tryz.f7.params[j]? = some t → args[j]? = some v → Value.okWide Tryz.prog W .any base t v := hval0
  have hW' := hW
  obtain ⟨p, q, hA0, hV, rfl, hfz, hnd⟩ := hW
  have hA : DataW.TrodAll enc Tryz.prog W 0 (fun _ => true) true Tryz.f7.params.toList args.toList ds p := hA0
  rw [Tryz.params7] at hA hval hsz
  obtain ⟨v0, vs0, d0, ds0, p0, q0, hargs, rfl, rfl, h0, r0⟩ := trodAll_cons hA
  obtain ⟨v1, vs1, d1, ds1, p1, q1, rfl, rfl, rfl, h1, r1⟩ := trodAll_cons r0
  obtain ⟨rfl, rfl, rfl⟩ := trodAll_nil r1
  obtain rfl : args = #[v0, v1] := by cases args; simp_all
  obtain ⟨rfl, rfl⟩ := trodVars_none hV
  have lt0 : ∀ x ∈ p0, x.block < W.heap.size := by obtain ⟨m, hm⟩ := h0; exact DataW.trod_lt m _ _ _ hm
  obtain ⟨a0, len0, cap0, rfl⟩ := okWide_slice Tryz.underlying22 (hval 0 22 v0 rfl rfl)
  obtain ⟨l0, rfl, hr0, hc0, hi0⟩ := open_holds h0
  have lt1 : ∀ x ∈ p1, x.block < W.heap.size := by obtain ⟨m, hm⟩ := h1; exact DataW.trod_lt m _ _ _ hm
  obtain ⟨top, ent, day, rfl⟩ := open_place h1
  have hdl := days_of_laid hL
  clear hA0 hval0 hsz0 hsz
  refine (POw.go_law_Inner a0 cap0 l0 top ent day W hr0 hc0 hi0 hdl).mono fun e W' ⟨he, bel⟩ => ?_
  subst he
  exact ⟨_, rfl, _, _, _, [], _, [], hW', trodAll_mk1 (shut_bool Tryz.underlying4 _), (trodAll_cons_mk (Below.trod laidOut (by kernel_rfl) (of_decide_eq_true (by kernel_rfl)) h0 bel lt0) (trodAll_cons_mk (Below.trod laidOut (by kernel_rfl) (of_decide_eq_true (by kernel_rfl)) h1 bel lt1) trodAll_mk0)), rfl, bel.frame _, fun h => by cases h⟩
theorem row_holds : Rows.OwnersInnerSaid :=
  OpenClaim.holds_of_wide 7 Tryz.f7 rfl rfl rfl rfl rfl rfl rfl ⟨rfl, rfl, rfl, rfl, rfl⟩ rfl rfl rfl rfl rfl (by kernel_rfl) Tryz.func7 (by kernel_rfl)
    (of_decide_eq_true (by kernel_rfl)) (by unfold Func.isWrapper; first | (rw [if_pos (by decide +kernel)]; kernel_rfl) | (rw [if_neg (by decide +kernel)]; exact ⟨rfl, rfl⟩))
    (fun os started H enc _ => lifted os started H enc)
end Go.Proofs.YtikdiepcfdimgaaGreatDoor.RowOwnersInner
namespace Go.Proofs.YtikdiepcfdimgaaGreatDoor
open Go
theorem ownersInner_card : Rows.OwnersInnerCardSaid :=
  Claim7.holds_tied_plain_at .later [] [.data] true Rows.ownersInnerCard.stood.harness false
    RowOwnersInner.row_holds (fun _ h => by cases h) (by kernel_rfl) (fun _ h => by cases h) ownersInner_row_tie rfl ⟨rfl, rfl⟩ (by kernel_rfl) rfl
    (fun f fn hf hfn => by
      obtain rfl : f = 7 := Option.some.inj ((show Tryz.prog.funcNamed "accounting/accountinglaw43.OwnersInner" = some 7 by kernel_rfl).symm.trans hf) |>.symm
      obtain rfl : fn = Tryz.f7 := (Option.some.inj (Tryz.func7.symm.trans hfn)).symm
      exact ⟨by kernel_rfl, fun j t ht => by
        rw [Tryz.params7] at ht
        have hm : t ∈ [22, 32] := by simpa using Array.mem_of_getElem? ht
        have hall : ([22, 32].all fun u => !Tryz.prog.wantsStandIn u) = true := by kernel_rfl
        exact (show Tryz.prog.wantsStandIn t = false by simpa using List.all_eq_true.1 hall t hm)⟩)
    (by kernel_rfl)
#print axioms ownersInner_card
end Go.Proofs.YtikdiepcfdimgaaGreatDoor
