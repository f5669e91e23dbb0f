/- The law FxLatest, the walk. -/
import Derived.Test.YtncbfpigojeekaaDoorE6
namespace Go.Proofs.YtncbfpigojeekaaDoor
open Go.RowKit Go.Lib

def bestI (o : Option Int) : Int := match o with | none => 0 | some b => b
def someB (o : Option Int) : Bool := match o with | none => false | some _ => true

set_option maxRecDepth 100000 in
set_option maxHeartbeats 8000000 in
theorem law11_FxLatest.calls (a : Ask) (lv : Value) (w : World) (hl : DaysLaid w) (hs : SlR Rate.cells 5 w lv a.rates) (hw : a.wf) :
    Calls Tryd.prog 5 #[a.v lv] w fun e w' => e = .returned (.bool true) ∧ Below w.heap.size w w' := by
  have hlives := fun (W : World) (hB : Below w.heap.size w W) => law11_lives.calls W (hl.below hB)
  have HLI := Lib.hid hlives; clear hlives
  have hls : ∀ W, Below w.heap.size w W → DaysLaid W ∧ SlR Rate.cells 5 W lv a.rates := fun W hB => ⟨hl.below hB, hs.below hB⟩
  obtain ⟨A, cp, rfl, hAs⟩ := hs.shape
  have HAS := Lib.hid hAs; clear hAs
  have HLS := Lib.hid hls; clear hls hl hs
  unfold Ask.v
  have HW := Lib.hid hw; clear hw
  by_cases h1 : 60 < a.rates.length
  · have b1 : decide (60 < a.rates.length) = true := decide_eq_true h1
    go_enter Tryd.func5, Tryd.ntmps5
    go_wp2_with (first
      | (go_at_call 10; refine (law11_large.calls _ _ _ _).mono ?_; rintro e w' ⟨rfl, rfl⟩; rw [b1])
      | (go_at_call 11; refine (HLI.out _ (Bn _ _)).mono ?_; rintro e w1 ⟨rfl, hb1⟩))
    go_ret
    exact ⟨rfl, bc1 _ _ _ hb1⟩
  have b1 : decide (60 < a.rates.length) = false := decide_eq_false h1
  obtain ⟨⟨i, e⟩, hN⟩ : ∃ p, newS a.base a.rates = p := ⟨_, rfl⟩
  have HN := Lib.hid hN; clear hN
  by_cases he : e = 0
  case neg =>
    have hnew := fun (W : World) (hB : Below w.heap.size w W) => fx_New_err HN.out he _ W (HLS.out W hB).1 (HLS.out W hB).2 HW.out.rates HW.out.base HW.out.len
    have HNE := Lib.hid hnew; clear hnew
    have heb : (e == 0) = false := by simp [he]
    go_enter Tryd.func5, Tryd.ntmps5
    go_wp2_with (first
      | (go_at_call 10; refine (law11_large.calls _ _ _ _).mono ?_; rintro e w' ⟨rfl, rfl⟩; rw [b1])
      | (go_at_call 12; refine (HNE.out _ (Bn _ _)).mono ?_; rintro e w1 ⟨rfl, hb1⟩)
      | (go_at_call 11; refine (HLI.out _ (bc1 _ _ _ hb1)).mono ?_; rintro e w8 ⟨rfl, hb8⟩))
    go_ret
    exact ⟨rfl, Bt (bc1 _ _ _ hb1) hb8⟩
  case pos =>
    subst he
    have hnew := fun (W : World) (hB : Below w.heap.size w W) => fx_New_ok HN.out _ W (HLS.out W hB).1 (HLS.out W hB).2 HW.out.rates HW.out.base HW.out.len
    have HNE := Lib.hid hnew; clear hnew
    have hF := fun (W : World) (B tb : Nat) (hB : Below w.heap.size w W) (hT : Tab W B tb a.base a.rates.length a.rates) (hO : Okay a.base a.rates) => fx_Find.calls a.base a.frm a.kind a.day a.rates B tb a.rates.length W (HLS.out W hB).1 HW.out.frm HW.out.kind hT hO
    have e1 : (a.frm == a.base) = (a.frm.toList == a.base.toList) := beq_toListBytes _ _
    have hk0 := AskAt.new w a (.slice A a.rates.length cp) 35
    obtain ⟨b, hB⟩ : ∃ b, (a.frm.toList == a.base.toList) = b := ⟨_, rfl⟩
    rw [hB] at e1
    have HE := Lib.hid e1
    clear e1
    have HF0 := Lib.hid hF; clear hF
    cases b with
    | true =>
      go_enter Tryd.func5, Tryd.ntmps5
      go_upto_region 4 with (first
        | (go_at_call 10; refine (law11_large.calls _ _ _ _).mono ?_; rintro e w' ⟨rfl, rfl⟩; rw [b1])
        | (go_at_call 12; refine (HNE.out _ (Bn _ _)).mono ?_; rintro e w1 ⟨tb, rfl, hb1, hT1, hO⟩))
      have hk1 := hk0.below hb1
      have c1 := bc1 _ _ _ hb1
      obtain ⟨kz, k0, k1, k2, k3, k4, k5, k6, k7⟩ := id hk1
      go_wp2_with (first
        | (go_at_call 11; refine (HLI.out _ c1).mono ?_; rintro e w8 ⟨rfl, hb8⟩))
      go_ret
      exact ⟨rfl, Bt c1 hb8⟩
    | false =>
      go_enter Tryd.func5, Tryd.ntmps5
      go_upto_region 4 with (first
        | (go_at_call 10; refine (law11_large.calls _ _ _ _).mono ?_; rintro e w' ⟨rfl, rfl⟩; rw [b1])
        | (go_at_call 12; refine (HNE.out _ (Bn _ _)).mono ?_; rintro e w1 ⟨tb, rfl, hb1, hT1, hO⟩))
      have hk1 := hk0.below hb1
      have c1 := bc1 _ _ _ hb1
      obtain ⟨kz, k0, k1, k2, k3, k4, k5, k6, k7⟩ := id hk1
      obtain ⟨⟨f1, f2, f3⟩, hf⟩ : ∃ f, findS a.base a.rates a.frm a.kind a.day = f := ⟨_, rfl⟩
      have hways := find_ways hO.1 a.frm a.kind a.day HE.out
      rw [hf] at hways
      have hF1 := HF0.out _ _ _ c1 hT1 hO
      rw [hf] at hF1
      simp only at hF1
      have HF := Lib.hid hF1
      have HWY := Lib.hid hways
      have HU := Lib.hid (fun (q r : Rate) => hO.1.uniq (q := q) (r := r))
      clear hF1 hways hf
      go_upto_region 7 with (first
        | (go_at_call 16; refine (HF.out).mono ?_; rintro e w2 ⟨rfl, hb2⟩))
      have hk2 := (hk1.below hb2).below (Bn w2 (.cells #[.int .i64 f1, .int .i64 f2] 37))
      have c2 := Bt (Bt c1 hb2) (Bn w2 (.cells #[.int .i64 f1, .int .i64 f2] 37))
      have z2 := Two.new w2 (.int .i64 f1) (.int .i64 f2) 37
      have hz2 : w2.heap.size < (w2.alloc (.cells #[.int .i64 f1, .int .i64 f2] 37)).heap.size := by simp
      clear kz k0 k1 k2 k3 k4 k5 k6 k7
      obtain ⟨kz, k0, k1, k2, k3, k4, k5, k6, k7⟩ := id hk2
      go_wp2
      go_loopg [8, 9, 10] a.rates.length (fun g s8 s9 s10 wr => ∃ (k : Nat) (o : Option Int), g = a.rates.length - k ∧ k ≤ a.rates.length ∧ s8 = .int .i64 (bestI o) ∧ s9 = .bool (someB o) ∧ s10 = .int .i64 k ∧ Below w.heap.size w wr ∧ AskAt wr w.heap.size a (.slice A a.rates.length cp) ∧ Two wr w2.heap.size (.int .i64 f1) (.int .i64 f2) ∧ w2.heap.size < wr.heap.size ∧ Hid (TopAt a.rates a.frm a.kind a.day k o))
      case atStart => exact ⟨0, none, rfl, Nat.zero_le _, rfl, rfl, rfl, c2, hk2, z2, hz2, Lib.hid (fun q hq => (by cases hq))⟩
      case round =>
        obtain ⟨k, oo, rfl, hk, rfl, rfl, rfl, hbr, hask, htwo, hzr, HI⟩ := hrel
        clear kz k0 k1 k2 k3 k4 k5 k6 k7
        obtain ⟨kz, k0, k1, k2, k3, k4, k5, k6, k7⟩ := id hask
        obtain ⟨ya, yb, yc, yd⟩ := id htwo
        by_cases hlt : k < a.rates.length
        · obtain ⟨b, o, rfl, hbw, hc⟩ := HAS.out k hlt
          have hc' := fun j u hu => (hbr.cell (p := ⟨b, o + k * 5 + j, none⟩) hbw).trans (hc j u hu)
          obtain ⟨q, hq⟩ : ∃ q, a.rates[k] = q := ⟨_, rfl⟩
          rw [hq] at hc'
          obtain ⟨p0, p1, p2, p3, p4⟩ := Rate.five hc'
          have HT := Lib.hid (show a.rates.take (k + 1) = a.rates.take k ++ [q] by rw [List.take_succ_eq_append_getElem hlt, hq])
          have HM := Lib.hid (match_iff a.frm a.kind a.day q)
          clear hc hc' hq
          obtain ⟨B1, hB1⟩ : ∃ B1, (q.cur.toList == a.frm.toList) = B1 := ⟨_, rfl⟩
          obtain ⟨B2, hB2⟩ : ∃ B2, (q.kind == a.kind) = B2 := ⟨_, rfl⟩
          obtain ⟨B3, hB3⟩ : ∃ B3, decide (q.day ≤ a.day) = B3 := ⟨_, rfl⟩
          rw [hB1, hB2, hB3] at HM
          cases B1
          · go_wp2
            go_roundg (a.rates.length - (k + 1))
            case measure => omega
            case rel => exact ⟨k + 1, oo, rfl, by omega, rfl, rfl, by go_num, Bt hbr (Bn _ _), hask.below (Bn _ _), htwo.below hzr (Bn _ _), Nat.lt_of_lt_of_le hzr (Bn wr _).size, Lib.hid (HI.out.skip HT.out (fun hm => absurd (HM.out.1 hm) (by simp)))⟩
          · cases B2
            · go_wp2
              go_roundg (a.rates.length - (k + 1))
              case measure => omega
              case rel => exact ⟨k + 1, oo, rfl, by omega, rfl, rfl, by go_num, Bt hbr (Bn _ _), hask.below (Bn _ _), htwo.below hzr (Bn _ _), Nat.lt_of_lt_of_le hzr (Bn wr _).size, Lib.hid (HI.out.skip HT.out (fun hm => absurd (HM.out.1 hm) (by simp)))⟩
            · cases B3
              · go_wp2
                go_roundg (a.rates.length - (k + 1))
                case measure => omega
                case rel => exact ⟨k + 1, oo, rfl, by omega, rfl, rfl, by go_num, Bt hbr (Bn _ _), hask.below (Bn _ _), htwo.below hzr (Bn _ _), Nat.lt_of_lt_of_le hzr (Bn wr _).size, Lib.hid (HI.out.skip HT.out (fun hm => absurd (HM.out.1 hm) (by simp)))⟩
              · cases oo with
                | none =>
                  simp only [bestI, someB]
                  go_wp2
                  go_roundg (a.rates.length - (k + 1))
                  case measure => omega
                  case rel => exact ⟨k + 1, some q.day, rfl, by omega, rfl, rfl, by go_num, Bt hbr (Bn _ _), hask.below (Bn _ _), htwo.below hzr (Bn _ _), Nat.lt_of_lt_of_le hzr (Bn wr _).size, Lib.hid (HI.out.take HT.out (HM.out.2 (by simp)) (fun a h => by cases h))⟩
                | some bb =>
                  by_cases hge : bb ≤ q.day
                  · have hgb : decide (bb ≤ q.day) = true := decide_eq_true hge
                    have HG := Lib.hid hge; clear hge
                    simp only [bestI, someB]
                    go_wp2
                    go_roundg (a.rates.length - (k + 1))
                    case measure => omega
                    case rel => exact ⟨k + 1, some q.day, rfl, by omega, rfl, rfl, by go_num, Bt hbr (Bn _ _), hask.below (Bn _ _), htwo.below hzr (Bn _ _), Nat.lt_of_lt_of_le hzr (Bn wr _).size, Lib.hid (HI.out.take HT.out (HM.out.2 (by simp)) (fun a h => by cases h; exact HG.out))⟩
                  · have hgb : decide (bb ≤ q.day) = false := decide_eq_false hge
                    have HG := Lib.hid hge; clear hge
                    simp only [bestI, someB]
                    go_wp2
                    go_roundg (a.rates.length - (k + 1))
                    case measure => omega
                    case rel => exact ⟨k + 1, some bb, rfl, by omega, rfl, rfl, by go_num, Bt hbr (Bn _ _), hask.below (Bn _ _), htwo.below hzr (Bn _ _), Nat.lt_of_lt_of_le hzr (Bn wr _).size, Lib.hid (HI.out.skip HT.out (fun _ => ⟨bb, rfl, by have := HG.out; omega⟩))⟩
        · have hkl : k = a.rates.length := by omega
          subst hkl
          rcases HWY.out with ⟨e, he, hne, h20⟩ | ⟨r, he, hr, hm, hall⟩
          · injection he with e1 e2
            injection e2 with e2 e3
            subst e1 e2 e3
            have heb : (f3 == 0) = false := by simp [hne]
            have hef := eq_frac
            by_cases h20b : f3 = 20
            · have HN2 := Lib.hid (HI.out.nothing (h20 h20b))
              have hno := HN2.out
              subst hno
              subst h20b
              clear h20 hne
              simp only [bestI, someB]
              go_wp2_with (first
                | (go_at_call 11; refine (HLI.out _ hbr).mono ?_; rintro e w8 ⟨rfl, hb8⟩))
              go_ret
              exact ⟨rfl, Bt hbr hb8⟩
            · have heb2 : (f3 == 20) = false := by simp [h20b]
              have heb3 : (f3 != 20) = true := by simp [h20b]
              clear h20 hne h20b
              go_wp2_with (first
                | (go_at_call 11; refine (HLI.out _ hbr).mono ?_; rintro e w8 ⟨rfl, hb8⟩))
              go_ret
              exact ⟨rfl, Bt hbr hb8⟩
          · injection he with e1 e2
            injection e2 with e2 e3
            subst e1 e2 e3
            have ho := HI.out.done hr hm hall
            subst ho
            have hef := eq_frac
            have HR := Lib.hid (And.intro hr hm)
            clear hr hm hall
            simp only [bestI, someB]
            go_wp2
            go_loopg [12] a.rates.length (fun g s12 wx => ∃ (k : Nat), g = a.rates.length - k ∧ k ≤ a.rates.length ∧ s12 = .int .i64 k ∧ Below w.heap.size w wx ∧ AskAt wx w.heap.size a (.slice A a.rates.length cp) ∧ Two wx w2.heap.size (.int .i64 r.n) (.int .i64 r.d) ∧ w2.heap.size < wx.heap.size ∧ Hid (∀ q ∈ a.rates.take k, ¬ (q.key = (a.frm, a.kind) ∧ q.day = r.day)))
            case atStart => exact ⟨0, rfl, Nat.zero_le _, rfl, hbr, hask, htwo, hzr, Lib.hid (fun q hq => (by cases hq))⟩
            case round =>
              clear hbr hask htwo hzr ya yb yc yd kz k0 k1 k2 k3 k4 k5 k6 k7
              obtain ⟨k, rfl, hk, rfl, hbr, hask, htwo, hzr, HJ⟩ := hrel
              obtain ⟨kz, k0, k1, k2, k3, k4, k5, k6, k7⟩ := id hask
              obtain ⟨ya, yb, yc, yd⟩ := id htwo
              by_cases hlt : k < a.rates.length
              · obtain ⟨b, o, rfl, hbw, hc⟩ := HAS.out k hlt
                have hc' := fun j u hu => (hbr.cell (p := ⟨b, o + k * 5 + j, none⟩) hbw).trans (hc j u hu)
                obtain ⟨q, hq⟩ : ∃ q, a.rates[k] = q := ⟨_, rfl⟩
                rw [hq] at hc'
                obtain ⟨p0, p1, p2, p3, p4⟩ := Rate.five hc'
                have HT := Lib.hid (show a.rates.take (k + 1) = a.rates.take k ++ [q] by rw [List.take_succ_eq_append_getElem hlt, hq])
                have HQ := Lib.hid (show q ∈ a.rates from hq ▸ List.getElem_mem hlt)
                have HK := Lib.hid (key_eq q ⟨a.frm, a.kind, r.day, 0, 0⟩)
                clear hc hc' hq
                obtain ⟨B1, hB1⟩ : ∃ B1, (q.cur.toList == a.frm.toList) = B1 := ⟨_, rfl⟩
                obtain ⟨B2, hB2⟩ : ∃ B2, (q.kind == a.kind) = B2 := ⟨_, rfl⟩
                obtain ⟨B3, hB3⟩ : ∃ B3, (q.day == r.day) = B3 := ⟨_, rfl⟩
                have HKB := Lib.hid (show decide (q.key = (a.frm, a.kind)) = (B1 && B2) by rw [← hB1, ← hB2]; exact HK.out)
                have HDB := Lib.hid (show q.day = r.day → B3 = true by rw [← hB3]; simp)
                have HDC := Lib.hid (show B3 = true → q.day = r.day by rw [← hB3]; simp)
                cases B1
                · go_wp2
                  go_roundg (a.rates.length - (k + 1))
                  case measure => omega
                  case rel => exact ⟨k + 1, rfl, by omega, by go_num, Bt hbr (Bn _ _), hask.below (Bn _ _), htwo.below hzr (Bn _ _), Nat.lt_of_lt_of_le hzr (Bn _ _).size, Lib.hid (fun x hx hxm => by
                    rw [HT.out] at hx
                    rcases List.mem_append.1 hx with h1 | h1
                    · exact HJ.out x h1 hxm
                    · rw [List.mem_singleton.1 h1] at hxm
                      have h2 := HKB.out; have h3 := HDB.out
                      rw [decide_eq_true hxm.1] at h2
                      first | (cases h2; done) | (cases h3 hxm.2))⟩
                · cases B2
                  · go_wp2
                    go_roundg (a.rates.length - (k + 1))
                    case measure => omega
                    case rel => exact ⟨k + 1, rfl, by omega, by go_num, Bt hbr (Bn _ _), hask.below (Bn _ _), htwo.below hzr (Bn _ _), Nat.lt_of_lt_of_le hzr (Bn _ _).size, Lib.hid (fun x hx hxm => by
                      rw [HT.out] at hx
                      rcases List.mem_append.1 hx with h1 | h1
                      · exact HJ.out x h1 hxm
                      · rw [List.mem_singleton.1 h1] at hxm
                        have h2 := HKB.out; have h3 := HDB.out
                        rw [decide_eq_true hxm.1] at h2
                        first | (cases h2; done) | (cases h3 hxm.2))⟩
                  · cases B3
                    · go_wp2
                      go_roundg (a.rates.length - (k + 1))
                      case measure => omega
                      case rel => exact ⟨k + 1, rfl, by omega, by go_num, Bt hbr (Bn _ _), hask.below (Bn _ _), htwo.below hzr (Bn _ _), Nat.lt_of_lt_of_le hzr (Bn _ _).size, Lib.hid (fun x hx hxm => by
                        rw [HT.out] at hx
                        rcases List.mem_append.1 hx with h1 | h1
                        · exact HJ.out x h1 hxm
                        · rw [List.mem_singleton.1 h1] at hxm
                          have h2 := HKB.out; have h3 := HDB.out
                          rw [decide_eq_true hxm.1] at h2
                          first | (cases h2; done) | (cases h3 hxm.2))⟩
                    · have hqr : q = r := HU.out q r HQ.out HR.out.1 ((of_decide_eq_true HKB.out).trans HR.out.2.1.symm) (HDC.out rfl)
                      subst hqr
                      go_wp2_with (first
                        | (go_at_call 11; refine (HLI.out _ (Bt hbr (Bn _ _))).mono ?_; rintro e w8 ⟨rfl, hb8⟩))
                      go_ret
                      exact ⟨rfl, Bt (Bt hbr (Bn _ _)) hb8⟩
              · exfalso
                have e : a.rates.take k = a.rates := List.take_of_length_le (by omega)
                have := HJ.out
                rw [e] at this
                exact this r HR.out.1 ⟨HR.out.2.1, rfl⟩

end Go.Proofs.YtncbfpigojeekaaDoor
