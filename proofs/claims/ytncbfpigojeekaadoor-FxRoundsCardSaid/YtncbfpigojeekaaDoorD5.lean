/- The reference of the tables: Find. -/
import Derived.Test.YtncbfpigojeekaaDoorD4
namespace Go.Proofs.YtncbfpigojeekaaDoor
open Go.RowKit Go.Lib

def atI : Option Nat → Int
  | none => -1
  | some a => a
/-- the best among the first k rates -/
def BestAt (l : List Rate) (cur : ByteArray) (kind day : Int) (k : Nat) (o : Option Nat) : Prop :=
  match o with
  | none => ∀ q ∈ l.take k, ¬ Match cur kind day q
  | some a => ∃ h : a < l.length, Match cur kind day l[a] ∧ ∀ q ∈ l.take k, Match cur kind day q → q.day ≤ l[a].day
theorem BestAt.skip {l : List Rate} {cur : ByteArray} {kind day : Int} {k : Nat} {o : Option Nat} (h : BestAt l cur kind day k o) {q : Rate} (ht : l.take (k + 1) = l.take k ++ [q])
    (hn : Match cur kind day q → ∃ a, o = some a ∧ ∀ h : a < l.length, q.day ≤ l[a].day) : BestAt l cur kind day (k + 1) o := by
  cases o with
  | none =>
    intro x hx
    rw [ht] at hx
    rcases List.mem_append.1 hx with h1 | h1
    · exact h x h1
    · rw [List.mem_singleton.1 h1]; intro hm; obtain ⟨a, ha, _⟩ := hn hm; cases ha
  | some a =>
    obtain ⟨ha, hm, hall⟩ := h
    refine ⟨ha, hm, fun x hx hxm => ?_⟩
    rw [ht] at hx
    rcases List.mem_append.1 hx with h1 | h1
    · exact hall x h1 hxm
    · rw [List.mem_singleton.1 h1] at hxm ⊢
      obtain ⟨a', ha', h2⟩ := hn hxm
      cases ha'
      exact h2 ha
theorem BestAt.take {l : List Rate} {cur : ByteArray} {kind day : Int} {k : Nat} {o : Option Nat} (h : BestAt l cur kind day k o) {q : Rate} (ht : l.take (k + 1) = l.take k ++ [q]) (hk : k < l.length) (hq : l[k] = q)
    (hm : Match cur kind day q) (hgt : ∀ a, o = some a → ∀ h : a < l.length, l[a].day < q.day) : BestAt l cur kind day (k + 1) (some k) := by
  refine ⟨hk, by rw [hq]; exact hm, fun x hx hxm => ?_⟩
  rw [hq]
  rw [ht] at hx
  rcases List.mem_append.1 hx with h1 | h1
  · cases o with
    | none => exact absurd hxm (h x h1)
    | some a =>
      obtain ⟨ha, _, hall⟩ := h
      have := hall x h1 hxm
      have := hgt a rfl ha
      omega
  · rw [List.mem_singleton.1 h1]; exact Int.le_refl _
theorem BestAt.done {l : List Rate} {cur : ByteArray} {kind day : Int} {o : Option Nat} (hA : Apart l) (h : BestAt l cur kind day l.length o) : findP l cur kind day = o.bind (l[·]?) := by
  refine findP_eq hA _ ?_ ?_
  · cases o with
    | none => intro _ q hq; exact h q (by rw [List.take_length]; exact hq)
    | some a => intro hn; obtain ⟨ha, _⟩ := h; rw [Option.bind_some, List.getElem?_eq_getElem ha] at hn; cases hn
  · cases o with
    | none => intro r hr; cases hr
    | some a =>
      intro r hr
      obtain ⟨ha, hm, hall⟩ := h
      rw [Option.bind_some, List.getElem?_eq_getElem ha] at hr
      cases hr
      exact ⟨List.getElem_mem ha, hm, fun q hq => hall q (by rw [List.take_length]; exact hq)⟩
theorem match_iff (cur : ByteArray) (kind day : Int) (q : Rate) : Match cur kind day q ↔ (q.cur.toList == cur.toList) = true ∧ (q.kind == kind) = true ∧ decide (q.day ≤ day) = true := by
  have := key_eq q ⟨cur, kind, day, 0, 0⟩
  unfold Match
  have e : q.key = (cur, kind) ↔ decide (q.key = (cur, kind)) = true := by simp
  rw [e]
  show (decide (q.key = Rate.key ⟨cur, kind, day, 0, 0⟩) = true ∧ _) ↔ _
  rw [this, Bool.and_eq_true, decide_eq_true_eq, and_assoc]

set_option maxRecDepth 100000 in
set_option maxHeartbeats 8000000 in
theorem ref11_Find.calls (base cur : ByteArray) (kind day : Int) (l : List Rate) (lv : Value) (w : World) (hs : SlR Rate.cells 5 w lv l) (hO : Okay base l) :
    Calls Tryd.prog 19 #[.string base, lv, .string cur, .int .i64 kind, .int .i64 day] w fun e w' => e = .returned (.tuple #[.agg #[.int .i64 (findS base l cur kind day).1, .int .i64 (findS base l cur kind day).2.1], .int .i64 (findS base l cur kind day).2.2]) ∧ Below w.heap.size w w' := by
  obtain ⟨hAp, hlen, hok⟩ := hO
  obtain ⟨A, cp, rfl, hAs⟩ := hs.shape
  have HAS := Lib.hid hAs; clear hAs
  have e1 : (cur == base) = (cur.toList == base.toList) := beq_toListBytes _ _
  obtain ⟨a, hA⟩ : ∃ a, codeB cur = a := ⟨_, rfl⟩
  obtain ⟨b, hB⟩ : ∃ b, (cur.toList == base.toList) = b := ⟨_, rfl⟩
  obtain ⟨D, hD⟩ : ∃ D, isDay day = D := ⟨_, rfl⟩
  have HA := Lib.hid hA; have HD := Lib.hid hD
  have HE := Lib.hid (e1.trans hB)
  clear hA hD e1
  cases a with
  | false =>
    have HS := Lib.hid (show findS base l cur kind day = (0, 0, 13) by unfold findS; rw [HA.out]; rfl)
    go_enter Tryd.func19, Tryd.ntmps19
    go_wp2_with (first
      | (go_at_call 26; refine (ref07_Code.calls _ _).mono ?_; rintro e w1 ⟨rfl, hb1⟩; rw [HA.out]; have z1 := (Two.new w (.int .i64 0) (.int .i64 0) _).below (by simp) hb1; obtain ⟨za, zb, zc, zd⟩ := id z1; have hz1 := block_lt_of_cell za)
      | (go_at_call 34; refine (ref04_Is.calls _ _).mono ?_; rintro e w' ⟨rfl, rfl⟩; rw [HD.out]))
    obtain ⟨y0, y1⟩ := z1.set (.int .i64 0) (.int .i64 0)
    refine bodyPost_ret (v := .tuple #[.agg #[.int .i64 0, .int .i64 0], .int .i64 13]) (by simp [results, Tryd.results19, go_sem, y0, y1]) rfl ⟨by rw [HS.out], ((bc1 _ _ _ hb1).setCell (by simp) _).setCell (by simp) _⟩
  | true =>
  by_cases hk1 : kind < 1
  · have HS := Lib.hid (show findS base l cur kind day = (0, 0, 10) by unfold findS; rw [HA.out, decide_eq_false (by omega : ¬ 1 ≤ kind)]; rfl)
    go_enter Tryd.func19, Tryd.ntmps19
    go_wp2_with (first
      | (go_at_call 26; refine (ref07_Code.calls _ _).mono ?_; rintro e w1 ⟨rfl, hb1⟩; rw [HA.out]; have z1 := (Two.new w (.int .i64 0) (.int .i64 0) _).below (by simp) hb1; obtain ⟨za, zb, zc, zd⟩ := id z1; have hz1 := block_lt_of_cell za)
      | (go_at_call 34; refine (ref04_Is.calls _ _).mono ?_; rintro e w' ⟨rfl, rfl⟩; rw [HD.out]))
    obtain ⟨y0, y1⟩ := z1.set (.int .i64 0) (.int .i64 0)
    refine bodyPost_ret (v := .tuple #[.agg #[.int .i64 0, .int .i64 0], .int .i64 10]) (by simp [results, Tryd.results19, go_sem, y0, y1]) rfl ⟨by rw [HS.out], ((bc1 _ _ _ hb1).setCell (by simp) _).setCell (by simp) _⟩
  by_cases hk2 : 3 < kind
  · have HS := Lib.hid (show findS base l cur kind day = (0, 0, 10) by unfold findS; rw [HA.out, decide_eq_false (by omega : ¬ kind ≤ 3), Bool.and_false]; rfl)
    go_enter Tryd.func19, Tryd.ntmps19
    go_wp2_with (first
      | (go_at_call 26; refine (ref07_Code.calls _ _).mono ?_; rintro e w1 ⟨rfl, hb1⟩; rw [HA.out]; have z1 := (Two.new w (.int .i64 0) (.int .i64 0) _).below (by simp) hb1; obtain ⟨za, zb, zc, zd⟩ := id z1; have hz1 := block_lt_of_cell za)
      | (go_at_call 34; refine (ref04_Is.calls _ _).mono ?_; rintro e w' ⟨rfl, rfl⟩; rw [HD.out]))
    obtain ⟨y0, y1⟩ := z1.set (.int .i64 0) (.int .i64 0)
    refine bodyPost_ret (v := .tuple #[.agg #[.int .i64 0, .int .i64 0], .int .i64 10]) (by simp [results, Tryd.results19, go_sem, y0, y1]) rfl ⟨by rw [HS.out], ((bc1 _ _ _ hb1).setCell (by simp) _).setCell (by simp) _⟩
  have HK := Lib.hid (show (decide (1 ≤ kind) && decide (kind ≤ 3)) = true by simp; omega)
  cases D with
  | false =>
    have HS := Lib.hid (show findS base l cur kind day = (0, 0, 11) by unfold findS; rw [HA.out, HK.out, HD.out]; rfl)
    go_enter Tryd.func19, Tryd.ntmps19
    go_wp2_with (first
      | (go_at_call 26; refine (ref07_Code.calls _ _).mono ?_; rintro e w1 ⟨rfl, hb1⟩; rw [HA.out]; have z1 := (Two.new w (.int .i64 0) (.int .i64 0) _).below (by simp) hb1; obtain ⟨za, zb, zc, zd⟩ := id z1; have hz1 := block_lt_of_cell za)
      | (go_at_call 34; refine (ref04_Is.calls _ _).mono ?_; rintro e w' ⟨rfl, rfl⟩; rw [HD.out]))
    obtain ⟨y0, y1⟩ := z1.set (.int .i64 0) (.int .i64 0)
    refine bodyPost_ret (v := .tuple #[.agg #[.int .i64 0, .int .i64 0], .int .i64 11]) (by simp [results, Tryd.results19, go_sem, y0, y1]) rfl ⟨by rw [HS.out], ((bc1 _ _ _ hb1).setCell (by simp) _).setCell (by simp) _⟩
  | true =>
  cases b with
  | true =>
    have HS := Lib.hid (show findS base l cur kind day = (1, 1, 0) by unfold findS; rw [HA.out, HK.out, HD.out, HE.out]; rfl)
    go_enter Tryd.func19, Tryd.ntmps19
    go_wp2_with (first
      | (go_at_call 26; refine (ref07_Code.calls _ _).mono ?_; rintro e w1 ⟨rfl, hb1⟩; rw [HA.out]; have z1 := (Two.new w (.int .i64 0) (.int .i64 0) _).below (by simp) hb1; obtain ⟨za, zb, zc, zd⟩ := id z1; have hz1 := block_lt_of_cell za)
      | (go_at_call 34; refine (ref04_Is.calls _ _).mono ?_; rintro e w' ⟨rfl, rfl⟩; rw [HD.out]))
    obtain ⟨y0, y1⟩ := z1.set (.int .i64 1) (.int .i64 1)
    refine bodyPost_ret (v := .tuple #[.agg #[.int .i64 1, .int .i64 1], .int .i64 0]) (by simp [results, Tryd.results19, go_sem, y0, y1]) rfl ⟨by rw [HS.out], ((bc1 _ _ _ hb1).setCell (by simp) _).setCell (by simp) _⟩
  | false =>
    have HS0 := Lib.hid (show findS base l cur kind day = match findP l cur kind day with | none => (0, 0, 20) | some r => (r.n, r.d, 0) by unfold findS; rw [HA.out, HK.out, HD.out, HE.out]; rfl)
    go_enter Tryd.func19, Tryd.ntmps19
    go_wp2_with (first
      | (go_at_call 26; refine (ref07_Code.calls _ _).mono ?_; rintro e w1 ⟨rfl, hb1⟩; rw [HA.out]; have z1 := (Two.new w (.int .i64 0) (.int .i64 0) _).below (by simp) hb1; obtain ⟨za, zb, zc, zd⟩ := id z1; have hz1 := block_lt_of_cell za)
      | (go_at_call 34; refine (ref04_Is.calls _ _).mono ?_; rintro e w' ⟨rfl, rfl⟩; rw [HD.out]))
    go_loopg [12, 13] l.length (fun g s t wr => ∃ (k : Nat) (o : Option Nat), g = l.length - k ∧ k ≤ l.length ∧ s = .int .i64 (atI o) ∧ t = .int .i64 k ∧ (∀ a, o = some a → a < l.length) ∧ Below w.heap.size w wr ∧ Two wr w.heap.size (.int .i64 0) (.int .i64 0) ∧ Hid (BestAt l cur kind day k o))
    case atStart => exact ⟨0, none, rfl, Nat.zero_le _, rfl, rfl, fun _ h => (by cases h), bc1 _ _ _ hb1, z1, Lib.hid (fun q hq => (by cases hq))⟩
    case round =>
      obtain ⟨k, oo, rfl, hk, rfl, rfl, hoo, hbr, htwo, HI⟩ := hrel
      obtain ⟨ya, yb, yc, yd⟩ := id htwo
      have hwr := block_lt_of_cell ya
      by_cases hlt : k < l.length
      · obtain ⟨b, o, rfl, hbw, hc⟩ := HAS.out k hlt
        have hc' := fun j u hu => (hbr.cell (p := ⟨b, o + k * 5 + j, none⟩) hbw).trans (hc j u hu)
        obtain ⟨q, hq⟩ : ∃ q, l[k] = q := ⟨_, rfl⟩
        rw [hq] at hc'
        obtain ⟨p0, p1, p2, p3, p4⟩ := Rate.five hc'
        have HT := Lib.hid (show l.take (k + 1) = l.take k ++ [q] by rw [List.take_succ_eq_append_getElem hlt, hq])
        have HM := Lib.hid (match_iff cur kind day q)
        have HQ := Lib.hid hq
        clear hc hc' hq
        obtain ⟨B1, hB1⟩ : ∃ B1, (q.cur.toList == cur.toList) = B1 := ⟨_, rfl⟩
        obtain ⟨B2, hB2⟩ : ∃ B2, (q.kind == kind) = B2 := ⟨_, rfl⟩
        obtain ⟨B3, hB3⟩ : ∃ B3, decide (q.day ≤ day) = B3 := ⟨_, rfl⟩
        rw [hB1, hB2, hB3] at HM
        cases B1
        · go_wp2
          go_quiet (fail)
          go_wp2
          go_roundg (l.length - (k + 1))
          case measure => omega
          case rel => exact ⟨k + 1, oo, rfl, by omega, rfl, by go_num, hoo, hbr.trans ((below_drewN _ _).mono hbr.size), htwo.below hwr (below_drewN _ _), Lib.hid (HI.out.skip HT.out (fun hm => absurd (HM.out.1 hm) (by simp)))⟩
        · cases B2
          · go_wp2
            go_quiet (fail)
            go_wp2
            go_roundg (l.length - (k + 1))
            case measure => omega
            case rel => exact ⟨k + 1, oo, rfl, by omega, rfl, by go_num, hoo, hbr.trans ((below_drewN _ _).mono hbr.size), htwo.below hwr (below_drewN _ _), Lib.hid (HI.out.skip HT.out (fun hm => absurd (HM.out.1 hm) (by simp)))⟩
          · cases B3
            · go_wp2
              go_quiet (fail)
              go_wp2
              go_roundg (l.length - (k + 1))
              case measure => omega
              case rel => exact ⟨k + 1, oo, rfl, by omega, rfl, by go_num, hoo, hbr.trans ((below_drewN _ _).mono hbr.size), htwo.below hwr (below_drewN _ _), Lib.hid (HI.out.skip HT.out (fun hm => absurd (HM.out.1 hm) (by simp)))⟩
            · cases oo with
              | none =>
                simp only [atI]
                go_wp2
                go_quiet (fail)
                go_wp2
                go_roundg (l.length - (k + 1))
                case measure => omega
                case rel => exact ⟨k + 1, some k, rfl, by omega, rfl, by go_num, fun a h => (by cases h; exact hlt), hbr.trans ((below_drewN _ _).mono hbr.size), htwo.below hwr (below_drewN _ _), Lib.hid (HI.out.take HT.out hlt HQ.out (HM.out.2 (by simp)) (fun a h => by cases h))⟩
              | some a =>
                have hal := hoo a rfl
                obtain ⟨b', o', hbo, _, hca⟩ := HAS.out a hal
                cases hbo
                have hca' := fun j u hu => (hbr.cell (p := ⟨b, o + a * 5 + j, none⟩) hbw).trans (hca j u hu)
                obtain ⟨x, hx⟩ : ∃ x, l[a] = x := ⟨_, rfl⟩
                rw [hx] at hca'
                obtain ⟨g0, g1, g2, g3, g4⟩ := Rate.five hca'
                have HXA := Lib.hid hx
                clear hca hca' hx
                have ha0 : ¬ (a : Int) < 0 := by omega
                by_cases hgt : x.day < q.day
                · simp only [atI]
                  go_wp2
                  go_quiet (fail)
                  go_wp2
                  go_roundg (l.length - (k + 1))
                  case measure => omega
                  case rel => exact ⟨k + 1, some k, rfl, by omega, rfl, by go_num, fun a h => (by cases h; exact hlt), hbr.trans ((below_drewN _ _).mono hbr.size), htwo.below hwr (below_drewN _ _), Lib.hid (HI.out.take HT.out hlt HQ.out (HM.out.2 (by simp)) (fun a' h => by cases h; intro _; rw [HXA.out]; exact hgt))⟩
                · have hgb : decide (x.day < q.day) = false := decide_eq_false hgt
                  have HG := Lib.hid hgt; clear hgt
                  simp only [atI]
                  go_wp2
                  go_quiet (fail)
                  go_wp2
                  go_roundg (l.length - (k + 1))
                  case measure => omega
                  case rel => exact ⟨k + 1, some a, rfl, by omega, rfl, by go_num, fun a' h => (by cases h; exact hal), hbr.trans ((below_drewN _ _).mono hbr.size), htwo.below hwr (below_drewN _ _), Lib.hid (HI.out.skip HT.out (fun _ => ⟨a, rfl, fun _ => by rw [HXA.out]; exact HG.out⟩))⟩
      · have hkl : k = l.length := by omega
        subst hkl
        have HF := Lib.hid (HI.out.done hAp)
        cases oo with
        | none =>
          have HS := Lib.hid (show findS base l cur kind day = (0, 0, 20) by rw [HS0.out, HF.out]; rfl)
          simp only [atI]
          go_wp2
          obtain ⟨y0, y1⟩ := htwo.set (.int .i64 0) (.int .i64 0)
          refine bodyPost_ret (v := .tuple #[.agg #[.int .i64 0, .int .i64 0], .int .i64 20]) (by simp [results, Tryd.results19, go_sem, y0, y1]) rfl ⟨by rw [HS.out], ((hbr).setCell (by simp) _).setCell (by simp) _⟩
        | some a =>
          have hal := hoo a rfl
          obtain ⟨b, o, rfl, hbw, hca⟩ := HAS.out a hal
          have hca' := fun j u hu => (hbr.cell (p := ⟨b, o + a * 5 + j, none⟩) hbw).trans (hca j u hu)
          obtain ⟨x, hx⟩ : ∃ x, l[a] = x := ⟨_, rfl⟩
          rw [hx] at hca'
          obtain ⟨g0, g1, g2, g3, g4⟩ := Rate.five hca'
          replace g4 : wr.cell? ⟨b, o + a * 5 + 3 + 1, none⟩ = some (.int .i64 x.d) := g4
          have HS := Lib.hid (show findS base l cur kind day = (x.n, x.d, 0) by rw [HS0.out, HF.out, Option.bind_some, List.getElem?_eq_getElem hal, hx])
          clear hca hca' hx
          have ha0 : ¬ (a : Int) < 0 := by omega
          simp only [atI]
          go_wp2
          obtain ⟨y0, y1⟩ := htwo.set (.int .i64 x.n) (.int .i64 x.d)
          refine bodyPost_ret (v := .tuple #[.agg #[.int .i64 x.n, .int .i64 x.d], .int .i64 0]) (by simp [results, Tryd.results19, go_sem, y0, y1]) rfl ⟨by rw [HS.out], ((hbr).setCell (by simp) _).setCell (by simp) _⟩

end Go.Proofs.YtncbfpigojeekaaDoor
