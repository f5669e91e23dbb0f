/- The law AgingOf of the printed functions. -/
import Derived.Test.YtohfnpkoheafkaaDoorPAgx5
import Derived.Test.YtohfnpkoheafkaaDoorQ1
import Derived.Test.YtohfnpkoheafkaaDoorQ4
namespace Go.Proofs.YtohfnpkoheafkaaDoor.PAg
open Go.RowKit Go.Proofs.YtohfnpkoheafkaaDoorW.PrintWords Go.Proofs.YtohfnpkoheafkaaDoorW.PrintLast Go.Proofs.YtohfnpkoheafkaaDoorW.PrintMore

theorem ref_letter_is (c : Int) : accountingref06_letter.f c = some (ltrI c) := by
  unfold accountingref06_letter.f ltrI
  by_cases h1 : c ≥ 97 <;> by_cases h2 : c ≤ 122 <;> by_cases h3 : c ≥ 65 <;> by_cases h4 : c ≤ 90 <;> simp [h1, h2, h3, h4] <;> omega
theorem ref_digit_is (c : Int) : accountingref06_digit.f c = some (digI c) := by
  unfold accountingref06_digit.f digI
  by_cases h1 : c ≥ 48 <;> simp [h1]
theorem bt_is {s : ByteArray} {i : Nat} (h : i < s.size) : bt s (i : Int) = ((s[i]'h).toNat : Int) := (bt_at s (i : Int) h).symm
theorem bad_word {s : ByteArray} {i : Nat} (h : i < s.size) (hb : wordB (s[i]'h) = false) : allW s = false := by
  unfold allW
  rw [List.all_eq_false]
  exact ⟨s[i]'h, by simp [ByteArray.getElem_eq_getElem_data], by simp [hb]⟩
theorem all_word {s : ByteArray} (h : ∀ i, ∀ hi : i < s.size, wordB (s[i]'hi) = true) : allW s = true := by
  unfold allW
  rw [List.all_eq_true]
  intro c hc
  obtain ⟨i, hi, rfl⟩ := List.getElem_of_mem hc
  have hi2 : i < s.size := by simpa using hi
  have := h i hi2
  simpa [ByteArray.getElem_eq_getElem_data] using this
theorem ev_ref6_l (s : ByteArray) (hs : s.size ≤ 100) : ∀ d i, d = s.size - i → i ≤ s.size → (∀ j, j < i → ∀ hj : j < s.size, wordB (s[j]'hj) = true) → Ev (fun k => accountingref06_Code.l0 k s (i : Int)) (wcodeB s) := by
  intro d
  induction d with
  | zero =>
    intro i hd hi hall
    have hi' : i = s.size := by omega
    refine Ev.step (H := fun _ => some (wcodeB s)) (fun k => ?_) (Ev.pure _)
    have hw := all_word (fun j hj => hall j (by omega) hj)
    rw [accountingref06_Code.l0, if_neg (by omega)]
    unfold wcodeB
    by_cases h1 : (s.size : Int) ≥ 1
    · rw [if_pos h1, hw]
      have h2 : s.size ≠ 0 := by omega
      congr 1
      rw [Bool.eq_iff_iff]; simp [h2]; omega
    · rw [if_neg h1, decide_eq_false (by omega)]; rfl
  | succ d ih =>
    intro i hd hi hall
    have hlt : i < s.size := by omega
    have hup : wrap64 ((i : Int) + 1) = ((i + 1 : Nat) : Int) := by rw [IntWalk.wrap64_in _ (by omega)]; omega
    by_cases hw : wordB (s[i]'hlt) = true
    · refine Ev.step (H := fun k => accountingref06_Code.l0 k s ((i + 1 : Nat) : Int)) (fun k => ?_) (ih (i + 1) (by omega) (by omega) (fun j hj hj2 => by
        rcases Nat.lt_or_ge j i with h | h
        · exact hall j h hj2
        · obtain rfl : j = i := by omega
          exact hw))
      rw [accountingref06_Code.l0, if_pos (by omega), if_pos (by omega), bt_is hlt, ref_letter_is, ref_digit_is, Option.bind_some, Option.bind_some, hup]
      rw [wordB_eq] at hw
      by_cases hl : ltrI ((s[i]'hlt).toNat : Int) = true
      · rw [if_pos hl]
      · rw [if_neg hl]
        rw [Bool.not_eq_true] at hl
        rw [hl, Bool.false_or] at hw
        rw [if_pos hw]
    · refine Ev.step (H := fun _ => some (wcodeB s)) (fun k => ?_) (Ev.pure _)
      rw [Bool.not_eq_true] at hw
      have hb := bad_word hlt hw
      rw [accountingref06_Code.l0, if_pos (by omega), if_pos (by omega), bt_is hlt, ref_letter_is, ref_digit_is, Option.bind_some, Option.bind_some]
      rw [wordB_eq, Bool.or_eq_false_iff] at hw
      rw [if_neg (by simp [hw.1]), if_neg (by simp [hw.2])]
      unfold wcodeB; rw [hb, Bool.and_false]
theorem ev_ref6 (s : ByteArray) (hs : s.size ≤ 100) : Ev (fun k => accountingref06_Code.f k s) (wcodeB s) := ev_ref6_l s hs _ 0 rfl (Nat.zero_le _) (fun j hj => by omega)
theorem ev_ref7_l (s : ByteArray) (hs : s.size = 3) : ∀ d i, d = 3 - i → i ≤ 3 → (∀ j, j < i → ∀ hj : j < s.size, isUp (s[j]'hj) = true) → Ev (fun k => accountingref07_Code.l0 k s (i : Int)) (codeB s) := by
  intro d
  induction d with
  | zero =>
    intro i hd hi hall
    refine Ev.step (H := fun _ => some (codeB s)) (fun k => ?_) (Ev.pure _)
    rw [accountingref07_Code.l0, if_neg (by omega)]
    unfold codeB
    rw [decide_eq_true hs, Bool.and_true]
    congr 1; symm
    rw [List.all_eq_true]
    intro c hc
    obtain ⟨j, hj, rfl⟩ := List.getElem_of_mem hc
    have hj2 : j < s.size := by simpa using hj
    have := hall j (by omega) hj2
    simpa [ByteArray.getElem_eq_getElem_data] using this
  | succ d ih =>
    intro i hd hi hall
    have hlt : i < s.size := by omega
    have hup : wrap64 ((i : Int) + 1) = ((i + 1 : Nat) : Int) := by rw [IntWalk.wrap64_in _ (by omega)]; omega
    by_cases hw : isUp (s[i]'hlt) = true
    · refine Ev.step (H := fun k => accountingref07_Code.l0 k s ((i + 1 : Nat) : Int)) (fun k => ?_) (ih (i + 1) (by omega) (by omega) (fun j hj hj2 => by
        rcases Nat.lt_or_ge j i with h | h
        · exact hall j h hj2
        · obtain rfl : j = i := by omega
          exact hw))
      simp only [isUp, Bool.and_eq_true, decide_eq_true_eq] at hw
      rw [accountingref07_Code.l0, if_pos (by omega), if_pos (by omega), if_pos (by omega), bt_is hlt, if_neg (by omega), if_neg (by omega), hup]
    · refine Ev.step (H := fun _ => some (codeB s)) (fun k => ?_) (Ev.pure _)
      rw [Bool.not_eq_true] at hw
      rw [codeB_bad s i hlt hw]
      simp only [isUp, Bool.and_eq_false_iff, decide_eq_false_iff_not] at hw
      rw [accountingref07_Code.l0, if_pos (by omega), if_pos (by omega), if_pos (by omega), bt_is hlt]
      by_cases h1 : ((s[i]'hlt).toNat : Int) < 65
      · rw [if_pos h1]
      · rw [if_neg h1, if_pos (by omega)]
theorem ev_ref7 (s : ByteArray) : Ev (fun k => accountingref07_Code.f k s) (codeB s) := by
  unfold accountingref07_Code.f
  by_cases h : (s.size : Int) = 3
  · simp only [if_pos h]
    exact ev_ref7_l s (by omega) _ 0 rfl (Nat.zero_le _) (fun j hj => by omega)
  · simp only [if_neg h]
    have : codeB s = false := by unfold codeB; rw [decide_eq_false (by omega), Bool.and_false]
    rw [this]; exact Ev.pure _
theorem ref_day_is (n : Int) : accountingref27_day.f n = some (isDay n) := by
  unfold accountingref27_day.f isDay
  by_cases h : n ≥ 0 <;> simp [h]
/-- an element's error -/
def oneV (x : Left) : Int := if wcodeB x.f0 = true then (if codeB x.f1 = true then (if isDay x.f2 = true then (if x.f3 > 1000000000000 then 4 else if x.f3 < -1000000000000 then 4 else 0) else 11) else 13) else 7
theorem one_eq {x : Left} (h1 : x.f0.size ≤ 100) (h2 : x.f1.size ≤ 100) : aging_one.f x.f0 x.f1 x.f2 x.f3 = some (oneV x) := by
  have e1 : words_Code.f x.f0 = some (wcodeB x.f0) := by unfold words_Code.f; rw [if_pos (by omega)]
  have e2 : money_Code.f x.f1 = some (codeB x.f1) := by unfold money_Code.f; rw [if_pos (by omega)]
  have e3 : aging_isDay.f x.f2 = some (isDay x.f2) := rfl
  unfold aging_one.f oneV
  rw [e1, Option.bind_some, e2, Option.bind_some, e3, Option.bind_some]
  by_cases c1 : wcodeB x.f0 = true
  · rw [if_pos c1, if_pos c1]
    by_cases c2 : codeB x.f1 = true
    · rw [if_pos c2, if_pos c2]
      by_cases c3 : isDay x.f2 = true
      · rw [if_pos c3, if_pos c3]
        split
        · rfl
        · split <;> rfl
      · rw [if_neg c3, if_neg c3]
    · rw [if_neg c2, if_neg c2]
  · rw [if_neg c1, if_neg c1]
theorem ev_wrong {x : Left} (h1 : x.f0.size ≤ 100) : Ev (fun k => accountingref27_wrong.f k x.f0 x.f1 x.f2 x.f3) (oneV x) := by
  unfold accountingref27_wrong.f oneV
  refine Ev.bind (ev_ref6 x.f0 h1) ?_
  by_cases c1 : wcodeB x.f0 = true
  · simp only [if_pos c1]
    refine Ev.bind (ev_ref7 x.f1) ?_
    by_cases c2 : codeB x.f1 = true
    · simp only [if_pos c2]
      simp only [ref_day_is, Option.bind_some]
      by_cases c3 : isDay x.f2 = true
      · simp only [if_pos c3]
        split
        · exact Ev.pure _
        · split <;> exact Ev.pure _
      · simp only [if_neg c3]; exact Ev.pure _
    · simp only [if_neg c2]; exact Ev.pure _
  · simp only [if_neg c1]; exact Ev.pure _
theorem both1 (l : List Left) (hl : l.length ≤ 60) : ∀ d j, d = l.length - j → j ≤ l.length → Small l j → ∃ e, Ev (fun k => aging_check.l1 k l l (l.length : Int) (j : Int)) e ∧ Ev (fun k => accountingref27_check.l1 k l (j : Int)) e := by
  intro d
  induction d with
  | zero =>
    intro j hd hj hs
    refine ⟨0, Ev.step (H := fun _ => some 0) (fun k => ?_) (Ev.pure _), Ev.step (H := fun _ => some 0) (fun k => ?_) (Ev.pure _)⟩
    · rw [aging_check.l1, if_neg (by omega), if_neg (by omega)]
    · rw [accountingref27_check.l1, if_neg (by omega), if_neg (by omega)]
  | succ d ih =>
    intro j hd hj hs
    have hlt : j < l.length := by omega
    obtain ⟨s1, s2⟩ := hs j (Nat.le_refl _) hlt
    by_cases h0 : oneV l[j] = 0
    · obtain ⟨e, he, he'⟩ := ih (j + 1) (by omega) (by omega) (fun i hi => hs i (by omega))
      refine ⟨e, Ev.step (H := fun k => aging_check.l1 k l l (l.length : Int) ((j + 1 : Nat) : Int)) (fun k => ?_) he, ?_⟩
      · rw [aging_check.l1, if_pos (by omega), if_pos (by omega), if_pos (by omega), rdL_at hlt, one_eq s1 s2, Option.bind_some, if_pos h0, up_one hlt (by simp only [Big]; omega)]
      · refine Ev.step (H := fun k => (accountingref27_wrong.f k l[j].f0 l[j].f1 l[j].f2 l[j].f3).bind fun t129 => (if t129 = 0 then (accountingref27_check.l1 k l ((j + 1 : Nat) : Int)) else (some t129))) (fun k => ?_) (Ev.bind (ev_wrong s1) ?_)
        · rw [accountingref27_check.l1, if_pos (by omega), if_pos (by omega), rdL_at hlt, up_one hlt (by simp only [Big]; omega)]
        · simp only [if_pos h0]; exact he'
    · refine ⟨oneV l[j], Ev.step (H := fun _ => some (oneV l[j])) (fun k => ?_) (Ev.pure _), ?_⟩
      · rw [aging_check.l1, if_pos (by omega), if_pos (by omega), if_pos (by omega), rdL_at hlt, one_eq s1 s2, Option.bind_some, if_neg h0]
      · refine Ev.step (H := fun k => (accountingref27_wrong.f k l[j].f0 l[j].f1 l[j].f2 l[j].f3).bind fun t129 => (if t129 = 0 then (accountingref27_check.l1 k l ((j + 1 : Nat) : Int)) else (some t129))) (fun k => ?_) (Ev.bind (ev_wrong s1) ?_)
        · rw [accountingref27_check.l1, if_pos (by omega), if_pos (by omega), rdL_at hlt, up_one hlt (by simp only [Big]; omega)]
        · simp only [if_neg h0]; exact Ev.pure _
theorem both0 (l : List Left) (lims : List Int) (hl : l.length ≤ 60) (hm : lims.length ≤ 10) (hs : Small l 0) : ∀ d j, d = lims.length - j → 1 ≤ j → ∃ e, Ev (fun k => aging_check.l0 k l lims (lims.length : Int) (j : Int)) e ∧ Ev (fun k => accountingref27_check.l0 k l lims (j : Int)) e := by
  intro d
  induction d with
  | zero =>
    intro j hd hj
    obtain ⟨e, he, he'⟩ := both1 l hl _ 0 rfl (Nat.zero_le _) hs
    refine ⟨e, Ev.step (H := fun k => aging_check.l1 k l l (l.length : Int) 0) (fun k => ?_) he, Ev.step (H := fun k => accountingref27_check.l1 k l 0) (fun k => ?_) he'⟩
    · rw [aging_check.l0, if_neg (by omega)]
    · rw [accountingref27_check.l0, if_neg (by omega)]
  | succ d ih =>
    intro j hd hj
    have hlt : j < lims.length := by omega
    have hw : wrap64 ((j : Int) - 1) = (j : Int) - 1 := IntWalk.wrap64_in _ (by omega)
    by_cases hge : rd lims ((j : Int) - 1) ≥ rd lims (j : Int)
    · refine ⟨17, Ev.step (H := fun _ => some 17) (fun k => ?_) (Ev.pure _), Ev.step (H := fun _ => some 17) (fun k => ?_) (Ev.pure _)⟩
      · rw [aging_check.l0, if_pos (by omega), if_pos (by omega), hw, if_pos (by omega), if_pos (by omega), if_pos (by omega), if_pos (by omega), if_pos hge]
      · rw [accountingref27_check.l0, if_pos (by omega), if_pos (by omega), hw, if_pos (by omega), if_pos (by omega), if_pos (by omega)]
    · obtain ⟨e, he, he'⟩ := ih (j + 1) (by omega) (by omega)
      refine ⟨e, Ev.step (H := fun k => aging_check.l0 k l lims (lims.length : Int) ((j + 1 : Nat) : Int)) (fun k => ?_) he, Ev.step (H := fun k => accountingref27_check.l0 k l lims ((j + 1 : Nat) : Int)) (fun k => ?_) he'⟩
      · rw [aging_check.l0, if_pos (by omega), if_pos (by omega), hw, if_pos (by omega), if_pos (by omega), if_pos (by omega), if_pos (by omega), if_neg hge, up_one hlt (by simp only [Big]; omega)]
      · rw [accountingref27_check.l0, if_pos (by omega), if_pos (by omega), hw, if_pos (by omega), if_pos (by omega), if_neg (by omega), up_one hlt (by simp only [Big]; omega)]
theorem both_check (l : List Left) (day : Int) (lims : List Int) (hl : l.length ≤ 60) (hs : Small l 0) : ∃ e, Ev (fun k => aging_check.f k l day lims) e ∧ Ev (fun k => accountingref27_check.f k l day lims) e := by
  have e3 : aging_isDay.f day = some (isDay day) := rfl
  unfold aging_check.f accountingref27_check.f
  simp only [e3, ref_day_is, Option.bind_some]
  by_cases hd : isDay day = true
  · simp only [if_pos hd]
    by_cases hm : (lims.length : Int) > 10
    · simp only [if_pos hm]; exact ⟨9, Ev.pure _, Ev.pure _⟩
    · simp only [if_neg hm]
      obtain ⟨e, he, he'⟩ := both0 l lims hl (by omega) hs _ 1 rfl (Nat.le_refl _)
      refine ⟨e, ?_, he'⟩
      by_cases h0 : 0 < lims.length
      · refine Ev.step (H := fun k => aging_check.l0 k l lims (lims.length : Int) ((1 : Nat) : Int)) (fun k => ?_) he
        rw [aging_check.l0, if_pos (by omega), if_neg (by omega), show wrap64 ((0 : Int) + 1) = ((1 : Nat) : Int) by rw [IntWalk.wrap64_in _ (by omega)]; omega]
      · obtain ⟨K, hK⟩ := he
        refine ⟨K + 1, fun k hk => ?_⟩
        obtain ⟨k, rfl⟩ : ∃ m, k = m + 1 := ⟨k - 1, by omega⟩
        have := hK (k + 1) (by omega)
        simp only [aging_check.l0] at this ⊢
        rw [if_neg (by omega)] at this ⊢
        exact this
  · simp only [if_neg hd]; exact ⟨11, Ev.pure _, Ev.pure _⟩
theorem ev_aOf {l : List Left} {day : Int} {lims : List Int} {e : Int} (h : Ev (fun k => aging_check.f k l day lims) e) : Ev (fun k => aging_Of.f k l day lims) (if e = 0 then rowsOf l day lims else [], e) := by
  unfold aging_Of.f
  refine Ev.bind (G := fun _ e => if e = 0 then some (rowsOf l day lims, 0) else some ([], e)) h ?_
  by_cases he : e = 0
  · subst he; exact Ev.pure _
  · simp only [if_neg he]; exact Ev.pure _
theorem ev_rOf {l : List Left} {day : Int} {lims : List Int} {e : Int} (h : Ev (fun k => accountingref27_check.f k l day lims) e) : Ev (fun k => accountingref27_Of.f k l day lims) (if e = 0 then rowsOf l day lims else [], e) := by
  unfold accountingref27_Of.f
  refine Ev.bind (G := fun _ e => if e = 0 then some (rowsOf l day lims, 0) else some ([], e)) h ?_
  by_cases he : e = 0
  · subst he; exact Ev.pure _
  · simp only [if_neg he]; exact Ev.pure _
theorem ev_done : Ev (fun k => (accountinglaw27_lives.f k).bind fun t => some t) true := Ev.bind (G := fun _ t => some t) ev_lives (Ev.pure _)
theorem pure_AgingOf (l : List Left) (day : Int) (lims : List Int) (hl : l.length ≤ 9223372036854775807) (hm : lims.length ≤ 9223372036854775807) : ∃ k, accountinglaw27_AgingOf.f k l day lims = some true := by
  refine Ev.get ?_
  obtain ⟨b, hb, hbs⟩ := ev_light l lims hl
  unfold accountinglaw27_AgingOf.f
  refine Ev.bind hb ?_
  cases b with
  | false => simpa using ev_done
  | true =>
    obtain ⟨h1, h2, h3⟩ := hbs rfl
    simp only [if_true]
    obtain ⟨e, he, he'⟩ := both_check l day lims h1 h3
    refine Ev.bind (ev_aOf he) ?_
    refine Ev.bind (ev_rOf he') ?_
    have hsame : Ev (fun k => accountingref27_Same.f k (if e = 0 then rowsOf l day lims else []) (if e = 0 then rowsOf l day lims else [])) true := by
      refine ev_same _ ?_ ?_
      · split
        · have := rowsOf_length l day lims; simp only [Big]; omega
        · simp
      · split
        · intro x hx; have := (rowsOf_at hx).1; simp only [Big]; omega
        · simp
    refine Ev.bind hsame ?_
    simp only [if_true]
    exact ev_done

end Go.Proofs.YtohfnpkoheafkaaDoor.PAg
