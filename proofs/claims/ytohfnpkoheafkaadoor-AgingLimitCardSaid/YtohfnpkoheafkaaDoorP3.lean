/- The law AgingSums of the printed functions. -/
import Derived.Test.YtohfnpkoheafkaaDoorPAgx4
import Derived.Test.YtohfnpkoheafkaaDoorP2
namespace Go.Proofs.YtohfnpkoheafkaaDoor.PAg
open Go.RowKit Go.Proofs.YtohfnpkoheafkaaDoorW.PrintWords Go.Proofs.YtohfnpkoheafkaaDoorW.PrintLast Go.Proofs.YtohfnpkoheafkaaDoorW.PrintMore

/-! ### the check: it always answers -/
theorem one_some {x : Left} (h1 : x.f0.size ≤ 100) (h2 : x.f1.size ≤ 100) : ∃ v, aging_one.f x.f0 x.f1 x.f2 x.f3 = some v := by
  have e1 : words_Code.f x.f0 = some (wcodeB x.f0) := by unfold words_Code.f; rw [if_pos (by omega)]
  have e2 : money_Code.f x.f1 = some (codeB x.f1) := by unfold money_Code.f; rw [if_pos (by omega)]
  have e3 : aging_isDay.f x.f2 = some (isDay x.f2) := rfl
  unfold aging_one.f
  rw [e1, Option.bind_some]
  split
  · rw [e2, Option.bind_some]
    split
    · rw [e3, Option.bind_some]
      split
      · split
        · exact ⟨_, rfl⟩
        · split <;> exact ⟨_, rfl⟩
      · exact ⟨_, rfl⟩
    · exact ⟨_, rfl⟩
  · exact ⟨_, rfl⟩
/-- an element's error -/
def oneE (x : Left) : Int := (aging_one.f x.f0 x.f1 x.f2 x.f3).getD 0
theorem one_is {x : Left} (h1 : x.f0.size ≤ 100) (h2 : x.f1.size ≤ 100) : aging_one.f x.f0 x.f1 x.f2 x.f3 = some (oneE x) := by
  obtain ⟨v, hv⟩ := one_some h1 h2
  rw [oneE, hv]; rfl
theorem ev_check1 (l : List Left) (hl : l.length ≤ 60) : ∀ d j, d = l.length - j → j ≤ l.length → Small l j → ∃ e, Ev (fun k => aging_check.l1 k l l (l.length : Int) (j : Int)) e ∧ (e = 0 ↔ ∀ i, j ≤ i → ∀ hi : i < l.length, oneE l[i] = 0) := by
  intro d
  induction d with
  | zero =>
    intro j hd hj hs
    refine ⟨0, Ev.step (H := fun _ => some 0) (fun k => ?_) (Ev.pure _), fun _ i h1 h2 => by omega, fun _ => rfl⟩
    rw [aging_check.l1, if_neg (by omega), if_neg (by omega)]
  | succ d ih =>
    intro j hd hj hs
    have hlt : j < l.length := by omega
    obtain ⟨s1, s2⟩ := hs j (Nat.le_refl _) hlt
    by_cases h0 : oneE l[j] = 0
    · obtain ⟨e, he, hiff⟩ := ih (j + 1) (by omega) (by omega) (fun i hi => hs i (by omega))
      refine ⟨e, Ev.step (H := fun k => aging_check.l1 k l l (l.length : Int) ((j + 1 : Nat) : Int)) (fun k => ?_) he, fun h i hji hi => ?_, fun h => hiff.2 (fun i hji hi => h i (by omega) hi)⟩
      · rw [aging_check.l1, if_pos (by omega), if_pos (by omega), if_pos (by omega), rdL_at hlt, one_is s1 s2, Option.bind_some, if_pos h0, up_one hlt (by simp only [Big]; omega)]
      · rcases Nat.eq_or_lt_of_le hji with rfl | hlt'
        · exact h0
        · exact hiff.1 h i hlt' hi
    · refine ⟨oneE l[j], Ev.step (H := fun _ => some (oneE l[j])) (fun k => ?_) (Ev.pure _), fun h => (h0 h).elim, fun h => (h0 (h j (Nat.le_refl _) hlt)).elim⟩
      rw [aging_check.l1, if_pos (by omega), if_pos (by omega), if_pos (by omega), rdL_at hlt, one_is s1 s2, Option.bind_some, if_neg h0]
/-- limits that rise from place j on -/
def risesFrom (lims : List Int) (j : Nat) : Bool := (List.range lims.length).all fun i => decide (i < j) || decide (i = 0) || decide (rd lims (i - 1 : Int) < rd lims (i : Int))
theorem ev_check0 (l : List Left) (lims : List Int) (hl : l.length ≤ 60) (hm : lims.length ≤ 10) (hs : Small l 0) : ∀ d j, d = lims.length - j → j ≤ lims.length → ∃ e, Ev (fun k => aging_check.l0 k l lims (lims.length : Int) (j : Int)) e ∧ (e = 0 ↔ (∀ i, j ≤ i → i < lims.length → 0 < i → rd lims ((i : Int) - 1) < rd lims (i : Int)) ∧ ∀ i, ∀ hi : i < l.length, oneE l[i] = 0) := by
  intro d
  induction d with
  | zero =>
    intro j hd hj
    obtain ⟨e, he, hiff⟩ := ev_check1 l hl _ 0 rfl (Nat.zero_le _) hs
    refine ⟨e, Ev.step (H := fun k => aging_check.l1 k l l (l.length : Int) 0) (fun k => ?_) he, fun h => ⟨fun i h1 h2 => by omega, fun i hi => hiff.1 h i (Nat.zero_le _) hi⟩, fun h => hiff.2 (fun i _ hi => h.2 i hi)⟩
    rw [aging_check.l0, if_neg (by omega)]
  | succ d ih =>
    intro j hd hj
    have hlt : j < lims.length := by omega
    by_cases hj0 : (j : Int) > 0
    · have hw : wrap64 ((j : Int) - 1) = (j : Int) - 1 := IntWalk.wrap64_in _ (by omega)
      by_cases hge : rd lims ((j : Int) - 1) ≥ rd lims (j : Int)
      · refine ⟨17, Ev.step (H := fun _ => some 17) (fun k => ?_) (Ev.pure _), fun h => absurd h (by decide), fun h => ?_⟩
        · rw [aging_check.l0, if_pos (by omega), if_pos hj0, hw, if_pos (by omega), if_pos (by omega), if_pos (by omega), if_pos (by omega), if_pos hge]
        · have := h.1 j (Nat.le_refl _) hlt (by omega); omega
      · obtain ⟨e, he, hiff⟩ := ih (j + 1) (by omega) (by omega)
        refine ⟨e, Ev.step (H := fun k => aging_check.l0 k l lims (lims.length : Int) ((j + 1 : Nat) : Int)) (fun k => ?_) he, fun h => ⟨fun i h1 h2 h3 => ?_, (hiff.1 h).2⟩, fun h => hiff.2 ⟨fun i h1 h2 h3 => h.1 i (by omega) h2 h3, h.2⟩⟩
        · rw [aging_check.l0, if_pos (by omega), if_pos hj0, hw, if_pos (by omega), if_pos (by omega), if_pos (by omega), if_pos (by omega), if_neg hge, up_one hlt (by simp only [Big]; omega)]
        · rcases Nat.eq_or_lt_of_le h1 with rfl | hlt'
          · omega
          · exact (hiff.1 h).1 i hlt' h2 h3
    · obtain ⟨e, he, hiff⟩ := ih (j + 1) (by omega) (by omega)
      refine ⟨e, Ev.step (H := fun k => aging_check.l0 k l lims (lims.length : Int) ((j + 1 : Nat) : Int)) (fun k => ?_) he, fun h => ⟨fun i h1 h2 h3 => ?_, (hiff.1 h).2⟩, fun h => hiff.2 ⟨fun i h1 h2 h3 => h.1 i (by omega) h2 h3, h.2⟩⟩
      · rw [aging_check.l0, if_pos (by omega), if_neg hj0, up_one hlt (by simp only [Big]; omega)]
      · rcases Nat.eq_or_lt_of_le h1 with rfl | hlt'
        · omega
        · exact (hiff.1 h).1 i hlt' h2 h3
/-- What the check lets by. -/
def Fit (l : List Left) (day : Int) (lims : List Int) : Prop := isDay day = true ∧ lims.length ≤ 10 ∧ (∀ i, i < lims.length → 0 < i → rd lims ((i : Int) - 1) < rd lims (i : Int)) ∧ ∀ x ∈ l, oneE x = 0
theorem ev_check (l : List Left) (day : Int) (lims : List Int) (hl : l.length ≤ 60) (hs : Small l 0) : ∃ e, Ev (fun k => aging_check.f k l day lims) e ∧ (e = 0 ↔ Fit l day lims) := by
  have e3 : aging_isDay.f day = some (isDay day) := rfl
  unfold aging_check.f
  by_cases hd : isDay day = true
  · by_cases hm : (lims.length : Int) > 10
    · refine ⟨9, Ev.bind (G := fun k t => if t = true then (if (lims.length : Int) > 10 then some 9 else aging_check.l0 k l lims (lims.length : Int) 0) else some 11) (a := isDay day) (F := fun _ => aging_isDay.f day) (by rw [e3]; exact Ev.pure _) ?_, fun h => absurd h (by decide), fun h => by have := h.2.1; omega⟩
      simp only [hd, if_true, if_pos hm]
      exact Ev.pure _
    · obtain ⟨e, he, hiff⟩ := ev_check0 l lims hl (by omega) hs _ 0 rfl (Nat.zero_le _)
      refine ⟨e, Ev.bind (G := fun k t => if t = true then (if (lims.length : Int) > 10 then some 9 else aging_check.l0 k l lims (lims.length : Int) 0) else some 11) (a := isDay day) (F := fun _ => aging_isDay.f day) (by rw [e3]; exact Ev.pure _) ?_, fun h => ⟨hd, by omega, fun i h1 h2 => (hiff.1 h).1 i (Nat.zero_le _) h1 h2, fun x hx => ?_⟩, fun h => hiff.2 ⟨fun i _ h1 h2 => h.2.2.1 i h1 h2, fun i hi => h.2.2.2 _ (List.getElem_mem hi)⟩⟩
      · simp only [hd, if_true, if_neg hm]
        exact he
      · obtain ⟨i, hi, rfl⟩ := List.getElem_of_mem hx
        exact (hiff.1 h).2 i hi
  · refine ⟨11, Ev.bind (G := fun k t => if t = true then (if (lims.length : Int) > 10 then some 9 else aging_check.l0 k l lims (lims.length : Int) 0) else some 11) (a := isDay day) (F := fun _ => aging_isDay.f day) (by rw [e3]; exact Ev.pure _) ?_, fun h => absurd h (by decide), fun h => (hd h.1).elim⟩
    simp only [hd]
    exact Ev.pure _
theorem ev_Of {l : List Left} {day : Int} {lims : List Int} {e : Int} (h : Ev (fun k => aging_check.f k l day lims) e) : Ev (fun k => aging_Of.f k l day lims) (if e = 0 then rowsOf l day lims else [], e) := by
  unfold aging_Of.f
  refine Ev.bind (G := fun _ e => if e = 0 then some (rowsOf l day lims, 0) else some ([], e)) h ?_
  by_cases he : e = 0
  · subst he; exact Ev.pure _
  · simp only [if_neg he]; exact Ev.pure _

end Go.Proofs.YtohfnpkoheafkaaDoor.PAg
