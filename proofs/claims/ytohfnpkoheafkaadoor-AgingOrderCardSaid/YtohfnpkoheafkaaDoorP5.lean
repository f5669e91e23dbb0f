/- The law AgingOrder of the printed functions. -/
import Derived.Test.YtohfnpkoheafkaaDoorPAgx5
import Derived.Test.YtohfnpkoheafkaaDoorP4
namespace Go.Proofs.YtohfnpkoheafkaaDoor.PAg
open Go.RowKit Go.Proofs.YtohfnpkoheafkaaDoorW.PrintWords Go.Proofs.YtohfnpkoheafkaaDoorW.PrintLast Go.Proofs.YtohfnpkoheafkaaDoorW.PrintMore

theorem wrap_add (z a b : Int) : wrap64 (wrap64 (z + a) + b) = wrap64 (z + a + b) := by unfold wrap64; omega
theorem addAt_comm (s : List Int) (b b' : Nat) (a a' : Int) : addAt (addAt s b a) b' a' = addAt (addAt s b' a') b a := by
  unfold addAt
  apply List.ext_getElem
  · simp
  · intro i h1 h2
    simp only [List.getElem_modify]
    by_cases e1 : b = i <;> by_cases e2 : b' = i <;> simp [e1, e2]
    rw [wrap_add, wrap_add]; congr 1; omega
theorem stepS_comm (n b b' : Nat) (a a' : Int) (k k' : Own) (S : Own → Option (List Int)) : stepS n b' a' k' (stepS n b a k S) = stepS n b a k (stepS n b' a' k' S) := by
  by_cases e : k = k'
  · subst e
    unfold stepS
    rw [putS_self, putS_self, putS_putS, putS_putS, Option.getD_some, Option.getD_some, addAt_comm]
  · unfold stepS
    rw [putS_ne _ _ (fun h => e h.symm), putS_ne _ _ e]
    funext y
    unfold putS
    by_cases h1 : y = k <;> by_cases h2 : y = k'
    · exact (e (h1.symm.trans h2)).elim
    · simp [h1, h2, e]
    · subst h2; simp [h1]
    · simp [h1, h2]
theorem foldl_last {α β : Type} {f : β → α → β} (hc : ∀ S x y, f (f S x) y = f (f S y) x) : ∀ (l : List α) (S : β) (x : α), l.foldl f (f S x) = f (l.foldl f S) x
  | [], _, _ => rfl
  | y :: l, S, x => by
    rw [List.foldl_cons, List.foldl_cons, hc, foldl_last hc l]
theorem foldl_rev {α β : Type} {f : β → α → β} (hc : ∀ S x y, f (f S x) y = f (f S y) x) : ∀ (l : List α) (S : β), l.reverse.foldl f S = l.foldl f S
  | [], _ => rfl
  | y :: l, S => by
    rw [List.reverse_cons, List.foldl_append, List.foldl_cons, List.foldl_nil, List.foldl_cons, foldl_rev hc l, foldl_last hc]
theorem rowsOf_reverse (l : List Left) (day : Int) (lims : List Int) : rowsOf l.reverse day lims = rowsOf l day lims := by
  have h1 := rowsOf_rep l.reverse day lims
  have h2 : sumsOf l.reverse day lims = sumsOf l day lims := foldl_rev (fun S x y => stepS_comm _ _ _ _ _ _ _ _) l _
  rw [h2] at h1
  exact h1.unique (rowsOf_rep l day lims)
theorem fit_reverse (l : List Left) (day : Int) (lims : List Int) : Fit l.reverse day lims ↔ Fit l day lims := by
  unfold Fit
  simp only [List.mem_reverse]
theorem small_mem {l : List Left} : Small l 0 ↔ ∀ x ∈ l, x.f0.size ≤ 100 ∧ x.f1.size ≤ 100 := by
  constructor
  · intro h x hx
    obtain ⟨i, hi, rfl⟩ := List.getElem_of_mem hx
    exact h i (Nat.zero_le _) hi
  · intro h i _ hi
    exact h _ (List.getElem_mem hi)
theorem rev_take' (xs : List Left) (k : Nat) (hk : k < xs.length) : xs.reverse.take (k + 1) = xs.reverse.take k ++ [xs[xs.length - 1 - k]] := by
  rw [List.take_succ_eq_append_getElem (by simpa using hk), List.getElem_reverse]

theorem ev_order_end (l : List Left) (day : Int) (lims : List Int) (hl : l.length ≤ 60) (hs : Small l 0) : Ev (fun k => (aging_Of.f k l day lims).bind fun bt226 => ((aging_Of.f k l.reverse day lims).bind fun bt230 => ((accountingref27_Same.f k bt226.1 bt230.1).bind fun t234 => (if t234 = true then (if ((bt226.2 == 0) == (bt230.2 == 0)) = true then ((accountinglaw27_lives.f k).bind fun t235 => (some t235)) else (some false)) else (some false))))) true := by
  obtain ⟨e, he, hi⟩ := ev_check l day lims hl hs
  obtain ⟨e2, he2, hi2⟩ := ev_check l.reverse day lims (by simpa using hl) (small_mem.2 (fun x hx => small_mem.1 hs x (List.mem_reverse.1 hx)))
  have hee : e = 0 ↔ e2 = 0 := hi.trans ((fit_reverse l day lims).symm.trans hi2.symm)
  have hb : ((e == 0) == (e2 == 0)) = true := by
    by_cases h : e = 0
    · simp [h, hee.1 h]
    · have := fun h2 => h (hee.2 h2)
      rw [beq_eq_false_iff_ne.2 h, beq_eq_false_iff_ne.2 this]; rfl
  have hrow : (if e = 0 then rowsOf l day lims else []) = (if e2 = 0 then rowsOf l.reverse day lims else []) := by
    by_cases h : e = 0
    · rw [if_pos h, if_pos (hee.1 h), rowsOf_reverse]
    · rw [if_neg h, if_neg (fun h2 => h (hee.2 h2))]
  refine Ev.bind (ev_Of he) (Ev.bind (ev_Of he2) ?_)
  simp only []
  rw [← hrow]
  have hrl := rowsOf_length l day lims
  refine Ev.bind (ev_same _ ?_ ?_) ?_
  · split
    · simp only [Big]; omega
    · exact Nat.zero_le _
  · intro x hx
    split at hx
    · rename_i h0
      have := (rowsOf_at hx).1
      have h4 := (hi.1 h0).2.1
      simp only [Big]; omega
    · cases hx
  · simp only [if_true, hb]
    exact ev_end
theorem ev_order_l (l : List Left) (day : Int) (lims : List Int) (hl : l.length ≤ 60) (hs : Small l 0) : ∀ d j, d = l.length - j → j ≤ l.length → Ev (fun k => accountinglaw27_AgingOrder.l0 k l day lims (l.reverse.take j) ((l.length : Int) - 1 - j)) true := by
  intro d
  induction d with
  | zero =>
    intro j hd hj
    have hjl : j = l.length := by omega
    refine Ev.step (H := _) (fun k => ?_) (ev_order_end l day lims hl hs)
    rw [accountinglaw27_AgingOrder.l0, if_neg (by omega), hjl, List.take_of_length_le (by simp)]
  | succ d ih =>
    intro j hd hj
    have hlt : j < l.length := by omega
    have hw : wrap64 ((l.length : Int) - 1 - j - 1) = (l.length : Int) - 1 - ((j + 1 : Nat) : Int) := by rw [IntWalk.wrap64_in _ (by omega)]; omega
    have hidx : (l.length : Int) - 1 - j = ((l.length - 1 - j : Nat) : Int) := by omega
    refine Ev.step (H := fun k => accountinglaw27_AgingOrder.l0 k l day lims (l.reverse.take (j + 1)) ((l.length : Int) - 1 - ((j + 1 : Nat) : Int))) (fun k => ?_) (ih (j + 1) (by omega) (by omega))
    rw [accountinglaw27_AgingOrder.l0, if_pos (by omega), if_pos (by omega), if_pos (by omega), if_pos (by simp; omega), hw, hidx, rdL_at (by omega), rev_take' l j hlt]
theorem pure_AgingOrder (l : List Left) (day : Int) (lims : List Int) (hl : l.length ≤ 9223372036854775807) (hm : lims.length ≤ 9223372036854775807) : ∃ k, accountinglaw27_AgingOrder.f k l day lims = some true := by
  refine Ev.get ?_
  obtain ⟨b, hb, hbs⟩ := ev_light l lims hl
  unfold accountinglaw27_AgingOrder.f
  refine Ev.bind hb ?_
  cases b with
  | false => simpa using ev_end
  | true =>
    obtain ⟨h1, h2, h3⟩ := hbs rfl
    simp only [if_true]
    have hw : wrap64 ((l.length : Int) - 1) = (l.length : Int) - 1 - ((0 : Nat) : Int) := by rw [IntWalk.wrap64_in _ (by omega)]; omega
    rw [hw]
    exact ev_order_l l day lims h1 h3 _ 0 rfl (Nat.zero_le _)

end Go.Proofs.YtohfnpkoheafkaaDoor.PAg
