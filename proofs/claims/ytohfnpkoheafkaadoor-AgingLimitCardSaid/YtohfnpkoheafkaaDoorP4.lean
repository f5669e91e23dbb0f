/- The law AgingSums of the printed functions. -/
import Derived.Test.YtohfnpkoheafkaaDoorP3
namespace Go.Proofs.YtohfnpkoheafkaaDoor.PAg
open Go.RowKit Go.Proofs.YtohfnpkoheafkaaDoorW.PrintWords Go.Proofs.YtohfnpkoheafkaaDoorW.PrintLast Go.Proofs.YtohfnpkoheafkaaDoorW.PrintMore

/-- equal but for whole turns of 2^64 -/
def Cg (a b : Int) : Prop := ∃ q : Int, a = b + q * 18446744073709551616
theorem Cg.refl (a : Int) : Cg a a := ⟨0, by omega⟩
theorem cg_wrap (z : Int) : Cg (wrap64 z) z := ⟨-((z + 9223372036854775808) / 18446744073709551616), by unfold wrap64; omega⟩
def InR (a : Int) : Prop := -9223372036854775808 ≤ a ∧ a ≤ 9223372036854775807
theorem inR_wrap (z : Int) : InR (wrap64 z) := by unfold InR wrap64; omega
theorem cg_zero {a : Int} (h : Cg a 0) (hr : InR a) : a = 0 := by
  obtain ⟨q, hq⟩ := h
  unfold InR at hr
  omega

/-- the amounts of an owner -/
def amt : List Left → Own → Int
  | [], _ => 0
  | x :: l, k => (if x.own = k then x.f3 else 0) + amt l k
theorem amt_snoc (l : List Left) (x : Left) (k : Own) : amt (l ++ [x]) k = amt l k + (if x.own = k then x.f3 else 0) := by
  induction l with
  | nil => simp [amt]
  | cons y l ih => simp only [List.cons_append, amt, ih]; omega
theorem sum_addAt (m : Int) : ∀ (s : List Int) (b : Nat), b < s.length → Cg (addAt s b m).sum (s.sum + m)
  | x :: s, 0, _ => by
    obtain ⟨q, hq⟩ := cg_wrap (x + m)
    exact ⟨q, by simp [addAt]; omega⟩
  | x :: s, b + 1, h => by
    obtain ⟨q, hq⟩ := sum_addAt m s b (by simpa using h)
    refine ⟨q, ?_⟩
    simp only [addAt, List.modify_succ_cons, List.sum_cons] at hq ⊢
    omega
theorem sum_zeros (n : Nat) : (List.replicate n (0 : Int)).sum = 0 := by
  induction n with
  | zero => rfl
  | succ n ih => rw [List.replicate_succ, List.sum_cons, ih]; omega

/-- What the sums are. -/
def SumInv (n : Nat) (S : Own → Option (List Int)) (l : List Left) : Prop := ∀ k, (S k = none → amt l k = 0) ∧ ∀ s, S k = some s → s.length = n ∧ Cg s.sum (amt l k)
theorem SumInv.step {n b : Nat} {S : Own → Option (List Int)} {l : List Left} (h : SumInv n S l) (x : Left) (hb : b < n) : SumInv n (stepS n b x.f3 x.own S) (l ++ [x]) := by
  intro k
  obtain ⟨h1, h2⟩ := h k
  rw [amt_snoc]
  by_cases e : k = x.own
  · subst e
    rw [if_pos rfl]
    unfold stepS
    rw [putS_self]
    refine ⟨fun hn => (by cases hn), fun s hs => ?_⟩
    cases hs
    rw [addAt_length]
    cases hS : S x.own with
    | none =>
      rw [Option.getD_none, List.length_replicate, h1 hS]
      obtain ⟨q, hq⟩ := sum_addAt x.f3 (List.replicate n 0) b (by simpa using hb)
      exact ⟨rfl, q, by rw [sum_zeros] at hq; omega⟩
    | some s =>
      obtain ⟨h3, q2, h4⟩ := h2 s hS
      rw [Option.getD_some]
      obtain ⟨q, hq⟩ := sum_addAt x.f3 s b (by omega)
      exact ⟨h3, q + q2, by omega⟩
  · rw [if_neg (fun h => e h.symm)]
    unfold stepS
    rw [putS_ne _ _ e]
    exact ⟨fun hn => (by rw [h1 hn]; rfl), fun s hs => by obtain ⟨a, q, c⟩ := h2 s hs; exact ⟨a, q, by omega⟩⟩
theorem sumInv_foldl (day : Int) (lims : List Int) : ∀ (l done : List Left) (S : Own → Option (List Int)), SumInv (lims.length + 1) S done →
    SumInv (lims.length + 1) (l.foldl (fun S x => stepS (lims.length + 1) (bucketN (wrap64 (day - x.f2)) lims) x.f3 x.own S) S) (done ++ l)
  | [], done, S, h => by simpa using h
  | x :: l, done, S, h => by
    have hb := bucketN_le (wrap64 (day - x.f2)) lims
    have := sumInv_foldl day lims l (done ++ [x]) _ (h.step x (b := bucketN (wrap64 (day - x.f2)) lims) (by omega))
    simpa using this
theorem sumsOf_inv (l : List Left) (day : Int) (lims : List Int) : SumInv (lims.length + 1) (sumsOf l day lims) l := by
  have := sumInv_foldl day lims l [] (fun _ => none) (fun k => ⟨fun _ => rfl, fun s hs => by cases hs⟩)
  simpa [sumsOf] using this
theorem rowsOf_at {l : List Left} {day : Int} {lims : List Int} {r : Aged} (h : r ∈ rowsOf l day lims) : r.f2.length = lims.length + 1 ∧ Cg r.f2.sum (amt l r.own) :=
  (sumsOf_inv l day lims r.own).2 _ (((rowsOf_rep l day lims).2 r).1 h)
theorem putRow_length (k : Own) (n b : Nat) (m : Int) : ∀ rows : List Aged, (putRow k n b m rows).length ≤ rows.length + 1
  | [] => by simp [putRow]
  | r :: rs => by
    have := putRow_length k n b m rs
    unfold putRow
    split
    · simp only [List.length_cons]; omega
    · split <;> simp
theorem rowsOf_length (l : List Left) (day : Int) (lims : List Int) : (rowsOf l day lims).length ≤ l.length := by
  have gen : ∀ (l : List Left) (rows : List Aged), (l.foldl (fun rows x => putRow x.own (lims.length + 1) (bucketN (wrap64 (day - x.f2)) lims) x.f3 rows) rows).length ≤ rows.length + l.length := by
    intro l
    induction l with
    | nil => intro rows; simp
    | cons x l ih =>
      intro rows
      have h1 := ih (putRow x.own (lims.length + 1) (bucketN (wrap64 (day - x.f2)) lims) x.f3 rows)
      have h2 := putRow_length x.own (lims.length + 1) (bucketN (wrap64 (day - x.f2)) lims) x.f3 rows
      simp only [List.foldl_cons, List.length_cons]; omega
  have := gen l []
  simpa [rowsOf] using this

theorem ev_sums_l (l : List Left) (day : Int) (lims : List Int) (hl : l.length ≤ 60) (hm : lims.length ≤ 20) : ∀ d j, d = (rowsOf l day lims).length - j → j ≤ (rowsOf l day lims).length → Ev (fun k => accountinglaw27_AgingSums.l0 k l lims (rowsOf l day lims) (j : Int)) true := by
  have hrl := rowsOf_length l day lims
  have hat := fun r => rowsOf_at (l := l) (day := day) (lims := lims) (r := r)
  generalize rowsOf l day lims = rows at hrl hat
  intro d
  induction d with
  | zero =>
    intro j hd hj
    refine Ev.step (H := fun k => (accountinglaw27_lives.f k).bind fun t => some t) (fun k => ?_) ev_end
    rw [accountinglaw27_AgingSums.l0, if_neg (by omega)]
  | succ d ih =>
    intro j hd hj
    have hlt : j < rows.length := by omega
    obtain ⟨hsz, hcg⟩ := hat rows[j] (List.getElem_mem hlt)
    have hnext := ih (j + 1) (by omega) (by omega)
    have in2 : ∀ d' i acc, d' = l.length - i → i ≤ l.length → InR acc → Cg acc (amt (l.drop i) rows[j].own) → Ev (fun k => accountinglaw27_AgingSums.l2 k l lims rows (j : Int) acc (i : Int)) true := by
      intro d'
      induction d' with
      | zero =>
        intro i acc hd' hi hr hc
        have hil : i = l.length := by omega
        have h0 : acc = 0 := cg_zero (by rw [hil, List.drop_length] at hc; exact hc) hr
        have hw : wrap64 ((lims.length : Int) + 1) = (lims.length : Int) + 1 := IntWalk.wrap64_in _ (by omega)
        refine Ev.step (H := fun k => accountinglaw27_AgingSums.l0 k l lims rows ((j + 1 : Nat) : Int)) (fun k => ?_) hnext
        rw [accountinglaw27_AgingSums.l2, if_neg (by omega), if_pos h0, if_pos (by omega), if_pos (by omega), rdA_at hlt, hw, if_pos (by omega), up_one hlt (by simp only [Big]; omega)]
      | succ d' ih' =>
        intro i acc hd' hi hr hc
        have hil : i < l.length := by omega
        rw [List.drop_eq_getElem_cons hil, amt] at hc
        by_cases e : l[i].own = rows[j].own
        · rw [if_pos e] at hc
          have e1 : l[i].f0.toList = rows[j].f0.toList := by rw [show l[i].f0 = rows[j].f0 from congrArg Prod.fst e]
          have e2 : l[i].f1.toList = rows[j].f1.toList := by rw [show l[i].f1 = rows[j].f1 from congrArg Prod.snd e]
          refine Ev.step (H := fun k => accountinglaw27_AgingSums.l2 k l lims rows (j : Int) (wrap64 (acc - l[i].f3)) ((i + 1 : Nat) : Int)) (fun k => ?_) (ih' (i + 1) _ (by omega) (by omega) (inR_wrap _) ?_)
          · rw [accountinglaw27_AgingSums.l2, if_pos (by omega), if_pos (by omega), if_pos (by omega), if_pos (by omega), rdL_at hil, rdA_at hlt, if_pos e1, if_pos e2, up_one hil (by simp only [Big]; omega)]
          · obtain ⟨q, hq⟩ := hc
            obtain ⟨q', hq'⟩ := cg_wrap (acc - l[i].f3)
            exact ⟨q + q', by omega⟩
        · rw [if_neg e] at hc
          refine Ev.step (H := fun k => accountinglaw27_AgingSums.l2 k l lims rows (j : Int) acc ((i + 1 : Nat) : Int)) (fun k => ?_) (ih' (i + 1) _ (by omega) (by omega) hr (by obtain ⟨q, hq⟩ := hc; exact ⟨q, by omega⟩))
          by_cases e1 : l[i].f0.toList = rows[j].f0.toList
          · have e2 : ¬ l[i].f1.toList = rows[j].f1.toList := fun h => e (Prod.ext (bytes_ext e1) (bytes_ext h))
            rw [accountinglaw27_AgingSums.l2, if_pos (by omega), if_pos (by omega), if_pos (by omega), if_pos (by omega), rdL_at hil, rdA_at hlt, if_pos e1, if_neg e2, up_one hil (by simp only [Big]; omega)]
          · rw [accountinglaw27_AgingSums.l2, if_pos (by omega), if_pos (by omega), if_pos (by omega), if_pos (by omega), rdL_at hil, rdA_at hlt, if_neg e1, up_one hil (by simp only [Big]; omega)]
    have in1 : ∀ d' i acc, d' = rows[j].f2.length - i → i ≤ rows[j].f2.length → InR acc → Cg (acc + (rows[j].f2.drop i).sum) (amt l rows[j].own) → Ev (fun k => accountinglaw27_AgingSums.l1 k l lims rows (j : Int) acc (i : Int)) true := by
      intro d'
      induction d' with
      | zero =>
        intro i acc hd' hi hr hc
        have hil : i = rows[j].f2.length := by omega
        refine Ev.step (H := fun k => accountinglaw27_AgingSums.l2 k l lims rows (j : Int) acc 0) (fun k => ?_) (in2 _ 0 acc rfl (Nat.zero_le _) hr ?_)
        · rw [accountinglaw27_AgingSums.l1, if_pos (by omega), if_pos (by omega), rdA_at hlt, if_neg (by omega)]
        · rw [hil, List.drop_length] at hc
          simpa using hc
      | succ d' ih' =>
        intro i acc hd' hi hr hc
        have hil : i < rows[j].f2.length := by omega
        refine Ev.step (H := fun k => accountinglaw27_AgingSums.l1 k l lims rows (j : Int) (wrap64 (acc + rows[j].f2[i])) ((i + 1 : Nat) : Int)) (fun k => ?_) (ih' (i + 1) _ (by omega) (by omega) (inR_wrap _) ?_)
        · rw [accountinglaw27_AgingSums.l1, if_pos (by omega), if_pos (by omega), rdA_at hlt, if_pos (by omega), if_pos (by omega), rd_at hil, up_one hil (by simp only [Big]; omega)]
        · rw [List.drop_eq_getElem_cons hil, List.sum_cons] at hc
          obtain ⟨q, hq⟩ := hc
          obtain ⟨q', hq'⟩ := cg_wrap (acc + rows[j].f2[i])
          exact ⟨q + q', by omega⟩
    refine Ev.step (H := fun k => accountinglaw27_AgingSums.l1 k l lims rows (j : Int) 0 0) (fun k => ?_) (in1 _ 0 0 rfl (Nat.zero_le _) (by unfold InR; omega) (by simpa using hcg))
    rw [accountinglaw27_AgingSums.l0, if_pos (by omega)]

theorem pure_AgingSums (l : List Left) (day : Int) (lims : List Int) (hl : l.length ≤ 9223372036854775807) (hm : lims.length ≤ 9223372036854775807) : ∃ k, accountinglaw27_AgingSums.f k l day lims = some true := by
  refine Ev.get ?_
  obtain ⟨b, hb, hbs⟩ := ev_light l lims hl
  unfold accountinglaw27_AgingSums.f
  refine Ev.bind hb ?_
  cases b with
  | false => simpa using ev_end
  | true =>
    obtain ⟨h1, h2, h3⟩ := hbs rfl
    simp only [if_true]
    obtain ⟨e, he, _⟩ := ev_check l day lims h1 h3
    refine Ev.bind (ev_Of he) ?_
    by_cases h0 : e = 0
    · simp only [h0, if_true]
      exact ev_sums_l l day lims h1 h2 _ 0 rfl (Nat.zero_le _)
    · simp only [h0, if_false, List.length_nil]
      exact ev_end

end Go.Proofs.YtohfnpkoheafkaaDoor.PAg
