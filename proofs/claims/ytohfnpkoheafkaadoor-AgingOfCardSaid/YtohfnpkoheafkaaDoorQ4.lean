/- The rows of the sums. -/
import Derived.Test.YtohfnpkoheafkaaDoorQ1
namespace Go.Proofs.YtohfnpkoheafkaaDoor.PAg
open Go.RowKit Go.Proofs.YtohfnpkoheafkaaDoorW.PrintWords Go.Proofs.YtohfnpkoheafkaaDoorW.PrintLast Go.Proofs.YtohfnpkoheafkaaDoorW.PrintMore

/-- equal but for whole turns of 2^64 -/
def Cg (a b : Int) : Prop := ∃ q : Int, a = b + q * 18446744073709551616
theorem Cg.refl (a : Int) : Cg a a := ⟨0, by omega⟩
theorem cg_wrap (z : Int) : Cg (wrap64 z) z := ⟨-((z + 9223372036854775808) / 18446744073709551616), by unfold wrap64; omega⟩
def InR (a : Int) : Prop := -9223372036854775808 ≤ a ∧ a ≤ 9223372036854775807
theorem inR_wrap (z : Int) : InR (wrap64 z) := by unfold InR wrap64; omega
theorem cg_zero {a : Int} (h : Cg a 0) (hr : InR a) : a = 0 := by
  obtain ⟨q, hq⟩ := h
  unfold InR at hr
  omega

/-- the amounts of an owner -/
def amt : List Left → Own → Int
  | [], _ => 0
  | x :: l, k => (if x.own = k then x.f3 else 0) + amt l k
theorem amt_snoc (l : List Left) (x : Left) (k : Own) : amt (l ++ [x]) k = amt l k + (if x.own = k then x.f3 else 0) := by
  induction l with
  | nil => simp [amt]
  | cons y l ih => simp only [List.cons_append, amt, ih]; omega
theorem sum_addAt (m : Int) : ∀ (s : List Int) (b : Nat), b < s.length → Cg (addAt s b m).sum (s.sum + m)
  | x :: s, 0, _ => by
    obtain ⟨q, hq⟩ := cg_wrap (x + m)
    exact ⟨q, by simp [addAt]; omega⟩
  | x :: s, b + 1, h => by
    obtain ⟨q, hq⟩ := sum_addAt m s b (by simpa using h)
    refine ⟨q, ?_⟩
    simp only [addAt, List.modify_succ_cons, List.sum_cons] at hq ⊢
    omega
theorem sum_zeros (n : Nat) : (List.replicate n (0 : Int)).sum = 0 := by
  induction n with
  | zero => rfl
  | succ n ih => rw [List.replicate_succ, List.sum_cons, ih]; omega

/-- What the sums are. -/
def SumInv (n : Nat) (S : Own → Option (List Int)) (l : List Left) : Prop := ∀ k, (S k = none → amt l k = 0) ∧ ∀ s, S k = some s → s.length = n ∧ Cg s.sum (amt l k)
theorem SumInv.step {n b : Nat} {S : Own → Option (List Int)} {l : List Left} (h : SumInv n S l) (x : Left) (hb : b < n) : SumInv n (stepS n b x.f3 x.own S) (l ++ [x]) := by
  intro k
  obtain ⟨h1, h2⟩ := h k
  rw [amt_snoc]
  by_cases e : k = x.own
  · subst e
    rw [if_pos rfl]
    unfold stepS
    rw [putS_self]
    refine ⟨fun hn => (by cases hn), fun s hs => ?_⟩
    cases hs
    rw [addAt_length]
    cases hS : S x.own with
    | none =>
      rw [Option.getD_none, List.length_replicate, h1 hS]
      obtain ⟨q, hq⟩ := sum_addAt x.f3 (List.replicate n 0) b (by simpa using hb)
      exact ⟨rfl, q, by rw [sum_zeros] at hq; omega⟩
    | some s =>
      obtain ⟨h3, q2, h4⟩ := h2 s hS
      rw [Option.getD_some]
      obtain ⟨q, hq⟩ := sum_addAt x.f3 s b (by omega)
      exact ⟨h3, q + q2, by omega⟩
  · rw [if_neg (fun h => e h.symm)]
    unfold stepS
    rw [putS_ne _ _ e]
    exact ⟨fun hn => (by rw [h1 hn]; rfl), fun s hs => by obtain ⟨a, q, c⟩ := h2 s hs; exact ⟨a, q, by omega⟩⟩
theorem sumInv_foldl (day : Int) (lims : List Int) : ∀ (l done : List Left) (S : Own → Option (List Int)), SumInv (lims.length + 1) S done →
    SumInv (lims.length + 1) (l.foldl (fun S x => stepS (lims.length + 1) (bucketN (wrap64 (day - x.f2)) lims) x.f3 x.own S) S) (done ++ l)
  | [], done, S, h => by simpa using h
  | x :: l, done, S, h => by
    have hb := bucketN_le (wrap64 (day - x.f2)) lims
    have := sumInv_foldl day lims l (done ++ [x]) _ (h.step x (b := bucketN (wrap64 (day - x.f2)) lims) (by omega))
    simpa using this
theorem sumsOf_inv (l : List Left) (day : Int) (lims : List Int) : SumInv (lims.length + 1) (sumsOf l day lims) l := by
  have := sumInv_foldl day lims l [] (fun _ => none) (fun k => ⟨fun _ => rfl, fun s hs => by cases hs⟩)
  simpa [sumsOf] using this
theorem rowsOf_at {l : List Left} {day : Int} {lims : List Int} {r : Aged} (h : r ∈ rowsOf l day lims) : r.f2.length = lims.length + 1 ∧ Cg r.f2.sum (amt l r.own) :=
  (sumsOf_inv l day lims r.own).2 _ (((rowsOf_rep l day lims).2 r).1 h)
theorem putRow_length (k : Own) (n b : Nat) (m : Int) : ∀ rows : List Aged, (putRow k n b m rows).length ≤ rows.length + 1
  | [] => by simp [putRow]
  | r :: rs => by
    have := putRow_length k n b m rs
    unfold putRow
    split
    · simp only [List.length_cons]; omega
    · split <;> simp
theorem rowsOf_length (l : List Left) (day : Int) (lims : List Int) : (rowsOf l day lims).length ≤ l.length := by
  have gen : ∀ (l : List Left) (rows : List Aged), (l.foldl (fun rows x => putRow x.own (lims.length + 1) (bucketN (wrap64 (day - x.f2)) lims) x.f3 rows) rows).length ≤ rows.length + l.length := by
    intro l
    induction l with
    | nil => intro rows; simp
    | cons x l ih =>
      intro rows
      have h1 := ih (putRow x.own (lims.length + 1) (bucketN (wrap64 (day - x.f2)) lims) x.f3 rows)
      have h2 := putRow_length x.own (lims.length + 1) (bucketN (wrap64 (day - x.f2)) lims) x.f3 rows
      simp only [List.foldl_cons, List.length_cons]; omega
  have := gen l []
  simpa [rowsOf] using this


end Go.Proofs.YtohfnpkoheafkaaDoor.PAg
