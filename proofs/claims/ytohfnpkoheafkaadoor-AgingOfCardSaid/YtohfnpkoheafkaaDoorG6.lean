/- The rows of an ageing are the sums by owner, in the owners' order: plain laws. -/
import Derived.Test.YtohfnpkoheafkaaDoorG2
import Derived.WideShapes
namespace Go.Proofs.YtohfnpkoheafkaaDoor.PAg
open Go.RowKit Go.Proofs.YtohfnpkoheafkaaDoorW.PrintWords Go.Proofs.YtohfnpkoheafkaaDoorW.PrintLast Go.Proofs.YtohfnpkoheafkaaDoorW.PrintMore

theorem bless_eq : ∀ (x y : List UInt8), Op.bytesLess x y = decide (x < y)
  | [], [] => by simp [Op.bytesLess]
  | _ :: _, [] => by simp [Op.bytesLess]
  | [], _ :: _ => by simp [Op.bytesLess]
  | a :: x, b :: y => by
    rw [Op.bytesLess, bless_eq x y]
    simp only [List.cons_lt_cons_iff]
    by_cases h1 : a < b <;> by_cases h2 : a = b <;> by_cases h3 : x < y <;> simp [h1, h2, h3]
theorem bytes_ext {a b : ByteArray} (h : a.toList = b.toList) : a = b := by
  rw [ByteArray.toList_eq, ByteArray.toList_eq] at h
  exact WideShapes.bytes_inj h
theorem blist_tri (x y : List UInt8) : x = y ∨ x < y ∨ y < x := by
  by_cases h1 : x < y
  · exact Or.inr (Or.inl h1)
  · by_cases h2 : y < x
    · exact Or.inr (Or.inr h2)
    · exact Or.inl (List.le_antisymm (List.not_lt.1 h2) (List.not_lt.1 h1))
theorem ownLt_iff (a b : Own) : ownLt a b = true ↔ a.1.toList < b.1.toList ∨ (a.1 = b.1 ∧ a.2.toList < b.2.toList) := by
  unfold ownLt
  rw [bless_eq, bless_eq]
  simp
theorem ownLt_irrefl (a : Own) : ownLt a a = false := by
  rw [Bool.eq_false_iff]
  intro h
  rcases (ownLt_iff a a).1 h with h | ⟨_, h⟩ <;> exact List.lt_irrefl _ h
theorem ownLt_trans {a b c : Own} (h1 : ownLt a b = true) (h2 : ownLt b c = true) : ownLt a c = true := by
  rw [ownLt_iff] at h1 h2 ⊢
  rcases h1 with h1 | ⟨e1, h1⟩ <;> rcases h2 with h2 | ⟨e2, h2⟩
  · exact Or.inl (List.lt_trans h1 h2)
  · exact Or.inl (e2 ▸ h1)
  · exact Or.inl (e1 ▸ h2)
  · exact Or.inr ⟨e1.trans e2, List.lt_trans h1 h2⟩
theorem ownLt_tri (a b : Own) : a = b ∨ ownLt a b = true ∨ ownLt b a = true := by
  rw [ownLt_iff, ownLt_iff]
  rcases blist_tri a.1.toList b.1.toList with h | h | h
  · have e := bytes_ext h
    rcases blist_tri a.2.toList b.2.toList with h' | h' | h'
    · exact Or.inl (Prod.ext e (bytes_ext h'))
    · exact Or.inr (Or.inl (Or.inr ⟨e, h'⟩))
    · exact Or.inr (Or.inr (Or.inr ⟨e.symm, h'⟩))
  · exact Or.inr (Or.inl (Or.inl h))
  · exact Or.inr (Or.inr (Or.inl h))
theorem ownLt_asymm {a b : Own} (h1 : ownLt a b = true) (h2 : ownLt b a = true) : False := by
  have := ownLt_trans h1 h2
  rw [ownLt_irrefl] at this; cases this
theorem ownLt_ntrans {a b c : Own} (h1 : ownLt a b = false) (h2 : ownLt b c = false) : ownLt a c = false := by
  rw [Bool.eq_false_iff]
  intro h
  rcases ownLt_tri b c with rfl | h3 | h3
  · rw [h1] at h; cases h
  · rw [h2] at h3; cases h3
  · have := ownLt_trans h h3
    rw [h1] at this; cases this

theorem Aged.ext' {a b : Aged} (h1 : a.own = b.own) (h2 : a.f2 = b.f2) : a = b := by
  cases a; cases b
  simp [Aged.own] at h1
  simp at h2
  simp [h1, h2]

/-- Rows in the owners' order, no owner twice. -/
def InOrder (rows : List Aged) : Prop := rows.Pairwise (fun a b => ownLt a.own b.own = true)
theorem sorted_ext : ∀ {l1 l2 : List Aged}, InOrder l1 → InOrder l2 → (∀ x, x ∈ l1 ↔ x ∈ l2) → l1 = l2
  | [], [], _, _, _ => rfl
  | [], b :: l2, _, _, h => by have := (h b).2 (List.mem_cons_self ..); cases this
  | a :: l1, [], _, _, h => by have := (h a).1 (List.mem_cons_self ..); cases this
  | a :: l1, b :: l2, h1, h2, h => by
    obtain ⟨ha, h1'⟩ := List.pairwise_cons.1 h1
    obtain ⟨hb, h2'⟩ := List.pairwise_cons.1 h2
    have e : a = b := by
      rcases List.mem_cons.1 ((h a).1 (List.mem_cons_self ..)) with e | h3
      · exact e
      · rcases List.mem_cons.1 ((h b).2 (List.mem_cons_self ..)) with e | h4
        · exact e.symm
        · exact (ownLt_asymm (hb a h3) (ha b h4)).elim
    subst e
    have hn1 : a ∉ l1 := fun hx => by have := ha a hx; rw [ownLt_irrefl] at this; cases this
    have hn2 : a ∉ l2 := fun hx => by have := hb a hx; rw [ownLt_irrefl] at this; cases this
    rw [sorted_ext h1' h2' (fun x => ⟨fun hx => ?_, fun hx => ?_⟩)]
    · rcases List.mem_cons.1 ((h x).1 (List.mem_cons_of_mem _ hx)) with rfl | h3
      · exact (hn1 hx).elim
      · exact h3
    · rcases List.mem_cons.1 ((h x).2 (List.mem_cons_of_mem _ hx)) with rfl | h3
      · exact (hn2 hx).elim
      · exact h3

/-- the sum of an owner among rows -/
def sumIn (rows : List Aged) (k : Own) : Option (List Int) := (rows.find? (fun r => decide (r.own = k))).map (·.f2)
theorem sumIn_cons (r : Aged) (rs : List Aged) (k : Own) : sumIn (r :: rs) k = if r.own = k then some r.f2 else sumIn rs k := by
  unfold sumIn
  rw [List.find?_cons]
  by_cases h : r.own = k <;> simp [h]
theorem sumIn_none {rows : List Aged} {k : Own} (h : ∀ r ∈ rows, r.own ≠ k) : sumIn rows k = none := by
  unfold sumIn
  rw [List.find?_eq_none.2 (fun r hr => by simpa using h r hr)]; rfl
theorem mem_sumIn {rows : List Aged} (h : InOrder rows) (r : Aged) : r ∈ rows ↔ sumIn rows r.own = some r.f2 := by
  induction rows with
  | nil => simp [sumIn]
  | cons a rs ih =>
    obtain ⟨ha, h'⟩ := List.pairwise_cons.1 h
    rw [sumIn_cons, List.mem_cons, ih h']
    by_cases e : a.own = r.own
    · rw [if_pos e]
      constructor
      · rintro (rfl | hx)
        · rfl
        · exfalso
          have := ha r ((ih h').2 hx)
          rw [e, ownLt_irrefl] at this; cases this
      · intro hx
        exact Or.inl (Aged.ext' e.symm (Option.some.inj hx).symm)
    · rw [if_neg e]
      constructor
      · rintro (rfl | hx)
        · exact (e rfl).elim
        · exact hx
      · exact Or.inr
theorem mem_putRow (k : Own) (n b : Nat) (amt : Int) : ∀ {rows : List Aged}, InOrder rows → ∀ x, x ∈ putRow k n b amt rows ↔ (x.own ≠ k ∧ x ∈ rows) ∨ (x.own = k ∧ x.f2 = addAt ((sumIn rows k).getD (List.replicate n 0)) b amt)
  | [], _, x => by
    simp only [putRow, List.mem_singleton, List.not_mem_nil, and_false, false_or]
    constructor
    · rintro rfl; exact ⟨rfl, rfl⟩
    · rintro ⟨h1, h2⟩; exact Aged.ext' h1 h2
  | r :: rs, h, x => by
    obtain ⟨ha, h'⟩ := List.pairwise_cons.1 h
    rw [sumIn_cons]
    unfold putRow
    by_cases h1 : ownLt r.own k = true
    · have hne : r.own ≠ k := fun e => by rw [e, ownLt_irrefl] at h1; cases h1
      rw [if_pos h1, if_neg hne, List.mem_cons, mem_putRow k n b amt h' x, List.mem_cons]
      constructor
      · rintro (rfl | ⟨a, c⟩ | h3)
        · exact Or.inl ⟨hne, Or.inl rfl⟩
        · exact Or.inl ⟨a, Or.inr c⟩
        · exact Or.inr h3
      · rintro (⟨a, rfl | c⟩ | h3)
        · exact Or.inl rfl
        · exact Or.inr (Or.inl ⟨a, c⟩)
        · exact Or.inr (Or.inr h3)
    · rw [if_neg h1]
      by_cases h2 : r.own = k
      · rw [if_pos h2, if_pos h2]
        simp only [Option.getD_some, List.mem_cons]
        constructor
        · rintro (rfl | hx)
          · exact Or.inr ⟨h2, rfl⟩
          · refine Or.inl ⟨fun e => ?_, Or.inr hx⟩
            have := ha x hx
            rw [h2, e, ownLt_irrefl] at this; cases this
        · rintro (⟨a, rfl | c⟩ | ⟨a, c⟩)
          · exact (a h2).elim
          · exact Or.inr c
          · exact Or.inl (Aged.ext' (a.trans h2.symm) c)
      · rw [if_neg h2, if_neg h2]
        have hk : ownLt k r.own = true := by
          rcases ownLt_tri r.own k with e | e | e
          · exact (h2 e).elim
          · exact (h1 e).elim
          · exact e
        have hall : ∀ y ∈ rs, y.own ≠ k := fun y hy e => ownLt_asymm hk (by have := ha y hy; rw [e] at this; exact this)
        rw [sumIn_none hall]
        simp only [Option.getD_none, List.mem_cons]
        constructor
        · rintro (rfl | rfl | hx)
          · exact Or.inr ⟨rfl, rfl⟩
          · exact Or.inl ⟨h2, Or.inl rfl⟩
          · exact Or.inl ⟨hall x hx, Or.inr hx⟩
        · rintro (⟨a, c⟩ | ⟨a, c⟩)
          · exact Or.inr c
          · exact Or.inl (Aged.ext' a c)
theorem putRow_inOrder (k : Own) (n b : Nat) (amt : Int) : ∀ {rows : List Aged}, InOrder rows → InOrder (putRow k n b amt rows)
  | [], _ => by simp [putRow, InOrder]
  | r :: rs, h => by
    obtain ⟨ha, h'⟩ := List.pairwise_cons.1 h
    unfold putRow
    by_cases h1 : ownLt r.own k = true
    · rw [if_pos h1]
      refine List.pairwise_cons.2 ⟨fun x hx => ?_, putRow_inOrder k n b amt h'⟩
      rcases (mem_putRow k n b amt h' x).1 hx with ⟨_, h3⟩ | ⟨h3, _⟩
      · exact ha x h3
      · rw [h3]; exact h1
    · rw [if_neg h1]
      by_cases h2 : r.own = k
      · rw [if_pos h2]
        exact List.pairwise_cons.2 ⟨fun x hx => ha x hx, h'⟩
      · rw [if_neg h2]
        have hk : ownLt k r.own = true := by
          rcases ownLt_tri r.own k with e | e | e
          · exact (h2 e).elim
          · exact (h1 e).elim
          · exact e
        refine List.pairwise_cons.2 ⟨fun x hx => ?_, h⟩
        rcases List.mem_cons.1 hx with rfl | hx
        · exact hk
        · exact ownLt_trans hk (ha x hx)

/-- Rows that are the sums S, in order. -/
def Rep (rows : List Aged) (S : Own → Option (List Int)) : Prop := InOrder rows ∧ ∀ r : Aged, r ∈ rows ↔ S r.own = some r.f2
theorem Rep.unique {l1 l2 : List Aged} {S : Own → Option (List Int)} (h1 : Rep l1 S) (h2 : Rep l2 S) : l1 = l2 := sorted_ext h1.1 h2.1 (fun x => (h1.2 x).trans (h2.2 x).symm)
theorem Rep.sumIn {rows : List Aged} {S : Own → Option (List Int)} (h : Rep rows S) (k : Own) : sumIn rows k = S k := by
  have e1 : ∀ s, PAg.sumIn rows k = some s ↔ S k = some s := fun s => (mem_sumIn h.1 ⟨k.1, k.2, s⟩).symm.trans (h.2 ⟨k.1, k.2, s⟩)
  cases h1 : PAg.sumIn rows k with
  | some s => exact ((e1 s).1 h1).symm
  | none =>
    cases h2 : S k with
    | none => rfl
    | some s => rw [(e1 s).2 h2] at h1; cases h1
theorem Rep.put {rows : List Aged} {S : Own → Option (List Int)} (h : Rep rows S) (k : Own) (n b : Nat) (amt : Int) : Rep (putRow k n b amt rows) (stepS n b amt k S) := by
  refine ⟨putRow_inOrder k n b amt h.1, fun r => ?_⟩
  rw [mem_putRow k n b amt h.1, h.sumIn]
  unfold stepS putS
  by_cases e : r.own = k
  · simp [e, eq_comm]
  · simp [e, h.2 r]
theorem rep_foldl (day : Int) (lims : List Int) : ∀ (l : List Left) (rows : List Aged) (S : Own → Option (List Int)), Rep rows S →
    Rep (l.foldl (fun rows x => putRow x.own (lims.length + 1) (bucketN (wrap64 (day - x.f2)) lims) x.f3 rows) rows) (l.foldl (fun S x => stepS (lims.length + 1) (bucketN (wrap64 (day - x.f2)) lims) x.f3 x.own S) S)
  | [], _, _, h => h
  | x :: l, rows, S, h => rep_foldl day lims l _ _ (h.put ..)
theorem rowsOf_rep (l : List Left) (day : Int) (lims : List Int) : Rep (rowsOf l day lims) (sumsOf l day lims) :=
  rep_foldl day lims l [] _ ⟨List.Pairwise.nil, fun r => by simp⟩

end Go.Proofs.YtohfnpkoheafkaaDoor.PAg
