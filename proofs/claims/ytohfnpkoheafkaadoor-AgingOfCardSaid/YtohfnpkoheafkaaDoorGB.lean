/- The reference's rows: a list kept in order; where an owner stands in it. -/
import Derived.Test.YtohfnpkoheafkaaDoorG9
import Derived.Test.YtohfnpkoheafkaaDoorG5
namespace Go.Proofs.YtohfnpkoheafkaaDoor.PAg
open Go.RowKit Go.Proofs.YtohfnpkoheafkaaDoorW.PrintWords Go.Proofs.YtohfnpkoheafkaaDoorW.PrintLast Go.Proofs.YtohfnpkoheafkaaDoorW.PrintMore

section
variable {α : Type} {lt : α → α → Bool}
def posG (lt : α → α → Bool) (ks : List α) (k : α) : Nat := ks.countP (fun a => lt a k)
theorem posG_le (ks : List α) (k : α) : posG lt ks k ≤ ks.length := List.countP_le_length
theorem posG_zero {ks : List α} {k : α} (h : ∀ a ∈ ks, lt a k = false) : posG lt ks k = 0 := by
  unfold posG
  rw [List.countP_eq_zero]
  intro a ha
  simp [h a ha]
theorem posG_cons_lt {ks : List α} {a k : α} (h : lt a k = true) : posG lt (a :: ks) k = posG lt ks k + 1 := by
  unfold posG; rw [List.countP_cons_of_pos (by simpa using h)]
theorem posG_cons_ge {ks : List α} {a k : α} (h : lt a k = false) (hs : ∀ b ∈ ks, lt b k = false) : posG lt (a :: ks) k = 0 :=
  posG_zero (fun b hb => by rcases List.mem_cons.1 hb with rfl | hb; exact h; exact hs b hb)
structure StrictO (lt : α → α → Bool) : Prop where
  irr : ∀ a, lt a a = false
  tra : ∀ a b c, lt a b = true → lt b c = true → lt a c = true
  tri : ∀ a b, a = b ∨ lt a b = true ∨ lt b a = true
theorem StrictO.asy (o : StrictO lt) {a b : α} (h : lt a b = true) : lt b a = false := by
  cases h2 : lt b a with
  | false => rfl
  | true => have := o.tra _ _ _ h h2; rw [o.irr] at this; cases this
theorem StrictO.ge (o : StrictO lt) {a k b : α} (h : lt a k = false) (h2 : lt a b = true) : lt b k = false := by
  cases h3 : lt b k with
  | false => rfl
  | true => rw [o.tra _ _ _ h2 h3] at h; cases h
theorem pos_at (o : StrictO lt) (k : α) : ∀ {ks : List α}, ks.Pairwise (fun a b => lt a b = true) → ∀ i (hi : i < ks.length), lt ks[i] k = decide (i < posG lt ks k)
  | a :: ks, h, i, hi => by
    obtain ⟨ha, h'⟩ := List.pairwise_cons.1 h
    cases hk : lt a k with
    | true =>
      rw [posG_cons_lt hk]
      cases i with
      | zero => simp [hk]
      | succ i => simp [pos_at o k h' i (by simpa using hi)]
    | false =>
      have hall : ∀ b ∈ ks, lt b k = false := fun b hb => o.ge hk (ha b hb)
      rw [posG_cons_ge hk hall]
      cases i with
      | zero => simp [hk]
      | succ i => simp; exact hall _ (List.getElem_mem _)
theorem pos_mem (o : StrictO lt) (k : α) : ∀ {ks : List α}, ks.Pairwise (fun a b => lt a b = true) → k ∈ ks → ks[posG lt ks k]? = some k
  | a :: ks, h, hm => by
    obtain ⟨ha, h'⟩ := List.pairwise_cons.1 h
    rcases List.mem_cons.1 hm with rfl | hm
    · rw [posG_cons_ge (o.irr k) (fun b hb => o.asy (ha b hb))]; rfl
    · rw [posG_cons_lt (ha k hm)]
      simpa using pos_mem o k h' hm
def insG (lt : α → α → Bool) (ks : List α) (k : α) : List α := ks.take (posG lt ks k) ++ k :: ks.drop (posG lt ks k)
theorem insG_mem (ks : List α) (k x : α) : x ∈ insG lt ks k ↔ x = k ∨ x ∈ ks := by
  unfold insG
  have : x ∈ ks ↔ x ∈ ks.take (posG lt ks k) ∨ x ∈ ks.drop (posG lt ks k) := by rw [← List.mem_append, List.take_append_drop]
  rw [List.mem_append, List.mem_cons, this]
  constructor
  · rintro (h | h | h)
    · exact Or.inr (Or.inl h)
    · exact Or.inl h
    · exact Or.inr (Or.inr h)
  · rintro (h | h | h)
    · exact Or.inr (Or.inl h)
    · exact Or.inl h
    · exact Or.inr (Or.inr h)
theorem insG_sorted (o : StrictO lt) (k : α) : ∀ {ks : List α}, ks.Pairwise (fun a b => lt a b = true) → k ∉ ks → (insG lt ks k).Pairwise (fun a b => lt a b = true)
  | [], _, _ => by simp [insG]
  | a :: ks, h, hk => by
    obtain ⟨ha, h'⟩ := List.pairwise_cons.1 h
    cases hak : lt a k with
    | true =>
      have e : insG lt (a :: ks) k = a :: insG lt ks k := by
        unfold insG; rw [posG_cons_lt hak]; rfl
      rw [e, List.pairwise_cons]
      refine ⟨fun x hx => ?_, insG_sorted o k h' (fun hm => hk (List.mem_cons_of_mem _ hm))⟩
      rcases (insG_mem ks k x).1 hx with rfl | hx
      · exact hak
      · exact ha x hx
    | false =>
      have hka : lt k a = true := by
        rcases o.tri k a with e | e | e
        · exact (hk (e ▸ List.mem_cons_self ..)).elim
        · exact e
        · rw [hak] at e; cases e
      have e : insG lt (a :: ks) k = k :: a :: ks := by
        unfold insG; rw [posG_cons_ge hak (fun b hb => o.ge hak (ha b hb))]; rfl
      rw [e, List.pairwise_cons]
      refine ⟨fun x hx => ?_, h⟩
      rcases List.mem_cons.1 hx with rfl | hx
      · exact hka
      · exact o.tra _ _ _ hka (ha x hx)
end

theorem ownO : StrictO ownLt := ⟨ownLt_irrefl, fun _ _ _ h1 h2 => ownLt_trans h1 h2, ownLt_tri⟩

/-- The reference's rows: in order, the owners of S, each with its sums in a block of its own. -/
def RefAt (w : World) (B : Nat) (v : Value) (n : Nat) (ks : List Own) (S : Own → Option (List Int)) (G : Own → Nat) : Prop :=
  ks.Pairwise (fun a b => ownLt a b = true) ∧ (∀ k, k ∈ ks ↔ (S k).isSome = true) ∧ w.ownsRow B 37 3 v ks.length (flatO G n ks) ∧
  (∀ k s, S k = some s → s.length = n ∧ B ≤ G k ∧ some (G k) ≠ v.ownBlock ∧ w.heap[G k]? = some (.cells (s.map (Value.int .i64)).toArray 3 (0, 0))) ∧
  ∀ k k' s s', S k = some s → S k' = some s' → G k = G k' → k = k'
theorem RefAt.lt {w : World} {B n : Nat} {v : Value} {ks : List Own} {S : Own → Option (List Int)} {G : Own → Nat} (h : RefAt w B v n ks S G) {k : Own} {s : List Int} (hs : S k = some s) : G k < w.heap.size := (Array.getElem?_eq_some_iff.1 (h.2.2.2.1 k s hs).2.2.2).1
theorem RefAt.blocks {w w' : World} {B n : Nat} {v : Value} {ks : List Own} {S : Own → Option (List Int)} {G : Own → Nat} (h : RefAt w B v n ks S G) (ho : ∀ g, v.ownBlock = some g → w'.heap[g]? = w.heap[g]?) (hg : ∀ k s, S k = some s → w'.heap[G k]? = w.heap[G k]?) : RefAt w' B v n ks S G := by
  obtain ⟨h1, h2, h3, h4, h5⟩ := h
  refine ⟨h1, h2, own_move h3 ho, fun k s hs => ?_, h5⟩
  obtain ⟨a, b, c, d⟩ := h4 k s hs
  exact ⟨a, b, c, (hg k s hs).trans d⟩
theorem RefAt.below {w w' : World} {B n : Nat} {v : Value} {ks : List Own} {S : Own → Option (List Int)} {G : Own → Nat} (h : RefAt w B v n ks S G) (hB : Below w.heap.size w w') : RefAt w' B v n ks S G :=
  h.blocks (fun g hg => hB.block g (own_lt h.2.2.1 g hg)) (fun k s hs => hB.block _ (h.lt hs))
theorem RefAt.start (w : World) (B n : Nat) : RefAt w B (.slice none 0 0) n [] (fun _ => none) (fun _ => 0) :=
  ⟨List.Pairwise.nil, fun k => by simp, World.ownsRow_nil _ _ _ _, (fun _ _ h => by cases h), (fun _ _ _ _ h => by cases h)⟩

/-- the rows, read -/
def rowsAs (ks : List Own) (S : Own → Option (List Int)) : List Aged := ks.map fun k => (⟨k.1, k.2, (S k).getD []⟩ : Aged)
theorem rowsAs_own (ks : List Own) (S : Own → Option (List Int)) : (rowsAs ks S).map Aged.own = ks := by
  unfold rowsAs
  rw [List.map_map]
  exact List.map_id _
theorem rowsAs_length (ks : List Own) (S : Own → Option (List Int)) : (rowsAs ks S).length = ks.length := by simp [rowsAs]
theorem RefAt.rep {w : World} {B n : Nat} {v : Value} {ks : List Own} {S : Own → Option (List Int)} {G : Own → Nat} (h : RefAt w B v n ks S G) : Rep (rowsAs ks S) S := rep_of_keys h.1 h.2.1
theorem rows_S2 {w : World} {B n : Nat} {G : Own → Nat} {S : Own → Option (List Int)} {ks : List Own} {v : Value} (hown : w.ownsRow B 37 3 v ks.length (flatO G n ks)) (hn : n ≤ maxLen) (hnd : ks.Nodup)
    (hS : ∀ k ∈ ks, ∃ s, S k = some s ∧ s.length = n ∧ B ≤ G k ∧ some (G k) ≠ v.ownBlock ∧ w.heap[G k]? = some (.cells (s.map (Value.int .i64)).toArray 3 (0, 0))) (hinj : ∀ k ∈ ks, ∀ k' ∈ ks, G k = G k' → k = k') :
    Kd.S k37 37 w B (fun _ => True) v (rowsAs ks S) := by
  refine ⟨fun g => ks.findIdx (fun k => decide (G k = g)), fun _ _ => trivial, flatO G n ks, ?_, ?_, fun j p hj => ?_⟩
  · rw [List.length_zipIdx, rowsAs_length]
    exact hown
  · rw [List.length_zipIdx, rowsAs_length, flatO_length]; rfl
  · unfold rowsAs at hj
    rw [List.getElem?_zipIdx, List.getElem?_map] at hj
    cases hk : ks[j]? with
    | none => rw [hk] at hj; cases hj
    | some k =>
      rw [hk] at hj
      simp only [Option.map_some, Nat.zero_add, Option.some.injEq] at hj
      subst hj
      obtain ⟨hjl, hke⟩ := List.getElem?_eq_some_iff.1 hk
      have hkm : k ∈ ks := hke ▸ List.getElem_mem hjl
      obtain ⟨s, hs, hsl, hBG, hGb, hh⟩ := hS k hkm
      have e : ((flatO G n ks).drop (j * 3)).take 3 = cellsO G n k := by
        apply List.ext_getElem?
        intro t
        rw [List.getElem?_take, List.getElem?_drop]
        by_cases ht : t < 3
        · rw [if_pos ht, flatO_at G n ks j t hjl ht, hke]
        · rw [if_neg ht, List.getElem?_eq_none (by simp [cellsO]; omega)]
      show k37.M w B _ _ (((flatO G n ks).drop (j * 3)).take 3)
      rw [e, hs]
      refine k37_mkM w B _ _ (ints_R hsl hn hBG ⟨⟨trivial, hGb⟩, ?_⟩ hh)
      show ks.findIdx _ = j
      rw [List.findIdx_eq hjl]
      refine ⟨by simp [hke], fun i hij => ?_⟩
      simp only [decide_eq_false_iff_not]
      intro he
      have := hinj ks[i] (List.getElem_mem _) k hkm he
      rw [← hke] at this
      exact absurd ((List.getElem_inj hnd).1 this) (by omega)
theorem sorted_nodup {ks : List Own} (h : ks.Pairwise (fun a b => ownLt a b = true)) : ks.Nodup :=
  h.imp (fun hab e => by rw [e, ownLt_irrefl] at hab; cases hab)
theorem RefAt.kdS {w : World} {B n : Nat} {v : Value} {ks : List Own} {S : Own → Option (List Int)} {G : Own → Nat} (h : RefAt w B v n ks S G) (hn : n ≤ maxLen) : Kd.S k37 37 w B (fun _ => True) v (rowsAs ks S) := by
  obtain ⟨h1, h2, h3, h4, h5⟩ := h
  refine rows_S2 h3 hn (sorted_nodup h1) (fun k hk => ?_) (fun k hk k' hk' he => ?_)
  · obtain ⟨s, hs⟩ := Option.isSome_iff_exists.1 ((h2 k).1 hk)
    exact ⟨s, hs, h4 k s hs⟩
  · obtain ⟨s, hs⟩ := Option.isSome_iff_exists.1 ((h2 k).1 hk)
    obtain ⟨s', hs'⟩ := Option.isSome_iff_exists.1 ((h2 k').1 hk')
    exact h5 k k' s s' hs hs' he

/-- An amount more. -/
theorem RefAt.add {w : World} {B n b : Nat} {v : Value} {ks : List Own} {S : Own → Option (List Int)} {G : Own → Nat} (h : RefAt w B v n ks S G) {k : Own} {s : List Int} (hk : S k = some s) (hb : b < n) (m : Int) :
    RefAt (w.setCell ⟨G k, b, none⟩ (.int .i64 (wrap64 (s.getD b 0 + m)))) B v n ks (putS S k (addAt s b m)) G := by
  obtain ⟨h1, h2, h3, h4, h5⟩ := h
  obtain ⟨ha, hB, hne, hg⟩ := h4 k s hk
  have hother : ∀ g, g ≠ G k → (w.setCell ⟨G k, b, none⟩ (.int .i64 (wrap64 (s.getD b 0 + m)))).heap[g]? = w.heap[g]? := fun g hg => Below.heap_setCell _ _ _ _ hg
  have f : ∀ z t, putS S k (addAt s b m) z = some t → ∃ t', S z = some t' := fun z t hz => by
    by_cases hzk : z = k
    · exact ⟨s, by rw [hzk]; exact hk⟩
    · rw [putS_ne _ _ hzk] at hz; exact ⟨t, hz⟩
  refine ⟨h1, fun y => ?_, own_move h3 (fun g hg' => hother g (fun e => hne (by rw [hg', e]))), fun y s' hs => ?_, fun y y' s1 s2 hs hs' hG => ?_⟩
  · rw [h2]
    by_cases hy : y = k
    · subst hy; simp [putS, hk]
    · rw [putS_ne _ _ hy]
  · by_cases hy : y = k
    · subst hy
      rw [putS_self] at hs; cases hs
      refine ⟨by rw [addAt_length, ha], hB, hne, ?_⟩
      have hsz : b < ((s.map (Value.int .i64)).toArray).size := by simp [ha, hb]
      rw [blk_set hg b _]
      congr 2
      apply Array.toList_inj.1
      simp only [Array.set!_eq_setIfInBounds, Array.toList_setIfInBounds]
      apply List.ext_getElem
      · simp [addAt]
      · intro i hi1 hi2
        simp only [List.length_set, List.length_map] at hi1
        rw [List.getElem_set]
        simp only [addAt, List.getElem_map, List.getElem_modify]
        by_cases hib : b = i
        · subst hib
          simp [List.getD_eq_getElem?_getD, List.getElem?_eq_getElem hi1]
        · simp [hib]
    · rw [putS_ne _ _ hy] at hs
      obtain ⟨a, c, d, e⟩ := h4 y s' hs
      exact ⟨a, c, d, (hother _ (fun hG => hy (h5 y k s' s hs hk hG))).trans e⟩
  · obtain ⟨t1, ht1⟩ := f y s1 hs
    obtain ⟨t2, ht2⟩ := f y' s2 hs'
    exact h5 y y' t1 t2 ht1 ht2 hG

/-- A new owner among the rows. -/
theorem RefAt.ins {w W : World} {B n g : Nat} {v v' : Value} {ks : List Own} {S : Own → Option (List Int)} {G : Own → Nat} (h : RefAt w B v n ks S G) {k : Own} (hk : S k = none) (hg : w.heap.size ≤ g) (hB : B ≤ g)
    (hold : ∀ y s, S y = some s → W.heap[G y]? = w.heap[G y]?) (hz : W.heap[g]? = some (.cells (Array.replicate n (Value.int .i64 0)) 3 (0, 0))) (hv1 : some g ≠ v'.ownBlock) (hv2 : ∀ y s, S y = some s → some (G y) ≠ v'.ownBlock)
    (hown : W.ownsRow B 37 3 v' (ks.length + 1) (flatO G n (ks.take (posG ownLt ks k)) ++ [.string k.1, .string k.2, .slice (some ⟨g, 0, none⟩) n n] ++ flatO G n (ks.drop (posG ownLt ks k)))) :
    RefAt W B v' n (insG ownLt ks k) (putS S k (List.replicate n 0)) (fun y => if y = k then g else G y) := by
  have hlt := fun y s (hs : S y = some s) => h.lt hs
  obtain ⟨h1, h2, h3, h4, h5⟩ := h
  have hkn : k ∉ ks := fun hm => by have := (h2 k).1 hm; rw [hk] at this; cases this
  have hfl : ∀ l : List Own, k ∉ l → flatO (fun y => if y = k then g else G y) n l = flatO G n l := by
    intro l hl
    induction l with
    | nil => rfl
    | cons a l ih =>
      have ha : a ≠ k := fun e => hl (e ▸ List.mem_cons_self ..)
      simp only [flatO, List.flatMap_cons]
      rw [show l.flatMap (cellsO (fun y => if y = k then g else G y) n) = l.flatMap (cellsO G n) from ih (fun hm => hl (List.mem_cons_of_mem _ hm))]
      simp [cellsO, ha]
  refine ⟨insG_sorted ownO k h1 hkn, fun y => ?_, ?_, fun y s hs => ?_, fun y y' s s' hs hs' hG => ?_⟩
  · rw [insG_mem, h2]
    by_cases hy : y = k
    · subst hy; simp [putS]
    · rw [putS_ne _ _ hy]; simp [hy]
  · have e1 : (insG ownLt ks k).length = ks.length + 1 := by
      unfold insG
      have := posG_le (lt := ownLt) ks k
      simp; omega
    have e2 : flatO (fun y => if y = k then g else G y) n (insG ownLt ks k) = flatO G n (ks.take (posG ownLt ks k)) ++ [.string k.1, .string k.2, .slice (some ⟨g, 0, none⟩) n n] ++ flatO G n (ks.drop (posG ownLt ks k)) := by
      unfold insG
      have a1 := hfl (ks.take (posG ownLt ks k)) (fun hm => hkn (List.mem_of_mem_take hm))
      have a2 := hfl (ks.drop (posG ownLt ks k)) (fun hm => hkn (List.mem_of_mem_drop hm))
      rw [← a1, ← a2]
      simp [flatO, cellsO]
    rw [e1, e2]
    exact hown
  · by_cases hy : y = k
    · subst hy
      rw [putS_self] at hs; cases hs
      simp only [if_true]
      exact ⟨by simp, hB, hv1, by rw [hz]; simp⟩
    · rw [putS_ne _ _ hy] at hs
      simp only [if_neg hy]
      obtain ⟨a, c, d, e⟩ := h4 y s hs
      exact ⟨a, c, hv2 y s hs, (hold y s hs).trans e⟩
  · by_cases hy : y = k <;> by_cases hy' : y' = k
    · rw [hy, hy']
    · rw [putS_ne _ _ hy'] at hs'
      have := hlt y' s' hs'
      simp only [if_pos hy, if_neg hy'] at hG; omega
    · rw [putS_ne _ _ hy] at hs
      have := hlt y s hs
      simp only [if_pos hy', if_neg hy] at hG; omega
    · rw [putS_ne _ _ hy] at hs
      rw [putS_ne _ _ hy'] at hs'
      simp only [if_neg hy, if_neg hy'] at hG
      exact h5 y y' s s' hs hs' hG

end Go.Proofs.YtohfnpkoheafkaaDoor.PAg
