/- The rows of an ageing: plain lists. -/
import Derived.Test.YtohfnpkoheafkaaDoorPAgx0
import Derived.Test.YtohfnpkoheafkaaDoorM2
import Derived.Test.YtohfnpkoheafkaaDoorG1
namespace Go.Proofs.YtohfnpkoheafkaaDoor.PAg
open Go.RowKit Go.Proofs.YtohfnpkoheafkaaDoorW.PrintWords Go.Proofs.YtohfnpkoheafkaaDoorW.PrintLast Go.Proofs.YtohfnpkoheafkaaDoorW.PrintMore

abbrev Left := S39
abbrev Aged := S37
abbrev Own := ByteArray × ByteArray
def bucketN (age : Int) (lims : List Int) : Nat := lims.findIdx (fun x => decide (age ≤ x))
def ownLt (a b : Own) : Bool := Op.bytesLess a.1.toList b.1.toList || (decide (a.1 = b.1) && Op.bytesLess a.2.toList b.2.toList)
def Left.own (x : Left) : Own := (x.f0, x.f1)
def Aged.own (x : Aged) : Own := (x.f0, x.f1)
/-- a sum with one more amount -/
def addAt (s : List Int) (b : Nat) (n : Int) : List Int := s.modify b (fun z => wrap64 (z + n))
/-- the rows with one more element -/
def putRow (k : Own) (n b : Nat) (amt : Int) : List Aged → List Aged
  | [] => [⟨k.1, k.2, addAt (List.replicate n 0) b amt⟩]
  | r :: rs => if ownLt r.own k = true then r :: putRow k n b amt rs else if r.own = k then ⟨r.f0, r.f1, addAt r.f2 b amt⟩ :: rs else ⟨k.1, k.2, addAt (List.replicate n 0) b amt⟩ :: r :: rs
def rowsOf (l : List Left) (day : Int) (lims : List Int) : List Aged := l.foldl (fun rows x => putRow x.own (lims.length + 1) (bucketN (wrap64 (day - x.f2)) lims) x.f3 rows) []


/-- the sums by owner -/
def putS (S : Own → Option (List Int)) (k : Own) (s : List Int) : Own → Option (List Int) := fun y => if y = k then some s else S y
def stepS (n b : Nat) (amt : Int) (k : Own) (S : Own → Option (List Int)) : Own → Option (List Int) := putS S k (addAt ((S k).getD (List.replicate n 0)) b amt)
def sumsOf (l : List Left) (day : Int) (lims : List Int) : Own → Option (List Int) := l.foldl (fun S x => stepS (lims.length + 1) (bucketN (wrap64 (day - x.f2)) lims) x.f3 x.own S) (fun _ => none)
theorem addAt_length (s : List Int) (b : Nat) (n : Int) : (addAt s b n).length = s.length := by simp [addAt]
theorem putS_self (S : Own → Option (List Int)) (k : Own) (s : List Int) : putS S k s k = some s := by simp [putS]
theorem putS_ne (S : Own → Option (List Int)) {k k' : Own} (s : List Int) (h : k' ≠ k) : putS S k s k' = S k' := by simp [putS, h]

def encO (k : Own) : Value := .agg #[.string k.1, .string k.2]
theorem encO_inj : ∀ x y, encO x = encO y → x = y := by
  rintro ⟨a, b⟩ ⟨c, d⟩ h
  simp [encO] at h
  simp [h]
theorem ag_laidOut : laidOutB Tryd.prog = true := by kernel_rfl
theorem own_keyed : Go.Maps.Keyed Tryd.prog 44 := Go.Maps.Keyed.of_law (deep_law_laid ag_laidOut (m := 2) (by omega) (of_decide_eq_true (by kernel_rfl)) (by kernel_rfl) (by kernel_rfl))

/-- Block mb is a map that holds S: each sum in a block of its own, from block B on. -/
def SumsAt (w : World) (B mb n : Nat) (S : Own → Option (List Int)) (G : Own → Nat) : Prop :=
  MapAt Tryd.prog 44 encO w mb (fun k => (S k).map fun _ => .slice (some ⟨G k, 0, none⟩) n n) ∧ B ≤ mb ∧
  (∀ k s, S k = some s → s.length = n ∧ B ≤ G k ∧ G k ≠ mb ∧ w.heap[G k]? = some (.cells (s.map (Value.int .i64)).toArray 3 (0, 0))) ∧
  ∀ k k' s s', S k = some s → S k' = some s' → G k = G k' → k = k'
theorem SumsAt.blocks {w w' : World} {B mb n : Nat} {S : Own → Option (List Int)} {G : Own → Nat} (h : SumsAt w B mb n S G) (hb : w'.heap[mb]? = w.heap[mb]?) (hg : ∀ k s, S k = some s → w'.heap[G k]? = w.heap[G k]?) : SumsAt w' B mb n S G := by
  obtain ⟨h1, h2, h3, h4⟩ := h
  refine ⟨h1.of_block hb, h2, fun k s hs => ?_, h4⟩
  obtain ⟨a, b, c, d⟩ := h3 k s hs
  exact ⟨a, b, c, (hg k s hs).trans d⟩
theorem SumsAt.lt {w : World} {B mb n : Nat} {S : Own → Option (List Int)} {G : Own → Nat} (h : SumsAt w B mb n S G) {k : Own} {s : List Int} (hs : S k = some s) : G k < w.heap.size := (Array.getElem?_eq_some_iff.1 (h.2.2.1 k s hs).2.2.2).1
theorem SumsAt.below {w w' : World} {B mb n : Nat} {S : Own → Option (List Int)} {G : Own → Nat} (h : SumsAt w B mb n S G) (hB : Below w.heap.size w w') : SumsAt w' B mb n S G :=
  h.blocks (hB.block mb h.1.lt) (fun k s hs => hB.block _ (h.lt hs))
theorem SumsAt.made (w : World) (B n : Nat) (hB : B ≤ w.heap.size) : SumsAt (w.alloc (.map #[] 0)) B w.heap.size n (fun _ => none) (fun _ => 0) :=
  ⟨MapAt.made _ _ _ w, hB, (fun _ _ h => by cases h), (fun _ _ _ _ h => by cases h)⟩

/-- A new owner: a new row of noughts. -/
theorem SumsAt.fresh {w : World} {B mb n : Nat} {S : Own → Option (List Int)} {G : Own → Nat} (h : SumsAt w B mb n S G) (hB : B ≤ w.heap.size) {k : Own} (hk : S k = none) {l : Lit} (hx : keyOf Tryd.prog 44 (encO k) = some l) {W : World} (hW : Below w.heap.size w W) (hz : W.heap[w.heap.size]? = some (.cells ((List.replicate n (0 : Int)).map (Value.int .i64)).toArray 3 (0, 0))) :
    ∃ o, (Instr.mapUpdate 42 (.map (some mb)) (encO k) (.slice (some ⟨w.heap.size, 0, none⟩) n n)).run Tryd.prog W = .ok () (ChangeMaps.setBlock W mb o) ∧
      SumsAt (ChangeMaps.setBlock W mb o) B mb n (putS S k (List.replicate n 0)) (fun y => if y = k then w.heap.size else G y) := by
  have hmb := h.1.lt
  obtain ⟨h1, h2, h3, h4⟩ := h.below hW
  obtain ⟨o, ho, hm⟩ := h1.store own_keyed encO_inj Tryd.underlying42 k (.slice (some ⟨w.heap.size, 0, none⟩) n n) hx
  have hother : ∀ g, g ≠ mb → (ChangeMaps.setBlock W mb o).heap[g]? = W.heap[g]? := fun g hg => by simp [ChangeMaps.setBlock, hg.symm]
  refine ⟨o, ho, ?_, h2, fun y s hs => ?_, fun y y' s s' hs hs' hG => ?_⟩
  · have e : (fun y => (putS S k (List.replicate n 0) y).map fun _ => Value.slice (some ⟨if y = k then w.heap.size else G y, 0, none⟩) n n) = putM (fun y => (S y).map fun _ => Value.slice (some ⟨G y, 0, none⟩) n n) k (.slice (some ⟨w.heap.size, 0, none⟩) n n) := by
      funext y
      by_cases hy : y = k
      · subst hy; simp [putS, putM]
      · simp [putS, putM, hy]
    rw [e]; exact hm
  · by_cases hy : y = k
    · subst hy
      rw [putS_self] at hs; cases hs
      simp only [if_true]
      exact ⟨by simp, hB, by omega, (hother _ (by omega)).trans hz⟩
    · rw [putS_ne _ _ hy] at hs
      simp only [if_neg hy]
      obtain ⟨a, b, c, d⟩ := h3 y s hs
      exact ⟨a, b, c, (hother _ c).trans d⟩
  · by_cases hy : y = k <;> by_cases hy' : y' = k
    · rw [hy, hy']
    · rw [putS_ne _ _ hy'] at hs'
      have := h.lt hs'
      simp only [if_pos hy, if_neg hy'] at hG; omega
    · rw [putS_ne _ _ hy] at hs
      have := h.lt hs
      simp only [if_pos hy', if_neg hy] at hG; omega
    · rw [putS_ne _ _ hy] at hs
      rw [putS_ne _ _ hy'] at hs'
      simp only [if_neg hy, if_neg hy'] at hG
      exact h4 y y' s s' hs hs' hG

/-- An amount more. -/
theorem SumsAt.add {w : World} {B mb n b : Nat} {S : Own → Option (List Int)} {G : Own → Nat} (h : SumsAt w B mb n S G) {k : Own} {s : List Int} (hk : S k = some s) (hb : b < n) (amt : Int) :
    SumsAt (w.setCell ⟨G k, b, none⟩ (.int .i64 (wrap64 (s.getD b 0 + amt)))) B mb n (putS S k (addAt s b amt)) G := by
  obtain ⟨h1, h2, h3, h4⟩ := h
  obtain ⟨ha, hB, hne, hg⟩ := h3 k s hk
  have hother : ∀ g, g ≠ G k → (w.setCell ⟨G k, b, none⟩ (.int .i64 (wrap64 (s.getD b 0 + amt)))).heap[g]? = w.heap[g]? := fun g hg => Below.heap_setCell _ _ _ _ hg
  have e0 : (fun y => (putS S k (addAt s b amt) y).map fun _ => Value.slice (some ⟨G y, 0, none⟩) n n) = fun y => (S y).map fun _ => Value.slice (some ⟨G y, 0, none⟩) n n := by
    funext y
    by_cases hy : y = k
    · subst hy; simp [putS, hk]
    · simp [putS, hy]
  refine ⟨by rw [e0]; exact h1.of_block (hother mb (fun e => hne e.symm)), h2, fun y s' hs => ?_, fun y y' s1 s2 hs hs' hG => ?_⟩
  · by_cases hy : y = k
    · subst hy
      rw [putS_self] at hs; cases hs
      refine ⟨by rw [addAt_length, ha], hB, hne, ?_⟩
      have hsz : b < ((s.map (Value.int .i64)).toArray).size := by simp [ha, hb]
      have : (w.setCell ⟨G y, b, none⟩ (.int .i64 (wrap64 (s.getD b 0 + amt)))).heap[G y]? = some (.cells ((s.map (Value.int .i64)).toArray.set! b (.int .i64 (wrap64 (s.getD b 0 + amt)))) 3 (0, 0)) := blk_set hg b _
      rw [this]
      congr 2
      apply Array.toList_inj.1
      simp only [Array.set!_eq_setIfInBounds, Array.toList_setIfInBounds]
      apply List.ext_getElem
      · simp [addAt]
      · intro i hi1 hi2
        simp only [List.length_set, List.length_map] at hi1
        rw [List.getElem_set]
        simp only [addAt, List.getElem_map, List.getElem_modify]
        by_cases hib : b = i
        · subst hib
          simp [List.getD_eq_getElem?_getD, List.getElem?_eq_getElem hi1]
        · simp [hib]
    · rw [putS_ne _ _ hy] at hs
      obtain ⟨a, c, d, e⟩ := h3 y s' hs
      exact ⟨a, c, d, (hother _ (fun hG => hy (h4 y k s' s hs hk hG))).trans e⟩
  · have f : ∀ z t, putS S k (addAt s b amt) z = some t → ∃ t', S z = some t' := fun z t hz => by
      by_cases hzk : z = k
      · exact ⟨s, by rw [hzk]; exact hk⟩
      · rw [putS_ne _ _ hzk] at hz; exact ⟨t, hz⟩
    obtain ⟨t1, ht1⟩ := f y s1 hs
    obtain ⟨t2, ht2⟩ := f y' s2 hs'
    exact h4 y y' t1 t2 ht1 ht2 hG

end Go.Proofs.YtohfnpkoheafkaaDoor.PAg
