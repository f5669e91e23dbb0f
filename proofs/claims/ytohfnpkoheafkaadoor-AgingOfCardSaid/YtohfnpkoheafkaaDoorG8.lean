/- sort.Slice at the rows of an ageing: what the row holds behind it. -/
import Derived.Test.YtohfnpkoheafkaaDoorG7
namespace Go.Proofs.YtohfnpkoheafkaaDoor.PAg
open Go.RowKit Go.Lib Go.Sort

def flatO (G : Own → Nat) (n : Nat) (ks : List Own) : List Value := ks.flatMap (cellsO G n)
theorem flatO_length (G : Own → Nat) (n : Nat) : ∀ ks : List Own, (flatO G n ks).length = ks.length * 3
  | [] => rfl
  | k :: ks => by
    have := flatO_length G n ks
    simp only [flatO, List.flatMap_cons, List.length_append, List.length_cons] at this ⊢
    rw [this]; simp [cellsO]; omega
theorem flatO_at (G : Own → Nat) (n : Nat) : ∀ (ks : List Own) (i j : Nat) (hi : i < ks.length) (_ : j < 3), (flatO G n ks)[i * 3 + j]? = (cellsO G n ks[i])[j]?
  | k :: ks, 0, j, _, hj => by
    simp only [flatO, List.flatMap_cons, List.getElem_cons_zero]
    rw [List.getElem?_append_left (by simp [cellsO]; omega)]
    congr 1; omega
  | k :: ks, i + 1, j, hi, hj => by
    simp only [flatO, List.flatMap_cons, List.getElem_cons_succ]
    rw [List.getElem?_append_right (by simp [cellsO]; omega)]
    have := flatO_at G n ks i j (by simpa using hi) hj
    rw [← this]
    simp only [flatO, cellsO, List.length_cons, List.length_nil]
    congr 1; omega
theorem flatK_list (G : Own → Nat) (n : Nat) (ks : List Own) : (flatK (cellsO G n) 3 ks.toArray).toList = flatO G n ks := by
  apply List.ext_getElem?
  intro t
  by_cases ht : t < ks.length * 3
  · have h1 := get_flatK (cellsO G n) 3 ks.toArray t (by simpa using ht)
    have hi : t / 3 < ks.length := by omega
    have h2 := flatO_at G n ks (t / 3) (t % 3) hi (by omega)
    rw [show t / 3 * 3 + t % 3 = t by omega] at h2
    rw [h2]
    have hsz : t < (flatK (cellsO G n) 3 ks.toArray).size := by simpa using ht
    rw [getElem!_pos _ t hsz] at h1
    rw [Array.getElem?_toList, Array.getElem?_eq_getElem hsz, h1]
    have e : (ks.toArray)[t / 3]! = ks[t / 3] := by
      rw [getElem!_pos _ _ (by simpa using hi)]; simp
    rw [e]
    have h3 : t % 3 < (cellsO G n ks[t / 3]).length := by simp [cellsO]; omega
    rw [List.getElem?_eq_getElem h3, getElem!_pos (cellsO G n ks[t / 3]) (t % 3) h3]
  · rw [List.getElem?_eq_none (by simp; omega), List.getElem?_eq_none (by rw [flatO_length]; omega)]

theorem holds_of_own {w : World} {base : Nat} {G : Own → Nat} {n blk cap : Nat} {ks : List Own} {cur : Array Value} (hh : w.heap[blk]? = some (.cells cur 37 (0, 0))) (hcs : cur.size = cap * 3) (hkc : ks.length ≤ cap) (htk : cur.toList.take (ks.length * 3) = flatO G n ks) : HoldsK (cellsO G n) 3 w blk 0 ks.toArray := by
  intro j hj
  have hj' : j < ks.length * 3 := by simpa using hj
  have h1 : cur.toList[j]? = (flatO G n ks)[j]? := by rw [← htk, List.getElem?_take, if_pos hj']
  have h2 : (flatO G n ks)[j]? = some ((flatK (cellsO G n) 3 ks.toArray)[j]!) := by
    rw [← flatK_list, Array.getElem?_toList, Array.getElem?_eq_getElem hj, getElem!_pos (flatK (cellsO G n) 3 ks.toArray) j hj]
  have hc : j < cur.size := by rw [hcs]; omega
  refine ⟨?_, by simp [World.frozen?, hh]⟩
  have h3 : cur[j]? = some ((flatK (cellsO G n) 3 ks.toArray)[j]!) := by rw [← Array.getElem?_toList, h1, h2]
  simp [World.cell?, hh, h3]

theorem heap_putRowK {w : World} {G : Own → Nat} {n m blk cap : Nat} {ks : List Own} {cur : Array Value} (os : Array Obj) (hh : w.heap[blk]? = some (.cells cur 37 (0, 0))) (hcs : cur.size = cap * 3) (hkc : ks.length ≤ cap) :
    ∃ cur', (grow (putRowK (cellsO G n) 3 (Sort.ahead w m) blk 0 ks.toArray) os).heap[blk]? = some (.cells cur' 37 (0, 0)) ∧ cur'.size = cap * 3 ∧ cur'.toList.take (ks.length * 3) = flatO G n ks := by
  have hlt : blk < w.heap.size := (Array.getElem?_eq_some_iff.1 hh).1
  refine ⟨putCells id 0 (flatK (cellsO G n) 3 ks.toArray) cur, ?_, by simp [putCells, hcs], ?_⟩
  · have e : (grow (putRowK (cellsO G n) 3 (Sort.ahead w m) blk 0 ks.toArray) os).heap[blk]? = (putRowK (cellsO G n) 3 (Sort.ahead w m) blk 0 ks.toArray).heap[blk]? := by
      simp only [grow]
      rw [Array.getElem?_append_left (by rw [size_putRowK]; exact hlt)]
    rw [e]
    simp only [putRowK, Go.Sort.putRow, mapBlock, Sort.ahead, Array.getElem?_modify, hh]
    simp [onCells]
  · apply List.ext_getElem?
    intro t
    rw [List.getElem?_take]
    by_cases ht : t < ks.length * 3
    · rw [if_pos ht, Array.getElem?_toList]
      have hc : t < cur.size := by rw [hcs]; omega
      have hsz : t < (flatK (cellsO G n) 3 ks.toArray).size := by simpa using ht
      rw [← flatK_list, Array.getElem?_toList, Array.getElem?_eq_getElem hsz]
      simp only [putCells, Array.getElem?_mapIdx, Array.getElem?_eq_getElem hc, Option.map_some]
      rw [if_pos ⟨Nat.zero_le _, by simpa using ht⟩]
      simp only [id, Nat.sub_zero]
      rw [getElem!_pos (flatK (cellsO G n) 3 ks.toArray) t hsz]
    · rw [if_neg ht, List.getElem?_eq_none (by rw [flatO_length]; omega)]

/-- Behind the sort: the owners in their order. -/
theorem sorted_rows {w : World} {base : Nat} {G : Own → Nat} {n Bs : Nat} {done : List Own} {v : Value} (hown : w.ownsRow base 37 3 v done.length (flatO G n done)) (hBs : w.cell? ⟨Bs, 0, none⟩ = some v) (hB : Bs < base) (hbase : base ≤ w.heap.size) (hnd : done.Nodup) (hlen : done.length ≤ 10000) :
    Calls Tryd.prog 17 #[.iface 28 v, .func (.func 18) #[] #[.pointer (some ⟨Bs, 0, none⟩)]] w fun e w' =>
      e = .returned (.tuple #[]) ∧ ∃ ks : List Own, ks.Perm done ∧ ks.Pairwise (fun a b => ownLt a b = true) ∧ w'.ownsRow base 37 3 v ks.length (flatO G n ks) ∧ Below base w w' ∧ (∀ g, g < w.heap.size → some g ≠ v.ownBlock → w'.heap[g]? = w.heap[g]?) := by
  have hgrow : ∀ os : Array Obj, (∀ g, g < w.heap.size → (grow w os).heap[g]? = w.heap[g]?) := fun os g hg => by simp only [grow]; rw [Array.getElem?_append_left hg]
  by_cases h1 : done.length ≤ 1
  · have hpw : done.Pairwise (fun a b => ownLt a b = true) := by
      match done, h1 with
      | [], _ => exact List.Pairwise.nil
      | [a], _ => exact List.pairwise_singleton _ _
    obtain ⟨p, c, rfl⟩ : ∃ p c, v = .slice p done.length c := by
      rcases hown.2 with ⟨rfl, h⟩ | ⟨g, cap, cur, rfl, _⟩
      · exact ⟨none, 0, by rw [h]⟩
      · exact ⟨_, _, rfl⟩
    refine (go_sort_tiny p done.length c h1 _ w).mono ?_
    rintro e w' ⟨rfl, os, rfl⟩
    refine ⟨rfl, done, List.Perm.refl _, hpw, ?_, ⟨rfl, rfl, rfl, by simp [grow], fun k hk => hgrow os k (by omega)⟩, fun g hg _ => hgrow os g hg⟩
    obtain ⟨a, b⟩ := hown
    refine ⟨a, ?_⟩
    rcases b with b | ⟨g, cap, cur, hv, hg, hh, r⟩
    · exact .inl b
    · exact .inr ⟨g, cap, cur, hv, hg, (hgrow os g (Array.getElem?_eq_some_iff.1 hh).1).trans hh, r⟩
  · obtain ⟨hl, hr⟩ := hown
    rcases hr with ⟨_, h0⟩ | ⟨blk, cap, cur, rfl, hg, hh, hnc, hcm, hcs, htk⟩
    · omega
    · have hlt : blk < w.heap.size := (Array.getElem?_eq_some_iff.1 hh).1
      have hs := go_sort G n blk cap Bs done.toArray (by simp; omega) (by simp; omega) w (holds_of_own (base := base) hh hcs hnc htk) hlt (by simpa using hBs) (by omega) (by omega)
      rw [show done.toArray.size = done.length by simp] at hs
      refine hs.mono ?_
      rintro e w' ⟨rfl, d', m, os, ⟨hp1, _, hp3⟩, hso, rfl⟩
      have hp1' : d'.size = done.length := by simpa using hp1
      have hperm : d'.toList.Perm done := by
        have e1 : d'.extract 0 done.length = d' := by rw [← hp1']; simp
        have e2 : done.toArray.extract 0 done.length = done.toArray := by simp
        rw [e1, e2] at hp3
        simpa using hp3
      have hnd' : d'.toList.Nodup := hperm.nodup_iff.2 hnd
      have hpw : d'.toList.Pairwise (fun a b => ownLt a b = true) := by
        rw [List.pairwise_iff_getElem]
        intro i j hi hj hij
        simp only [Array.length_toList] at hi hj
        have h2 := hso i j (Nat.zero_le _) hij (by omega)
        rw [getElem!_pos _ i hi, getElem!_pos _ j hj] at h2
        simp only [Array.getElem_toList]
        rcases ownLt_tri d'[i] d'[j] with h | h | h
        · exfalso
          have := (List.pairwise_iff_getElem.1 hnd') i j (by simpa using hi) (by simpa using hj) hij
          exact this (by simpa using h)
        · exact h
        · rw [h2] at h; cases h
      have hlen' : d'.toList.length = done.length := by simpa using hp1'
      obtain ⟨cur', hh', hcs', htk'⟩ := heap_putRowK (w := w) (G := G) (n := n) (m := m) (ks := d'.toList) os hh hcs (by omega)
      rw [show d'.toList.toArray = d' by simp] at hh'
      have hoth : ∀ g, g < w.heap.size → g ≠ blk → (grow (putRowK (cellsO G n) 3 (Sort.ahead w m) blk 0 d') os).heap[g]? = w.heap[g]? := fun g hg hne => by
        simp only [grow]
        rw [Array.getElem?_append_left (by rw [size_putRowK]; exact hg)]
        simp only [putRowK, Go.Sort.putRow, mapBlock, Sort.ahead, Array.getElem?_modify]
        rw [if_neg (fun e => hne e.symm)]
      refine ⟨rfl, d'.toList, hperm, hpw, ⟨by rw [flatO_length], .inr ⟨blk, cap, cur', by rw [hlen'], hg, hh', by omega, hcm, hcs', htk'⟩⟩, ⟨rfl, rfl, rfl, by simp [grow, size_putRowK, Sort.ahead], fun k hk => hoth k (by omega) (by omega)⟩, fun g hg hne => hoth g hg (fun e => hne (by rw [e]; rfl))⟩

end Go.Proofs.YtohfnpkoheafkaaDoor.PAg
