/- Maps of the walk whose elements are any values: what a block of entries holds, and the laws for look-up and store. -/
import Derived.Maps.OwnOps
import Derived.WideLaws
import Derived.DeepKeys4
import Derived.KernelRfl
import Derived.RowKit3
namespace Go.Proofs.YtohfnpkoheafkaaDoor
open Go.RowKit
open Go.Maps (Keyed)

/-- Block b is a map that holds M: from keys (encoded by enc) to values. -/
def MapAt {κ : Type} (P : Program) (k : TypeId) (enc : κ → Value) (w : World) (b : Nat) (M : κ → Option Value) : Prop :=
  ∃ es clock, w.heap[b]? = some (.map es clock) ∧ MapKept.Stamped es clock ∧ (∀ e ∈ es.toList, ∃ x, e.key = enc x ∧ (∃ l, keyOf P k e.key = some l) ∧ M x = some e.val) ∧ ∀ x v, M x = some v → ∃ e ∈ es.toList, e.key = enc x ∧ e.val = v

theorem MapAt.lt {κ : Type} {P : Program} {k : TypeId} {enc : κ → Value} {w : World} {b : Nat} {M : κ → Option Value} (h : MapAt P k enc w b M) : b < w.heap.size := by
  obtain ⟨es, clock, hb, _⟩ := h
  exact (Array.getElem?_eq_some_iff.1 hb).1
theorem MapAt.of_block {κ : Type} {P : Program} {k : TypeId} {enc : κ → Value} {w w' : World} {b : Nat} {M : κ → Option Value} (h : MapAt P k enc w b M) (hb : w'.heap[b]? = w.heap[b]?) : MapAt P k enc w' b M := by
  obtain ⟨es, clock, h1, h2⟩ := h
  exact ⟨es, clock, hb.trans h1, h2⟩
theorem MapAt.below {κ : Type} {P : Program} {k : TypeId} {enc : κ → Value} {w w' : World} {b : Nat} {M : κ → Option Value} (h : MapAt P k enc w b M) (hB : Below w.heap.size w w') : MapAt P k enc w' b M :=
  h.of_block (hB.block b h.lt)
theorem MapAt.made {κ : Type} (P : Program) (k : TypeId) (enc : κ → Value) (w : World) : MapAt P k enc (w.alloc (.map #[] 0)) w.heap.size (fun _ => none) :=
  ⟨#[], 0, (MapKept.heap_alloc w _).1, MapKept.stamped_empty 0, by simp, by simp⟩

theorem MapAt.lookup {κ : Type} {P : Program} {k e t : TypeId} {enc : κ → Value} {w : World} {b : Nat} {M : κ → Option Value} (h : MapAt P k enc w b M) (K : Keyed P k) (inj : ∀ x y, enc x = enc y → x = y)
    (ht : P.underlying t = some (.map k e)) {z : Value} (hz : (zeroValue e).run P w = .ok z w) (c : Bool) (x : κ) {l : Lit} (hx : keyOf P k (enc x) = some l) :
    (Instr.lookup t (.map (some b)) (enc x) c).run P w = .ok (if c then .tuple #[(M x).getD z, .bool (M x).isSome] else (M x).getD z) w := by
  obtain ⟨es, clock, hb, hS, h1, h2⟩ := h
  rcases K.find w hx es.toList (fun e he => (h1 e he).choose_spec.2.1) with ⟨f1, f2⟩ | ⟨j, e0, f1, f2, f3⟩
  · have hM : M x = none := by
      cases hm : M x with
      | none => rfl
      | some v => obtain ⟨e, he, hk, _⟩ := h2 x v hm; exact absurd hk (f2 e he)
    cases c <;> simp [Instr.lookup, run_underlying ht, MapKept.run_getObj_map hb, K.check w _ hx, f1, hz, Result.andThen, hM]
  · have hM : M x = some e0.val := by
      obtain ⟨y, hy, _, hm⟩ := h1 e0 (List.mem_of_getElem? f2)
      rw [← inj y x (hy.symm.trans f3)]; exact hm
    cases c <;> simp [Instr.lookup, run_underlying ht, MapKept.run_getObj_map hb, K.check w _ hx, f1, Result.andThen, hM]

def putM {κ : Type} [DecidableEq κ] (M : κ → Option Value) (x : κ) (v : Value) : κ → Option Value := fun y => if y = x then some v else M y
theorem putM_self {κ : Type} [DecidableEq κ] (M : κ → Option Value) (x : κ) (v : Value) : putM M x v x = some v := by simp [putM]
theorem putM_ne {κ : Type} [DecidableEq κ] (M : κ → Option Value) {x y : κ} (v : Value) (h : y ≠ x) : putM M x v y = M y := by simp [putM, h]
theorem MapAt.store {κ : Type} [DecidableEq κ] {P : Program} {k e t : TypeId} {enc : κ → Value} {w : World} {b : Nat} {M : κ → Option Value} (h : MapAt P k enc w b M) (K : Keyed P k) (inj : ∀ x y, enc x = enc y → x = y)
    (ht : P.underlying t = some (.map k e)) (x : κ) (v : Value) {l : Lit} (hx : keyOf P k (enc x) = some l) :
    ∃ o, (Instr.mapUpdate t (.map (some b)) (enc x) v).run P w = .ok () (ChangeMaps.setBlock w b o) ∧ MapAt P k enc (ChangeMaps.setBlock w b o) b (putM M x v) := by
  have hlt := h.lt
  obtain ⟨es, clock, hb, hS, h1, h2⟩ := h
  rcases K.find w hx es.toList (fun e he => (h1 e he).choose_spec.2.1) with ⟨f1, f2⟩ | ⟨j, e0, f1, f2, f3⟩
  · refine ⟨.map (es.push ⟨enc x, v, clock⟩) (clock + 1), ?_, es.push ⟨enc x, v, clock⟩, clock + 1, ?_, MapKept.stamped_push hS f2, ?_, ?_⟩
    · simp [Instr.mapUpdate, run_underlying ht, MapKept.run_getObj_map hb, K.check w false hx, f1, MapKept.run_setObj_map _ hb, Result.andThen, ChangeMaps.setBlock]
    · simp [ChangeMaps.setBlock, hlt]
    · intro e he
      simp only [Array.toList_push, List.mem_append, List.mem_singleton] at he
      rcases he with he | rfl
      · obtain ⟨y, hy, hl, hm⟩ := h1 e he
        refine ⟨y, hy, hl, ?_⟩
        rw [putM_ne _ _ (fun c => f2 e he (by rw [hy, c]))]; exact hm
      · exact ⟨x, rfl, ⟨l, hx⟩, putM_self _ _ _⟩
    · intro y u hy
      simp only [Array.toList_push, List.mem_append, List.mem_singleton]
      by_cases c : y = x
      · rw [c, putM_self] at hy; cases hy; exact ⟨_, .inr rfl, by rw [c], rfl⟩
      · rw [putM_ne _ _ c] at hy
        obtain ⟨e, he, h3⟩ := h2 y u hy
        exact ⟨e, .inl he, h3⟩
  · have hj : es[j]? = some e0 := by simpa using f2
    have hjl : j < es.toList.length := (List.getElem?_eq_some_iff.1 f2).1
    have hlist : (es.modify j (fun e' => { e' with key := enc x, val := v })).toList = es.toList.set j { e0 with key := enc x, val := v } := by rw [Array.toList_modify, ChangeMaps.modify_eq_set _ _ _ _ f2]
    have hS' : MapKept.Stamped (es.modify j (fun e' => { e' with key := enc x, val := v })) clock :=
      MapKept.stamped_modify hS j _ (fun e' he' => rfl) (fun e' _ he' => by rw [hj] at he'; cases he'; exact f3.symm)
    have hpw := ((MapKept.stamped_iff es clock).1 hS).2.2
    have hne : ∀ i e', i ≠ j → es.toList[i]? = some e' → e'.key ≠ enc x := by
      intro i e' hij he' hk
      obtain ⟨hi, he2⟩ := List.getElem?_eq_some_iff.1 he'
      obtain ⟨hj2, he3⟩ := List.getElem?_eq_some_iff.1 f2
      have := List.pairwise_iff_getElem.1 hpw
      rcases Nat.lt_or_gt_of_ne hij with h | h
      · exact this i j hi hj2 h (by rw [he2, he3, hk, f3])
      · exact this j i hj2 hi h (by rw [he2, he3, hk, f3])
    refine ⟨.map (es.modify j (fun e' => { e' with key := enc x, val := v })) clock, ?_, _, clock, ?_, hS', ?_, ?_⟩
    · have hk : (Instr.keyThatStays (((es[j]?).map (·.key)).getD (enc x)) (enc x)).run P w = .ok (enc x) w := by rw [hj]; simp [f3, K.stays w hx]
      have hk' : (Instr.keyThatStays e0.key (enc x)).run P w = .ok (enc x) w := by rw [f3]; exact K.stays w hx
      simp [Instr.mapUpdate, run_underlying ht, MapKept.run_getObj_map hb, K.check w false hx, f1, hj, hk', MapKept.run_setObj_map _ hb, Result.andThen, ChangeMaps.setBlock]
    · simp [ChangeMaps.setBlock, hlt]
    · rw [hlist]
      intro e he
      obtain ⟨i, hi, rfl⟩ := List.getElem_of_mem he
      rw [List.getElem_set]
      split
      · exact ⟨x, rfl, ⟨l, hx⟩, putM_self _ _ _⟩
      · rename_i hij
        simp only [List.length_set] at hi
        have hm := List.getElem_mem (l := es.toList) hi
        obtain ⟨y, hy, hl, hmm⟩ := h1 _ hm
        refine ⟨y, hy, hl, ?_⟩
        rw [putM_ne _ _ (fun c => hne i _ (fun h => hij h.symm) (List.getElem?_eq_getElem hi) (by rw [hy, c]))]; exact hmm
    · intro y u hy
      rw [hlist]
      by_cases c : y = x
      · rw [c, putM_self] at hy; cases hy
        exact ⟨{ e0 with key := enc x, val := v }, List.mem_iff_getElem.2 ⟨j, by simpa using hjl, by simp⟩, by rw [c], rfl⟩
      · rw [putM_ne _ _ c] at hy
        obtain ⟨e, he, hk, hv⟩ := h2 y u hy
        obtain ⟨i, hi, rfl⟩ := List.getElem_of_mem he
        have hij : j ≠ i := by
          intro h
          subst h
          have : es.toList[j] = e0 := (List.getElem?_eq_some_iff.1 f2).2
          rw [this, f3] at hk
          exact c (inj x y hk).symm
        exact ⟨es.toList[i], List.mem_iff_getElem.2 ⟨i, by simpa using hi, by rw [List.getElem_set, if_neg hij]⟩, hk, hv⟩

end Go.Proofs.YtohfnpkoheafkaaDoor
