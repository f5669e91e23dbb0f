/- Ranging over a map whose elements are any values: which keys are still to come. -/
import Derived.Test.YtohfnpkoheafkaaDoorM1
import Derived.Maps.RangeWalk
namespace Go.Proofs.YtohfnpkoheafkaaDoor
open Go.RowKit
open Go.Maps (Keyed)
open Go.ChangeMaps (setBlock)
open Go.MapKept (heap_set)

/-- Block b is a map that holds M, block r an iterator over it, 'todo' the keys that are still to come. -/
def RangeAt {κ : Type} (P : Program) (k : TypeId) (enc : κ → Value) (w : World) (b r : Nat) (M : κ → Option Value) (todo : List κ) : Prop :=
  ∃ es clock since seen c0, w.heap[b]? = some (.map es clock) ∧ MapKept.Stamped es clock ∧ (∀ e ∈ es.toList, ∃ x, e.key = enc x ∧ (∃ l, keyOf P k e.key = some l) ∧ M x = some e.val) ∧ (∀ x v, M x = some v → ∃ e ∈ es.toList, e.key = enc x ∧ e.val = v) ∧
    w.heap[r]? = some (.mapIter (some b) since seen c0) ∧ (∀ x ∈ es.toList, x.born < since) ∧ since ≤ c0 ∧ since ≤ clock ∧ (leftOf es seen).toList.map (·.key) = todo.map enc

section
variable {κ : Type} {P : Program} {k e t : TypeId} {enc : κ → Value} {w w' : World} {b r : Nat} {M : κ → Option Value} {todo : List κ}
theorem RangeAt.map (h : RangeAt P k enc w b r M todo) : MapAt P k enc w b M := by
  obtain ⟨es, clock, since, seen, c0, h1, h2, h3, h4, _⟩ := h
  exact ⟨es, clock, h1, h2, h3, h4⟩
theorem RangeAt.lt (h : RangeAt P k enc w b r M todo) : b < w.heap.size ∧ r < w.heap.size := by
  obtain ⟨es, clock, since, seen, c0, h1, h2, h3, h4, h5, _⟩ := h
  exact ⟨(Array.getElem?_eq_some_iff.1 h1).1, (Array.getElem?_eq_some_iff.1 h5).1⟩
theorem RangeAt.of_blocks (h : RangeAt P k enc w b r M todo) (hb : w'.heap[b]? = w.heap[b]?) (hr : w'.heap[r]? = w.heap[r]?) : RangeAt P k enc w' b r M todo := by
  obtain ⟨es, clock, since, seen, c0, h1, h2, h3, h4, h5, h6⟩ := h
  exact ⟨es, clock, since, seen, c0, hb.trans h1, h2, h3, h4, hr.trans h5, h6⟩
theorem RangeAt.below (h : RangeAt P k enc w b r M todo) (hB : Below w.heap.size w w') : RangeAt P k enc w' b r M todo := h.of_blocks (hB.block b h.lt.1) (hB.block r h.lt.2)

theorem nodup_of_left {es : Array MapEntry} {seen : Array Nat} {clock : Nat} (hS : MapKept.Stamped es clock) : ((leftOf es seen).toList.map (·.born)).Nodup ∧ (leftOf es seen).toList.Pairwise (fun x y => x.key ≠ y.key) := by
  obtain ⟨_, h2, h3⟩ := (MapKept.stamped_iff es clock).1 hS
  have hs : (leftOf es seen).toList.Sublist es.toList := by unfold leftOf; rw [Array.toList_filter]; exact List.filter_sublist
  exact ⟨(hs.map _).nodup h2, h3.sublist hs⟩

theorem todo_of : ∀ (l : List MapEntry), (∀ e ∈ l, ∃ x, e.key = enc x ∧ M x = some e.val) → ∃ todo : List κ, l.map (·.key) = todo.map enc ∧ ∀ x ∈ todo, (M x).isSome = true
  | [], _ => ⟨[], rfl, fun x hx => by cases hx⟩
  | a :: l, h => by
    obtain ⟨todo, h1, h2⟩ := todo_of l (fun e he => h e (List.mem_cons_of_mem _ he))
    obtain ⟨x, hx, hm⟩ := h a (List.mem_cons_self ..)
    refine ⟨x :: todo, by simp [h1, hx], fun y hy => ?_⟩
    rcases List.mem_cons.1 hy with rfl | hy
    · rw [hm]; rfl
    · exact h2 y hy

/-- 'range m' -/
theorem MapAt.start (h : MapAt P k enc w b M) (inj : ∀ x y, enc x = enc y → x = y) (ht : P.underlying t = some (.map k e)) :
    ∃ (todo : List κ) (o : Obj), (Instr.range t (.map (some b))).run P w = .ok (.pointer (some ⟨w.heap.size, 0, none⟩)) (w.alloc o) ∧ RangeAt P k enc (w.alloc o) b w.heap.size M todo ∧ todo.Nodup ∧ ∀ x, x ∈ todo ↔ (M x).isSome = true := by
  have hlt := h.lt
  obtain ⟨es, clock, hb, hS, h1, h2⟩ := h
  have hl : (leftOf es #[]) = es := by simp [leftOf]
  obtain ⟨todo, ht1, ht2⟩ := todo_of (enc := enc) (M := M) es.toList (fun e he => by obtain ⟨x, a, _, c⟩ := h1 e he; exact ⟨x, a, c⟩)
  have hnd : todo.Nodup := by
    have h3 := ((MapKept.stamped_iff es clock).1 hS).2.2
    have h4 : (es.toList.map (·.key)).Nodup := List.pairwise_map.2 h3
    rw [ht1] at h4
    exact (List.pairwise_map.1 h4).imp (fun hne he => hne (by rw [he]))
  refine ⟨todo, .mapIter (some b) clock #[] clock, run_range_map w t k e b es clock ht hb, ⟨es, clock, clock, #[], clock, (Go.MapKept.heap_alloc w _).2 b hlt |>.trans hb, hS, h1, h2, (Go.MapKept.heap_alloc w _).1, hS.1, Nat.le_refl _, Nat.le_refl _, by rw [hl]; exact ht1⟩, hnd, fun x => ⟨ht2 x, fun hx => ?_⟩⟩
  obtain ⟨v, hv⟩ := Option.isSome_iff_exists.1 hx
  obtain ⟨e0, he, hk, _⟩ := h2 x v hv
  have : enc x ∈ todo.map enc := by rw [← ht1, ← hk]; exact List.mem_map.2 ⟨e0, he, rfl⟩
  obtain ⟨y, hy, hyx⟩ := List.mem_map.1 this
  rw [← inj y x hyx]; exact hy

theorem filter_one (l1 l2 : List MapEntry) (e : MapEntry) (h : ((l1 ++ e :: l2).map (·.born)).Nodup) : (l1 ++ e :: l2).filter (fun x => !(x.born == e.born)) = l1 ++ l2 := by
  rw [List.map_append, List.map_cons] at h
  obtain ⟨_, h2, h3⟩ := List.nodup_append.1 h
  have hn1 : ∀ x ∈ l1, x.born ≠ e.born := fun x hx => h3 _ (List.mem_map.2 ⟨x, hx, rfl⟩) _ (List.mem_cons_self ..)
  have hn2 : ∀ x ∈ l2, x.born ≠ e.born := fun x hx he => (List.nodup_cons.1 h2).1 (List.mem_map.2 ⟨x, hx, he⟩)
  rw [List.filter_append, List.filter_cons]
  simp only [beq_self_eq_true, Bool.not_true, Bool.false_eq_true, if_false]
  rw [List.filter_eq_self.2 (fun x hx => by simpa using hn1 x hx), List.filter_eq_self.2 (fun x hx => by simpa using hn2 x hx)]

/-- The step. -/
theorem RangeAt.next (h : RangeAt P k enc w b r M todo) (inj : ∀ x y, enc x = enc y → x = y) (ty : TypeId) :
    (todo = [] ∧ (Instr.next (.pointer (some ⟨r, 0, none⟩)) false ty).run P w = .ok (.tuple #[.bool false]) w) ∨
    ∃ l1 x l2 v w', todo = l1 ++ x :: l2 ∧ M x = some v ∧ (Instr.next (.pointer (some ⟨r, 0, none⟩)) false ty).run P w = .ok (.tuple #[.bool true, enc x, v]) w' ∧ RangeAt P k enc w' b r M (l1 ++ l2) ∧
      w.grownBy w' (some r) ∧ w'.heap.size = w.heap.size ∧ (Instr.entry (.pointer (some ⟨r, 0, none⟩))).run P w' = .ok (.tuple #[enc x, v]) w' := by
  obtain ⟨es, clock, since, seen, c0, hb, hS, h1, h2, hr, hold, hsc, hsk, hk⟩ := h
  have hne : r ≠ b := by intro e; rw [e, hb] at hr; cases hr
  rcases run_next_at (P := P) w ty r b since c0 seen es clock hr hb hold hsc with ⟨h0, hrun⟩ | ⟨e, he, w1, hal, hrun⟩
  · left
    refine ⟨?_, hrun⟩
    have hl : (leftOf es seen).toList = [] := List.eq_nil_of_length_eq_zero (by simpa using h0)
    rw [hl] at hk
    exact (List.map_eq_nil_iff.1 hk.symm)
  · right
    obtain ⟨hem, hes⟩ := mem_left he
    obtain ⟨y, hy, hyl, hym⟩ := h1 e hem
    obtain ⟨L1, L2, hL⟩ := List.append_of_mem he
    rw [hL, List.map_append, List.map_cons] at hk
    obtain ⟨l1, l2', rfl, hk1, hk2⟩ := List.map_eq_append_iff.1 hk.symm
    obtain ⟨x, l2, rfl, hx, hk3⟩ := List.map_eq_cons_iff.1 hk2
    obtain ⟨x', hx', _, hm'⟩ := h1 e hem
    have hr1 : w1.heap[r]? = some (.mapIter (some b) since seen c0) := by rcases hal with rfl | rfl <;> exact hr
    have hb1 : w1.heap[b]? = some (.map es clock) := by rcases hal with rfl | rfl <;> exact hb
    have hset := heap_set (o' := .mapIter (some b) since (seen.push e.born) clock) hr1
    have hb' : (setBlock w1 r (.mapIter (some b) since (seen.push e.born) clock)).heap[b]? = some (.map es clock) := (hset.2 b (fun e1 => hne e1.symm)).trans hb1
    have hmx : M x = some e.val := by rw [inj x x' (hx.trans hx')]; exact hm'
    refine ⟨l1, x, l2, e.val, _, rfl, hmx, by rw [hx]; exact hrun, ⟨es, clock, since, seen.push e.born, clock, hb', hS, h1, h2, hset.1, hold, hsk, hsk, ?_⟩, ?_, ?_, by rw [hx]; exact run_entry_at _ r b since seen es clock e hset.1 hb' hem ((MapKept.stamped_iff es clock).1 hS).2.1⟩
    · have hlf : (leftOf es (seen.push e.born)).toList = (leftOf es seen).toList.filter (fun x => !(x.born == e.born)) := by
        unfold leftOf
        rw [Array.toList_filter, Array.toList_filter, List.filter_filter]
        congr 1
        funext z
        rw [Array.contains_push]
        cases seen.contains z.born <;> cases (z.born == e.born) <;> rfl
      rw [hlf, hL, filter_one L1 L2 e (by rw [← hL]; exact (nodup_of_left hS).1), List.map_append, List.map_append, hk1, hk3]
    · rcases hal with rfl | rfl <;> exact ⟨rfl, rfl, rfl, by simp [setBlock], fun i _ hi => hset.2 i (fun e1 => hi (by rw [e1]))⟩
    · rcases hal with rfl | rfl <;> simp [setBlock]
end

end Go.Proofs.YtohfnpkoheafkaaDoor
