/- What the rates of a table are, whatever their order; a table stands where a block ahead of it is written. -/
import Derived.Test.YtncbfpigojeekaaDoorE5
namespace Go.Proofs.YtncbfpigojeekaaDoor
open Go.RowKit Go.Lib
open Go.Maps (Keyed)

def same (q r : Rate) : Prop := q.key = r.key ∧ q.day = r.day
theorem dup_false {L : List Rate} {r : Rate} : dup L r = false ↔ ∀ q ∈ L, ¬ same q r := by
  unfold dup same
  rw [List.any_eq_false]
  simp
theorem checkL_iff (base : ByteArray) : ∀ (l done : List Rate), (checkL base done l).2 = 0 ↔ (∀ r ∈ l, checkS base r = 0) ∧ l.Pairwise (fun q r => ¬ same q r) ∧ ∀ q ∈ done, ∀ r ∈ l, ¬ same q r
  | [], done => by simp [checkL]
  | x :: l, done => by
    unfold checkL
    by_cases h1 : checkS base x = 0
    · cases h2 : dup done x with
      | true =>
        have e1 : errOf base done x = 8 := by unfold errOf; simp [h1, h2]
        rw [e1]
        refine ⟨fun h => ?_, fun h => ?_⟩
        · rw [if_pos (by decide)] at h; exact absurd h (by decide : ¬ (8 : Int) = 0)
        have : dup done x = false := dup_false.2 (fun q hq => h.2.2 q hq x (List.mem_cons_self ..))
        rw [h2] at this; cases this
      | false =>
        have e1 : errOf base done x = 0 := by unfold errOf; simp [h1, h2]
        rw [e1, if_neg (by simp), checkL_iff base l (done ++ [x])]
        have h3 := dup_false.1 h2
        constructor
        · rintro ⟨a, b, c⟩
          refine ⟨fun r hr => ?_, List.pairwise_cons.2 ⟨fun r hr => c x (by simp) r hr, b⟩, fun q hq r hr => ?_⟩
          · rcases List.mem_cons.1 hr with rfl | hr
            · exact h1
            · exact a r hr
          · rcases List.mem_cons.1 hr with rfl | hr
            · exact h3 q hq
            · exact c q (List.mem_append_left _ hq) r hr
        · rintro ⟨a, b, c⟩
          obtain ⟨b1, b2⟩ := List.pairwise_cons.1 b
          refine ⟨fun r hr => a r (List.mem_cons_of_mem _ hr), b2, fun q hq r hr => ?_⟩
          rcases List.mem_append.1 hq with hq | hq
          · exact c q hq r (List.mem_cons_of_mem _ hr)
          · rw [List.mem_singleton.1 hq]; exact b1 r hr
    · have e1 : errOf base done x = checkS base x := by unfold errOf; simp [h1]
      rw [e1]
      refine ⟨fun h => ?_, fun h => absurd (h.1 x (List.mem_cons_self ..)) h1⟩
      rw [if_pos h1] at h
      exact absurd h h1
theorem newS_iff (base : ByteArray) (l : List Rate) : (newS base l).2 = 0 ↔ codeB base = true ∧ l.length ≤ 2000 ∧ (∀ r ∈ l, checkS base r = 0) ∧ l.Pairwise (fun q r => ¬ same q r) := by
  unfold newS
  cases h : codeB base with
  | false => simp
  | true =>
    by_cases h2 : 2000 < l.length
    · simp [h2]; intro h3; omega
    · rw [if_neg (by simp), if_neg h2, checkL_iff]
      constructor
      · rintro ⟨a, b, _⟩; exact ⟨rfl, by omega, a, b⟩
      · rintro ⟨_, _, a, b⟩; exact ⟨a, b, fun q hq => by cases hq⟩
theorem newS_reverse (base : ByteArray) (l : List Rate) : (newS base l.reverse).2 = 0 ↔ (newS base l).2 = 0 := by
  rw [newS_iff, newS_iff]
  simp only [List.length_reverse, List.mem_reverse, List.pairwise_reverse]
  have e : l.Pairwise (fun a b => ¬ same b a) ↔ l.Pairwise (fun a b => ¬ same a b) :=
    ⟨fun h => h.imp (fun h1 h2 => h1 ⟨h2.1.symm, h2.2.symm⟩), fun h => h.imp (fun h1 h2 => h1 ⟨h2.1.symm, h2.2.symm⟩)⟩
  rw [e]
theorem findP_reverse {l : List Rate} (h1 : Apart l) (h2 : Apart l.reverse) (cur : ByteArray) (kind day : Int) : findP l.reverse cur kind day = findP l cur kind day := by
  refine findP_eq h2 _ (fun h q hq => findP_none h1 h q (List.mem_reverse.1 hq)) (fun r h => ?_)
  obtain ⟨a, b, c⟩ := findP_some h1 h
  exact ⟨List.mem_reverse.2 a, b, fun q hq => c q (List.mem_reverse.1 hq)⟩
theorem findS_reverse {base : ByteArray} {l : List Rate} (h1 : Apart l) (h2 : Apart l.reverse) (cur : ByteArray) (kind day : Int) : findS base l.reverse cur kind day = findS base l cur kind day := by
  unfold findS; rw [findP_reverse h1 h2]

/-- Find's answer for a foreign currency. -/
theorem find_ways {base : ByteArray} {l : List Rate} (hA : Apart l) (cur : ByteArray) (kind day : Int) (hne : (cur == base) = false) :
    (∃ e, findS base l cur kind day = (0, 0, e) ∧ e ≠ 0 ∧ (e = 20 → ∀ q ∈ l, ¬ Match cur kind day q)) ∨
    (∃ r, findS base l cur kind day = (r.n, r.d, 0) ∧ r ∈ l ∧ Match cur kind day r ∧ ∀ q ∈ l, Match cur kind day q → q.day ≤ r.day) := by
  unfold findS
  by_cases h1 : codeB cur = false
  · exact .inl ⟨13, by rw [if_pos h1], by decide, fun h => absurd h (by decide)⟩
  rw [if_neg h1]
  by_cases h2 : (decide (1 ≤ kind) && decide (kind ≤ 3)) = false
  · exact .inl ⟨10, by rw [if_pos h2], by decide, fun h => absurd h (by decide)⟩
  rw [if_neg h2]
  by_cases h3 : isDay day = false
  · exact .inl ⟨11, by rw [if_pos h3], by decide, fun h => absurd h (by decide)⟩
  rw [if_neg h3, if_neg (by rw [hne]; simp)]
  cases hf : findP l cur kind day with
  | none => exact .inl ⟨20, rfl, by decide, fun _ => findP_none hA hf⟩
  | some r => obtain ⟨a, b, c⟩ := findP_some hA hf; exact .inr ⟨r, rfl, a, b, c⟩

/-- the latest day among the first k rates -/
def TopAt (l : List Rate) (cur : ByteArray) (kind day : Int) (k : Nat) (o : Option Int) : Prop :=
  match o with
  | none => ∀ q ∈ l.take k, ¬ Match cur kind day q
  | some b => (∃ q ∈ l.take k, Match cur kind day q ∧ q.day = b) ∧ ∀ q ∈ l.take k, Match cur kind day q → q.day ≤ b
theorem TopAt.skip {l : List Rate} {cur : ByteArray} {kind day : Int} {k : Nat} {o : Option Int} (h : TopAt l cur kind day k o) {q : Rate} (ht : l.take (k + 1) = l.take k ++ [q])
    (hn : Match cur kind day q → ∃ a, o = some a ∧ q.day ≤ a) : TopAt l cur kind day (k + 1) o := by
  cases o with
  | none =>
    intro x hx
    rw [ht] at hx
    rcases List.mem_append.1 hx with h1 | h1
    · exact h x h1
    · rw [List.mem_singleton.1 h1]; intro hm; obtain ⟨a, ha, _⟩ := hn hm; cases ha
  | some a =>
    obtain ⟨⟨x, hx, hxm⟩, hall⟩ := h
    refine ⟨⟨x, by rw [ht]; exact List.mem_append_left _ hx, hxm⟩, fun x hx hxm => ?_⟩
    rw [ht] at hx
    rcases List.mem_append.1 hx with h1 | h1
    · exact hall x h1 hxm
    · rw [List.mem_singleton.1 h1] at hxm ⊢
      obtain ⟨a', ha', h2⟩ := hn hxm
      cases ha'
      exact h2
theorem TopAt.take {l : List Rate} {cur : ByteArray} {kind day : Int} {k : Nat} {o : Option Int} (h : TopAt l cur kind day k o) {q : Rate} (ht : l.take (k + 1) = l.take k ++ [q])
    (hm : Match cur kind day q) (hgt : ∀ a, o = some a → a ≤ q.day) : TopAt l cur kind day (k + 1) (some q.day) := by
  refine ⟨⟨q, by rw [ht]; simp, hm, rfl⟩, fun x hx hxm => ?_⟩
  rw [ht] at hx
  rcases List.mem_append.1 hx with h1 | h1
  · cases o with
    | none => exact absurd hxm (h x h1)
    | some a => have := h.2 x h1 hxm; have := hgt a rfl; omega
  · rw [List.mem_singleton.1 h1]; exact Int.le_refl _
/-- The latest day that was found is that of the rate. -/
theorem TopAt.done {l : List Rate} {cur : ByteArray} {kind day : Int} {o : Option Int} (h : TopAt l cur kind day l.length o) {r : Rate} (hr : r ∈ l) (hm : Match cur kind day r) (ha : ∀ q ∈ l, Match cur kind day q → q.day ≤ r.day) : o = some r.day := by
  cases o with
  | none => exact absurd hm (h r (by rw [List.take_length]; exact hr))
  | some b =>
    obtain ⟨⟨q, hq, hqm, hqb⟩, hall⟩ := h
    rw [List.take_length] at hq hall
    have := ha q hq hqm
    have := hall r hr hm
    rw [show b = r.day by omega]
theorem TopAt.nothing {l : List Rate} {cur : ByteArray} {kind day : Int} {o : Option Int} (h : TopAt l cur kind day l.length o) (ha : ∀ q ∈ l, ¬ Match cur kind day q) : o = none := by
  cases o with
  | none => rfl
  | some b => obtain ⟨⟨q, hq, hqm, _⟩, _⟩ := h; rw [List.take_length] at hq; exact absurd hqm (ha q hq)

theorem Tab.of_heap {w w' : World} {B tb : Nat} {base : ByteArray} {n : Int} {L : List Rate} (h : Tab w B tb base n L) (hH : ∀ g, B ≤ g → w'.heap[g]? = w.heap[g]?) : Tab w' B tb base n L := by
  obtain ⟨mb, M, h1, h2, h3, h4, h5, h6⟩ := h
  refine ⟨mb, M, h1, by rw [hH tb h1]; exact h2, h3, h4.of_block (hH mb h3), fun k => ?_, h6⟩
  rcases h5 k with h | ⟨v, hv, ho, hne⟩
  · exact .inl h
  · refine .inr ⟨v, hv, ⟨ho.1, ?_⟩, hne⟩
    rcases ho.2 with h | ⟨g, cap, cur, e, hbg, hg, rest⟩
    · exact .inl h
    · exact .inr ⟨g, cap, cur, e, hbg, by rw [hH g hbg]; exact hg, rest⟩
theorem Tab.setCell {w : World} {B tb : Nat} {base : ByteArray} {n : Int} {L : List Rate} (h : Tab w B tb base n L) (a : Addr) (ha : a.block < B) (v : Value) : Tab (w.setCell a v) B tb base n L :=
  h.of_heap fun g hg => Below.heap_setCell _ _ _ _ (by omega)

end Go.Proofs.YtncbfpigojeekaaDoor
