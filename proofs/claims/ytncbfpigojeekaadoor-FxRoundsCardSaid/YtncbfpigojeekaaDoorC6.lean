/- The table of rates: its series as lists, sorted by day; how the table lies in memory. -/
import Derived.Test.YtncbfpigojeekaaDoorC5
namespace Go.Proofs.YtncbfpigojeekaaDoor
open Go.RowKit Go.Lib
open Go.Maps (Keyed)

def Rate.key (r : Rate) : FKey := (r.cur, r.kind)
def insB (r : Rate) (l : List Rate) : List Rate := l.take (lowB l r.day) ++ r :: l.drop (lowB l r.day)
def ser (L : List Rate) (k : FKey) : List Rate := L.foldl (fun acc r => if r.key = k then insB r acc else acc) []
theorem ser_snoc (L : List Rate) (r : Rate) (k : FKey) : ser (L ++ [r]) k = if r.key = k then insB r (ser L k) else ser L k := by simp [ser, List.foldl_append]
def dup (L : List Rate) (r : Rate) : Bool := L.any fun q => decide (q.key = r.key) && decide (q.day = r.day)
theorem mem_insB (r q : Rate) (l : List Rate) : q ∈ insB r l ↔ q = r ∨ q ∈ l := by
  unfold insB
  have h : q ∈ l ↔ q ∈ l.take (lowB l r.day) ∨ q ∈ l.drop (lowB l r.day) := by
    rw [← List.mem_append, List.take_append_drop]
  simp only [List.mem_append, List.mem_cons]
  rw [h]
  constructor
  · rintro (h | h | h)
    · exact .inr (.inl h)
    · exact .inl h
    · exact .inr (.inr h)
  · rintro (h | h | h)
    · exact .inr (.inl h)
    · exact .inl h
    · exact .inr (.inr h)
theorem length_insB (r : Rate) (l : List Rate) : (insB r l).length = l.length + 1 := by
  unfold insB
  have : lowB l r.day ≤ l.length := List.countP_le_length
  simp only [List.length_append, List.length_cons, List.length_take, List.length_drop]
  omega
theorem snoc_ind {α : Type} {p : List α → Prop} (h0 : p []) (h1 : ∀ l a, p l → p (l ++ [a])) (l : List α) : p l := by
  have : ∀ m : List α, p m.reverse := fun m => by
    induction m with
    | nil => exact h0
    | cons a m ih => rw [List.reverse_cons]; exact h1 _ _ ih
  have h := this l.reverse
  rwa [List.reverse_reverse] at h
theorem mem_ser (L : List Rate) (k : FKey) : ∀ q, q ∈ ser L k ↔ q ∈ L ∧ q.key = k := by
  induction L using snoc_ind with
  | h0 => intro q; simp [ser]
  | h1 L r ih =>
    intro q
    rw [ser_snoc]
    by_cases h : r.key = k
    · rw [if_pos h, mem_insB, ih, List.mem_append, List.mem_singleton]
      constructor
      · rintro (rfl | ⟨h1, h2⟩)
        · exact ⟨.inr rfl, h⟩
        · exact ⟨.inl h1, h2⟩
      · rintro ⟨h1 | rfl, h2⟩
        · exact .inr ⟨h1, h2⟩
        · exact .inl rfl
    · rw [if_neg h, ih, List.mem_append, List.mem_singleton]
      constructor
      · rintro ⟨h1, h2⟩; exact ⟨.inl h1, h2⟩
      · rintro ⟨h1 | rfl, h2⟩
        · exact ⟨h1, h2⟩
        · exact absurd h2 h
theorem length_ser (L : List Rate) (k : FKey) : (ser L k).length ≤ L.length := by
  induction L using snoc_ind with
  | h0 => simp [ser]
  | h1 L r ih =>
    rw [ser_snoc, List.length_append, List.length_singleton]
    split
    · rw [length_insB]; omega
    · omega
/-- the list's rates differ in their places -/
inductive Apart : List Rate → Prop
  | nil : Apart []
  | snoc {L : List Rate} {r : Rate} : Apart L → dup L r = false → Apart (L ++ [r])

theorem Rising.low_lt {l : List Rate} (h : Rising l) (day : Int) (i : Nat) (hi : i < l.length) : i < lowB l day ↔ l[i].day < day := by
  -- the days before 'day' are a prefix
  have key : ∀ (l : List Rate), Rising l → ∀ i (hi : i < l.length), i < lowB l day ↔ l[i].day < day := by
    intro l
    induction l with
    | nil => intro _ i hi; cases hi
    | cons a t ih =>
      intro hR i hi
      have hRt : Rising t := fun x y hxy hy => by
        have := hR (x + 1) (y + 1) (by omega) (by simpa using hy)
        simpa using this
      unfold lowB
      by_cases ha : a.day < day
      · rw [List.countP_cons_of_pos (by simpa using ha)]
        cases i with
        | zero => simp [ha]
        | succ i =>
          have := ih hRt i (by simpa using hi)
          unfold lowB at this
          simp only [List.getElem_cons_succ]
          omega
      · rw [List.countP_cons_of_neg (by simpa using ha)]
        have hz : t.countP (fun r => decide (r.day < day)) = 0 := by
          rw [List.countP_eq_zero]
          intro q hq
          obtain ⟨j, hj, rfl⟩ := List.getElem_of_mem hq
          have := hR 0 (j + 1) (by omega) (by simpa using hj)
          simp at this
          simp; omega
        rw [hz]
        constructor
        · intro h; omega
        · intro h
          cases i with
          | zero => simp at h; omega
          | succ i =>
            have := hR 0 (i + 1) (by omega) hi
            simp at this h
            omega
  exact key l h i hi

theorem Rising.dup {L : List Rate} {r : Rate} (h : Rising (ser L r.key)) : dup L r = true ↔ ∃ hi : lowB (ser L r.key) r.day < (ser L r.key).length, ((ser L r.key)[lowB (ser L r.key) r.day]).day = r.day := by
  unfold YtncbfpigojeekaaDoor.dup
  rw [List.any_eq_true]
  constructor
  · rintro ⟨q, hq, h2⟩
    simp only [Bool.and_eq_true, decide_eq_true_eq] at h2
    have hm := (mem_ser L r.key q).2 ⟨hq, h2.1⟩
    obtain ⟨j, hj, rfl⟩ := List.getElem_of_mem hm
    have h3 : ¬ j < lowB (ser L r.key) r.day := fun c => by
      have := (h.low_lt r.day j hj).1 c
      omega
    have hlt : lowB (ser L r.key) r.day < (ser L r.key).length := by omega
    refine ⟨hlt, ?_⟩
    rcases Nat.lt_or_eq_of_le (Nat.not_lt.1 h3) with h4 | h4
    · have h5 := h _ j h4 hj
      have h6 : ¬ (ser L r.key)[lowB (ser L r.key) r.day].day < r.day := fun c => absurd ((h.low_lt r.day _ hlt).2 c) (Nat.lt_irrefl _)
      omega
    · simp only [h4]; exact h2.2
  · rintro ⟨hi, hd⟩
    have hm := (mem_ser L r.key _).1 (List.getElem_mem hi)
    exact ⟨_, hm.1, by simp [hm.2, hd]⟩

theorem Rising.ins {l : List Rate} {r : Rate} (h : Rising l) (hne : ∀ q ∈ l, q.day ≠ r.day) : Rising (insB r l) := by
  have hL : lowB l r.day ≤ l.length := List.countP_le_length
  have get : ∀ i (hi : i < (insB r l).length), (i < lowB l r.day ∧ ∃ h : i < l.length, (insB r l)[i] = l[i]) ∨ (i = lowB l r.day ∧ (insB r l)[i] = r) ∨ (lowB l r.day < i ∧ ∃ h : i - 1 < l.length, (insB r l)[i] = l[i - 1]) := by
    intro i hi
    have hlen := length_insB r l
    by_cases h1 : i < lowB l r.day
    · have hh : i < l.length := by omega
      refine .inl ⟨h1, hh, List.getElem_eq_iff hi |>.2 ?_⟩
      unfold insB
      rw [List.getElem?_append_left (by rw [List.length_take]; omega), List.getElem?_take, if_pos h1, List.getElem?_eq_getElem hh]
    · refine .inr ?_
      by_cases h2 : i = lowB l r.day
      · refine .inl ⟨h2, List.getElem_eq_iff hi |>.2 ?_⟩
        unfold insB
        rw [List.getElem?_append_right (by rw [List.length_take]; omega), List.length_take, Nat.min_eq_left hL, show i - lowB l r.day = 0 by omega]; rfl
      · have hh : i - 1 < l.length := by omega
        refine .inr ⟨by omega, hh, List.getElem_eq_iff hi |>.2 ?_⟩
        unfold insB
        rw [List.getElem?_append_right (by rw [List.length_take]; omega), List.length_take, Nat.min_eq_left hL, show i - lowB l r.day = (i - 1 - lowB l r.day) + 1 by omega, List.getElem?_cons_succ, List.getElem?_drop, show lowB l r.day + (i - 1 - lowB l r.day) = i - 1 by omega, List.getElem?_eq_getElem hh]
  intro i j hij hj
  have hlen := length_insB r l
  have below : ∀ t (ht : t < l.length), t < lowB l r.day → l[t].day < r.day := fun t ht hlt => (h.low_lt r.day t ht).1 hlt
  have above : ∀ t (ht : t < l.length), ¬ t < lowB l r.day → r.day < l[t].day := fun t ht hlt => by
    have h1 : ¬ l[t].day < r.day := fun c => hlt ((h.low_lt r.day t ht).2 c)
    have h2 := hne _ (List.getElem_mem ht)
    omega
  rcases get i (by omega) with ⟨a1, a2, a3⟩ | ⟨a1, a3⟩ | ⟨a1, a2, a3⟩ <;> rcases get j hj with ⟨b1, b2, b3⟩ | ⟨b1, b3⟩ | ⟨b1, b2, b3⟩ <;> simp only [a3, b3]
  · exact h i j hij b2
  · exact below i a2 a1
  · exact h i (j - 1) (by omega) b2
  · omega
  · omega
  · exact above (j - 1) b2 (by omega)
  · omega
  · omega
  · exact h (i - 1) (j - 1) (by omega) b2

theorem Apart.rising {L : List Rate} (h : Apart L) (k : FKey) : Rising (ser L k) := by
  induction h with
  | nil => intro i j _ hj; cases hj
  | @snoc L r hA hd ih =>
    rw [ser_snoc]
    split
    · rename_i hk
      refine ih.ins fun q hq hday => ?_
      obtain ⟨h1, h2⟩ := (mem_ser L k q).1 hq
      have : dup L r = true := by
        unfold dup; rw [List.any_eq_true]
        exact ⟨q, h1, by simp [h2, hk, hday]⟩
      rw [this] at hd; cases hd
    · exact ih

theorem flat_get (xs : List Rate) (i : Nat) (hi : i < xs.length) (j : Nat) (v : Value) (hv : (xs[i].cells)[j]? = some v) : (flat xs)[i * 5 + j]? = some v := by
  have hj : j < 5 := by
    have := (List.getElem?_eq_some_iff.1 hv).1
    simpa [Rate.cells] using this
  have e : (flat xs).drop (i * 5) = xs[i].cells ++ flat (xs.drop (i + 1)) := by
    rw [flat_drop, List.drop_eq_getElem_cons hi]; rfl
  have : (flat xs)[i * 5 + j]? = ((flat xs).drop (i * 5))[j]? := by rw [List.getElem?_drop]
  rw [this, e, List.getElem?_append_left (by simpa [Rate.cells] using hj)]
  exact hv

theorem slr_of_owns {w : World} {B n : Nat} {v : Value} {xs : List Rate} {e : TypeId} (h : w.ownsRow B e 5 v n (flat xs)) (hn : xs.length = n) : SlR Rate.cells 5 w v xs := by
  rcases h.2 with ⟨rfl, rfl⟩ | ⟨g, cap, cur, rfl, hbg, hg, hnc, hcm, hcs, htake⟩
  · exact .inl ⟨List.eq_nil_of_length_eq_zero hn, none, 0, rfl⟩
  · refine .inr ⟨g, 0, cap, by rw [hn], (Array.getElem?_eq_some_iff.1 hg).1, fun i hi j u hu => ?_⟩
    rw [hasRow hg]
    have := flat_get xs i hi j u hu
    rw [← htake, List.getElem?_take] at this
    split at this
    · simpa using this
    · cases this

/-- The table at block tb: base, number, and for each series a row of its own. -/
def Tab (w : World) (B tb : Nat) (base : ByteArray) (n : Int) (L : List Rate) : Prop :=
  ∃ mb M, B ≤ tb ∧ w.heap[tb]? = some (.cells #[.string base, .int .i64 n, .map (some mb)] 56 (0, 0)) ∧ B ≤ mb ∧ MapAt Tryd.prog 62 encK w mb M ∧
    (∀ k, (M k = none ∧ ser L k = []) ∨ ∃ v, M k = some v ∧ w.ownsRow B 51 5 v (ser L k).length (flat (ser L k)) ∧ ser L k ≠ []) ∧
    ∀ k k' v v', k ≠ k' → M k = some v → M k' = some v' → v.ownBlock ≠ v'.ownBlock

theorem Tab.mono {w w' : World} {B tb : Nat} {base : ByteArray} {n : Int} {L : List Rate} (h : Tab w B tb base n L) (hB : Below w.heap.size w w') : Tab w' B tb base n L := by
  obtain ⟨mb, M, h1, h2, h3, h4, h5, h6⟩ := h
  refine ⟨mb, M, h1, ?_, h3, h4.below hB, fun k => ?_, h6⟩
  · rw [hB.block tb (Array.getElem?_eq_some_iff.1 h2).1]; exact h2
  · rcases h5 k with h | ⟨v, hv, ho, hne⟩
    · exact .inl h
    · refine .inr ⟨v, hv, ⟨ho.1, ?_⟩, hne⟩
      rcases ho.2 with h | ⟨g, cap, cur, e, hbg, hg, rest⟩
      · exact .inl h
      · exact .inr ⟨g, cap, cur, e, hbg, by rw [hB.block g (Array.getElem?_eq_some_iff.1 hg).1]; exact hg, rest⟩

/-- What a look-up at a key gives. -/
theorem Tab.at_ {w : World} {B : Nat} {L : List Rate} {M : FKey → Option Value}
    (h5 : ∀ k, (M k = none ∧ ser L k = []) ∨ ∃ v, M k = some v ∧ w.ownsRow B 51 5 v (ser L k).length (flat (ser L k)) ∧ ser L k ≠ []) (k : FKey) :
    w.ownsRow B 51 5 ((M k).getD (.slice none 0 0)) (ser L k).length (flat (ser L k)) := by
  rcases h5 k with ⟨e1, e2⟩ | ⟨v, hv, ho, _⟩
  · rw [e1, e2]; exact World.ownsRow_nil _ _ _ _
  · rw [hv]; exact ho

theorem owns_below {w w' : World} {B e sz n : Nat} {v : Value} {xs : List Value} (h : w.ownsRow B e sz v n xs) (hB : Below w.heap.size w w') : w'.ownsRow B e sz v n xs := by
  refine ⟨h.1, ?_⟩
  rcases h.2 with h | ⟨g, cap, cur, e, hbg, hg, rest⟩
  · exact .inl h
  · exact .inr ⟨g, cap, cur, e, hbg, by rw [hB.block g (Array.getElem?_eq_some_iff.1 hg).1]; exact hg, rest⟩
theorem owns_block {w : World} {B e sz n : Nat} {v : Value} {xs : List Value} (h : w.ownsRow B e sz v n xs) : v.ownBlock = none ∧ n = 0 ∨ ∃ g cur, v.ownBlock = some g ∧ B ≤ g ∧ w.heap[g]? = some (.cells cur e (0, 0)) := by
  rcases h.2 with ⟨rfl, h0⟩ | ⟨g, cap, cur, rfl, hbg, hg, rest⟩
  · exact .inl ⟨rfl, h0⟩
  · exact .inr ⟨g, cur, rfl, hbg, hg⟩
theorem owns_kept {w w' : World} {B e sz n : Nat} {v : Value} {xs : List Value} (h : w.ownsRow B e sz v n xs) (hk : ∀ g, v.ownBlock = some g → w'.heap[g]? = w.heap[g]?) : w'.ownsRow B e sz v n xs := by
  refine ⟨h.1, ?_⟩
  rcases h.2 with h | ⟨g, cap, cur, rfl, hbg, hg, rest⟩
  · exact .inl h
  · exact .inr ⟨g, cap, cur, rfl, hbg, by rw [hk g rfl]; exact hg, rest⟩
/-- What the map's write leaves of the rest. -/
theorem setBlock_other {w : World} {b k : Nat} {o : Obj} (h : k ≠ b) : (ChangeMaps.setBlock w b o).heap[k]? = w.heap[k]? := by
  simp [ChangeMaps.setBlock, Ne.symm h]
theorem setBlock_size (w : World) (b : Nat) (o : Obj) : (ChangeMaps.setBlock w b o).heap.size = w.heap.size := by simp [ChangeMaps.setBlock]

/-- the blocks that an insertion leaves -/
theorem Tab.left {w W' w5 : World} {B : Nat} {L : List Rate} {k : FKey} {M : FKey → Option Value}
    (hser : ∀ k, (M k = none ∧ ser L k = []) ∨ ∃ v, M k = some v ∧ w.ownsRow B 51 5 v (ser L k).length (flat (ser L k)) ∧ ser L k ≠ [])
    (hW : Below w.heap.size w W') (hgrow : W'.grownBy w5 ((M k).getD (.slice none 0 0)).ownBlock) (j : Nat) (o : Obj) (hj : w.heap[j]? = some o) (hne : ∀ cur, o ≠ .cells cur 51 (0, 0)) : w5.heap[j]? = some o := by
  have hjw := (Array.getElem?_eq_some_iff.1 hj).1
  rw [hgrow.block j (Nat.lt_of_lt_of_le hjw hW.size) (fun h => ?_), hW.block j hjw, hj]
  rcases owns_block (Tab.at_ hser k) with ⟨h0, _⟩ | ⟨g, cur, h0, _, hg⟩
  · rw [h0] at h; cases h
  · rw [h0] at h; cases h
    rw [hj] at hg
    exact hne cur (by cases hg; rfl)

theorem Tab.inserted {w W' w5 : World} {B tb mb : Nat} {n : Int} {L : List Rate} {r : Rate} {base : ByteArray} {M : FKey → Option Value} {o : Obj} {v' : Value}
    (hB : B ≤ w.heap.size) (hbt : B ≤ tb) (hbm : B ≤ mb)
    (htb : w.heap[tb]? = some (.cells #[.string base, .int .i64 n, .map (some mb)] 56 (0, 0))) (hmap : MapAt Tryd.prog 62 encK w mb M)
    (hser : ∀ k, (M k = none ∧ ser L k = []) ∨ ∃ v, M k = some v ∧ w.ownsRow B 51 5 v (ser L k).length (flat (ser L k)) ∧ ser L k ≠ [])
    (hdis : ∀ k k' v v', k ≠ k' → M k = some v → M k' = some v' → v.ownBlock ≠ v'.ownBlock)
    (hW : Below w.heap.size w W') (hgrow : W'.grownBy w5 ((M r.key).getD (.slice none 0 0)).ownBlock)
    (hat : v'.ownBlock = ((M r.key).getD (.slice none 0 0)).ownBlock ∨ v'.ownBlock = some W'.heap.size)
    (hown' : w5.ownsRow B 51 5 v' ((ser L r.key).length + 1) (flat (insB r (ser L r.key))))
    (hm5 : MapAt Tryd.prog 62 encK (ChangeMaps.setBlock w5 mb o) mb (putM M r.key v')) :
    Tab (ChangeMaps.setBlock w5 mb o) B tb base n (L ++ [r]) ∧ Below B w (ChangeMaps.setBlock w5 mb o) := by
  have hmb : ∃ es clock, w.heap[mb]? = some (.map es clock) := by obtain ⟨es, clock, h, _⟩ := hmap; exact ⟨es, clock, h⟩
  obtain ⟨es, clock, hmb⟩ := hmb
  have h5m : w5.heap[mb]? = some (.map es clock) := Tab.left hser hW hgrow mb _ hmb (by simp)
  have h5t := Tab.left hser hW hgrow tb _ htb (by simp)
  have htm : tb ≠ mb := fun h => by rw [h, hmb] at htb; cases htb
  have hv0 : ∀ g, ((M r.key).getD (.slice none 0 0)).ownBlock = some g → B ≤ g := fun g h => by
    rcases owns_block (Tab.at_ hser r.key) with ⟨h0, _⟩ | ⟨g', cur, h0, hb, _⟩
    · rw [h0] at h; cases h
    · rw [h0] at h; cases h; exact hb
  have hv'm : v'.ownBlock ≠ some mb := fun h => by
    rcases owns_block hown' with ⟨h0, _⟩ | ⟨g, cur, h0, _, hg⟩
    · rw [h0] at h; cases h
    · rw [h0] at h; cases h; rw [h5m] at hg; cases hg
  refine ⟨⟨mb, putM M r.key v', hbt, ?_, hbm, hm5, fun k => ?_, ?_⟩, ?_⟩
  · rw [setBlock_other htm]; exact h5t
  · rw [ser_snoc]
    by_cases hk : r.key = k
    · subst hk
      rw [if_pos rfl, putM_self]
      refine .inr ⟨v', rfl, ?_, fun h => ?_⟩
      · rw [length_insB]
        exact owns_kept hown' (fun g hg => setBlock_other (fun h => hv'm (by rw [hg, h])))
      · have := length_insB r (ser L r.key)
        rw [h] at this; cases this
    · rw [if_neg hk, putM_ne _ _ (Ne.symm hk)]
      rcases hser k with h | ⟨v, hv, ho, hne⟩
      · exact .inl h
      · refine .inr ⟨v, hv, ?_, hne⟩
        rcases owns_block ho with ⟨h0, h1⟩ | ⟨g, cur, h0, h1, h2⟩
        · exact absurd (List.length_eq_zero_iff.1 h1) hne
        · refine owns_kept ho (fun g' hg' => ?_)
          rw [h0] at hg'; cases hg'
          have hgw := (Array.getElem?_eq_some_iff.1 h2).1
          have hgm : g ≠ mb := fun h => by rw [h, hmb] at h2; cases h2
          rw [setBlock_other hgm, hgrow.block g (Nat.lt_of_lt_of_le hgw hW.size) (fun h => ?_), hW.block g hgw]
          cases hmk : M r.key with
          | none => rw [hmk] at h; cases h
          | some v0 =>
            rw [hmk] at h
            exact hdis k r.key v v0 (Ne.symm hk) hv hmk (h0.trans h)
  · have key : ∀ k v, r.key ≠ k → M k = some v → v'.ownBlock ≠ v.ownBlock := by
      intro k v hk hv h
      rcases hser k with ⟨h1, _⟩ | ⟨v2, hv2, ho, hne⟩
      · rw [h1] at hv; cases hv
      · rw [hv] at hv2; cases hv2
        rcases owns_block ho with ⟨h0, h1⟩ | ⟨g, cur, h0, h1, h2⟩
        · exact hne (List.length_eq_zero_iff.1 h1)
        · have hgw := (Array.getElem?_eq_some_iff.1 h2).1
          rcases hat with ha | ha
          · cases hmk : M r.key with
            | none => rw [hmk, h, h0] at ha; cases ha
            | some v0 => rw [hmk] at ha; exact hdis k r.key v v0 (Ne.symm hk) hv hmk (h.symm.trans ha)
          · rw [ha, h0] at h; cases h
            have := hW.size
            omega
    intro k k' v u hne hv hu
    by_cases h1 : r.key = k
    · subst h1
      rw [putM_self] at hv; cases hv
      rw [putM_ne _ _ (Ne.symm hne)] at hu
      exact key k' u hne hu
    · rw [putM_ne _ _ (Ne.symm h1)] at hv
      by_cases h2 : r.key = k'
      · subst h2
        rw [putM_self] at hu; cases hu
        exact fun h => key k v h1 hv h.symm
      · rw [putM_ne _ _ (Ne.symm h2)] at hu
        exact hdis k k' v u hne hv hu
  · refine ⟨hgrow.os.trans hW.os, hgrow.tape.trans hW.tape, hgrow.output.trans hW.output, by rw [setBlock_size]; exact Nat.le_trans hW.size hgrow.size, fun k hk => ?_⟩
    rw [setBlock_other (by omega), hgrow.block k (Nat.lt_of_lt_of_le (by omega) hW.size) (fun h => ?_), hW.block k (by omega)]
    have := hv0 k h.symm
    omega

end Go.Proofs.YtncbfpigojeekaaDoor
