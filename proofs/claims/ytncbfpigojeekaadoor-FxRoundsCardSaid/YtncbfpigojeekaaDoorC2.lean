/- Rates: how they lie in memory; the binary search over the days. -/
import Derived.Test.YtncbfpigojeekaaDoorC1
namespace Go.Proofs.YtncbfpigojeekaaDoor
open Go.RowKit

structure Rate where
  cur : ByteArray
  kind : Int
  day : Int
  n : Int
  d : Int
deriving DecidableEq, Inhabited
def Rate.cells (r : Rate) : List Value := [.string r.cur, .int .i64 r.kind, .int .i64 r.day, .int .i64 r.n, .int .i64 r.d]
def Rate.v (r : Rate) : Value := .agg #[.string r.cur, .int .i64 r.kind, .int .i64 r.day, .int .i64 r.n, .int .i64 r.d]
def Rate.wf (r : Rate) : Prop := r.cur.size ≤ 140737488351232 ∧ inI r.kind ∧ inI r.day ∧ inI r.n ∧ inI r.d

/-- A row of elements at block b from cell o on. -/
def Reads {α : Type} (enc : α → List Value) (sz : Nat) (w : World) (b o : Nat) (xs : List α) : Prop :=
  ∀ (i : Nat) (h : i < xs.length) (j : Nat) (v : Value), (enc xs[i])[j]? = some v → w.cell? ⟨b, o + i * sz + j, none⟩ = some v
theorem Reads.below {α : Type} {enc : α → List Value} {sz : Nat} {w w' : World} {b o : Nat} {xs : List α} (h : Reads enc sz w b o xs) (hb : b < w.heap.size) (hB : Below w.heap.size w w') : Reads enc sz w' b o xs :=
  fun i hi j v hv => (hB.cell (p := ⟨b, o + i * sz + j, none⟩) hb).trans (h i hi j v hv)
/-- A slice that reads as a list. -/
def SlR {α : Type} (enc : α → List Value) (sz : Nat) (w : World) (v : Value) (xs : List α) : Prop :=
  (xs = [] ∧ ∃ a c, v = .slice a 0 c) ∨ ∃ b o c, v = .slice (some ⟨b, o, none⟩) xs.length c ∧ b < w.heap.size ∧ Reads enc sz w b o xs
theorem SlR.below {α : Type} {enc : α → List Value} {sz : Nat} {w w' : World} {v : Value} {xs : List α} (h : SlR enc sz w v xs) (hB : Below w.heap.size w w') : SlR enc sz w' v xs := by
  rcases h with h | ⟨b, o, c, hv, hb, hr⟩
  · exact .inl h
  · exact .inr ⟨b, o, c, hv, Nat.lt_of_lt_of_le hb hB.size, hr.below hb hB⟩
theorem SlR.shape {α : Type} {enc : α → List Value} {sz : Nat} {w : World} {v : Value} {xs : List α} (h : SlR enc sz w v xs) :
    ∃ A c, v = .slice A xs.length c ∧ ∀ i (hi : i < xs.length), ∃ b o, A = some ⟨b, o, none⟩ ∧ b < w.heap.size ∧ ∀ (j : Nat) (u : Value), (enc xs[i])[j]? = some u → w.cell? ⟨b, o + i * sz + j, none⟩ = some u := by
  rcases h with ⟨rfl, a, c, rfl⟩ | ⟨b, o, c, hv, hb, hr⟩
  · exact ⟨a, c, rfl, fun i hi => absurd hi (Nat.not_lt_zero _)⟩
  · exact ⟨_, c, hv, fun i hi => ⟨b, o, rfl, hb, fun j u hu => hr i hi j u hu⟩⟩

theorem Rate.five {w : World} {b O : Nat} {r : Rate} (h : ∀ (j : Nat) (u : Value), r.cells[j]? = some u → w.cell? ⟨b, O + j, none⟩ = some u) :
    w.cell? ⟨b, O, none⟩ = some (.string r.cur) ∧ w.cell? ⟨b, O + 1, none⟩ = some (.int .i64 r.kind) ∧ w.cell? ⟨b, O + 2, none⟩ = some (.int .i64 r.day) ∧ w.cell? ⟨b, O + 3, none⟩ = some (.int .i64 r.n) ∧ w.cell? ⟨b, O + 4, none⟩ = some (.int .i64 r.d) :=
  ⟨h 0 _ rfl, h 1 _ rfl, h 2 _ rfl, h 3 _ rfl, h 4 _ rfl⟩

def cmpI (a b : Int) : Int := if a < b then -1 else if b < a then 1 else 0
set_option maxHeartbeats 1000000 in
theorem cmp_Compare.calls (a b : Int) (w : World) :
    Calls Tryd.prog 48 #[.int .i64 a, .int .i64 b] w fun e w' => e = .returned (.int .i64 (cmpI a b)) ∧ w = w' := by
  by_cases h : a < b
  · have HF := Lib.hid (show cmpI a b = -1 by simp [cmpI, h])
    go_enter Tryd.func48, Tryd.ntmps48
    go_wp2
    go_ret
    exact ⟨by rw [HF.out]; rfl, rfl⟩
  · by_cases h2 : b < a
    · have HF := Lib.hid (show cmpI a b = 1 by simp [cmpI, h, h2])
      go_enter Tryd.func48, Tryd.ntmps48
      go_wp2
      go_ret
      exact ⟨by rw [HF.out]; rfl, rfl⟩
    · have HF := Lib.hid (show cmpI a b = 0 by simp [cmpI, h, h2])
      go_enter Tryd.func48, Tryd.ntmps48
      go_wp2
      go_ret
      exact ⟨by rw [HF.out]; rfl, rfl⟩
set_option maxHeartbeats 1000000 in
theorem fx_search_1.calls (r : Rate) (day : Int) (w : World) :
    Calls Tryd.prog 47 #[r.v, .int .i64 day] w fun e w' => e = .returned (.int .i64 (cmpI r.day day)) ∧ Below w.heap.size w w' := by
  unfold Rate.v
  go_enter Tryd.func47, Tryd.ntmps47
  go_wp2_with (go_at_call 48; refine (cmp_Compare.calls _ _ _).mono ?_; rintro e w' ⟨rfl, rfl⟩)
  go_ret
  exact ⟨rfl, (Below.refl _ _).alloc (Nat.le_refl _) _⟩

/-- how many days of a list come before a day -/
def lowB (l : List Rate) (day : Int) : Nat := l.countP (fun r => decide (r.day < day))
def Rising (l : List Rate) : Prop := ∀ i j (_ : i < j) (hj : j < l.length), l[i].day < l[j].day
theorem countP_boundary' {α : Type} (p : α → Bool) : ∀ (l : List α) (i : Nat), i ≤ l.length → (∀ t (h : t < l.length), t < i → p l[t] = true) → (∀ t (h : t < l.length), i ≤ t → p l[t] = false) → l.countP p = i
  | [], i, hi, _, _ => by simp at hi; simp [hi]
  | a :: r, 0, _, _, h2 => by
    rw [List.countP_eq_zero]
    intro x hx
    obtain ⟨t, ht, rfl⟩ := List.getElem_of_mem hx
    simp [h2 t ht (Nat.zero_le _)]
  | a :: r, i + 1, hi, h1, h2 => by
    have ha : p a = true := h1 0 (by simp) (Nat.succ_pos _)
    rw [List.countP_cons_of_pos ha, countP_boundary' p r i (by simpa using hi) (fun t h ht => h1 (t + 1) (by simpa using h) (by omega)) (fun t h h3 => h2 (t + 1) (by simpa using h) (by omega))]

set_option maxRecDepth 100000 in
set_option maxHeartbeats 4000000 in
theorem bsearch.calls (xs : List Rate) (v : Value) (day : Int) (w : World) (hv : SlR Rate.cells 5 w v xs) (hR : Rising xs) (hlen : xs.length ≤ 4611686018427387904) :
    Calls Tryd.prog 46 #[v, .int .i64 day, .func (.func 47) #[] #[]] w fun e w' => (∃ b, e = .returned (.tuple #[.int .i64 (lowB xs day), .bool b])) ∧ Below w.heap.size w w' := by
  obtain ⟨A, c, rfl, hA⟩ := hv.shape
  have HA := Lib.hid hA; clear hA hv
  have HR := Lib.hid hR; clear hR
  go_enter Tryd.func46, Tryd.ntmps46
  go_wp2
  go_loopg [9, 10] xs.length (fun k s t wr => ∃ lo hi : Nat, s = .int .i64 lo ∧ t = .int .i64 hi ∧ lo ≤ hi ∧ hi ≤ xs.length ∧ hi - lo ≤ k ∧ Below w.heap.size w wr ∧
    Hid ((∀ t (h : t < xs.length), t < lo → xs[t].day < day) ∧ (∀ t (h : t < xs.length), hi ≤ t → day ≤ xs[t].day)))
  case atStart => exact ⟨0, xs.length, rfl, rfl, Nat.zero_le _, Nat.le_refl _, by omega, Below.refl _ _, ⟨fun t _ ht => absurd ht (Nat.not_lt_zero _), fun t h1 h2 => by omega⟩⟩
  case round =>
    obtain ⟨lo, hi, rfl, rfl, hlh, hin, hg, hB, hI⟩ := hrel
    by_cases hlt : lo < hi
    · obtain ⟨b, o, hAe, hb, hc⟩ := HA.out ((lo + hi) / 2) (by omega)
      have hc' := fun j u hu => (hB.cell (p := ⟨b, o + (lo + hi) / 2 * 5 + j, none⟩) hb).trans (hc j u hu)
      obtain ⟨r, hr⟩ : ∃ r, xs[(lo + hi) / 2] = r := ⟨_, rfl⟩
      rw [hr] at hc'
      obtain ⟨c0, c1, c2, c3, c4⟩ := Rate.five hc'
      have HRr := Lib.hid hr
      subst hAe
      clear hc hc' hr
      by_cases hd : r.day < day
      · have hcm : cmpI r.day day = -1 := by simp [cmpI, hd]
        have HCM := Lib.hid hcm; clear hcm
        go_wp2_with (go_at_call 47; refine (fx_search_1.calls r day _).mono ?_; rintro e w1 ⟨rfl, hb1⟩; rw [HCM.out])
        go_roundg (hi - ((lo + hi) / 2 + 1))
        case measure => omega
        case rel =>
          refine ⟨(lo + hi) / 2 + 1, hi, by go_num, rfl, by omega, hin, Nat.le_refl _, hB.trans (hb1.mono hB.size), ?_, hI.out.2⟩
          intro t h ht
          rcases Nat.lt_or_eq_of_le (Nat.le_of_lt_succ ht) with h1 | h1
          · have := HR.out t ((lo + hi) / 2) h1 (by omega); rw [HRr.out] at this; omega
          · subst h1; rw [HRr.out]; exact hd
      · have hcm : cmpI r.day day = if day < r.day then 1 else 0 := by simp [cmpI, hd]
        have hb0 : decide (cmpI r.day day < 0) = false := by rw [hcm]; split <;> rfl
        clear hcm
        go_wp2_with (go_at_call 47; refine (fx_search_1.calls r day _).mono ?_; rintro e w1 ⟨rfl, hb1⟩)
        go_roundg ((lo + hi) / 2 - lo)
        case measure => omega
        case rel =>
          refine ⟨lo, (lo + hi) / 2, rfl, by go_num, by omega, by omega, Nat.le_refl _, hB.trans (hb1.mono hB.size), hI.out.1, ?_⟩
          intro t h ht
          rcases Nat.lt_or_eq_of_le ht with h1 | h1
          · have := HR.out ((lo + hi) / 2) t h1 h; rw [HRr.out] at this; omega
          · subst h1; rw [HRr.out]; omega
    · have e : lo = hi := by omega
      subst e
      have HCT := Lib.hid (countP_boundary' (fun r : Rate => decide (r.day < day)) xs lo hin (fun t h ht => by simpa using hI.out.1 t h ht) (fun t h ht => by simpa using hI.out.2 t h ht))
      by_cases hl : lo < xs.length
      · obtain ⟨b, o, hAe, hb, hc⟩ := HA.out lo hl
        have hc' := fun j u hu => (hB.cell (p := ⟨b, o + lo * 5 + j, none⟩) hb).trans (hc j u hu)
        obtain ⟨r, hr⟩ : ∃ r, xs[lo] = r := ⟨_, rfl⟩
        rw [hr] at hc'
        obtain ⟨c0, c1, c2, c3, c4⟩ := Rate.five hc'
        subst hAe
        clear hc hc' hr
        go_wp2_with (go_at_call 47; refine (fx_search_1.calls r day _).mono ?_; rintro e w1 ⟨rfl, hb1⟩)
        go_ret2
        exact ⟨⟨_, by unfold lowB; rw [HCT.out]; rfl⟩, hB.trans (hb1.mono hB.size)⟩
      · go_wp2
        go_ret2
        exact ⟨⟨_, by unfold lowB; rw [HCT.out]; rfl⟩, hB⟩

end Go.Proofs.YtncbfpigojeekaaDoor
