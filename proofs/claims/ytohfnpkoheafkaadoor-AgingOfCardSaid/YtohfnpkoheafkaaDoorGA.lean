/- aging.Of over the printed check. -/
import Derived.Test.YtohfnpkoheafkaaDoorPAgx1
import Derived.Test.YtohfnpkoheafkaaDoorG5
namespace Go.Proofs.YtohfnpkoheafkaaDoor.PAg
open Go.RowKit Go.Proofs.YtohfnpkoheafkaaDoorW.PrintWords Go.Proofs.YtohfnpkoheafkaaDoorW.PrintLast Go.Proofs.YtohfnpkoheafkaaDoorW.PrintMore

theorem one_zero {a b : ByteArray} {c d : Int} (h : aging_one.f a b c d = some 0) : a.size ≤ 12 ∧ b.size ≤ 12 := by
  unfold aging_one.f at h
  obtain ⟨t, h1, h⟩ := Option.bind_eq_some_iff.1 h
  by_cases ht : t = true
  · rw [if_pos ht] at h
    obtain ⟨u, h2, h⟩ := Option.bind_eq_some_iff.1 h
    by_cases hu : u = true
    · subst ht hu
      have e1 : wcodeB a = true := by
        unfold words_Code.f at h1
        split at h1
        · exact Option.some.inj h1
        · cases h1
      have e2 : codeB b = true := by
        unfold money_Code.f at h2
        split at h2
        · exact Option.some.inj h2
        · cases h2
      unfold wcodeB at e1
      unfold codeB at e2
      simp at e1 e2
      exact ⟨e1.1.2, by omega⟩
    · rw [if_neg hu] at h; cases h
  · rw [if_neg ht] at h; cases h
theorem l0_zero : ∀ (k : Nat) (x0 : List Left) (x2 : List Int) (n i : Int), aging_check.l0 k x0 x2 n i = some 0 → ∃ k', aging_check.l1 k' x0 x0 (x0.length : Int) 0 = some 0
  | 0, _, _, _, _, h => by simp [aging_check.l0] at h
  | k + 1, x0, x2, n, i, h => by
    unfold aging_check.l0 at h
    by_cases c1 : i < n
    · rw [if_pos c1] at h
      by_cases c2 : i > 0
      · rw [if_pos c2] at h
        by_cases c3 : 0 ≤ wrap64 (i - 1)
        · rw [if_pos c3] at h
          by_cases c4 : wrap64 (i - 1) < (x2.length : Int)
          · rw [if_pos c4] at h
            by_cases c5 : 0 ≤ i
            · rw [if_pos c5] at h
              by_cases c6 : i < (x2.length : Int)
              · rw [if_pos c6] at h
                by_cases c7 : rd x2 (wrap64 (i - 1)) ≥ rd x2 i
                · rw [if_pos c7] at h; cases h
                · rw [if_neg c7] at h
                  exact l0_zero k _ _ _ _ h
              · rw [if_neg c6] at h; cases h
            · rw [if_neg c5] at h; cases h
          · rw [if_neg c4] at h; cases h
        · rw [if_neg c3] at h; cases h
      · rw [if_neg c2] at h
        exact l0_zero k _ _ _ _ h
    · rw [if_neg c1] at h
      exact ⟨k, h⟩
theorem l1_zero : ∀ (k : Nat) (x0 x : List Left) (j : Nat), x.length ≤ 9223372036854775807 → aging_check.l1 k x0 x (x.length : Int) (j : Int) = some 0 → x0.length ≤ 10000 ∧ ∀ i, j ≤ i → ∀ hi : i < x.length, x[i].f0.size ≤ 12 ∧ x[i].f1.size ≤ 12
  | 0, _, _, _, _, h => by simp [aging_check.l1] at h
  | k + 1, x0, x, j, hm, h => by
    unfold aging_check.l1 at h
    by_cases c1 : (j : Int) < (x.length : Int)
    · rw [if_pos c1, if_pos (Int.natCast_nonneg j), if_pos c1] at h
      obtain ⟨t, h1, h⟩ := Option.bind_eq_some_iff.1 h
      by_cases ht : t = 0
      · subst ht
        rw [if_pos rfl] at h
        have hw : wrap64 ((j : Int) + 1) = ((j + 1 : Nat) : Int) := by rw [IntWalk.wrap64_in _ (by omega)]; omega
        rw [hw] at h
        obtain ⟨h2, h3⟩ := l1_zero k x0 x (j + 1) hm h
        refine ⟨h2, fun i hji hi => ?_⟩
        rcases Nat.eq_or_lt_of_le hji with rfl | hlt
        · have e : rd_T39 x (j : Int) = x[j] := by
            unfold rd_T39
            rw [Int.toNat_natCast, List.getD_eq_getElem?_getD, List.getElem?_eq_getElem hi]; rfl
          rw [e] at h1
          exact one_zero h1
        · exact h3 i hlt hi
      · rw [if_neg ht] at h
        cases h; exact (ht rfl).elim
    · rw [if_neg c1] at h
      by_cases c2 : (x0.length : Int) > 10000
      · rw [if_pos c2] at h; cases h
      · exact ⟨by omega, fun i hji hi => by omega⟩
theorem check_zero {k : Nat} {l : List Left} {day : Int} {lims : List Int} (hm : l.length ≤ 9223372036854775807) (h : aging_check.f k l day lims = some 0) : lims.length ≤ 10 ∧ l.length ≤ 10000 ∧ ∀ x ∈ l, x.f0.size ≤ 12 ∧ x.f1.size ≤ 12 := by
  unfold aging_check.f at h
  obtain ⟨t, h1, h⟩ := Option.bind_eq_some_iff.1 h
  by_cases ht : t = true
  · rw [if_pos ht] at h
    by_cases c1 : (lims.length : Int) > 10
    · rw [if_pos c1] at h; cases h
    · rw [if_neg c1] at h
      obtain ⟨k', h2⟩ := l0_zero _ _ _ _ _ h
      obtain ⟨h3, h4⟩ := l1_zero k' l l 0 hm h2
      refine ⟨by omega, h3, fun x hx => ?_⟩
      obtain ⟨i, hi, rfl⟩ := List.getElem_of_mem hx
      exact h4 i (Nat.zero_le _) hi
  · rw [if_neg ht] at h; cases h

set_option maxHeartbeats 2000000 in
theorem aging_Of_any (k : Nat) (A0 : Option Addr) (c0 : Nat) (l0 : List Left) (a1 : Int) (A2 : Option Addr) (c2 : Nat) (l2 : List Int) (e : Int) (w : World) (hr0 : Kd.C k39 w A0 l0.length l0) (hc0 : l0.length ≤ c0) (hr2 : Kd.C (Kd.int .i64) w A2 l2.length l2) (hc2 : l2.length ≤ c2) (h : aging_check.f k l0 a1 l2 = some e) (hG_ : DaysLaid w) :
    Calls Tryd.prog 12 #[.slice A0 l0.length c0, .int .i64 a1, .slice A2 l2.length c2] w fun r w' => ∃ v0_ : Value, r = .returned (.tuple #[v0_, .int .i64 e]) ∧ Kd.S k37 37 w' w.heap.size (fun _ => True) v0_ (if e = 0 then rowsOf l0 a1 l2 else []) ∧ Below w.heap.size w w' := by
  have hck : ∀ W, Below w.heap.size w W → Calls Tryd.prog 16 #[.slice A0 l0.length c0, .int .i64 a1, .slice A2 l2.length c2] W fun r w' => r = .returned (.int .i64 e) ∧ Below W.heap.size W w' := fun W hB =>
    aging_check.calls k A0 c0 l0 a1 A2 c2 l2 e W (Kd.C_below hr0 hB) hc0 (Kd.C_below hr2 hB) hc2 h (hG_.below hB)
  by_cases he : e = 0
  · subst he
    obtain ⟨h1, h2, h3⟩ := check_zero hr0.2.1 h
    rw [if_pos rfl]
    exact go_aging_Of A0 A2 c0 c2 l0 a1 l2 w hr0 hr2 hck h2 h1 h3
  · rw [if_neg he]
    have heb : (e != 0) = true := by simp [he]
    have heb2 : (e == 0) = false := by simp [he]
    have HCK := Lib.hid hck
    clear hck hr0 hr2 h he
    go_enter Tryd.func12, Tryd.ntmps12
    go_wp2_with (first
      | (go_at_call 16; refine (HCK.out _ ((Below.refl _ _).alloc (Nat.le_refl _) _)).mono ?_; rintro r w1 ⟨rfl, hb1⟩; have hrow1 : w1.heap[w.heap.size]? = some (.cells #[.slice none 0 0] 28 (0, 0)) := (by rw [hb1.block _ (by simp)]; exact (Go.MapKept.heap_alloc w _).1); have c61 : w1.cell? ⟨w.heap.size, 0, none⟩ = some (.slice none 0 0) := (by simp [World.cell?, hrow1]); have f61 : w1.frozen? ⟨w.heap.size, 0, none⟩ = false := (by simp [World.frozen?, hrow1])))
    have hrowF := blk_set hrow1 0 (.slice none 0 0)
    have cF : (w1.setCell ⟨w.heap.size, 0, none⟩ (.slice none 0 0)).cell? ⟨w.heap.size, 0, none⟩ = some (.slice none 0 0) := by simp [World.cell?, hrowF]
    refine bodyPost_ret (v := .tuple #[.slice none 0 0, .int .i64 e]) (by simp [results, Tryd.results12, go_sem, cF]) rfl ⟨_, rfl, ⟨fun _ => 0, Kd.R_nil _ _ _ _ _⟩, ?_⟩
    exact (((Below.refl _ w).alloc (Nat.le_refl _) _).trans (hb1.mono (by simp))).setCell (Nat.le_refl _) _

end Go.Proofs.YtohfnpkoheafkaaDoor.PAg
