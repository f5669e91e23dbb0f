/- accountingref27.Of over the printed check and the printed row. -/
import Derived.Test.YtohfnpkoheafkaaDoorPAgx2
import Derived.Test.YtohfnpkoheafkaaDoorPAgx3
import Derived.Test.YtohfnpkoheafkaaDoorG3
namespace Go.Proofs.YtohfnpkoheafkaaDoor.PAg
open Go.RowKit Go.Proofs.YtohfnpkoheafkaaDoorW.PrintWords Go.Proofs.YtohfnpkoheafkaaDoorW.PrintLast Go.Proofs.YtohfnpkoheafkaaDoorW.PrintMore

theorem toList_eq_ba {a b : ByteArray} : a.toList = b.toList ↔ a = b := by
  constructor
  · intro h
    rw [ByteArray.toList_eq, ByteArray.toList_eq] at h
    have h2 : a.data = b.data := Array.toList_inj.1 h
    cases a; cases b; simp at h2; subst h2; rfl
  · rintro rfl; rfl
theorem row_l0 (rows : List Aged) (x : Left) (ho : InOrder rows) (hm : rows.length ≤ 10000) : ∀ (d i k : Nat), i ≤ posG ownLt (rows.map Aged.own) x.own → rows.length - i ≤ d → d < k →
    accountingref27_row.l0 k rows (i : Int) x.f0 x.f1 x.f2 x.f3 = some (((posG ownLt (rows.map Aged.own) x.own : Nat) : Int), hasO (rows.map Aged.own) x.own) := by
  have hpw : (rows.map Aged.own).Pairwise (fun a b => ownLt a b = true) := by rw [List.pairwise_map]; exact ho
  obtain ⟨P, hP⟩ : ∃ P, posG ownLt (rows.map Aged.own) x.own = P := ⟨_, rfl⟩
  have hPl : P ≤ rows.length := by rw [← hP]; have := posG_le (lt := ownLt) (rows.map Aged.own) x.own; simpa using this
  have hat : ∀ i (hi : i < rows.length), ownLt rows[i].own x.own = decide (i < P) := fun i hi => by
    have := pos_at ownO x.own hpw i (by simpa using hi)
    rw [hP] at this
    simpa using this
  have hmem : hasO (rows.map Aged.own) x.own = true ↔ (rows.map Aged.own)[P]? = some x.own := by
    rw [hasO_iff]
    constructor
    · intro h; rw [← hP]; exact pos_mem ownO _ hpw h
    · intro h; exact List.mem_of_getElem? h
  rw [hP]
  intro d
  induction d with
  | zero =>
    intro i k hi hd hk
    obtain ⟨k, rfl⟩ : ∃ m, k = m + 1 := ⟨k - 1, by omega⟩
    have : P = rows.length := by omega
    have hh : hasO (rows.map Aged.own) x.own = false := by
      rw [Bool.eq_false_iff]; intro h
      rw [hmem, this, List.getElem?_eq_none (by simp)] at h; cases h
    simp only [accountingref27_row.l0]
    rw [if_neg (by omega), hh]
    congr 2; omega
  | succ d ih =>
    intro i k hi hd hk
    obtain ⟨k, rfl⟩ : ∃ m, k = m + 1 := ⟨k - 1, by omega⟩
    simp only [accountingref27_row.l0]
    by_cases hlt : i < rows.length
    · rw [if_pos (by omega), if_pos (by omega)]
      have hrd : rd_T37 rows (i : Int) = rows[i] := by
        unfold rd_T37
        rw [Int.toNat_natCast, List.getD_eq_getElem?_getD, List.getElem?_eq_getElem hlt]; rfl
      rw [hrd]
      have hw : wrap64 ((i : Int) + 1) = ((i + 1 : Nat) : Int) := by rw [IntWalk.wrap64_in _ (by omega)]; omega
      have h0 := hat i hlt
      by_cases hiP : i < P
      · have h1 : ownLt rows[i].own x.own = true := by rw [h0]; exact decide_eq_true hiP
        have h2 := ih (i + 1) k (by omega) (by omega) (by omega)
        by_cases c1 : Op.bytesLess rows[i].f0.toList x.f0.toList = true
        · rw [if_pos c1, hw]; exact h2
        · rw [if_neg c1]
          have c1' : Op.bytesLess rows[i].f0.toList x.f0.toList = false := by simpa using c1
          simp only [ownLt, Aged.own, Left.own, c1', Bool.false_or, Bool.and_eq_true, decide_eq_true_eq] at h1
          rw [if_pos (toList_eq_ba.2 (of_decide_eq_true h1.1)), if_pos h1.2, hw]
          exact h2
      · have hiP' : i = P := by omega
        subst hiP'
        have h1 : ownLt rows[i].own x.own = false := by rw [h0]; exact decide_eq_false hiP
        simp only [ownLt, Aged.own, Left.own, Bool.or_eq_false_iff] at h1
        rw [if_neg (by simp [h1.1])]
        by_cases c2 : rows[i].f0 = x.f0
        · rw [if_pos (toList_eq_ba.2 c2)]
          have h3 := h1.2
          simp only [c2, decide_true, Bool.true_and] at h3
          rw [if_neg (by simp [h3])]
          congr 2
          rw [Bool.eq_iff_iff, hmem, List.getElem?_map, List.getElem?_eq_getElem hlt]
          simp only [Option.map_some, Option.some.injEq, beq_iff_eq, toList_eq_ba, Aged.own, Left.own, Prod.mk.injEq, c2, true_and]
        · rw [if_neg (fun h => c2 (toList_eq_ba.1 h))]
          congr 2
          symm
          rw [Bool.eq_false_iff]
          intro h
          rw [hmem, List.getElem?_map, List.getElem?_eq_getElem hlt] at h
          simp only [Option.map_some, Option.some.injEq, Aged.own, Left.own, Prod.mk.injEq] at h
          exact c2 h.1
    · have : P = rows.length := by omega
      have hh : hasO (rows.map Aged.own) x.own = false := by
        rw [Bool.eq_false_iff]; intro h
        rw [hmem, this, List.getElem?_eq_none (by simp)] at h; cases h
      rw [if_neg (by omega), hh]
      congr 2; omega
theorem ref_row_any (W : World) (A : Option Addr) (c : Nat) (rows : List Aged) (x : Left) (hm : rows.length ≤ 10000) (hC : Kd.C k37 W A rows.length rows) (hc : rows.length ≤ c) (ho : InOrder rows) :
    Calls Tryd.prog 20 #[.slice A rows.length c, .agg #[.string x.f0, .string x.f1, .int .i64 x.f2, .int .i64 x.f3]] W fun e w' => e = .returned (.tuple #[.int .i64 (posG ownLt (rows.map Aged.own) x.own : Nat), .bool (hasO (rows.map Aged.own) x.own)]) ∧ Below W.heap.size W w' :=
  accountingref27_row.calls (rows.length + 1) A c rows x.f0 x.f1 x.f2 x.f3 _ _ W hC hc (by
    unfold accountingref27_row.f
    exact row_l0 rows x ho hm rows.length 0 _ (Nat.zero_le _) (by omega) (by omega))

theorem ref_l1_zero : ∀ (k : Nat) (x0 : List Left) (j : Int), accountingref27_check.l1 k x0 j = some 0 → x0.length ≤ 10000
  | 0, _, _, h => by simp [accountingref27_check.l1] at h
  | k + 1, x0, j, h => by
    unfold accountingref27_check.l1 at h
    by_cases c1 : j < (x0.length : Int)
    · rw [if_pos c1] at h
      by_cases c2 : 0 ≤ j
      · rw [if_pos c2] at h
        obtain ⟨t, h1, h⟩ := Option.bind_eq_some_iff.1 h
        by_cases ht : t = 0
        · rw [if_pos ht] at h; exact ref_l1_zero k _ _ h
        · rw [if_neg ht] at h; cases h; exact (ht rfl).elim
      · rw [if_neg c2] at h; cases h
    · rw [if_neg c1] at h
      by_cases c2 : (x0.length : Int) > 10000
      · rw [if_pos c2] at h; cases h
      · omega
theorem ref_l0_zero : ∀ (k : Nat) (x0 : List Left) (x2 : List Int) (i : Int), accountingref27_check.l0 k x0 x2 i = some 0 → x0.length ≤ 10000
  | 0, _, _, _, h => by simp [accountingref27_check.l0] at h
  | k + 1, x0, x2, i, h => by
    unfold accountingref27_check.l0 at h
    by_cases c1 : i < (x2.length : Int)
    · rw [if_pos c1] at h
      by_cases c2 : 0 ≤ i
      · rw [if_pos c2] at h
        by_cases c3 : 0 ≤ wrap64 (i - 1)
        · rw [if_pos c3] at h
          by_cases c4 : wrap64 (i - 1) < (x2.length : Int)
          · rw [if_pos c4] at h
            by_cases c5 : rd x2 i ≤ rd x2 (wrap64 (i - 1))
            · rw [if_pos c5] at h; cases h
            · rw [if_neg c5] at h; exact ref_l0_zero k _ _ _ h
          · rw [if_neg c4] at h; cases h
        · rw [if_neg c3] at h; cases h
      · rw [if_neg c2] at h; cases h
    · rw [if_neg c1] at h; exact ref_l1_zero k _ _ h
theorem ref_check_zero {k : Nat} {l : List Left} {day : Int} {lims : List Int} (h : accountingref27_check.f k l day lims = some 0) : lims.length ≤ 10 ∧ l.length ≤ 10000 := by
  unfold accountingref27_check.f at h
  obtain ⟨t, h1, h⟩ := Option.bind_eq_some_iff.1 h
  by_cases ht : t = true
  · rw [if_pos ht] at h
    by_cases c1 : (lims.length : Int) > 10
    · rw [if_pos c1] at h; cases h
    · rw [if_neg c1] at h
      exact ⟨by omega, ref_l0_zero _ _ _ _ h⟩
  · rw [if_neg ht] at h; cases h

set_option maxHeartbeats 2000000 in
theorem ref_Of_any (k : Nat) (A0 : Option Addr) (c0 : Nat) (l0 : List Left) (a1 : Int) (A2 : Option Addr) (c2 : Nat) (l2 : List Int) (e : Int) (w : World) (hr0 : Kd.C k39 w A0 l0.length l0) (hc0 : l0.length ≤ c0) (hr2 : Kd.C (Kd.int .i64) w A2 l2.length l2) (hc2 : l2.length ≤ c2) (h : accountingref27_check.f k l0 a1 l2 = some e) :
    Calls Tryd.prog 13 #[.slice A0 l0.length c0, .int .i64 a1, .slice A2 l2.length c2] w fun r w' => ∃ v0_ : Value, r = .returned (.tuple #[v0_, .int .i64 e]) ∧ Kd.S k37 37 w' w.heap.size (fun _ => True) v0_ (if e = 0 then rowsOf l0 a1 l2 else []) ∧ Below w.heap.size w w' := by
  have hck : ∀ W, Below w.heap.size w W → Calls Tryd.prog 19 #[.slice A0 l0.length c0, .int .i64 a1, .slice A2 l2.length c2] W fun r w' => r = .returned (.int .i64 e) ∧ Below W.heap.size W w' := fun W hB =>
    accountingref27_check.calls k A0 c0 l0 a1 A2 c2 l2 e W (Kd.C_below hr0 hB) hc0 (Kd.C_below hr2 hB) hc2 h
  by_cases he : e = 0
  · subst he
    obtain ⟨h1, h2⟩ := ref_check_zero h
    rw [if_pos rfl]
    exact go_ref_Of A0 A2 c0 c2 l0 a1 l2 w hr0 hr2 hck ref_row_any h2 h1
  · rw [if_neg he]
    have heb : (e != 0) = true := by simp [he]
    have heb2 : (e == 0) = false := by simp [he]
    have HCK := Lib.hid hck
    clear hck hr0 hr2 h he
    go_enter Tryd.func13, Tryd.ntmps13
    go_wp2_with (first
      | (go_at_call 19; refine (HCK.out _ (Below.refl _ _)).mono ?_; rintro r w1 ⟨rfl, hb1⟩))
    go_ret2
    exact ⟨_, rfl, ⟨fun _ => 0, Kd.R_nil _ _ _ _ _⟩, hb1⟩

end Go.Proofs.YtohfnpkoheafkaaDoor.PAg
