/- The law AgingLimit of the printed functions. -/
import Derived.Test.YtohfnpkoheafkaaDoorPAgx6
import Derived.Test.YtohfnpkoheafkaaDoorP4
namespace Go.Proofs.YtohfnpkoheafkaaDoor.PAg
open Go.RowKit Go.Proofs.YtohfnpkoheafkaaDoorW.PrintWords Go.Proofs.YtohfnpkoheafkaaDoorW.PrintLast Go.Proofs.YtohfnpkoheafkaaDoorW.PrintMore

theorem rd_nat (xs : List Int) (n : Nat) : rd xs (n : Int) = xs.getD n 0 := by unfold rd; rw [Int.toNat_natCast]
/-! ### one limit less -/
def less (lims : List Int) (K : Nat) : List Int := lims.take K ++ lims.drop (K + 1)
theorem less_length {lims : List Int} {K : Nat} (h : K < lims.length) : (less lims K).length + 1 = lims.length := by
  simp [less]; omega
theorem less_at {lims : List Int} {K : Nat} (h : K < lims.length) (i : Nat) : (less lims K)[i]? = if i < K then lims[i]? else lims[i + 1]? := by
  unfold less
  by_cases hi : i < K
  · rw [if_pos hi, List.getElem?_append_left (by simp; omega), List.getElem?_take, if_pos hi]
  · rw [if_neg hi, List.getElem?_append_right (by simp; omega), List.getElem?_drop]
    congr 1
    simp; omega
theorem bucketN_spec {age : Int} {lims : List Int} {b : Nat} (hb : b ≤ lims.length) (h1 : ∀ i x, i < b → lims[i]? = some x → ¬ age ≤ x) (h2 : ∀ x, lims[b]? = some x → age ≤ x) : bucketN age lims = b := by
  have hle : ∀ j, j ≤ b → j ≤ bucketN age lims := by
    intro j
    induction j with
    | zero => intro _; exact Nat.zero_le _
    | succ j ih =>
      intro hj
      have hjl : j < lims.length := by omega
      exact bucketN_next hjl (h1 j _ (by omega) (List.getElem?_eq_getElem hjl)) (ih (by omega))
  rcases Nat.lt_or_ge b lims.length with h | h
  · exact bucketN_at h (h2 _ (List.getElem?_eq_getElem h)) (hle b (Nat.le_refl _))
  · have := hle b (Nat.le_refl _)
    have := bucketN_le age lims
    omega
theorem bucketN_before {age : Int} {lims : List Int} {i : Nat} {x : Int} (hi : i < bucketN age lims) (hx : lims[i]? = some x) : ¬ age ≤ x := by
  have h := List.not_of_lt_findIdx hi
  obtain ⟨hl, rfl⟩ := List.getElem?_eq_some_iff.1 hx
  simpa using h
theorem bucketN_there {age : Int} {lims : List Int} {x : Int} (hx : lims[bucketN age lims]? = some x) : age ≤ x := by
  obtain ⟨hl, rfl⟩ := List.getElem?_eq_some_iff.1 hx
  have h := List.findIdx_getElem (xs := lims) (p := fun y => decide (age ≤ y)) (w := hl)
  exact of_decide_eq_true h
/-- the bucket with one limit less -/
def lessB (K b : Nat) : Nat := if b ≤ K then b else b - 1
theorem bucketN_less {age : Int} {lims : List Int} {K : Nat} (h : K < lims.length) (hs : ∀ y x, lims[K]? = some y → lims[K + 1]? = some x → y < x) : bucketN age (less lims K) = lessB K (bucketN age lims) := by
  have hbl := bucketN_le age lims
  have hll := less_length h
  have hb1 := fun i x => @bucketN_before age lims i x
  have hb2 := fun x => @bucketN_there age lims x
  generalize bucketN age lims = b at hbl hb1 hb2
  unfold lessB
  by_cases hbK : b ≤ K
  · rw [if_pos hbK]
    refine bucketN_spec (by omega) (fun i x hi hx => ?_) (fun x hx => ?_)
    · rw [less_at h, if_pos (by omega)] at hx
      exact hb1 i x hi hx
    · rw [less_at h] at hx
      by_cases hb : b < K
      · rw [if_pos hb] at hx
        exact hb2 x hx
      · have e : b = K := by omega
        subst e
        rw [if_neg hb] at hx
        have h3 := List.getElem?_eq_getElem h
        have h4 := hb2 _ h3
        have h5 := hs _ _ h3 hx
        omega
  · rw [if_neg hbK]
    refine bucketN_spec (by omega) (fun i x hi hx => ?_) (fun x hx => ?_)
    · rw [less_at h] at hx
      by_cases hiK : i < K
      · rw [if_pos hiK] at hx
        exact hb1 i x (by omega) hx
      · rw [if_neg hiK] at hx
        exact hb1 (i + 1) x (by omega) hx
    · rw [less_at h, if_neg (by omega), show b - 1 + 1 = b by omega] at hx
      exact hb2 x hx

/-! ### two buckets made one -/
def merge (K : Nat) (s : List Int) : List Int := match s.drop K with
  | u :: v :: B => s.take K ++ wrap64 (u + v) :: B
  | _ => s
theorem merge_app {K : Nat} {A B : List Int} {u v : Int} (h : A.length = K) : merge K (A ++ u :: v :: B) = A ++ wrap64 (u + v) :: B := by
  unfold merge
  subst h
  simp
theorem parts {K : Nat} {s : List Int} (h : K + 2 ≤ s.length) : ∃ A u v B, s = A ++ u :: v :: B ∧ A.length = K := by
  refine ⟨s.take K, s[K], s[K + 1], s.drop (K + 2), ?_, by simp; omega⟩
  rw [← List.drop_eq_getElem_cons (by omega), ← List.drop_eq_getElem_cons (by omega), List.take_append_drop]
theorem addAt_left {A L : List Int} {b : Nat} (h : b < A.length) (m : Int) : addAt (A ++ L) b m = addAt A b m ++ L := by
  unfold addAt
  apply List.ext_getElem?
  intro i
  by_cases hi : i < A.length
  · rw [List.getElem?_modify, List.getElem?_append_left hi, List.getElem?_append_left (by simpa using hi), List.getElem?_modify]
  · rw [List.getElem?_modify, List.getElem?_append_right (by omega), List.getElem?_append_right (by simp; omega)]
    simp [show b ≠ i by omega]
theorem addAt_right {A L : List Int} {b : Nat} (m : Int) : addAt (A ++ L) (A.length + b) m = A ++ addAt L b m := by
  unfold addAt
  induction A with
  | nil => simp
  | cons a A ih =>
    rw [List.cons_append, List.length_cons, show A.length + 1 + b = (A.length + b) + 1 by omega, List.modify_succ_cons, ih]; rfl
theorem merge_add {K b : Nat} {s : List Int} (h : K + 2 ≤ s.length) (m : Int) : addAt (merge K s) (lessB K b) m = merge K (addAt s b m) := by
  obtain ⟨A, u, v, B, rfl, hA⟩ := parts h
  rw [merge_app hA]
  unfold lessB
  by_cases h1 : b < K
  · rw [if_pos (by omega), addAt_left (by omega), addAt_left (by omega), merge_app (by rw [addAt_length]; exact hA)]
  · obtain ⟨d, rfl⟩ : ∃ d, b = A.length + d := ⟨b - A.length, by omega⟩
    rw [addAt_right]
    match d with
    | 0 =>
      rw [if_pos (by omega), addAt_right]
      show A ++ wrap64 (wrap64 (u + v) + m) :: B = merge K (A ++ wrap64 (u + m) :: v :: B)
      rw [merge_app hA]
      congr 2
      unfold wrap64; omega
    | 1 =>
      rw [if_neg (by omega), show A.length + 1 - 1 = A.length + 0 by omega, addAt_right]
      show A ++ wrap64 (wrap64 (u + v) + m) :: B = merge K (A ++ u :: wrap64 (v + m) :: B)
      rw [merge_app hA]
      congr 2
      unfold wrap64; omega
    | d + 2 =>
      rw [if_neg (by omega), show A.length + (d + 2) - 1 = A.length + (d + 1) by omega, addAt_right]
      show A ++ wrap64 (u + v) :: addAt B d m = merge K (A ++ u :: v :: addAt B d m)
      rw [merge_app hA]
theorem merge_zeros {K n : Nat} (h : K + 2 ≤ n + 1) : merge K (List.replicate (n + 1) 0) = List.replicate n 0 := by
  obtain ⟨d, rfl⟩ : ∃ d, n = K + (d + 1) := ⟨n - K - 1, by omega⟩
  rw [show K + (d + 1) + 1 = K + (d + 2) by omega, ← List.replicate_append_replicate, List.replicate_succ, List.replicate_succ, merge_app (by simp), ← List.replicate_append_replicate, List.replicate_succ, show wrap64 ((0 : Int) + 0) = 0 by unfold wrap64; omega]
theorem merge_length {K : Nat} {s : List Int} (h : K + 2 ≤ s.length) : (merge K s).length + 1 = s.length := by
  obtain ⟨A, u, v, B, rfl, hA⟩ := parts h
  rw [merge_app hA]; simp; omega
theorem merge_rd {K : Nat} {s : List Int} (h : K + 2 ≤ s.length) (n : Nat) : (n < K → (merge K s).getD n 0 = s.getD n 0) ∧ (n = K → (merge K s).getD n 0 = wrap64 (s.getD K 0 + s.getD (K + 1) 0)) ∧ (K < n → (merge K s).getD n 0 = s.getD (n + 1) 0) := by
  obtain ⟨A, u, v, B, rfl, hA⟩ := parts h
  rw [merge_app hA]
  simp only [List.getD_eq_getElem?_getD]
  refine ⟨fun hn => ?_, fun hn => ?_, fun hn => ?_⟩
  · rw [List.getElem?_append_left (by omega), List.getElem?_append_left (by omega)]
  · subst hn; subst hA
    rw [List.getElem?_append_right (Nat.le_refl _), List.getElem?_append_right (Nat.le_refl _), List.getElem?_append_right (by omega), show A.length + 1 - A.length = 1 by omega, Nat.sub_self]
    rfl
  · subst hA
    obtain ⟨d, rfl⟩ : ∃ d, n = A.length + (d + 1) := ⟨n - A.length - 1, by omega⟩
    rw [List.getElem?_append_right (by omega), List.getElem?_append_right (by omega), show A.length + (d + 1) - A.length = d + 1 by omega, show A.length + (d + 1) + 1 - A.length = d + 2 by omega]
    rfl

theorem sums_less (day : Int) (lims : List Int) (K : Nat) (hK : K < lims.length) (hs : ∀ y x, lims[K]? = some y → lims[K + 1]? = some x → y < x) : ∀ (l : List Left) (S : Own → Option (List Int)), (∀ k s, S k = some s → s.length = lims.length + 1) →
    l.foldl (fun S x => stepS ((less lims K).length + 1) (bucketN (wrap64 (day - x.f2)) (less lims K)) x.f3 x.own S) (fun k => (S k).map (merge K)) = fun k => ((l.foldl (fun S x => stepS (lims.length + 1) (bucketN (wrap64 (day - x.f2)) lims) x.f3 x.own S) S) k).map (merge K)
  | [], S, _ => rfl
  | x :: l, S, hl => by
    have hll := less_length hK
    have hstep : stepS ((less lims K).length + 1) (bucketN (wrap64 (day - x.f2)) (less lims K)) x.f3 x.own (fun k => (S k).map (merge K)) = fun k => (stepS (lims.length + 1) (bucketN (wrap64 (day - x.f2)) lims) x.f3 x.own S k).map (merge K) := by
      rw [bucketN_less hK hs]
      funext y
      unfold stepS putS
      by_cases e : y = x.own
      · rw [if_pos e, if_pos e]
        simp only [Option.map_some]
        congr 1
        cases hS : S x.own with
        | none =>
          simp only [Option.map_none, Option.getD_none]
          rw [hll, ← merge_add (by simp; omega), merge_zeros (by omega)]
        | some s =>
          simp only [Option.map_some, Option.getD_some]
          have := hl _ _ hS
          rw [merge_add (by omega)]
      · rw [if_neg e, if_neg e]
    rw [List.foldl_cons, List.foldl_cons, hstep]
    refine sums_less day lims K hK hs l _ (fun k s h => ?_)
    unfold stepS putS at h
    by_cases e : k = x.own
    · rw [if_pos e] at h
      cases h
      rw [addAt_length]
      cases hS : S x.own with
      | none => simp
      | some s => rw [Option.getD_some]; exact hl _ _ hS
    · rw [if_neg e] at h
      exact hl k s h
theorem rows_less (l : List Left) (day : Int) (lims : List Int) (K : Nat) (hK : K < lims.length) (hs : ∀ y x, lims[K]? = some y → lims[K + 1]? = some x → y < x) : rowsOf l day (less lims K) = (rowsOf l day lims).map fun r => (⟨r.f0, r.f1, merge K r.f2⟩ : Aged) := by
  have h1 := rowsOf_rep l day (less lims K)
  have h2 := rowsOf_rep l day lims
  have h3 : sumsOf l day (less lims K) = fun k => (sumsOf l day lims k).map (merge K) := sums_less day lims K hK hs l (fun _ => none) (fun k s h => by cases h)
  rw [h3] at h1
  refine h1.unique ⟨List.pairwise_map.2 h2.1, fun r => ⟨fun hr => ?_, fun hr => ?_⟩⟩
  · obtain ⟨r0, h4, rfl⟩ := List.mem_map.1 hr
    have := (h2.2 r0).1 h4
    show (sumsOf l day lims r0.own).map (merge K) = _
    rw [this]; rfl
  · obtain ⟨s, h4, h5⟩ := Option.map_eq_some_iff.1 hr
    refine List.mem_map.2 ⟨⟨r.f0, r.f1, s⟩, (h2.2 ⟨r.f0, r.f1, s⟩).2 h4, ?_⟩
    exact Aged.ext' rfl h5

theorem ev_limit_l (lims : List Int) (K : Nat) (rows : List Aged) (hK : K < lims.length) (hm : lims.length ≤ 10) (hr : rows.length ≤ 60) (hat : ∀ r ∈ rows, r.f2.length = lims.length + 1) : ∀ d j, d = rows.length - j → j ≤ rows.length → Ev (fun k => accountinglaw27_AgingLimit.l0 k lims (K : Int) rows (rows.map fun r => (⟨r.f0, r.f1, merge K r.f2⟩ : Aged)) (j : Int)) true := by
  intro d
  induction d with
  | zero =>
    intro j hd hj
    refine Ev.step (H := fun k => (accountinglaw27_lives.f k).bind fun t => some t) (fun k => ?_) ev_end
    rw [accountinglaw27_AgingLimit.l0, if_neg (by omega)]
  | succ d ih =>
    intro j hd hj
    have hlt : j < rows.length := by omega
    have hlt2 : j < (rows.map fun r => (⟨r.f0, r.f1, merge K r.f2⟩ : Aged)).length := by simpa using hlt
    have hsz := hat rows[j] (List.getElem_mem hlt)
    have hnext := ih (j + 1) (by omega) (by omega)
    have hb : (rows.map fun r => (⟨r.f0, r.f1, merge K r.f2⟩ : Aged))[j] = ⟨rows[j].f0, rows[j].f1, merge K rows[j].f2⟩ := by simp
    have hml := merge_length (K := K) (s := rows[j].f2) (by omega)
    have hrd := merge_rd (K := K) (s := rows[j].f2) (by omega)
    generalize (rows.map fun r => (⟨r.f0, r.f1, merge K r.f2⟩ : Aged)) = rows2 at hlt2 hnext hb ⊢
    have in1 : ∀ d' n, d' = lims.length - n → n ≤ lims.length → Ev (fun k => accountinglaw27_AgingLimit.l1 k lims (K : Int) rows rows2 (j : Int) (n : Int)) true := by
      intro d'
      induction d' with
      | zero =>
        intro n hd' hn
        refine Ev.step (H := fun k => accountinglaw27_AgingLimit.l0 k lims (K : Int) rows rows2 ((j + 1 : Nat) : Int)) (fun k => ?_) hnext
        rw [accountinglaw27_AgingLimit.l1, if_neg (by omega), up_one hlt (by simp only [Big]; omega)]
      | succ d' ih' =>
        intro n hd' hn
        have hnl : n < lims.length := by omega
        have hn2 := ih' (n + 1) (by omega) (by omega)
        by_cases h1 : n = K
        · refine Ev.step (H := fun k => accountinglaw27_AgingLimit.j5 k lims (K : Int) rows rows2 (j : Int) (n : Int) (wrap64 (rd rows[j].f2 (n : Int) + rd rows[j].f2 ((K + 1 : Nat) : Int)))) (fun k => ?_) (Ev.step (H := fun k => accountinglaw27_AgingLimit.l1 k lims (K : Int) rows rows2 (j : Int) ((n + 1 : Nat) : Int)) (fun k => ?_) hn2)
          · rw [accountinglaw27_AgingLimit.l1, if_pos (by omega), if_pos (by omega), if_pos (by omega), if_pos (by omega), rdA_at hlt, if_pos (by omega), if_pos (by omega), up_one hK (by simp only [Big]; omega), if_pos (by omega), if_pos (by omega)]
          · rw [accountinglaw27_AgingLimit.j5, if_neg (by omega), if_pos (by omega), if_pos (by omega), if_pos (by omega), rdA_at hlt2, hb, if_pos (by simp only; omega), if_pos (by rw [rd_nat, rd_nat, rd_nat, (hrd n).2.1 h1, h1]), up_one hnl (by simp only [Big]; omega)]
        · refine Ev.step (H := fun k => accountinglaw27_AgingLimit.j5 k lims (K : Int) rows rows2 (j : Int) (n : Int) (rd rows[j].f2 (n : Int))) (fun k => ?_) (Ev.step (H := fun k => accountinglaw27_AgingLimit.l1 k lims (K : Int) rows rows2 (j : Int) ((n + 1 : Nat) : Int)) (fun k => ?_) hn2)
          · rw [accountinglaw27_AgingLimit.l1, if_pos (by omega), if_pos (by omega), if_pos (by omega), if_pos (by omega), rdA_at hlt, if_pos (by omega), if_neg (by omega)]
          · by_cases h2 : K < n
            · rw [accountinglaw27_AgingLimit.j5, if_pos (by omega), if_pos (by omega), if_pos (by omega), up_one hnl (by simp only [Big]; omega), if_pos (by omega), rdA_at hlt, if_pos (by omega), if_pos (by omega), if_pos (by omega), rdA_at hlt2, hb, if_pos (by simp only; omega), if_pos (by rw [rd_nat, rd_nat, (hrd n).2.2 h2])]
            · rw [accountinglaw27_AgingLimit.j5, if_neg (by omega), if_pos (by omega), if_pos (by omega), if_pos (by omega), rdA_at hlt2, hb, if_pos (by simp only; omega), if_pos (by rw [rd_nat, rd_nat, (hrd n).1 (by omega)]), up_one hnl (by simp only [Big]; omega)]
    have hw : wrap64 ((lims.length : Int) + 1) = (lims.length : Int) + 1 := IntWalk.wrap64_in _ (by omega)
    refine Ev.step (H := fun k => accountinglaw27_AgingLimit.j3 k lims (K : Int) rows rows2 (j : Int) false) (fun k => ?_) (Ev.step (H := fun k => accountinglaw27_AgingLimit.l1 k lims (K : Int) rows rows2 (j : Int) 0) (fun k => by rw [accountinglaw27_AgingLimit.j3, if_neg (by simp)]) (in1 _ 0 rfl (Nat.zero_le _)))
    rw [accountinglaw27_AgingLimit.l0, if_pos (by omega), if_pos (by omega), rdA_at hlt, hw, if_pos (by omega), if_pos (by omega), rdA_at hlt2, hb]
    have e : ((merge K rows[j].f2).length : Int) = (lims.length : Int) := by omega
    simp only [e, bne_self_eq_false]

theorem pure_AgingLimit (l : List Left) (day : Int) (lims : List Int) (hl : l.length ≤ 9223372036854775807) (hm : lims.length ≤ 9223372036854775807) : ∃ k, accountinglaw27_AgingLimit.f k l day lims = some true := by
  refine Ev.get ?_
  obtain ⟨b, hb, hbs⟩ := ev_light l lims hl
  have hout : Ev (fun k => accountinglaw27_AgingLimit.j0 k l day lims true) true := Ev.step (H := fun k => (accountinglaw27_lives.f k).bind fun t => some t) (fun k => by rw [accountinglaw27_AgingLimit.j0, if_pos rfl]) ev_end
  unfold accountinglaw27_AgingLimit.f
  refine Ev.bind hb ?_
  cases b with
  | false => simpa using hout
  | true =>
    obtain ⟨h1, h2, h3⟩ := hbs rfl
    simp only [if_true]
    by_cases c1 : (lims.length : Int) < 1
    · simp only [if_pos c1]; exact hout
    · simp only [if_neg c1]
      by_cases c2 : (lims.length : Int) > 10
      · simp only [c2, decide_true]; exact hout
      · simp only [c2, decide_false]
        have hKl : lims.length / 2 < lims.length := by omega
        have hK : wrap64 ((lims.length : Int) / 2) = ((lims.length / 2 : Nat) : Int) := by rw [IntWalk.wrap64_in _ (by omega)]; omega
        have hK1 : wrap64 (((lims.length / 2 : Nat) : Int) + 1) = ((lims.length / 2 + 1 : Nat) : Int) := by rw [IntWalk.wrap64_in _ (by omega)]; omega
        obtain ⟨e, he, hi⟩ := ev_check l day lims h1 h3
        obtain ⟨e2, he2, hi2⟩ := ev_check l day (less lims (lims.length / 2)) h1 h3
        refine Ev.step (H := fun k => (aging_Of.f k l day lims).bind fun bt219 => ((aging_Of.f k l day (less lims (lims.length / 2))).bind fun bt223 => (if bt219.2 = 0 then (accountinglaw27_AgingLimit.j1 k lims ((lims.length / 2 : Nat) : Int) bt219.1 bt219.2 bt223.1 (bt223.2 != 0)) else (accountinglaw27_AgingLimit.j1 k lims ((lims.length / 2 : Nat) : Int) bt219.1 bt219.2 bt223.1 true)))) (fun k => ?_) (Ev.bind (ev_Of he) (Ev.bind (ev_Of he2) ?_))
        · rw [accountinglaw27_AgingLimit.j0, if_neg (by simp), Option.bind_some, hK, if_pos (by omega), if_pos (by omega), Int.toNat_natCast, if_pos (by simp; omega), Option.bind_some, hK1, if_pos (by omega), if_pos (by omega), Int.toNat_natCast, if_pos (by simp; omega), List.nil_append]
          rfl
        · by_cases h0 : e = 0
          · have hfit := hi.1 h0
            have hsort : ∀ y x, lims[lims.length / 2]? = some y → lims[lims.length / 2 + 1]? = some x → y < x := fun y x hy hx => by
              obtain ⟨ha, rfl⟩ := List.getElem?_eq_some_iff.1 hy
              obtain ⟨hc, rfl⟩ := List.getElem?_eq_some_iff.1 hx
              have := hfit.2.2.1 (lims.length / 2 + 1) hc (by omega)
              rw [rd_at hc, show (((lims.length / 2 + 1 : Nat) : Int) - 1) = ((lims.length / 2 : Nat) : Int) by omega, rd_at ha] at this
              exact this
            have hfit2 : Fit l day (less lims (lims.length / 2)) := by
              have hll := less_length hKl
              refine ⟨hfit.1, by have := hfit.2.1; omega, fun i hil hi0 => ?_, hfit.2.2.2⟩
              have hg := hfit.2.2.1
              have hmono : ∀ a c, a < c → ∀ ha : a < lims.length, ∀ hc : c < lims.length, lims[a] < lims[c] := by
                intro a c hac
                induction c with
                | zero => omega
                | succ c ihc =>
                  intro ha hc
                  have h5 := hg (c + 1) hc (by omega)
                  rw [rd_at hc, show (((c + 1 : Nat) : Int) - 1) = (c : Int) by omega, rd_at (show c < lims.length by omega)] at h5
                  rcases Nat.lt_or_ge a c with h6 | h6
                  · have := ihc h6 ha (by omega); omega
                  · have e7 : a = c := by omega
                    subst e7; exact h5
              have hrdl : ∀ i (hi : i < (less lims (lims.length / 2)).length), ∃ c, ∃ hc : c < lims.length, rd (less lims (lims.length / 2)) (i : Int) = lims[c] ∧ c = if i < lims.length / 2 then i else i + 1 := by
                intro i hi
                have h5 := less_at hKl i
                rw [List.getElem?_eq_getElem hi] at h5
                by_cases h6 : i < lims.length / 2
                · rw [if_pos h6, List.getElem?_eq_getElem (by omega)] at h5
                  exact ⟨i, by omega, by rw [rd_at hi]; exact Option.some.inj h5, by rw [if_pos h6]⟩
                · rw [if_neg h6, List.getElem?_eq_getElem (by omega)] at h5
                  exact ⟨i + 1, by omega, by rw [rd_at hi]; exact Option.some.inj h5, by rw [if_neg h6]⟩
              obtain ⟨ca, hca, ea, fa⟩ := hrdl (i - 1) (by omega)
              obtain ⟨cb, hcb, eb, fb⟩ := hrdl i hil
              rw [show ((i : Int) - 1) = ((i - 1 : Nat) : Int) by omega, ea, eb]
              refine hmono ca cb ?_ hca hcb
              rw [fa, fb]
              by_cases h6 : i < lims.length / 2
              · rw [if_pos h6, if_pos (by omega)]; omega
              · rw [if_neg h6]; split <;> omega
            have h02 := hi2.2 hfit2
            have hrl := rowsOf_length l day lims
            simp only [h0, h02, if_true, bne_self_eq_false]
            refine Ev.step (H := fun k => accountinglaw27_AgingLimit.l0 k lims ((lims.length / 2 : Nat) : Int) (rowsOf l day lims) (rowsOf l day (less lims (lims.length / 2))) 0) (fun k => ?_) ?_
            · rw [accountinglaw27_AgingLimit.j1, if_neg (by simp), rows_less l day lims _ hKl hsort, if_pos (by simp)]
            · rw [rows_less l day lims _ hKl hsort]
              exact ev_limit_l lims _ _ hKl (by omega) (by omega) (fun r hr => (rowsOf_at hr).1) _ 0 rfl (Nat.zero_le _)
          · simp only [h0, if_false]
            refine Ev.step (H := fun k => (accountinglaw27_lives.f k).bind fun t => some t) (fun k => ?_) ev_end
            rw [accountinglaw27_AgingLimit.j1, if_pos rfl, if_neg h0]

end Go.Proofs.YtohfnpkoheafkaaDoor.PAg
