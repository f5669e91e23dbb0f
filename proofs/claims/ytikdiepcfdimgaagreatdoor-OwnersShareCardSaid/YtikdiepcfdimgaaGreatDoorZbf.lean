/- The walk of the program and the plain laws behind the statements of this seat, part 6. -/
import Derived.Test.YtikdiepcfdimgaaGreatDoorZbe
import Derived.ProofKit
import Derived.LaidMore
import Derived.OpenShut
import Derived.ShutString
import Derived.ChangeOld
import Derived.SizedLaws
import Derived.Stop.Joined
import Derived.Deep.Slices
import Derived.Test.YtikdiepcfdimgaaGreatDoorRows
set_option linter.all false
namespace Go.Proofs.YtikdiepcfdimgaaGreatDoor.POw
open Go.RowKit Go.Proofs.YtikdiepcfdimgaaGreatDoorW.PrintWords Go.Proofs.YtikdiepcfdimgaaGreatDoorW.PrintLast
section
variable {L : List Hold}
theorem Good.part_share (g : Good L) (o x : ByteArray) (day : Int) : Part (rsh o x day L (-1) ⟨0, 1⟩) := by
  have h2 := rsh_is o x day L [] (-1) ⟨0, 1⟩ (by simpa using fun h hh => (g.day h hh).1) (.inl ⟨rfl, rfl, by simp⟩)
  rcases h2 with ⟨e, _⟩ | ⟨h, ⟨h1, _⟩, _, _, e⟩
  · rw [e]; unfold Part; simp
  · rw [e]; exact g.part h (by simpa using h1)
theorem Good.sums (g : Good L) (m : List ByteArray) (hm : m.Pairwise (fun a b => sLt a b = true)) (x : ByteArray) (day : Int) (p : ByteArray → Bool) (hp : ∀ o ∈ (grOf L gr0).owL x, (p o = true ↔ o ∈ m)) :
    exF (m.map fun o => rsh o x day L (-1) ⟨0, 1⟩) 0 1 = exF ((((grOf L gr0).owL x).filter p).map fun o => shareL ((grOf L gr0).shL (o, x)) day) 0 1 := by
  rw [exF_filter (q := inL ((grOf L gr0).owL x)) m 0 1 (fun o _ hq => rsh_none (fun h hh => (g.day h hh).1) (fun he => by
    have := (inL_iff _ _).2 ((grOf_edge L o x).2 he)
    rw [hq] at this; cases this))]
  have e : m.filter (inL ((grOf L gr0).owL x)) = ((grOf L gr0).owL x).filter p := by
    refine sorted_ext_ sO (hm.sublist List.filter_sublist) ((g.gr.owo x).sublist List.filter_sublist) (fun o => ?_)
    rw [List.mem_filter, List.mem_filter, inL_iff]
    constructor
    · rintro ⟨h1, h2⟩; exact ⟨h2, (hp o h2).2 h1⟩
    · rintro ⟨h1, h2⟩; exact ⟨(hp o h1).1 h2, h1⟩
  rw [e]
  congr 1
  refine List.map_congr_left (fun o _ => (g.share o x day).symm)
def moreB (L : List Hold) (p : ByteArray → Bool) (x : ByteArray) (day a b : Int) : Bool :=
  decide (a * (exF ((((grOf L gr0).owL x).filter p).map fun o => shareL ((grOf L gr0).shL (o, x)) day) 0 1).2 < b * (exF ((((grOf L gr0).owL x).filter p).map fun o => shareL ((grOf L gr0).shL (o, x)) day) 0 1).1)
theorem Good.more_prog (g : Good L) (p : ByteArray → Bool) (x : ByteArray) (day a b : Int) (ha : 0 ≤ a ∧ a ≤ 1000000) (hb : 0 ≤ b ∧ b ≤ 1000000) : Ev (fun k => (sumF k p (grOf L gr0) x day).bind fun st => owners_sum_exceeds.f k st.1 st.2 a b) (moreB L p x day a b) := by
  obtain ⟨st, ⟨k1, E1⟩, ⟨k2, E2⟩⟩ := sumF_ev p (grOf L gr0) x day (fun o _ => by rw [g.share]; exact g.part_share o x day) (by have := g.gr.owl x; have := g.len; omega) a b ha hb
  refine ⟨k1 + k2, fun k hk => ?_⟩
  have F1 := E1 k (by omega)
  have F2 := E2 k (by omega)
  simp only at F1 F2
  show (sumF k p (grOf L gr0) x day).bind _ = _
  rw [F1, Option.bind_some, F2]
  rfl
theorem Good.more_ref (g : Good L) (m : List ByteArray) (hm : m.Pairwise (fun a b => sLt a b = true)) (hl : m.length ≤ 20000) (x : ByteArray) (day n : Int) (hn : 0 ≤ n ∧ n ≤ 1000000) (p : ByteArray → Bool) (hp : ∀ o ∈ (grOf L gr0).owL x, (p o = true ↔ o ∈ m)) : Ev (fun k => refEx k L day n m x) (moreB L p x day 1 n) := by
  have := refEx_ev L m x day n hn (by have := g.len; omega) hl (fun o _ => g.part_share o x day)
  rw [g.sums m hm x day p hp] at this
  unfold moreB
  rw [Int.one_mul]
  exact this
end
end Go.Proofs.YtikdiepcfdimgaaGreatDoor.POw
namespace Go.Proofs.YtikdiepcfdimgaaGreatDoor.POw
open Go.RowKit Go.Proofs.YtikdiepcfdimgaaGreatDoorW.PrintWords Go.Proofs.YtikdiepcfdimgaaGreatDoorW.PrintLast
section
variable {L : List Hold}
theorem Good.share_is (g : Good L) (o x : ByteArray) (day : Int) : ShareIs (fun h => h ∈ L ∧ h.pr = (o, x)) day (rsh o x day L (-1) ⟨0, 1⟩) := by
  have h2 := rsh_is o x day L [] (-1) ⟨0, 1⟩ (by simpa using fun h hh => (g.day h hh).1) (.inl ⟨rfl, rfl, by simp⟩)
  rw [List.nil_append] at h2
  exact h2
theorem Good.share_same (g : Good L) (o x : ByteArray) (d d' : Int) (hle : d' ≤ d) (h : ∀ h ∈ L, h.f1 = x → h.f3 ≤ d → h.f3 ≤ d') : rsh o x d L (-1) ⟨0, 1⟩ = rsh o x d' L (-1) ⟨0, 1⟩ := by
  refine ShareIs.unique (P := fun h => h ∈ L ∧ h.pr = (o, x)) (day := d') (g.one (o, x)) ?_ (g.share_is o x d')
  rcases g.share_is o x d with ⟨e, h1⟩ | ⟨q, ⟨q1, q2⟩, q3, q4, e⟩
  · exact .inl ⟨e, fun q hq => by have := h1 q hq; omega⟩
  · refine .inr ⟨q, ⟨q1, q2⟩, h q q1 (by unfold Hold.pr at q2; simp at q2; exact q2.2) q3, fun r hr hd => q4 r hr (by omega), e⟩
theorem Good.more_same (g : Good L) (p : ByteArray → Bool) (x : ByteArray) (a b d d' : Int) (hle : d' ≤ d) (h : ∀ h ∈ L, h.f1 = x → h.f3 ≤ d → h.f3 ≤ d') : moreB L p x d a b = moreB L p x d' a b := by
  unfold moreB
  have e : (fun o => shareL ((grOf L gr0).shL (o, x)) d) = fun o => shareL ((grOf L gr0).shL (o, x)) d' := by
    funext o
    rw [g.share, g.share]
    exact g.share_same o x d d' hle h
  rw [e]
theorem Good.overE (g : Good L) (day : Int) : ∀ xs : List ByteArray, Ev (fun k => overE k (grOf L gr0) day xs) (xs.any fun x => moreB L (fun _ => true) x day 1 1)
  | [] => ⟨0, fun _ _ => rfl⟩
  | x :: xs => by
    obtain ⟨k1, E1⟩ := g.more_prog (fun _ => true) x day 1 1 (by omega) (by omega)
    obtain ⟨k2, E2⟩ := Good.overE g day xs
    refine ⟨k1 + k2, fun k hk => ?_⟩
    have F1 := E1 k (by omega)
    have F2 := E2 k (by omega)
    simp only at F1 F2
    show POw.overE k (grOf L gr0) day (x :: xs) = _
    rw [POw.overE]
    obtain ⟨st, hst, hb⟩ := Option.bind_eq_some_iff.1 F1
    rw [hst, Option.bind_some, hb, Option.bind_some, List.any_cons]
    cases moreB L (fun _ => true) x day 1 1 with
    | true => rfl
    | false => rw [if_neg (by simp), F2]; rfl
theorem Good.overD (g : Good L) : ∀ ds : List Int, Ev (fun k => POw.overD k (grOf L gr0) ds) (ds.any fun d => (grOf L gr0).en.any fun x => moreB L (fun _ => true) x d 1 1)
  | [] => ⟨0, fun _ _ => rfl⟩
  | d :: ds => by
    obtain ⟨k1, E1⟩ := g.overE d (grOf L gr0).en
    obtain ⟨k2, E2⟩ := Good.overD g ds
    refine ⟨k1 + k2, fun k hk => ?_⟩
    have F1 := E1 k (by omega)
    have F2 := E2 k (by omega)
    simp only at F1 F2
    show POw.overD k (grOf L gr0) (d :: ds) = _
    rw [POw.overD, F1, Option.bind_some, List.any_cons]
    cases (grOf L gr0).en.any fun x => moreB L (fun _ => true) x d 1 1 with
    | true => rfl
    | false => rw [if_neg (by simp), F2]; rfl
theorem Good.ent_sorted (L : List Hold) : (entL L []).Pairwise (fun a b => sLt a b = true) := entL_sorted L [] List.Pairwise.nil
theorem Good.ent_len (g : Good L) : (entL L []).length ≤ 400 := by
  have h1 := entL_length L []
  have h2 := g.len
  simp only [List.length_nil] at h1
  omega
theorem owL_edge {o x : ByteArray} : o ∈ (grOf L gr0).owL x ↔ ∃ h ∈ L, o = h.f0 ∧ x = h.f1 := by
  rw [mem_owL]
  constructor
  · rintro (h | h)
    · simp [gr0, Gr.owL] at h
    · exact h
  · exact .inr
theorem mem_ent {x : ByteArray} : x ∈ entL L [] ↔ ∃ h ∈ L, x = h.f0 ∨ x = h.f1 := by
  rw [mem_entL]
  constructor
  · rintro (h | h)
    · cases h
    · exact h
  · exact .inr
theorem owL_ent {o x : ByteArray} (h : o ∈ (grOf L gr0).owL x) : o ∈ entL L [] := by
  obtain ⟨h, hm, h0, _⟩ := owL_edge.1 h
  exact mem_ent.2 ⟨h, hm, .inl h0⟩
theorem Good.refOver (g : Good L) : ∀ hs : List Hold, Ev (fun k => POw.refOver k L (entL L []) hs) (hs.any fun h => moreB L (fun _ => true) h.f1 h.f3 1 1)
  | [] => ⟨0, fun _ _ => rfl⟩
  | h :: hs => by
    obtain ⟨k1, E1⟩ := g.more_ref (entL L []) (Good.ent_sorted L) (by have := g.ent_len; omega) h.f1 h.f3 1 (by omega) (fun _ => true) (fun o ho => ⟨fun _ => owL_ent ho, fun _ => rfl⟩)
    obtain ⟨k2, E2⟩ := Good.refOver g hs
    refine ⟨k1 + k2, fun k hk => ?_⟩
    have F1 := E1 k (by omega)
    have F2 := E2 k (by omega)
    simp only at F1 F2
    show POw.refOver k L (entL L []) (h :: hs) = _
    rw [POw.refOver, F1, Option.bind_some, List.any_cons]
    cases moreB L (fun _ => true) h.f1 h.f3 1 1 with
    | true => rfl
    | false => rw [if_neg (by simp), F2]; rfl
theorem last_hold (x : ByteArray) (d : Int) : ∀ l : List Hold, (∀ h ∈ l, h.f1 = x → d < h.f3) ∨ ∃ h ∈ l, h.f1 = x ∧ h.f3 ≤ d ∧ ∀ q ∈ l, q.f1 = x → q.f3 ≤ d → q.f3 ≤ h.f3
  | [] => .inl (by simp)
  | a :: l => by
    by_cases c : a.f1 = x ∧ a.f3 ≤ d
    · rcases last_hold x d l with h | ⟨h, hm, h1, h2, h3⟩
      · refine .inr ⟨a, List.mem_cons_self .., c.1, c.2, fun q hq hx hd => ?_⟩
        rcases List.mem_cons.1 hq with rfl | hq
        · exact Int.le_refl _
        · have := h q hq hx; omega
      · by_cases hc : h.f3 ≤ a.f3
        · refine .inr ⟨a, List.mem_cons_self .., c.1, c.2, fun q hq hx hd => ?_⟩
          rcases List.mem_cons.1 hq with rfl | hq
          · exact Int.le_refl _
          · have := h3 q hq hx hd; omega
        · refine .inr ⟨h, List.mem_cons_of_mem _ hm, h1, h2, fun q hq hx hd => ?_⟩
          rcases List.mem_cons.1 hq with rfl | hq
          · omega
          · exact h3 q hq hx hd
    · have hna : a.f1 = x → d < a.f3 := fun e => Int.not_le.1 (fun hle => c ⟨e, hle⟩)
      rcases last_hold x d l with h | ⟨h, hm, h1, h2, h3⟩
      · refine .inl (fun q hq hx => ?_)
        rcases List.mem_cons.1 hq with rfl | hq
        · exact hna hx
        · exact h q hq hx
      · refine .inr ⟨h, List.mem_cons_of_mem _ hm, h1, h2, fun q hq hx hd => ?_⟩
        rcases List.mem_cons.1 hq with rfl | hq
        · have := hna hx; omega
        · exact h3 q hq hx hd
theorem Good.more_none (g : Good L) (p : ByteArray → Bool) (x : ByteArray) (d a b : Int) (ha : 0 ≤ a) (h : ∀ h ∈ L, h.f1 = x → d < h.f3) : moreB L p x d a b = false := by
  unfold moreB
  have hz : ∀ o ∈ ((grOf L gr0).owL x).filter p, (fun o => shareL ((grOf L gr0).shL (o, x)) d) o = ⟨0, 1⟩ := fun o _ => by
    show shareL ((grOf L gr0).shL (o, x)) d = _
    rw [g.share]
    rcases g.share_is o x d with ⟨e, _⟩ | ⟨q, ⟨q1, q2⟩, q3, _⟩
    · exact e
    · unfold Hold.pr at q2
      simp at q2
      have := h q q1 q2.2
      omega
  rw [exF_filter (q := fun _ => false) _ 0 1 (fun o ho _ => hz o ho)]
  rw [List.filter_eq_nil_iff.2 (fun _ _ => by simp), List.map_nil, exF]
  simp only
  rw [decide_eq_false_iff_not]
  omega
theorem Good.over_same (g : Good L) : ((grOf L gr0).ch.any fun d => (grOf L gr0).en.any fun x => moreB L (fun _ => true) x d 1 1) = L.any fun h => moreB L (fun _ => true) h.f1 h.f3 1 1 := by
  rw [Bool.eq_iff_iff, List.any_eq_true, List.any_eq_true]
  constructor
  · rintro ⟨d, _, h⟩
    obtain ⟨x, _, h⟩ := List.any_eq_true.1 h
    rcases last_hold x d L with hn | ⟨q, hq, h1, h2, h3⟩
    · rw [g.more_none _ x d 1 1 (by omega) hn] at h; cases h
    · refine ⟨q, hq, ?_⟩
      rw [h1, ← g.more_same (fun _ => true) x 1 1 d q.f3 h2 h3]
      exact h
  · rintro ⟨q, hq, h⟩
    refine ⟨q.f3, (mem_ch _ L gr0).2 (.inr ⟨q, hq, rfl⟩), List.any_eq_true.2 ⟨q.f1, ?_, h⟩⟩
    rw [grOf_en]
    exact mem_ent.2 ⟨q, hq, .inr rfl⟩
end
structure Group (L : List Hold) : Prop where
  good : Good L
  ev : Ev (fun k => newL k L 0 gr0) (.inr (grOf L gr0))
  over : (L.any fun h => moreB L (fun _ => true) h.f1 h.f3 1 1) = false
theorem new_both (L : List Hold) (hs : L.length ≤ 200 → ∀ h ∈ L, h.f0.size ≤ 100 ∧ h.f1.size ≤ 100) :
    ∃ (i e : Int) (og : Option Gr), Ev (fun k => newF k L) (i, e, og) ∧ Ev (fun k => refCheck k L) (i, e) ∧ (e = 0 → og = some (grOf L gr0) ∧ Group L) ∧ (e ≠ 0 → og = none) := by
  by_cases hbig : 200 < L.length
  · refine ⟨0, 9, none, ⟨0, fun k _ => ?_⟩, ⟨0, fun k _ => ?_⟩, by omega, fun _ => rfl⟩
    · show newF k L = _
      unfold newF; rw [if_pos hbig]
    · show refCheck k L = _
      unfold refCheck; rw [if_pos hbig]
  · have hl : L.length ≤ 200 := by omega
    rcases ones_ev L (by omega) (hs hl) L [] rfl with ⟨⟨k1, h1⟩, ⟨k2, h2⟩⟩ | ⟨i, e, he, ⟨k1, h1⟩, ⟨k2, h2⟩⟩
    · have G := h2 k2 (Nat.le_refl _)
      have g : Good L := good_of hl (hs hl) G
      obtain ⟨k3, h3⟩ := g.overD (grOf L gr0).ch
      obtain ⟨k4, h4⟩ := g.refOver L
      rw [g.over_same] at h3
      have hN : ∀ k, k1 + k2 + k3 + k4 ≤ k → newF k L = if (L.any fun h => moreB L (fun _ => true) h.f1 h.f3 1 1) = true then some (0, 4, none) else some (0, 0, some (grOf L gr0)) := fun k hk => by
        have F2 := h2 k (by omega)
        have F3 := h3 k (by omega)
        simp only [List.length_nil] at F2 F3
        unfold newF
        rw [if_neg hbig, show newL k L 0 gr0 = some (.inr (grOf L gr0)) from F2, Option.bind_some]
        simp only
        rw [F3, Option.bind_some]
      have hR : ∀ k, k1 + k2 + k3 + k4 ≤ k → refCheck k L = if (L.any fun h => moreB L (fun _ => true) h.f1 h.f3 1 1) = true then some (0, 4) else some (0, 0) := fun k hk => by
        have F1 := h1 k (by omega)
        have F4 := h4 k (by omega)
        simp only [List.length_nil] at F1 F4
        unfold refCheck
        rw [if_neg hbig, F1, Option.bind_some]
        simp only
        rw [F4, Option.bind_some]
      cases c : (L.any fun h => moreB L (fun _ => true) h.f1 h.f3 1 1) with
      | true =>
        rw [c] at hN hR
        exact ⟨0, 4, none, ⟨_, fun k hk => by have := hN k hk; rw [if_pos rfl] at this; exact this⟩, ⟨_, fun k hk => by have := hR k hk; rw [if_pos rfl] at this; exact this⟩, by omega, fun _ => rfl⟩
      | false =>
        rw [c] at hN hR
        exact ⟨0, 0, some (grOf L gr0), ⟨_, fun k hk => by have := hN k hk; rw [if_neg (by simp)] at this; exact this⟩, ⟨_, fun k hk => by have := hR k hk; rw [if_neg (by simp)] at this; exact this⟩, fun _ => ⟨rfl, g, ⟨k2, h2⟩, c⟩, fun h => absurd rfl h⟩
    · refine ⟨i, e, none, ⟨k2, fun k hk => ?_⟩, ⟨k1, fun k hk => ?_⟩, fun h => absurd h he, fun _ => rfl⟩
      · have F := h2 k hk
        simp only [List.length_nil] at F
        show newF k L = _
        unfold newF
        rw [if_neg hbig, show newL k L 0 gr0 = some (.inl (i, e)) from F, Option.bind_some]
      · have F := h1 k hk
        simp only [List.length_nil] at F
        show refCheck k L = _
        unfold refCheck
        rw [if_neg hbig, F, Option.bind_some]
end Go.Proofs.YtikdiepcfdimgaaGreatDoor.POw
namespace Go.Proofs.YtikdiepcfdimgaaGreatDoor.POw
open Go.RowKit Go.Proofs.YtikdiepcfdimgaaGreatDoorW.PrintWords Go.Proofs.YtikdiepcfdimgaaGreatDoorW.PrintLast
def Pos (f : Frc) : Prop := 0 ≤ f.f0 ∧ 1 ≤ f.f1
theorem exF_mono {f : ByteArray → Frc} {p q : ByteArray → Bool} (hpq : ∀ o, p o = true → q o = true) : ∀ (m : List ByteArray) (N D N' D' K : Int), (∀ o ∈ m, Pos (f o)) → 0 ≤ D → 1 ≤ K → D' = D * K → N * K ≤ N' →
    ∃ K', 1 ≤ K' ∧ (exF ((m.filter q).map f) N' D').2 = (exF ((m.filter p).map f) N D).2 * K' ∧ (exF ((m.filter p).map f) N D).1 * K' ≤ (exF ((m.filter q).map f) N' D').1
  | [], N, D, N', D', K, _, _, hK, e, h => ⟨K, hK, e, h⟩
  | o :: m, N, D, N', D', K, hm, hD, hK, e, h => by
    have hf := hm o (List.mem_cons_self ..)
    have hm' := fun o ho => hm o (List.mem_cons_of_mem _ ho)
    obtain ⟨n, hn⟩ : ∃ n, (f o).f0 = n := ⟨_, rfl⟩
    obtain ⟨d, hd⟩ : ∃ d, (f o).f1 = d := ⟨_, rfl⟩
    unfold Pos at hf
    rw [hn, hd] at hf
    have hd0 : 0 ≤ d := by omega
    have hN : N * K * d ≤ N' * d := Int.mul_le_mul_of_nonneg_right h hd0
    have hDd : 0 ≤ D * d := Int.mul_nonneg hD hd0
    cases cp : p o with
    | true =>
      have cq := hpq o cp
      rw [List.filter_cons_of_pos (p := p) cp, List.filter_cons_of_pos (p := q) cq, List.map_cons, List.map_cons, exF, exF, hn, hd]
      refine exF_mono hpq m _ _ _ _ K hm' hDd hK ?_ ?_
      · rw [e, Int.mul_right_comm]
      · rw [Int.add_mul, e, Int.mul_right_comm N d K, Int.mul_right_comm D n K]
        omega
    | false =>
      rw [List.filter_cons_of_neg (p := p) (by simp [cp])]
      cases cq : q o with
      | true =>
        rw [List.filter_cons_of_pos (p := q) cq, List.map_cons, exF, hn, hd]
        have hKd : 1 ≤ K * d := by
          have : 1 * 1 ≤ K * d := Int.mul_le_mul hK hf.2 (by omega) (by omega)
          omega
        refine exF_mono hpq m _ _ _ _ (K * d) hm' hD hKd ?_ ?_
        · rw [e, Int.mul_assoc]
        · have h2 : 0 ≤ D' * n := Int.mul_nonneg (by rw [e]; exact Int.mul_nonneg hD (by omega)) hf.1
          rw [← Int.mul_assoc]
          omega
      | false =>
        rw [List.filter_cons_of_neg (p := q) (by simp [cq])]
        exact exF_mono hpq m N D N' D' K hm' hD hK e h
theorem rightB_pos {a b : Int} (h : rightB a b = true) : 1 ≤ b := by
  have := rightB_bounds h
  omega
section
variable {L : List Hold}
theorem Good.pos_share (g : Good L) (o x : ByteArray) (day : Int) : Pos (rsh o x day L (-1) ⟨0, 1⟩) := by
  rcases g.share_is o x day with ⟨e, _⟩ | ⟨h, ⟨h1, _⟩, _, _, e⟩
  · rw [e]; unfold Pos; simp
  · rw [e]
    have h2 := (g.ok h h1).2.2.1
    unfold fitH at h2
    simp only [Bool.and_eq_true, decide_eq_true_eq] at h2
    exact ⟨h2.1.2, rightB_pos h2.1.1⟩
theorem Good.more_mono (g : Good L) {p q : ByteArray → Bool} (hpq : ∀ o, p o = true → q o = true) {x : ByteArray} {day a b : Int} (hb : 0 ≤ b) (h : moreB L p x day a b = true) : moreB L q x day a b = true := by
  unfold moreB at h ⊢
  rw [decide_eq_true_eq] at h ⊢
  obtain ⟨K, hK, e, hn⟩ := exF_mono (f := fun o => shareL ((grOf L gr0).shL (o, x)) day) hpq ((grOf L gr0).owL x) 0 1 0 1 1 (fun o _ => by
    show Pos (shareL ((grOf L gr0).shL (o, x)) day)
    rw [g.share]; exact g.pos_share o x day) (by omega) (by omega) (by omega) (by omega)
  rw [e]
  have h1 : a * (exF ((((grOf L gr0).owL x).filter p).map fun o => shareL ((grOf L gr0).shL (o, x)) day) 0 1).2 * K < b * (exF ((((grOf L gr0).owL x).filter p).map fun o => shareL ((grOf L gr0).shL (o, x)) day) 0 1).1 * K := Int.mul_lt_mul_of_pos_right h (by omega)
  have h2 := Int.mul_le_mul_of_nonneg_left hn hb
  rw [Int.mul_assoc, Int.mul_assoc] at h1
  omega
def Clo (L : List Hold) (day : Int) (p : ByteArray → Bool) : Prop := ∀ x ∈ entL L [], p x = false → moreB L p x day 1 2 = false
structure Least (L : List Hold) (day : Int) (top : ByteArray) (P : ByteArray → Bool) : Prop where
  tp : P top = true
  clo : Clo L day P
  sub : ∀ x, P x = true → x = top ∨ x ∈ entL L []
  min : ∀ Q : ByteArray → Bool, Clo L day Q → Q top = true → ∀ x, P x = true → Q x = true
theorem Least.unique {day : Int} {top : ByteArray} {P Q : ByteArray → Bool} (h1 : Least L day top P) (h2 : Least L day top Q) : P = Q := by
  funext x
  rw [Bool.eq_iff_iff]
  exact ⟨h1.min Q h2.clo h2.tp x, h2.min P h1.clo h1.tp x⟩
theorem Good.membE_ev (g : Good L) (day : Int) (p : ByteArray → Bool) : ∀ xs : List ByteArray, Ev (fun k => membE k (grOf L gr0) day p xs) (xs.find? fun x => !p x && moreB L p x day 1 2)
  | [] => ⟨0, fun _ _ => rfl⟩
  | x :: xs => by
    obtain ⟨k2, E2⟩ := Good.membE_ev g day p xs
    cases cp : p x with
    | true =>
      refine ⟨k2, fun k hk => ?_⟩
      show membE k (grOf L gr0) day p (x :: xs) = _
      rw [membE, if_pos cp, List.find?_cons_of_neg (by simp [cp])]
      exact E2 k hk
    | false =>
      obtain ⟨k1, E1⟩ := g.more_prog p x day 1 2 (by omega) (by omega)
      refine ⟨k1 + k2, fun k hk => ?_⟩
      have F1 := E1 k (by omega)
      have F2 := E2 k (by omega)
      simp only at F1 F2
      show membE k (grOf L gr0) day p (x :: xs) = _
      obtain ⟨st, hst, hb⟩ := Option.bind_eq_some_iff.1 F1
      rw [membE, if_neg (by simp [cp]), hst, Option.bind_some, hb, Option.bind_some]
      cases c : moreB L p x day 1 2 with
      | true => rw [List.find?_cons_of_pos (by simp [cp, c])]; rfl
      | false => rw [if_neg (by simp), List.find?_cons_of_neg (by simp [c]), F2]
theorem Good.memb_main (g : Good L) (day : Int) : ∀ (m : Nat) (p : ByteArray → Bool), unseen (entL L []) p ≤ m →
    ∃ (P : ByteArray → Bool) (k0 : Nat), (∀ k n, k0 ≤ k → m + 1 ≤ n → membL k (grOf L gr0) day n p = some P) ∧ Clo L day P ∧ (∀ x, p x = true → P x = true) ∧ (∀ x, P x = true → p x = true ∨ x ∈ entL L []) ∧
      ∀ Q : ByteArray → Bool, Clo L day Q → (∀ x, p x = true → Q x = true) → ∀ x, P x = true → Q x = true := by
  have hen : (grOf L gr0).en = entL L [] := grOf_en L gr0
  intro m
  induction m with
  | zero =>
    intro p hu
    obtain ⟨k0, E⟩ := g.membE_ev day p (entL L [])
    have hall : ∀ x ∈ entL L [], p x = true := fun x hx => by
      cases c : p x with
      | true => rfl
      | false =>
        have := unseen_put hx c
        omega
    have hf : (entL L []).find? (fun x => !p x && moreB L p x day 1 2) = none := by
      rw [List.find?_eq_none]
      intro x hx
      simp [hall x hx]
    refine ⟨p, k0, fun k n hk hn => ?_, fun x hx hp => ?_, fun _ h => h, fun _ h => .inl h, fun _ _ h => h⟩
    · obtain ⟨j, rfl⟩ : ∃ j, n = j + 1 := ⟨n - 1, by omega⟩
      have F := E k hk
      simp only at F
      rw [membL, hen, F, hf]
      rfl
    · rw [hall x hx] at hp; cases hp
  | succ m ih =>
    intro p hu
    obtain ⟨k0, E⟩ := g.membE_ev day p (entL L [])
    cases hf : (entL L []).find? (fun x => !p x && moreB L p x day 1 2) with
    | none =>
      rw [hf] at E
      refine ⟨p, k0, fun k n hk hn => ?_, fun x hx hp => ?_, fun _ h => h, fun _ h => .inl h, fun _ _ h => h⟩
      · obtain ⟨j, rfl⟩ : ∃ j, n = j + 1 := ⟨n - 1, by omega⟩
        have F := E k hk
        simp only at F
        rw [membL, hen, F]
        rfl
      · rw [List.find?_eq_none] at hf
        have := hf x hx
        rw [hp] at this
        simpa using this
    | some x =>
      rw [hf] at E
      have hx := List.mem_of_find?_eq_some hf
      have hc := List.find?_some hf
      simp only [Bool.and_eq_true, Bool.not_eq_true'] at hc
      have hu2 := unseen_put hx hc.1
      obtain ⟨P, k1, h1, h2, h3, h4, h5⟩ := ih (putB p x) (by omega)
      refine ⟨P, k0 + k1, fun k n hk hn => ?_, h2, fun y hy => h3 y (by simp [putB, hy]), fun y hy => ?_, fun Q hQ hpQ y hy => ?_⟩
      · obtain ⟨j, rfl⟩ : ∃ j, n = j + 1 := ⟨n - 1, by omega⟩
        have F := E k (by omega)
        simp only at F
        rw [membL, hen, F]
        exact h1 k j (by omega) (by omega)
      · rcases h4 y hy with h | h
        · unfold putB at h
          by_cases e : y = x
          · exact .inr (e ▸ hx)
          · simp [e] at h; exact .inl h
        · exact .inr h
      · refine h5 Q hQ (fun z hz => ?_) y hy
        unfold putB at hz
        by_cases e : z = x
        · rw [e]
          cases cq : Q x with
          | true => rfl
          | false =>
            have a := hQ x hx cq
            rw [g.more_mono hpQ (by omega) hc.2] at a
            cases a
        · simp [e] at hz; exact hpQ z hz
end
def MembIs (L : List Hold) (top : ByteArray) (day : Int) (r : Option (ByteArray → Bool)) : Prop := (wcodeB top = true ∧ isDay day = true ∧ ∃ P, r = some P ∧ Least L day top P) ∨ (¬ (wcodeB top = true ∧ isDay day = true) ∧ r = none)
theorem MembIs.unique {L : List Hold} {top : ByteArray} {day : Int} {r r' : Option (ByteArray → Bool)} (h : MembIs L top day r) (h' : MembIs L top day r') : r = r' := by
  rcases h with ⟨a, b, P, rfl, hP⟩ | ⟨a, rfl⟩
  · rcases h' with ⟨_, _, Q, rfl, hQ⟩ | ⟨a', _⟩
    · rw [hP.unique hQ]
    · exact absurd ⟨a, b⟩ a'
  · rcases h' with ⟨c, d, _⟩ | ⟨_, rfl⟩
    · exact absurd ⟨c, d⟩ a
    · rfl
theorem Good.memb_ev {L : List Hold} (g : Good L) (top : ByteArray) (day : Int) : ∃ r, Ev (fun k => membF k (grOf L gr0) top day) r ∧ MembIs L top day r := by
  by_cases c0 : wcodeB top = true
  · by_cases c1 : isDay day = true
    · obtain ⟨P, k0, h1, h2, h3, h4, h5⟩ := g.memb_main day (unseen (entL L []) (putB (fun _ => false) top)) (putB (fun _ => false) top) (Nat.le_refl _)
      refine ⟨some P, ⟨k0 + unseen (entL L []) (putB (fun _ => false) top) + 1, fun k hk => ?_⟩, .inl ⟨c0, c1, P, rfl, h3 top (by simp [putB]), h2, fun x hx => ?_, fun Q hQ ht x hx => h5 Q hQ (fun y hy => ?_) x hx⟩⟩
      · show membF k (grOf L gr0) top day = _
        rw [membF, if_pos c0, if_pos c1, h1 k k (by omega) (by omega)]
        rfl
      · rcases h4 x hx with h | h
        · simp [putB] at h; exact .inl h
        · exact .inr h
      · have : y = top := by simpa [putB] using hy
        rw [this]; exact ht
    · exact ⟨none, ⟨0, fun k _ => by show membF k (grOf L gr0) top day = _; rw [membF, if_pos c0, if_neg c1]⟩, .inr ⟨fun h => c1 h.2, rfl⟩⟩
  · exact ⟨none, ⟨0, fun k _ => by show membF k (grOf L gr0) top day = _; rw [membF, if_neg c0]⟩, .inr ⟨fun h => c0 h.1, rfl⟩⟩
end Go.Proofs.YtikdiepcfdimgaaGreatDoor.POw
namespace Go.Proofs.YtikdiepcfdimgaaGreatDoor.POw
open Go.RowKit Go.Proofs.YtikdiepcfdimgaaGreatDoorW.PrintWords Go.Proofs.YtikdiepcfdimgaaGreatDoorW.PrintLast
abbrev SortedS (l : List ByteArray) : Prop := l.Pairwise (fun a b => sLt a b = true)
theorem inL_with (out : List ByteArray) (x : ByteArray) : inL (withG sLt out x) = putB (inL out) x := by
  funext y
  rw [Bool.eq_iff_iff, inL_iff, withG_mem]
  unfold putB
  rw [Bool.or_eq_true, decide_eq_true_eq, inL_iff]
section
variable {L : List Hold}
theorem Good.memIn (g : Good L) (day : Int) : ∀ (xs out : List ByteArray), (∀ x ∈ xs, x ∈ entL L []) → SortedS out → unseen (entL L []) (inL out) + out.length ≤ 8000 →
    ∃ res, Ev (fun k => refMemIn k L day xs out) res ∧ SortedS res ∧ unseen (entL L []) (inL res) + res.length ≤ 8000 ∧ (∀ x, x ∈ out → x ∈ res) ∧ (∀ x, x ∈ res → x ∈ out ∨ x ∈ entL L []) ∧
      (∀ Q : ByteArray → Bool, Clo L day Q → (∀ x, x ∈ out → Q x = true) → ∀ x, x ∈ res → Q x = true) ∧
      unseen (entL L []) (inL res) ≤ unseen (entL L []) (inL out) ∧
      ((res = out ∧ ∀ x ∈ xs, inL out x = false → moreB L (inL out) x day 1 2 = false) ∨ unseen (entL L []) (inL res) + 1 ≤ unseen (entL L []) (inL out))
  | [], out, _, hs, hu => ⟨out, ⟨0, fun _ _ => rfl⟩, hs, hu, fun _ h => h, fun _ h => .inl h, fun _ _ h => h, Nat.le_refl _, .inl ⟨rfl, by simp⟩⟩
  | x :: xs, out, hx, hs, hu => by
    have hx' := fun y hy => hx y (List.mem_cons_of_mem _ hy)
    have hxe := hx x (List.mem_cons_self ..)
    obtain ⟨k1, E1⟩ := ref_has_ev out x (by omega)
    cases hc : inL out x with
    | true =>
      rw [hc] at E1
      obtain ⟨res, ⟨k2, E2⟩, a1, a2, a3, a4, a5, a6, a7⟩ := Good.memIn g day xs out hx' hs hu
      refine ⟨res, ⟨k1 + k2, fun k hk => ?_⟩, a1, a2, a3, a4, a5, a6, ?_⟩
      · have F1 := E1 k (by omega)
        have F2 := E2 k (by omega)
        simp only at F1 F2
        show refMemIn k L day (x :: xs) out = _
        rw [refMemIn, F1, Option.bind_some, if_pos rfl, F2]
      · rcases a7 with ⟨e, h⟩ | h
        · refine .inl ⟨e, fun y hy hf => ?_⟩
          rcases List.mem_cons.1 hy with rfl | hy
          · rw [hc] at hf; cases hf
          · exact h y hy hf
        · exact .inr h
    | false =>
      rw [hc] at E1
      obtain ⟨k3, E3⟩ := g.more_ref out hs (by omega) x day 2 (by omega) (inL out) (fun o _ => inL_iff out o)
      cases hm : moreB L (inL out) x day 1 2 with
      | false =>
        rw [hm] at E3
        obtain ⟨res, ⟨k2, E2⟩, a1, a2, a3, a4, a5, a6, a7⟩ := Good.memIn g day xs out hx' hs hu
        refine ⟨res, ⟨k1 + k2 + k3, fun k hk => ?_⟩, a1, a2, a3, a4, a5, a6, ?_⟩
        · have F1 := E1 k (by omega)
          have F2 := E2 k (by omega)
          have F3 := E3 k (by omega)
          simp only at F1 F2 F3
          show refMemIn k L day (x :: xs) out = _
          rw [refMemIn, F1, Option.bind_some, if_neg (by simp), F3, Option.bind_some, if_neg (by simp), F2]
        · rcases a7 with ⟨e, h⟩ | h
          · refine .inl ⟨e, fun y hy hf => ?_⟩
            rcases List.mem_cons.1 hy with rfl | hy
            · exact hm
            · exact h y hy hf
          · exact .inr h
      | true =>
        rw [hm] at E3
        have hup := unseen_put hxe hc
        have hle := withG_length (lt := sLt) out x
        have hw : unseen (entL L []) (inL (withG sLt out x)) + 1 ≤ unseen (entL L []) (inL out) := by rw [inL_with]; exact hup
        obtain ⟨res, ⟨k2, E2⟩, a1, a2, a3, a4, a5, a6, a7⟩ := Good.memIn g day xs (withG sLt out x) hx' (withG_sorted sO _ hs) (by omega)
        refine ⟨res, ⟨k1 + k2 + k3, fun k hk => ?_⟩, a1, a2, fun y hy => a3 y ((withG_mem _ _ _).2 (.inr hy)), fun y hy => ?_, fun Q hQ hq => a5 Q hQ (fun y hy => ?_), by omega, .inr (by omega)⟩
        · have F1 := E1 k (by omega)
          have F2 := E2 k (by omega)
          have F3 := E3 k (by omega)
          simp only at F1 F2 F3
          show refMemIn k L day (x :: xs) out = _
          rw [refMemIn, F1, Option.bind_some, if_neg (by simp), F3, Option.bind_some, if_pos rfl, if_pos (by omega), F2]
        · rcases a4 y hy with h | h
          · rcases (withG_mem _ _ _).1 h with rfl | h
            · exact .inr hxe
            · exact .inl h
          · exact .inr h
        · rcases (withG_mem _ _ _).1 hy with rfl | hy
          · cases cq : Q y with
            | true => rfl
            | false =>
              have a := hQ y hxe cq
              rw [g.more_mono (fun o ho => hq o ((inL_iff _ _).1 ho)) (by omega) hm] at a
              cases a
          · exact hq y hy
theorem Good.memOut (g : Good L) (day : Int) : ∀ (n : Nat) (out : List ByteArray), SortedS out → unseen (entL L []) (inL out) + out.length ≤ 8000 → (unseen (entL L []) (inL out) ≤ n ∨ Clo L day (inL out)) →
    ∃ res, Ev (fun k => refMemOut k L day (entL L []) n out) res ∧ SortedS res ∧ res.length ≤ 8000 ∧ (∀ x, x ∈ out → x ∈ res) ∧ (∀ x, x ∈ res → x ∈ out ∨ x ∈ entL L []) ∧
      (∀ Q : ByteArray → Bool, Clo L day Q → (∀ x, x ∈ out → Q x = true) → ∀ x, x ∈ res → Q x = true) ∧ Clo L day (inL res)
  | 0, out, hs, hu, hn => by
    refine ⟨out, ⟨0, fun _ _ => rfl⟩, hs, by omega, fun _ h => h, fun _ h => .inl h, fun _ _ h => h, ?_⟩
    rcases hn with h | h
    · intro x hx hf
      have := unseen_put hx hf
      omega
    · exact h
  | n + 1, out, hs, hu, hn => by
    obtain ⟨r1, ⟨k1, E1⟩, b1, b2, b3, b4, b5, b6, b7⟩ := g.memIn day (entL L []) out (fun _ h => h) hs hu
    have hn2 : unseen (entL L []) (inL r1) ≤ n ∨ Clo L day (inL r1) := by
      rcases b7 with ⟨e, h⟩ | h
      · right; rw [e]; exact h
      · rcases hn with h2 | h2
        · left; omega
        · have e : inL r1 = inL out := by
            funext x
            rw [Bool.eq_iff_iff]
            constructor
            · intro hx; exact b5 _ h2 (fun y hy => (inL_iff _ _).2 hy) x ((inL_iff _ _).1 hx)
            · intro hx; exact (inL_iff _ _).2 (b3 x ((inL_iff _ _).1 hx))
          rw [e] at h; omega
    obtain ⟨res, ⟨k2, E2⟩, a1, a2, a3, a4, a5, a6⟩ := Good.memOut g day n r1 b1 b2 hn2
    refine ⟨res, ⟨k1 + k2, fun k hk => ?_⟩, a1, a2, fun x hx => a3 x (b3 x hx), fun x hx => ?_, fun Q hQ hq => a5 Q hQ (b5 Q hQ hq), a6⟩
    · have F1 := E1 k (by omega)
      have F2 := E2 k (by omega)
      simp only at F1 F2
      show refMemOut k L day (entL L []) (n + 1) out = _
      rw [refMemOut, F1, Option.bind_some, F2]
    · rcases a4 x hx with h | h
      · exact b4 x h
      · exact .inr h
def ListIs (res : List ByteArray) (r : Option (ByteArray → Bool)) : Prop := SortedS res ∧ ∀ x, x ∈ res ↔ ∃ p, r = some p ∧ p x = true
theorem Good.members_ev (g : Good L) (top : ByteArray) (day : Int) (ht : top.size ≤ 100) : ∃ res r, Ev (fun k => refMembers k L top day) res ∧ MembIs L top day r ∧ ListIs res r ∧ res.length ≤ 8000 := by
  obtain ⟨k0, E0⟩ := ev_ref6 top ht
  by_cases c0 : wcodeB top = true
  · rw [c0] at E0
    by_cases c1 : isDay day = true
    · have hu : unseen (entL L []) (inL [top]) ≤ (entL L []).length := List.countP_le_length
      have hl := g.ent_len
      obtain ⟨res, ⟨k1, E1⟩, a1, a2, a3, a4, a5, a6⟩ := g.memOut day (entL L []).length [top] (List.pairwise_singleton ..) (by simp; omega) (.inl hu)
      refine ⟨res, some (inL res), ⟨k0 + k1, fun k hk => ?_⟩, .inl ⟨c0, c1, _, rfl, (inL_iff _ _).2 (a3 top (by simp)), a6, fun x hx => ?_, fun Q hQ ht x hx => a5 Q hQ (fun y hy => ?_) x ((inL_iff _ _).1 hx)⟩, ⟨a1, fun x => ?_⟩, a2⟩
      · have F0 := E0 k (by omega)
        have F1 := E1 k (by omega)
        simp only at F0 F1
        show refMembers k L top day = _
        rw [refMembers, F0, Option.bind_some, if_pos rfl, ref_day_is, Option.bind_some, if_pos c1, F1]
      · rcases a4 x ((inL_iff _ _).1 hx) with h | h
        · simp at h; exact .inl h
        · exact .inr h
      · have : y = top := by simpa using hy
        rw [this]; exact ht
      · constructor
        · intro hx; exact ⟨_, rfl, (inL_iff _ _).2 hx⟩
        · rintro ⟨p, e, hp⟩
          cases e
          exact (inL_iff _ _).1 hp
    · refine ⟨[], none, ⟨k0, fun k hk => ?_⟩, .inr ⟨fun h => c1 h.2, rfl⟩, ⟨List.Pairwise.nil, fun x => by simp⟩, by simp⟩
      have F0 := E0 k hk
      simp only at F0
      show refMembers k L top day = _
      rw [refMembers, F0, Option.bind_some, if_pos rfl, ref_day_is, Option.bind_some, if_neg c1]
  · refine ⟨[], none, ⟨k0, fun k hk => ?_⟩, .inr ⟨fun h => c0 h.1, rfl⟩, ⟨List.Pairwise.nil, fun x => by simp⟩, by simp⟩
    have F0 := E0 k hk
    simp only at F0
    show refMembers k L top day = _
    rw [refMembers, F0, Option.bind_some, if_neg c0]
end
end Go.Proofs.YtikdiepcfdimgaaGreatDoor.POw
namespace Go.Proofs.YtikdiepcfdimgaaGreatDoor.POw
open Go.RowKit Go.Lib Go.Proofs.YtikdiepcfdimgaaGreatDoorW.PrintWords Go.Proofs.YtikdiepcfdimgaaGreatDoorW.PrintLast
def sinceL (kf : Nat) (s : Gr) (top ent : ByteArray) (day : Int) : List Int → Option (Int × Bool)
  | [] => some (0, true)
  | c :: cs => if c ≤ day ∧ 0 < c then (membF kf s top (c - 1)).bind fun r => if inB r ent = true then sinceL kf s top ent day cs else some (c, true) else sinceL kf s top ent day cs
def sinceF (kf : Nat) (s : Gr) (top ent : ByteArray) (day : Int) : Option (Int × Bool) :=
  (membF kf s top day).bind fun r => if inB r ent = true then sinceL kf s top ent day s.ch.reverse else some (0, false)
theorem look_memb {W W' : World} {B : Nat} {mv : Value} {r : Option (ByteArray → Bool)} (ent : ByteArray) (he : ent.size ≤ 1000) (h : MembPost B W' mv r) : (Instr.lookup 75 mv (.string ent) false).run Tryz.prog W' = .ok (.bool (inB r ent)) W' ∧ ∃ o, mv = .map o := by
  cases r with
  | none => simp only [MembPost] at h; subst h; exact ⟨set_nil_look ent he W', _, rfl⟩
  | some p =>
    obtain ⟨mb, rfl, hs, _⟩ := h
    exact ⟨hs.look ent he, _, rfl⟩
section
variable {w : World} {B g m1 m2 : Nat} {V : Pr → Value} {U : ByteArray → Value} {vE vC : Value} {s : Gr}
set_option maxRecDepth 100000 in
set_option maxHeartbeats 8000000 in
theorem go_Since_none (gv : Value) (top ent : ByteArray) (day : Int) (r : Option (ByteArray → Bool)) (he : ent.size ≤ 1000) (hr : inB r ent = false)
    (hm : Calls Tryz.prog 37 #[gv, .string top, .int .i64 day] w fun e w' => ∃ mv, e = .returned mv ∧ MembPost w.heap.size w' mv r ∧ Below w.heap.size w w') :
    Calls Tryz.prog 21 #[gv, .string top, .string ent, .int .i64 day] w fun e w' => e = .returned (.tuple #[.int .i64 0, .bool false]) ∧ Below w.heap.size w w' := by
  have HM := Lib.hid hm; have HR := Lib.hid hr; have HEZ := Lib.hid he
  clear hm hr
  go_enter Tryz.func21, Tryz.ntmps21
  go_wp2_with (go_at_call 37; refine HM.out.mono ?_; rintro e w1 ⟨mv, rfl, hmv, hb2⟩; obtain ⟨hlk, o, ho⟩ := look_memb (W := w) ent HEZ.out hmv; subst ho; rw [HR.out] at hlk; clear hmv)
  go_ret2
  exact ⟨rfl, hb2⟩
set_option maxRecDepth 100000 in
set_option maxHeartbeats 8000000 in
theorem go_Since (hG : GrAt w B g m1 m2 V U vE vC s) (ok : GrOk s) (hcI : ∀ c ∈ s.ch, inI c) (kf : Nat) (top ent : ByteArray) (day : Int) (res : Int × Bool) (ht : top.size ≤ 1000) (he : ent.size ≤ 1000) (hL : DaysLaid w) (hF : sinceF kf s top ent day = some res) :
    Calls Tryz.prog 21 #[.pointer (some ⟨g, 0, none⟩), .string top, .string ent, .int .i64 day] w fun e w' => e = .returned (.tuple #[.int .i64 res.1, .bool res.2]) ∧ Below w.heap.size w w' := by
  unfold sinceF at hF
  obtain ⟨r, hm, hF⟩ := Option.bind_eq_some_iff.1 hF
  by_cases hin : inB r ent = true
  · rw [if_pos hin] at hF
    have hM := go_members hG ok kf top day r ht hL hm
    have hM2 := fun (W : World) (hW : Below w.heap.size w W) (c : Int) (r : Option (ByteArray → Bool)) (h : membF kf s top (c - 1) = some r) => go_members (hG.below hW) ok kf top (c - 1) r ht (hL.below hW) h
    obtain ⟨A, c, hvC, hlc, hnil, hcm⟩ := own_form hG.chr
    subst hvC
    have hchr := hG.chr
    have hcell := fun (W : World) (hW : Below w.heap.size w W) => (hG.below hW).facts.2.2.2
    have hchl := ok.chl
    have hgl := hG.lt
    obtain ⟨l, hle⟩ : ∃ l, s.ch = l := ⟨_, rfl⟩
    rw [hle] at hF hchr hcell hchl hcI hlc hnil
    obtain ⟨r1, r2⟩ := res
    have HM := Lib.hid hM; have HM2 := Lib.hid hM2; have HCHR := Lib.hid hchr; have HCELL := Lib.hid hcell; have HF := Lib.hid hF; have HCI := Lib.hid hcI; have HIN := Lib.hid hin; have HEZ := Lib.hid he
    clear hM hM2 hchr hcell hF hcI hin hG ok hL hm hnil hle hcm
    go_enter Tryz.func21, Tryz.ntmps21
    go_upto_region 3 with (go_at_call 37; refine HM.out.mono ?_; rintro e w1 ⟨mv, rfl, hmv, hb1⟩; obtain ⟨hlk, o, ho⟩ := look_memb (W := w) ent HEZ.out hmv; subst ho; rw [HIN.out] at hlk; clear hmv)
    have hc1 := HCELL.out w1 hb1
    have hg1 := Nat.lt_of_lt_of_le hgl hb1.size
    clear hlk
    go_wp2
    clear hc1
    go_loopg [10, 11, 8, 9] l.length (fun n t10 t11 t8 t9 wr => ∃ k : Nat, n = k ∧ k ≤ l.length ∧ t10 = .int .i64 ((k : Int) - 1) ∧ Below w.heap.size w wr ∧ Hid (sinceL kf s top ent day (l.take k).reverse = some (r1, r2)))
    case atStart => exact ⟨l.length, rfl, Nat.le_refl _, by go_num, hb1, by rw [List.take_length]; exact HF⟩
    case round =>
      obtain ⟨k, rfl, hk, rfl, hbr, HR⟩ := hrel
      have hgr := Nat.lt_of_lt_of_le hgl hbr.size
      cases gk with
      | zero =>
        have hR := HR.out
        simp only [List.take_zero, List.reverse_nil, sinceL, Option.some.injEq, Prod.mk.injEq] at hR
        obtain ⟨rfl, rfl⟩ := hR
        clear HR
        go_wp2
        go_ret2
        exact ⟨rfl, hbr⟩
      | succ k =>
        have hlt : k < l.length := by omega
        have hR := HR.out
        rw [List.take_succ_eq_append_getElem hlt, List.reverse_append, List.reverse_singleton, List.singleton_append] at hR
        simp only [sinceL] at hR
        have hc1 := HCELL.out wr hbr
        obtain ⟨gb, rfl, hgb, q0⟩ := own_int_at (pw_own_below HCHR.out hbr) k hlt
        obtain ⟨x, hx⟩ : ∃ x, l[k] = x := ⟨_, rfl⟩
        have hxI := HCI.out x (hx ▸ List.getElem_mem hlt)
        rw [hx] at hR q0
        clear hx
        have hki : (k : Int) < (l.length : Int) := by omega
        have HXI := Lib.hid hxI
        clear hxI
        by_cases hc : x ≤ day
        · by_cases hp : 0 < x
          · rw [if_pos ⟨hc, hp⟩] at hR
            obtain ⟨rx, hrx, hR⟩ := Option.bind_eq_some_iff.1 hR
            have hM3 := HM2.out wr hbr x rx hrx
            have HM3 := Lib.hid hM3
            have hw1 : IntKind.i64.wrap (x - 1) = x - 1 := by have := HXI.out; unfold inI at this; exact IntWalk.i64_in _ (by omega)
            clear hM3 hrx
            by_cases hy : inB rx ent = true
            · rw [if_pos hy] at hR
              have HY := Lib.hid hy; have HR2 := Lib.hid hR
              clear hy hR HR
              go_wp2_with (go_at_call 37; (try simp only [hw1]); refine HM3.out.mono ?_; rintro e w1 ⟨mv, rfl, hmv, hb3⟩; obtain ⟨hlk, o, ho⟩ := look_memb (W := w) ent HEZ.out hmv; subst ho; rw [HY.out] at hlk; clear hmv)
              go_roundg k
              case measure => omega
              case rel => exact ⟨k, rfl, by omega, by go_num, hbr.trans (hb3.mono hbr.size), HR2⟩
            · rw [if_neg hy] at hR
              have hyf : inB rx ent = false := by simpa using hy
              have HY := Lib.hid hyf
              simp only [Option.some.injEq, Prod.mk.injEq] at hR
              obtain ⟨rfl, rfl⟩ := hR
              clear hy hyf HR
              go_wp2_with (go_at_call 37; (try simp only [hw1]); refine HM3.out.mono ?_; rintro e w1 ⟨mv, rfl, hmv, hb3⟩; obtain ⟨hlk, o, ho⟩ := look_memb (W := w) ent HEZ.out hmv; subst ho; rw [HY.out] at hlk; clear hmv)
              go_ret2
              exact ⟨rfl, hbr.trans (hb3.mono hbr.size)⟩
          · rw [if_neg (fun h => hp h.2)] at hR
            have HR2 := Lib.hid hR
            have hp2 : x ≤ 0 := by omega
            clear hR HR hp
            go_wp2
            go_roundg k
            case measure => omega
            case rel => exact ⟨k, rfl, by omega, by go_num, hbr, HR2⟩
        · rw [if_neg (fun h => hc h.1)] at hR
          have HR2 := Lib.hid hR
          have hc2 : day < x := by omega
          clear hR HR hc
          go_wp2
          go_roundg k
          case measure => omega
          case rel => exact ⟨k, rfl, by omega, by go_num, hbr, HR2⟩
  · rw [if_neg hin, Option.some.injEq] at hF
    subst hF
    exact go_Since_none _ top ent day r he (by simpa using hin) (go_members hG ok kf top day r ht hL hm)
end
end Go.Proofs.YtikdiepcfdimgaaGreatDoor.POw
namespace Go.Proofs.YtikdiepcfdimgaaGreatDoor.POw
open Go.RowKit Go.Proofs.YtikdiepcfdimgaaGreatDoorW.PrintWords Go.Proofs.YtikdiepcfdimgaaGreatDoorW.PrintLast
def Im (L : List Hold) (top ent : ByteArray) (d : Int) : Prop := wcodeB top = true ∧ isDay d = true ∧ ∃ P, Least L d top P ∧ P ent = true
theorem MembIs.im {L : List Hold} {top ent : ByteArray} {d : Int} {r : Option (ByteArray → Bool)} (h : MembIs L top d r) : inB r ent = true ↔ Im L top ent d := by
  rcases h with ⟨a, b, P, rfl, hP⟩ | ⟨a, rfl⟩
  · constructor
    · intro h; exact ⟨a, b, P, hP, h⟩
    · rintro ⟨_, _, Q, hQ, h⟩
      rw [hP.unique hQ]; exact h
  · constructor
    · intro h; cases h
    · rintro ⟨b, c, _⟩; exact absurd ⟨b, c⟩ a
theorem ListIs.inB {res : List ByteArray} {r : Option (ByteArray → Bool)} (h : ListIs res r) (ent : ByteArray) : inL res ent = POw.inB r ent := by
  rw [Bool.eq_iff_iff, inL_iff, h.2]
  cases r with
  | none => simp [POw.inB]
  | some p => simp [POw.inB]
theorem Im.day {L : List Hold} {top ent : ByteArray} {d : Int} (h : Im L top ent d) : 0 ≤ d ∧ d ≤ 109572 := by
  have := h.2.1
  unfold isDay at this
  simpa using this
structure SinceIs (L : List Hold) (top ent : ByteArray) (day : Int) (res : Int × Bool) : Prop where
  out : ¬ Im L top ent day → res = (0, false)
  yes : Im L top ent day → res.2 = true ∧ 0 ≤ res.1 ∧ res.1 ≤ day ∧ (∀ d, res.1 ≤ d → d ≤ day → Im L top ent d) ∧ ¬ Im L top ent (res.1 - 1)
theorem SinceIs.unique {L : List Hold} {top ent : ByteArray} {day : Int} {r r' : Int × Bool} (h : SinceIs L top ent day r) (h' : SinceIs L top ent day r') : r = r' := by
  by_cases c : Im L top ent day
  · obtain ⟨a1, a2, a3, a4, a5⟩ := h.yes c
    obtain ⟨b1, b2, b3, b4, b5⟩ := h'.yes c
    have e : r.1 = r'.1 := by
      rcases Int.lt_trichotomy r.1 r'.1 with hl | he | hl
      · exact absurd (a4 (r'.1 - 1) (by omega) (by omega)) b5
      · exact he
      · exact absurd (b4 (r.1 - 1) (by omega) (by omega)) a5
    exact Prod.ext e (a1.trans b1.symm)
  · rw [h.out c, h'.out c]
section
variable {L : List Hold}
theorem Good.im_same (g : Good L) {top ent : ByteArray} {d d' : Int} (hle : d' ≤ d) (h0 : 0 ≤ d') (h : ∀ h ∈ L, h.f3 ≤ d → h.f3 ≤ d') (hm : Im L top ent d) : Im L top ent d' := by
  obtain ⟨a, b, P, hP, hp⟩ := hm
  have hb := Im.day (⟨a, b, P, hP, hp⟩ : Im L top ent d)
  have e : ∀ p x, moreB L p x d 1 2 = moreB L p x d' 1 2 := fun p x => g.more_same p x 1 2 d d' hle (fun q hq _ hd => h q hq hd)
  have ec : ∀ p, Clo L d p ↔ Clo L d' p := fun p => by
    unfold Clo
    constructor
    · intro hc x hx hf; rw [← e]; exact hc x hx hf
    · intro hc x hx hf; rw [e]; exact hc x hx hf
  refine ⟨a, by unfold isDay; simp; omega, P, ⟨hP.tp, (ec P).1 hP.clo, hP.sub, fun Q hQ => hP.min Q ((ec Q).2 hQ)⟩, hp⟩
theorem Good.sinceL_ev (g : Good L) (top ent : ByteArray) (day : Int) (hday : Im L top ent day) : ∀ cs : List Int, cs.Pairwise (fun a b => b < a) → (∀ h ∈ L, h.f3 ∈ cs ∨ ∀ y ∈ cs, y < h.f3) →
    (∀ d, 0 ≤ d → d ≤ day → (∀ c ∈ cs, c ≤ d) → Im L top ent d) → (∀ c ∈ cs, 0 ≤ c) → ∃ res, Ev (fun k => sinceL k (grOf L gr0) top ent day cs) res ∧ SinceIs L top ent day res
  | [], _, _, hI, _ => ⟨(0, true), ⟨0, fun _ _ => rfl⟩, fun h => absurd hday h, fun _ => ⟨rfl, by omega, hday.day.1, fun d h0 h1 => hI d h0 h1 (by simp), fun h => by have := h.day; simp at this⟩⟩
  | c :: cs, hs, hc, hI, hz => by
    have hs2 := List.pairwise_cons.1 hs
    have hc2 : ∀ h ∈ L, h.f3 ∈ cs ∨ ∀ y ∈ cs, y < h.f3 := fun h hh => by
      rcases hc h hh with h1 | h1
      · rcases List.mem_cons.1 h1 with h2 | h2
        · exact .inr (fun y hy => by rw [h2]; exact hs2.1 y hy)
        · exact .inl h2
      · exact .inr (fun y hy => h1 y (List.mem_cons_of_mem _ hy))
    have hz2 : ∀ y ∈ cs, 0 ≤ y := fun y hy => hz y (List.mem_cons_of_mem _ hy)
    have hc0 := hz c (List.mem_cons_self ..)
    by_cases cc : c ≤ day ∧ 0 < c
    · obtain ⟨r, ⟨k1, E1⟩, hr⟩ := g.memb_ev top (c - 1)
      cases hin : inB r ent with
      | true =>
        have him := hr.im.1 hin
        obtain ⟨res, ⟨k2, E2⟩, h2⟩ := Good.sinceL_ev g top ent day hday cs hs2.2 hc2 (fun d h0 h1 hd => by
          by_cases hcd : c ≤ d
          · exact hI d h0 h1 (fun y hy => by
              rcases List.mem_cons.1 hy with rfl | hy
              · exact hcd
              · exact hd y hy)
          · refine g.im_same (d := c - 1) (by omega) h0 (fun q hq hqd => ?_) him
            rcases hc q hq with h3 | h3
            · rcases List.mem_cons.1 h3 with h4 | h4
              · omega
              · exact hd _ h4
            · have := h3 c (List.mem_cons_self ..); omega) hz2
        refine ⟨res, ⟨k1 + k2, fun k hk => ?_⟩, h2⟩
        have F1 := E1 k (by omega)
        have F2 := E2 k (by omega)
        simp only at F1 F2
        show sinceL k (grOf L gr0) top ent day (c :: cs) = _
        rw [sinceL, if_pos cc, F1, Option.bind_some, if_pos hin, F2]
      | false =>
        refine ⟨(c, true), ⟨k1, fun k hk => ?_⟩, fun h => absurd hday h, fun _ => ⟨rfl, hc0, cc.1, fun d h0 h1 => hI d (by simp at h0; omega) h1 (fun y hy => ?_), fun h => ?_⟩⟩
        · have F1 := E1 k (by omega)
          simp only at F1
          show sinceL k (grOf L gr0) top ent day (c :: cs) = _
          rw [sinceL, if_pos cc, F1, Option.bind_some, if_neg (by simp [hin])]
        · simp only at h0
          rcases List.mem_cons.1 hy with rfl | hy
          · exact h0
          · have := hs2.1 y hy; omega
        · rw [hr.im.2 h] at hin; cases hin
    · obtain ⟨res, ⟨k2, E2⟩, h2⟩ := Good.sinceL_ev g top ent day hday cs hs2.2 hc2 (fun d h0 h1 hd => by
          by_cases hcd : c ≤ d
          · exact hI d h0 h1 (fun y hy => by
              rcases List.mem_cons.1 hy with rfl | hy
              · exact hcd
              · exact hd y hy)
          · have : day < c := by omega
            refine g.im_same (d := day) h1 h0 (fun q hq hqd => ?_) hday
            rcases hc q hq with h3 | h3
            · rcases List.mem_cons.1 h3 with h4 | h4
              · omega
              · exact hd _ h4
            · have := h3 c (List.mem_cons_self ..); omega) hz2
      refine ⟨res, ⟨k2, fun k hk => ?_⟩, h2⟩
      have F2 := E2 k (by omega)
      simp only at F2
      show sinceL k (grOf L gr0) top ent day (c :: cs) = _
      rw [sinceL, if_neg cc, F2]
theorem Good.since_prog (g : Good L) (top ent : ByteArray) (day : Int) : ∃ res, Ev (fun k => sinceF k (grOf L gr0) top ent day) res ∧ SinceIs L top ent day res := by
  obtain ⟨r, ⟨k1, E1⟩, hr⟩ := g.memb_ev top day
  cases hin : inB r ent with
  | true =>
    have him := hr.im.1 hin
    have hmc : ∀ d, d ∈ (grOf L gr0).ch ↔ ∃ h ∈ L, d = h.f3 := fun d => by
      rw [mem_ch]
      constructor
      · rintro (h | h)
        · cases h
        · exact h
      · exact .inr
    obtain ⟨res, ⟨k2, E2⟩, h2⟩ := g.sinceL_ev top ent day him (grOf L gr0).ch.reverse (by
        rw [List.pairwise_reverse]
        exact g.gr.cho.imp (fun h => by simpa [iLt] using h))
      (fun h hh => .inl (by rw [List.mem_reverse]; exact (hmc _).2 ⟨h, hh, rfl⟩))
      (fun d h0 h1 hd => g.im_same h1 h0 (fun q hq _ => hd q.f3 (by rw [List.mem_reverse]; exact (hmc _).2 ⟨q, hq, rfl⟩)) him)
      (fun c hc => by
        rw [List.mem_reverse] at hc
        obtain ⟨h, hh, e⟩ := (hmc c).1 hc
        rw [e]; exact (g.day h hh).1)
    refine ⟨res, ⟨k1 + k2, fun k hk => ?_⟩, h2⟩
    have F1 := E1 k (by omega)
    have F2 := E2 k (by omega)
    simp only at F1 F2
    show sinceF k (grOf L gr0) top ent day = _
    rw [sinceF, F1, Option.bind_some, if_pos hin, F2]
  | false =>
    have hno : ¬ Im L top ent day := fun h => by rw [hr.im.2 h] at hin; cases hin
    refine ⟨(0, false), ⟨k1, fun k hk => ?_⟩, fun _ => rfl, fun h => absurd h hno⟩
    have F1 := E1 k (by omega)
    simp only at F1
    show sinceF k (grOf L gr0) top ent day = _
    rw [sinceF, F1, Option.bind_some, if_neg (by simp [hin])]
theorem refBegin_is (day : Int) : ∀ (l : List Hold) (b : Int), 0 ≤ b → b ≤ day → b ≤ refBegin day l b ∧ refBegin day l b ≤ day ∧ ∀ h ∈ l, h.f3 ≤ day → h.f3 ≤ refBegin day l b
  | [], b, h0, h1 => ⟨Int.le_refl _, h1, by simp⟩
  | h :: hs, b, h0, h1 => by
    rw [refBegin]
    by_cases c : h.f3 ≤ day
    · rw [if_pos c]
      obtain ⟨a1, a2, a3⟩ := refBegin_is day hs (max b h.f3) (by omega) (by omega)
      refine ⟨by omega, a2, fun q hq hd => ?_⟩
      rcases List.mem_cons.1 hq with rfl | hq
      · omega
      · exact a3 q hq hd
    · rw [if_neg c]
      obtain ⟨a1, a2, a3⟩ := refBegin_is day hs b h0 h1
      refine ⟨a1, a2, fun q hq hd => ?_⟩
      rcases List.mem_cons.1 hq with rfl | hq
      · omega
      · exact a3 q hq hd
theorem Good.refSinceL_ev (g : Good L) (top ent : ByteArray) (ht : top.size ≤ 100) (day : Int) (hdm : day ≤ 109572) : ∀ (n : Nat) (d : Int), -1 ≤ d → d ≤ day → (d + 1).toNat + 1 ≤ n → (∀ x, d < x → x ≤ day → Im L top ent x) →
    ∃ f, Ev (fun k => refSinceL k L top ent n d) f ∧ -1 ≤ f ∧ f ≤ d ∧ (∀ x, f < x → x ≤ day → Im L top ent x) ∧ ¬ Im L top ent f
  | 0, _, _, _, h, _ => by omega
  | n + 1, d, h0, h1, hn, hI => by
    by_cases c : 0 ≤ d
    · obtain ⟨m, r, ⟨k1, E1⟩, hr, hl, hml⟩ := g.members_ev top d ht
      obtain ⟨k2, E2⟩ := ref_has_ev m ent (by omega)
      rw [hl.inB ent] at E2
      cases hin : inB r ent with
      | true =>
        rw [hin] at E2
        have him := hr.im.1 hin
        obtain ⟨a1, a2, a3⟩ := refBegin_is d L 0 (by omega) c
        have hw : wrap64 (refBegin d L 0 - 1) = refBegin d L 0 - 1 := wr_ (by omega)
        obtain ⟨f, ⟨k3, E3⟩, b1, b2, b3, b4⟩ := Good.refSinceL_ev g top ent ht day hdm n (refBegin d L 0 - 1) (by omega) (by omega) (by omega) (fun x hx hxd => by
          by_cases hd : d < x
          · exact hI x hd hxd
          · exact g.im_same (d := d) (by omega) (by omega) (fun q hq hqd => by have := a3 q hq hqd; omega) him)
        refine ⟨f, ⟨k1 + k2 + k3, fun k hk => ?_⟩, b1, by omega, b3, b4⟩
        have F1 := E1 k (by omega)
        have F2 := E2 k (by omega)
        have F3 := E3 k (by omega)
        simp only at F1 F2 F3
        show refSinceL k L top ent (n + 1) d = _
        rw [refSinceL, if_pos c, F1, Option.bind_some, F2, Option.bind_some, if_pos rfl, hw, F3]
      | false =>
        rw [hin] at E2
        refine ⟨d, ⟨k1 + k2, fun k hk => ?_⟩, h0, Int.le_refl _, hI, fun h => by rw [hr.im.2 h] at hin; cases hin⟩
        have F1 := E1 k (by omega)
        have F2 := E2 k (by omega)
        simp only at F1 F2
        show refSinceL k L top ent (n + 1) d = _
        rw [refSinceL, if_pos c, F1, Option.bind_some, F2, Option.bind_some, if_neg (by simp)]
    · refine ⟨d, ⟨0, fun k _ => ?_⟩, h0, Int.le_refl _, hI, fun h => c h.day.1⟩
      show refSinceL k L top ent (n + 1) d = _
      rw [refSinceL, if_neg c]
theorem Good.since_ref (g : Good L) (top ent : ByteArray) (ht : top.size ≤ 100) (day : Int) : ∃ res, Ev (fun k => refSince k 200000 L top ent day) res ∧ SinceIs L top ent day res := by
  obtain ⟨m, r, ⟨k1, E1⟩, hr, hl, hml⟩ := g.members_ev top day ht
  obtain ⟨k2, E2⟩ := ref_has_ev m ent (by omega)
  rw [hl.inB ent] at E2
  cases hin : inB r ent with
  | true =>
    rw [hin] at E2
    have him := hr.im.1 hin
    have hd := him.day
    obtain ⟨f, ⟨k3, E3⟩, b1, b2, b3, b4⟩ := g.refSinceL_ev top ent ht day hd.2 200000 day (by omega) (Int.le_refl _) (by omega) (fun x h1 h2 => by omega)
    have hfd : f < day := by
      rcases Int.lt_or_eq_of_le b2 with h | h
      · exact h
      · rw [h] at b4; exact absurd him b4
    have hw : wrap64 (f + 1) = f + 1 := wr_ (by omega)
    refine ⟨(f + 1, true), ⟨k1 + k2 + k3, fun k hk => ?_⟩, fun h => absurd him h, fun _ => ⟨rfl, by simp only; omega, by simp only; omega, fun d h1 h2 => b3 d (by simp only at h1; omega) h2, by simp only [Int.add_sub_cancel]; exact b4⟩⟩
    have F1 := E1 k (by omega)
    have F2 := E2 k (by omega)
    have F3 := E3 k (by omega)
    simp only at F1 F2 F3
    show refSince k 200000 L top ent day = _
    rw [refSince, F1, Option.bind_some, F2, Option.bind_some, if_pos rfl, F3, Option.bind_some, hw]
  | false =>
    rw [hin] at E2
    have hno : ¬ Im L top ent day := fun h => by rw [hr.im.2 h] at hin; cases hin
    refine ⟨(0, false), ⟨k1 + k2, fun k hk => ?_⟩, fun _ => rfl, fun h => absurd h hno⟩
    have F1 := E1 k (by omega)
    have F2 := E2 k (by omega)
    simp only at F1 F2
    show refSince k 200000 L top ent day = _
    rw [refSince, F1, Option.bind_some, F2, Option.bind_some, if_neg (by simp)]
end
end Go.Proofs.YtikdiepcfdimgaaGreatDoor.POw
namespace Go.Proofs.YtikdiepcfdimgaaGreatDoor.POw
open Go.RowKit Go.Proofs.YtikdiepcfdimgaaGreatDoorW.PrintWords Go.Proofs.YtikdiepcfdimgaaGreatDoorW.PrintLast
def Rank (L : List Hold) (r : ByteArray → Nat) : Prop := ∀ o x, Edge L o x → r o < r x
theorem Rank.fwd {L : List Hold} {r : ByteArray → Nat} (h : Rank L r) {a x : ByteArray} (hf : Fwd L a x) : r a ≤ r x := by
  induction hf with
  | base => exact Nat.le_refl _
  | step _ he ih => have := h _ _ he; omega
theorem Edge.mono {l l' : List Hold} (hs : ∀ h ∈ l, h ∈ l') {a x : ByteArray} (h : Edge l a x) : Edge l' a x := by
  obtain ⟨q, h1, h2⟩ := h
  exact ⟨q, hs q h1, h2⟩
theorem Fwd.mono {l l' : List Hold} (hs : ∀ h ∈ l, h ∈ l') {a x : ByteArray} (h : Fwd l a x) : Fwd l' a x := by
  induction h with
  | base => exact .base
  | step _ he ih => exact .step ih (he.mono hs)
theorem fwd_last {l : List Hold} {a b : ByteArray} (h : Fwd l a b) : a = b ∨ ∃ y, Fwd l a y ∧ Edge l y b := by
  cases h with
  | base => exact .inl rfl
  | step h1 h2 => exact .inr ⟨_, h1, h2⟩
open Classical in
theorem Rank.add {l : List Hold} {r : ByteArray → Nat} (h : Rank l r) (x : Hold) (hn : ¬ Fwd l x.f1 x.f0) : ∃ r', Rank (l ++ [x]) r' := by
  refine ⟨fun y => if Fwd l x.f1 y then r y + r x.f0 + 1 else r y, ?_⟩
  rintro o y ⟨q, hq, rfl, rfl⟩
  simp only
  rcases List.mem_append.1 hq with hq | hq
  · have hr := h q.f0 q.f1 ⟨q, hq, rfl, rfl⟩
    by_cases c : Fwd l x.f1 q.f0
    · rw [if_pos c, if_pos (.step c ⟨q, hq, rfl, rfl⟩)]; omega
    · rw [if_neg c]; split <;> omega
  · rw [List.mem_singleton.1 hq, if_neg hn, if_pos .base]; omega
theorem own_fwd (l : List Hold) (a b : ByteArray) (hl : l.length ≤ 9000) {r : Bool} (h : Ev (fun k => accountingref43_owns.f k l a b) r) : r = true ↔ ∃ y, Fwd l a y ∧ Edge l y b := by
  obtain ⟨r', h1, h2⟩ := ref_owns_ev l a b hl
  rw [h.unique h1]; exact h2
theorem oneA_zero {l : List Hold} {i : Nat} {h : Hold} {own : Bool} (hz : oneA l i h own = 0) : wcodeB h.f0 = true ∧ wcodeB h.f1 = true ∧ fitH h = true ∧ isDay h.f3 = true ∧ (l.take i).any (fun x => decide (x.f0 = h.f0 ∧ x.f1 = h.f1 ∧ x.f3 = h.f3)) = false ∧ h.f0 ≠ h.f1 ∧ own = false := by
  unfold oneA oneL at hz
  repeat' split at hz
  all_goals first | (exfalso; omega) | skip
  all_goals simp_all
theorem oneA_of {l : List Hold} {i : Nat} {h : Hold} {own : Bool} (h0 : wcodeB h.f0 = true) (h1 : wcodeB h.f1 = true) (h2 : fitH h = true) (h3 : isDay h.f3 = true) (h4 : (l.take i).any (fun x => decide (x.f0 = h.f0 ∧ x.f1 = h.f1 ∧ x.f3 = h.f3)) = false) (h5 : h.f0 ≠ h.f1) (h6 : own = false) : oneA l i h own = 0 := by
  unfold oneA oneL
  rw [h4]
  simp_all
def Dif (a b : Hold) : Prop := ¬ (a.f0 = b.f0 ∧ a.f1 = b.f1 ∧ a.f3 = b.f3)
theorem newL_rank (L : List Hold) (hL : L.length ≤ 9000) {s : Gr} : ∀ (rest pre : List Hold), L = pre ++ rest → Ev (fun k => newL k rest pre.length (grOf pre gr0)) (.inr s) → (∃ r, Rank pre r) → pre.Pairwise Dif → (∃ r, Rank L r) ∧ L.Pairwise Dif
  | [], pre, hp, _, hr, hd => by rw [hp, List.append_nil]; exact ⟨hr, hd⟩
  | x :: rest, pre, hp, ⟨k1, h1⟩, ⟨r, hr⟩, hd => by
    have ht : L.take pre.length = pre := by rw [hp]; simp
    have hlen : pre.length < L.length := by rw [hp]; simp
    obtain ⟨own, o1, k2, o2⟩ := refused_ev L pre.length x hL
    rw [ht] at o1 o2
    have hz : oneA L pre.length x own = 0 := by
      have F := h1 (k1 + k2) (by omega)
      have G := o2 (k1 + k2) (by omega)
      simp only at F G
      rw [newL, G, Option.bind_some] at F
      by_cases c : oneA L pre.length x own = 0
      · exact c
      · rw [if_neg c] at F; cases F
    obtain ⟨_, _, _, _, htw, hne, hown⟩ := oneA_zero hz
    rw [ht] at htw
    have hn : ¬ Fwd pre x.f1 x.f0 := fun hf => by
      rcases fwd_last hf with e | e
      · exact hne e.symm
      · have := (own_fwd pre x.f1 x.f0 (by omega) o1).2 e
        rw [hown] at this; cases this
    have hd2 : (pre ++ [x]).Pairwise Dif := List.pairwise_append.2 ⟨hd, List.pairwise_singleton .., fun a ha b hb => by
      rw [List.mem_singleton.1 hb]
      intro he
      rw [List.any_eq_false] at htw
      exact htw a ha (by simpa using he)⟩
    have hev : Ev (fun k => newL k rest (pre ++ [x]).length (grOf (pre ++ [x]) gr0)) (.inr s) := ⟨k1 + k2, fun k hk => by
      have F := h1 k (by omega)
      have G := o2 k (by omega)
      simp only at F G
      rw [newL, G, Option.bind_some, if_pos hz] at F
      simp only [List.length_append, List.length_singleton, grOf_snoc]
      exact F⟩
    exact newL_rank L hL rest (pre ++ [x]) (by rw [hp]; simp) hev (hr.add x hn) hd2
theorem Group.rank_dif {L : List Hold} (h : Group L) : (∃ r, Rank L r) ∧ L.Pairwise Dif := newL_rank L (by have := h.good.len; omega) L [] rfl h.ev ⟨fun _ => 0, fun o x ⟨q, hq, _⟩ => by cases hq⟩ List.Pairwise.nil
theorem Group.rank {L : List Hold} (h : Group L) : ∃ r, Rank L r := h.rank_dif.1
abbrev Tri := Int × Int × Int
def foldE (sh : ByteArray → Frc) (rec : ByteArray → Tri) : List ByteArray → Frc → Tri
  | [], f => (f.f0, f.f1, 0)
  | o :: os, f => if (sh o).f0 = 0 then foldE sh rec os f else if (rec o).2.2 = 0 then
      (if (mulQ (sh o).f0 (sh o).f1 (rec o).1 (rec o).2.1).2.2 = 0 then
        (if (addQ f.f0 f.f1 (mulQ (sh o).f0 (sh o).f1 (rec o).1 (rec o).2.1).1 (mulQ (sh o).f0 (sh o).f1 (rec o).1 (rec o).2.1).2.1).2.2 = 0 then
          foldE sh rec os ⟨(addQ f.f0 f.f1 (mulQ (sh o).f0 (sh o).f1 (rec o).1 (rec o).2.1).1 (mulQ (sh o).f0 (sh o).f1 (rec o).1 (rec o).2.1).2.1).1, (addQ f.f0 f.f1 (mulQ (sh o).f0 (sh o).f1 (rec o).1 (rec o).2.1).1 (mulQ (sh o).f0 (sh o).f1 (rec o).1 (rec o).2.1).2.1).2.1⟩
        else (0, 0, (addQ f.f0 f.f1 (mulQ (sh o).f0 (sh o).f1 (rec o).1 (rec o).2.1).1 (mulQ (sh o).f0 (sh o).f1 (rec o).1 (rec o).2.1).2.1).2.2))
      else (0, 0, (mulQ (sh o).f0 (sh o).f1 (rec o).1 (rec o).2.1).2.2))
      else (0, 0, (rec o).2.2)
theorem foldE_congr {sh : ByteArray → Frc} {rec rec' : ByteArray → Tri} : ∀ (l : List ByteArray) (f : Frc), (∀ o ∈ l, (sh o).f0 ≠ 0 → rec o = rec' o) → foldE sh rec l f = foldE sh rec' l f
  | [], _, _ => rfl
  | o :: os, f, h => by
    have ih := fun g => foldE_congr (sh := sh) os g (fun q hq => h q (List.mem_cons_of_mem _ hq))
    rw [foldE, foldE]
    by_cases c : (sh o).f0 = 0
    · rw [if_pos c, if_pos c]; exact ih f
    · rw [if_neg c, if_neg c, h o (List.mem_cons_self ..) c, ih]
theorem foldE_filter {sh : ByteArray → Frc} {rec : ByteArray → Tri} : ∀ (l : List ByteArray) (f : Frc), foldE sh rec (l.filter fun o => decide ((sh o).f0 ≠ 0)) f = foldE sh rec l f
  | [], _ => rfl
  | o :: os, f => by
    have ih := fun g => foldE_filter (sh := sh) (rec := rec) os g
    by_cases c : (sh o).f0 = 0
    · rw [List.filter_cons_of_neg (by simp [c]), ih, foldE, if_pos c]
    · rw [List.filter_cons_of_pos (by simp [c]), foldE, foldE, if_neg c, if_neg c, ih]
def effN (L : List Hold) (day : Int) (p : ByteArray → Bool) (top : ByteArray) : Nat → ByteArray → Tri
  | 0, _ => (0, 1, 0)
  | n + 1, x => if x = top then (1, 1, 0) else foldE (fun o => rsh o x day L (-1) ⟨0, 1⟩) (effN L day p top n) (((grOf L gr0).owL x).filter p) ⟨0, 1⟩
section
variable {L : List Hold}
theorem effN_same {day : Int} {p : ByteArray → Bool} {top : ByteArray} {r : ByteArray → Nat} (hr : Rank L r) : ∀ (n m : Nat) (x : ByteArray), r x < n → r x < m → effN L day p top n x = effN L day p top m x
  | 0, _, _, h, _ => by omega
  | n + 1, 0, _, _, h => by omega
  | n + 1, m + 1, x, h1, h2 => by
    rw [effN, effN]
    by_cases c : x = top
    · rw [if_pos c, if_pos c]
    · rw [if_neg c, if_neg c]
      refine foldE_congr _ _ (fun o ho _ => ?_)
      have := hr o x ((grOf_edge L o x).1 (List.mem_filter.1 ho).1)
      exact effN_same hr n m o (by omega) (by omega)
def EffIs (L : List Hold) (day : Int) (p : ByteArray → Bool) (top : ByteArray) (E : ByteArray → Tri) : Prop :=
  ∀ x, E x = if x = top then (1, 1, 0) else foldE (fun o => rsh o x day L (-1) ⟨0, 1⟩) E (((grOf L gr0).owL x).filter p) ⟨0, 1⟩
theorem eff_is {day : Int} {p : ByteArray → Bool} {top : ByteArray} {r : ByteArray → Nat} (hr : Rank L r) : EffIs L day p top (fun x => effN L day p top (r x + 1) x) := by
  intro x
  show effN L day p top (r x + 1) x = _
  rw [effN]
  by_cases c : x = top
  · rw [if_pos c, if_pos c]
  · rw [if_neg c, if_neg c]
    refine foldE_congr _ _ (fun o ho _ => ?_)
    have := hr o x ((grOf_edge L o x).1 (List.mem_filter.1 ho).1)
    exact effN_same hr _ _ o (by omega) (by omega)
theorem Good.edge_of (g : Good L) {o x : ByteArray} {day : Int} (h : (rsh o x day L (-1) ⟨0, 1⟩).f0 ≠ 0) : Edge L o x := by
  refine Classical.byContradiction (fun hn => h ?_)
  rw [rsh_none (fun h hh => (g.day h hh).1) hn]
theorem Good.refEffL_ev (g : Good L) (day : Int) (x : ByteArray) (E : ByteArray → Tri) (R : Nat → ByteArray → Option Tri) : ∀ (m : List ByteArray) (f : Frc), (∀ o ∈ m, (rsh o x day L (-1) ⟨0, 1⟩).f0 ≠ 0 → Ev (fun k => R k o) (E o)) →
    Ev (fun k => refEffL k L day (R k) x m f) (foldE (fun o => rsh o x day L (-1) ⟨0, 1⟩) E m f)
  | [], f, _ => ⟨0, fun _ _ => rfl⟩
  | o :: os, f, h => by
    have ih := fun q => Good.refEffL_ev g day x E R os q (fun y hy => h y (List.mem_cons_of_mem _ hy))
    obtain ⟨k1, E1⟩ := ref_Share_ev L o x day (by have := g.len; omega)
    rw [foldE]
    by_cases c : (rsh o x day L (-1) ⟨0, 1⟩).f0 = 0
    · obtain ⟨k2, E2⟩ := ih f
      rw [if_pos c]
      refine ⟨k1 + k2, fun k hk => ?_⟩
      have F1 := E1 k (by omega)
      have F2 := E2 k (by omega)
      simp only at F1 F2
      show refEffL k L day (R k) x (o :: os) f = _
      rw [refEffL, F1, Option.bind_some, if_pos c, F2]
    · rw [if_neg c]
      obtain ⟨k3, E3⟩ := h o (List.mem_cons_self ..) c
      by_cases c1 : (E o).2.2 = 0
      · rw [if_pos c1]
        by_cases c2 : (mulQ (rsh o x day L (-1) ⟨0, 1⟩).f0 (rsh o x day L (-1) ⟨0, 1⟩).f1 (E o).1 (E o).2.1).2.2 = 0
        · rw [if_pos c2]
          by_cases c3 : (addQ f.f0 f.f1 (mulQ (rsh o x day L (-1) ⟨0, 1⟩).f0 (rsh o x day L (-1) ⟨0, 1⟩).f1 (E o).1 (E o).2.1).1 (mulQ (rsh o x day L (-1) ⟨0, 1⟩).f0 (rsh o x day L (-1) ⟨0, 1⟩).f1 (E o).1 (E o).2.1).2.1).2.2 = 0
          · rw [if_pos c3]
            obtain ⟨k2, E2⟩ := ih ⟨(addQ f.f0 f.f1 (mulQ (rsh o x day L (-1) ⟨0, 1⟩).f0 (rsh o x day L (-1) ⟨0, 1⟩).f1 (E o).1 (E o).2.1).1 (mulQ (rsh o x day L (-1) ⟨0, 1⟩).f0 (rsh o x day L (-1) ⟨0, 1⟩).f1 (E o).1 (E o).2.1).2.1).1, (addQ f.f0 f.f1 (mulQ (rsh o x day L (-1) ⟨0, 1⟩).f0 (rsh o x day L (-1) ⟨0, 1⟩).f1 (E o).1 (E o).2.1).1 (mulQ (rsh o x day L (-1) ⟨0, 1⟩).f0 (rsh o x day L (-1) ⟨0, 1⟩).f1 (E o).1 (E o).2.1).2.1).2.1⟩
            refine ⟨k1 + k2 + k3, fun k hk => ?_⟩
            have F1 := E1 k (by omega)
            have F2 := E2 k (by omega)
            have F3 := E3 k (by omega)
            simp only at F1 F2 F3
            show refEffL k L day (R k) x (o :: os) f = _
            rw [refEffL, F1, Option.bind_some, if_neg c, F3, Option.bind_some, if_pos c1, if_pos c2, if_pos c3, F2]
          · rw [if_neg c3]
            refine ⟨k1 + k3, fun k hk => ?_⟩
            have F1 := E1 k (by omega)
            have F3 := E3 k (by omega)
            simp only at F1 F3
            show refEffL k L day (R k) x (o :: os) f = _
            rw [refEffL, F1, Option.bind_some, if_neg c, F3, Option.bind_some, if_pos c1, if_pos c2, if_neg c3]
        · rw [if_neg c2]
          refine ⟨k1 + k3, fun k hk => ?_⟩
          have F1 := E1 k (by omega)
          have F3 := E3 k (by omega)
          simp only at F1 F3
          show refEffL k L day (R k) x (o :: os) f = _
          rw [refEffL, F1, Option.bind_some, if_neg c, F3, Option.bind_some, if_pos c1, if_neg c2]
      · rw [if_neg c1]
        refine ⟨k1 + k3, fun k hk => ?_⟩
        have F1 := E1 k (by omega)
        have F3 := E3 k (by omega)
        simp only at F1 F3
        show refEffL k L day (R k) x (o :: os) f = _
        rw [refEffL, F1, Option.bind_some, if_neg c, F3, Option.bind_some, if_neg c1]
theorem Good.same_owners (g : Good L) (day : Int) (x : ByteArray) (m : List ByteArray) (hm : SortedS m) (p : ByteArray → Bool) (hp : ∀ o, p o = true ↔ o ∈ m) (E : ByteArray → Tri) (f : Frc) :
    foldE (fun o => rsh o x day L (-1) ⟨0, 1⟩) E m f = foldE (fun o => rsh o x day L (-1) ⟨0, 1⟩) E (((grOf L gr0).owL x).filter p) f := by
  rw [← foldE_filter m, ← foldE_filter (((grOf L gr0).owL x).filter p)]
  congr 1
  refine sorted_ext_ sO (hm.sublist List.filter_sublist) (((g.gr.owo x).sublist List.filter_sublist).sublist List.filter_sublist) (fun o => ?_)
  rw [List.mem_filter, List.mem_filter, List.mem_filter, hp]
  constructor
  · rintro ⟨h1, h2⟩
    exact ⟨⟨(grOf_edge L o x).2 (g.edge_of (by simpa using h2)), h1⟩, h2⟩
  · rintro ⟨⟨_, h1⟩, h2⟩; exact ⟨h1, h2⟩
theorem Good.refEffF_ev (g : Good L) (day : Int) (m : List ByteArray) (hm : SortedS m) (p : ByteArray → Bool) (hp : ∀ o, p o = true ↔ o ∈ m) (top : ByteArray) {E : ByteArray → Tri} (hE : EffIs L day p top E) {r : ByteArray → Nat} (hr : Rank L r) :
    ∀ (n : Nat) (x : ByteArray), r x < n → Ev (fun k => refEffF k L m top day n x) (E x)
  | 0, _, h => by omega
  | n + 1, x, h => by
    rw [hE x]
    by_cases c : x = top
    · rw [if_pos c]
      refine ⟨0, fun k _ => ?_⟩
      show refEffF k L m top day (n + 1) x = _
      rw [refEffF, if_pos c]
    · rw [if_neg c, ← g.same_owners day x m hm p hp]
      obtain ⟨k0, E0⟩ := g.refEffL_ev day x E (fun k => refEffF k L m top day n) m ⟨0, 1⟩ (fun o _ hs => Good.refEffF_ev g day m hm p hp top hE hr n o (by have := hr o x (g.edge_of hs); omega))
      refine ⟨k0, fun k hk => ?_⟩
      have F := E0 k hk
      simp only at F
      show refEffF k L m top day (n + 1) x = _
      rw [refEffF, if_neg c, F]
def DnOk (top : ByteArray) (E : ByteArray → Tri) (d : Dn) : Prop := (∀ y f, d y = some f → E y = (f.f0, f.f1, 0)) ∧ (d top).isSome = true
theorem DnOk.put {top : ByteArray} {E : ByteArray → Tri} {d : Dn} (h : DnOk top E d) {x : ByteArray} {f : Frc} (hx : E x = (f.f0, f.f1, 0)) : DnOk top E (putD d x f) := by
  refine ⟨fun y q hq => ?_, ?_⟩
  · unfold putD at hq
    by_cases c : y = x
    · rw [if_pos c] at hq; cases hq; rw [c]; exact hx
    · rw [if_neg c] at hq; exact h.1 y q hq
  · unfold putD
    split
    · rfl
    · exact h.2
theorem Good.effE_is (g : Good L) (day : Int) (p : ByteArray → Bool) (top x : ByteArray) (E : ByteArray → Tri) (rec : ByteArray → Dn → Option (Tri × Dn)) (T : Tri) (hT : E x = T) :
    ∀ (os : List ByteArray) (f : Frc) (d : Dn), foldE (fun o => rsh o x day L (-1) ⟨0, 1⟩) E (os.filter p) f = T → DnOk top E d → (∀ o ∈ os, ∀ d, DnOk top E d → ∃ d', rec o d = some (E o, d') ∧ DnOk top E d') →
    ∃ d', effE (grOf L gr0) day p rec x os f d = some (T, d') ∧ DnOk top E d'
  | [], f, d, hf, hd, _ => by
    have hf' : (f.f0, f.f1, (0 : Int)) = T := hf
    exact ⟨putD d x f, by rw [effE, hf'], hd.put (hT.trans hf'.symm)⟩
  | o :: os, f, d, hf, hd, hrec => by
    have hrec' := fun q hq => hrec q (List.mem_cons_of_mem _ hq)
    rw [effE]
    cases cp : p o with
    | false =>
      rw [if_neg (by simp)]
      rw [List.filter_cons_of_neg (by simp [cp])] at hf
      exact Good.effE_is g day p top x E rec T hT os f d hf hd hrec'
    | true =>
      rw [if_pos rfl, g.share o x day]
      rw [List.filter_cons_of_pos cp, foldE] at hf
      by_cases c : (rsh o x day L (-1) ⟨0, 1⟩).f0 = 0
      · rw [if_pos c] at hf ⊢
        exact Good.effE_is g day p top x E rec T hT os f d hf hd hrec'
      · rw [if_neg c] at hf ⊢
        obtain ⟨d1, h1, h2⟩ := hrec o (List.mem_cons_self ..) d hd
        rw [h1, Option.bind_some]
        simp only
        by_cases c1 : (E o).2.2 = 0
        · rw [if_pos c1] at hf ⊢
          by_cases c2 : (mulQ (rsh o x day L (-1) ⟨0, 1⟩).f0 (rsh o x day L (-1) ⟨0, 1⟩).f1 (E o).1 (E o).2.1).2.2 = 0
          · rw [if_pos c2] at hf ⊢
            by_cases c3 : (addQ f.f0 f.f1 (mulQ (rsh o x day L (-1) ⟨0, 1⟩).f0 (rsh o x day L (-1) ⟨0, 1⟩).f1 (E o).1 (E o).2.1).1 (mulQ (rsh o x day L (-1) ⟨0, 1⟩).f0 (rsh o x day L (-1) ⟨0, 1⟩).f1 (E o).1 (E o).2.1).2.1).2.2 = 0
            · rw [if_pos c3] at hf ⊢
              exact Good.effE_is g day p top x E rec T hT os _ d1 hf h2 hrec'
            · rw [if_neg c3] at hf ⊢
              exact ⟨d1, by rw [hf], h2⟩
          · rw [if_neg c2] at hf ⊢
            exact ⟨d1, by rw [hf], h2⟩
        · rw [if_neg c1] at hf ⊢
          exact ⟨d1, by rw [hf], h2⟩
theorem Good.effF_is (g : Good L) (day : Int) (p : ByteArray → Bool) (top : ByteArray) {E : ByteArray → Tri} (hE : EffIs L day p top E) {r : ByteArray → Nat} (hr : Rank L r) :
    ∀ (n : Nat) (x : ByteArray) (d : Dn), r x < n → DnOk top E d → ∃ d', effF (grOf L gr0) day p n x d = some (E x, d') ∧ DnOk top E d'
  | 0, _, _, h, _ => by omega
  | n + 1, x, d, h, hd => by
    rw [effF]
    cases hx : d x with
    | some f => exact ⟨d, by rw [hd.1 x f hx], hd⟩
    | none =>
      have hne : x ≠ top := fun e => by
        have := hd.2
        rw [← e, hx] at this; cases this
      simp only
      refine g.effE_is day p top x E (effF (grOf L gr0) day p n) (E x) rfl ((grOf L gr0).owL x) ⟨0, 1⟩ d ?_ hd (fun o ho d1 h1 => Good.effF_is g day p top hE hr n o d1 (by have := hr o x ((grOf_edge L o x).1 ho); omega) h1)
      rw [hE x, if_neg hne]
end
theorem Good.effective_prog {L : List Hold} (g : Good L) {r : ByteArray → Nat} (hr : Rank L r) (top ent : ByteArray) (day : Int) : ∃ res, Ev (fun k => effectiveF k (r ent + 1) (grOf L gr0) top ent day) res ∧
    ((¬ Im L top ent day ∧ res = (0, 0, 1)) ∨ ∃ P, Least L day top P ∧ Im L top ent day ∧ res = effN L day P top (r ent + 1) ent) := by
  obtain ⟨q, ⟨k1, E1⟩, hq⟩ := g.memb_ev top day
  by_cases hin : inB q ent = true
  · have him := hq.im.1 hin
    rcases hq with ⟨a, b, P, rfl, hP⟩ | ⟨a, rfl⟩
    · have hp : P ent = true := hin
      have hE := eff_is (day := day) (p := P) (top := top) hr
      have hmemo : DnOk top (fun x => effN L day P top (r x + 1) x) (putD (fun _ => none) top ⟨1, 1⟩) := by
        refine ⟨fun y f hf => ?_, ?_⟩
        · unfold putD at hf
          by_cases c : y = top
          · rw [if_pos c] at hf
            cases hf
            have := hE y
            rw [if_pos c] at this
            exact this
          · rw [if_neg c] at hf; cases hf
        · unfold putD; rw [if_pos rfl]; rfl
      obtain ⟨d', h1, h2⟩ := g.effF_is day P top hE hr (r ent + 1) ent (putD (fun _ => none) top ⟨1, 1⟩) (by omega) hmemo
      refine ⟨effN L day P top (r ent + 1) ent, ⟨k1, fun k hk => ?_⟩, .inr ⟨P, hP, him, rfl⟩⟩
      have F := E1 k hk
      simp only at F
      show effectiveF k (r ent + 1) (grOf L gr0) top ent day = _
      rw [effectiveF, F, Option.bind_some]
      simp only
      rw [if_pos hp, h1]
      rfl
    · cases hin
  · have hno : ¬ Im L top ent day := fun h => hin (hq.im.2 h)
    refine ⟨(0, 0, 1), ⟨k1, fun k hk => ?_⟩, .inl ⟨hno, rfl⟩⟩
    have F := E1 k hk
    simp only at F
    show effectiveF k (r ent + 1) (grOf L gr0) top ent day = _
    rw [effectiveF, F, Option.bind_some]
    cases q with
    | none => rfl
    | some P => exact if_neg (show ¬ P ent = true from hin)
theorem Good.effective_ref {L : List Hold} (g : Good L) {r : ByteArray → Nat} (hr : Rank L r) (top ent : ByteArray) (day : Int) (ht : top.size ≤ 100) : ∃ res, Ev (fun k => refEffective k (r ent + 1) L top ent day) res ∧
    ((¬ Im L top ent day ∧ res = (0, 0, 1)) ∨ ∃ P, Least L day top P ∧ Im L top ent day ∧ res = effN L day P top (r ent + 1) ent) := by
  obtain ⟨m, q, ⟨k1, E1⟩, hq, hl, hml⟩ := g.members_ev top day ht
  obtain ⟨k2, E2⟩ := ref_has_ev m ent (by omega)
  rw [hl.inB ent] at E2
  cases hin : inB q ent with
  | true =>
    rw [hin] at E2
    have him := hq.im.1 hin
    rcases hq with ⟨a, b, P, rfl, hP⟩ | ⟨a, rfl⟩
    · obtain ⟨k3, E3⟩ := g.refEffF_ev day m hl.1 P (fun o => by
        rw [hl.2 o]
        exact ⟨fun h => ⟨P, rfl, h⟩, fun ⟨p', e, h⟩ => by cases e; exact h⟩) top (eff_is (day := day) (p := P) (top := top) hr) hr (r ent + 1) ent (by omega)
      refine ⟨effN L day P top (r ent + 1) ent, ⟨k1 + k2 + k3, fun k hk => ?_⟩, .inr ⟨P, hP, him, rfl⟩⟩
      have F1 := E1 k (by omega)
      have F2 := E2 k (by omega)
      have F3 := E3 k (by omega)
      simp only at F1 F2 F3
      show refEffective k (r ent + 1) L top ent day = _
      rw [refEffective, F1, Option.bind_some, F2, Option.bind_some, if_pos rfl, if_pos (by omega), F3]
    · cases hin
  | false =>
    rw [hin] at E2
    have hno : ¬ Im L top ent day := fun h => by rw [hq.im.2 h] at hin; cases hin
    refine ⟨(0, 0, 1), ⟨k1 + k2, fun k hk => ?_⟩, .inl ⟨hno, rfl⟩⟩
    have F1 := E1 k (by omega)
    have F2 := E2 k (by omega)
    simp only at F1 F2
    show refEffective k (r ent + 1) L top ent day = _
    rw [refEffective, F1, Option.bind_some, F2, Option.bind_some, if_neg (by simp)]
end Go.Proofs.YtikdiepcfdimgaaGreatDoor.POw
namespace Go.Proofs.YtikdiepcfdimgaaGreatDoor.POw
open Go.RowKit Go.Proofs.YtikdiepcfdimgaaGreatDoorW.PrintWords Go.Proofs.YtikdiepcfdimgaaGreatDoorW.PrintLast
theorem newL_of (L : List Hold) (hL : L.length ≤ 9000) {r : ByteArray → Nat} (hr : Rank L r) (hd : L.Pairwise Dif) (hok : ∀ h ∈ L, wcodeB h.f0 = true ∧ wcodeB h.f1 = true ∧ fitH h = true ∧ isDay h.f3 = true) :
    ∀ (rest pre : List Hold), L = pre ++ rest → Ev (fun k => newL k rest pre.length (grOf pre gr0)) (.inr (grOf L gr0))
  | [], pre, hp => by rw [hp, List.append_nil]; exact ⟨0, fun _ _ => rfl⟩
  | x :: rest, pre, hp => by
    have ht : L.take pre.length = pre := by rw [hp]; simp
    have hxm : x ∈ L := by rw [hp]; simp
    have hlen : pre.length < L.length := by rw [hp]; simp
    have hpm : ∀ q ∈ pre, q ∈ L := fun q hq => by rw [hp]; exact List.mem_append_left _ hq
    obtain ⟨own, o1, k2, o2⟩ := refused_ev L pre.length x hL
    rw [ht] at o1 o2
    obtain ⟨a0, a1, a2, a3⟩ := hok x hxm
    have hx := hr x.f0 x.f1 ⟨x, hxm, rfl, rfl⟩
    have hz : oneA L pre.length x own = 0 := by
      refine oneA_of a0 a1 a2 a3 ?_ (fun e => by rw [e] at hx; omega) ?_
      · rw [ht, List.any_eq_false]
        intro q hq hqx
        rw [hp] at hd
        exact (List.pairwise_append.1 hd).2.2 q hq x (List.mem_cons_self ..) (by simpa using hqx)
      · cases own with
        | false => rfl
        | true =>
          obtain ⟨y, hy, he⟩ := (own_fwd pre x.f1 x.f0 (by omega) o1).1 rfl
          have := hr.fwd (Fwd.mono hpm hy)
          have := hr _ _ (he.mono hpm)
          omega
    obtain ⟨k1, h1⟩ := newL_of L hL hr hd hok rest (pre ++ [x]) (by rw [hp]; simp)
    refine ⟨k1 + k2, fun k hk => ?_⟩
    have F := h1 k (by omega)
    have G := o2 k (by omega)
    simp only [List.length_append, List.length_singleton, grOf_snoc] at F G
    show newL k (x :: rest) pre.length (grOf pre gr0) = _
    rw [newL, G, Option.bind_some, if_pos hz, F]
section
variable {L L' : List Hold}
theorem Good.owL_same (g : Good L) (g' : Good L') (hm : ∀ h, h ∈ L ↔ h ∈ L') (x : ByteArray) : (grOf L gr0).owL x = (grOf L' gr0).owL x := by
  refine sorted_ext_ sO (g.gr.owo x) (g'.gr.owo x) (fun o => ?_)
  rw [owL_edge, owL_edge]
  simp only [hm]
theorem Good.shL_same (g : Good L) (g' : Good L') (hm : ∀ h, h ∈ L ↔ h ∈ L') (k : Pr) : (grOf L gr0).shL k = (grOf L' gr0).shL k := by
  refine sorted_ext_h (g.gr.sho k) (g'.gr.sho k) (fun q => ?_)
  rw [mem_shL, mem_shL, hm]
theorem ent_same (hm : ∀ h, h ∈ L ↔ h ∈ L') : entL L [] = entL L' [] := by
  refine sorted_ext_ sO (Good.ent_sorted L) (Good.ent_sorted L') (fun o => ?_)
  rw [mem_ent, mem_ent]
  simp only [hm]
theorem Good.more_eq (g : Good L) (g' : Good L') (hm : ∀ h, h ∈ L ↔ h ∈ L') (p : ByteArray → Bool) (x : ByteArray) (d a b : Int) : moreB L p x d a b = moreB L' p x d a b := by
  unfold moreB
  rw [g.owL_same g' hm x]
  have e : (fun o => shareL ((grOf L gr0).shL (o, x)) d) = fun o => shareL ((grOf L' gr0).shL (o, x)) d := by
    funext o
    rw [g.shL_same g' hm]
  rw [e]
theorem Good.least_same (g : Good L) (g' : Good L') (hm : ∀ h, h ∈ L ↔ h ∈ L') {day : Int} {top : ByteArray} {P : ByteArray → Bool} (h : Least L day top P) : Least L' day top P := by
  have ec : ∀ p, Clo L day p ↔ Clo L' day p := fun p => by
    unfold Clo
    rw [ent_same hm]
    constructor
    · intro hc x hx hf; rw [← g.more_eq g' hm]; exact hc x hx hf
    · intro hc x hx hf; rw [g.more_eq g' hm]; exact hc x hx hf
  exact ⟨h.tp, (ec P).1 h.clo, fun x hx => by rw [← ent_same hm]; exact h.sub x hx, fun Q hQ => h.min Q ((ec Q).2 hQ)⟩
theorem Good.im_eq (g : Good L) (g' : Good L') (hm : ∀ h, h ∈ L ↔ h ∈ L') {top ent : ByteArray} {day : Int} (h : Im L top ent day) : Im L' top ent day := by
  obtain ⟨a, b, P, hP, hp⟩ := h
  exact ⟨a, b, P, g.least_same g' hm hP, hp⟩
theorem Good.memb_same (g : Good L) (g' : Good L') (hm : ∀ h, h ∈ L ↔ h ∈ L') {top : ByteArray} {day : Int} {r : Option (ByteArray → Bool)} (h : MembIs L top day r) : MembIs L' top day r := by
  rcases h with ⟨a, b, P, e, hP⟩ | h
  · exact .inl ⟨a, b, P, e, g.least_same g' hm hP⟩
  · exact .inr h
theorem Good.effN_eq (g : Good L) (g' : Good L') (hm : ∀ h, h ∈ L ↔ h ∈ L') (day : Int) (P : ByteArray → Bool) (top : ByteArray) : ∀ (n : Nat) (x : ByteArray), effN L day P top n x = effN L' day P top n x
  | 0, _ => rfl
  | n + 1, x => by
    rw [effN, effN, g.owL_same g' hm x]
    have e : (fun o => rsh o x day L (-1) ⟨0, 1⟩) = fun o => rsh o x day L' (-1) ⟨0, 1⟩ := by
      funext o
      rw [← g.share, ← g'.share, g.shL_same g' hm]
    rw [e]
    split
    · rfl
    · exact foldE_congr _ _ (fun o _ _ => Good.effN_eq g g' hm day P top n o)
end
theorem Group.perm {L L' : List Hold} (h : Group L) (hp : L.Perm L') : Group L' := by
  obtain ⟨⟨r, hr⟩, hd⟩ := h.rank_dif
  have hm : ∀ q, q ∈ L ↔ q ∈ L' := fun q => hp.mem_iff
  have hlen : L'.length ≤ 200 := by rw [← hp.length_eq]; exact h.good.len
  have hr' : Rank L' r := fun o x he => hr o x (he.mono (fun q hq => (hm q).2 hq))
  have hd' : L'.Pairwise Dif := hp.pairwise hd (fun hab hba => hab ⟨hba.1.symm, hba.2.1.symm, hba.2.2.symm⟩)
  have hok : ∀ q ∈ L', wcodeB q.f0 = true ∧ wcodeB q.f1 = true ∧ fitH q = true ∧ isDay q.f3 = true := fun q hq => h.good.ok q ((hm q).2 hq)
  have hs : ∀ q ∈ L', q.f0.size ≤ 100 ∧ q.f1.size ≤ 100 := fun q hq => by
    have h1 := hok q hq
    have a := wcodeB_size h1.1
    have b := wcodeB_size h1.2.1
    omega
  have hev := newL_of L' (by omega) hr' hd' hok L' [] rfl
  obtain ⟨k, hk⟩ := hev
  have g' : Good L' := good_of hlen hs (hk k (Nat.le_refl _))
  refine ⟨g', ⟨k, hk⟩, ?_⟩
  have ho := h.over
  rw [List.any_eq_false] at ho ⊢
  intro q hq
  rw [← h.good.more_eq g' hm]
  exact ho q ((hm q).2 hq)
theorem Group.new {L : List Hold} (h : Group L) : Ev (fun k => newF k L) (0, 0, some (grOf L gr0)) ∧ Ev (fun k => refCheck k L) (0, 0) := by
  have hs : ∀ q ∈ L, q.f0.size ≤ 100 ∧ q.f1.size ≤ 100 := fun q hq => by
    have h1 := h.good.ok q hq
    have a := wcodeB_size h1.1
    have b := wcodeB_size h1.2.1
    omega
  obtain ⟨k1, h1⟩ := h.ev
  obtain ⟨k3, h3⟩ := h.good.overD (grOf L gr0).ch
  rw [h.good.over_same, h.over] at h3
  have hN : Ev (fun k => newF k L) (0, 0, some (grOf L gr0)) := ⟨k1 + k3, fun k hk => by
    have F1 := h1 k (by omega)
    have F3 := h3 k (by omega)
    simp only at F1 F3
    show newF k L = _
    unfold newF
    rw [if_neg (by have := h.good.len; omega), F1, Option.bind_some]
    simp only
    rw [F3, Option.bind_some, if_neg (by simp)]⟩
  obtain ⟨i, e, og, a1, a2, a3, a4⟩ := new_both L (fun _ => hs)
  have := a1.unique hN
  simp only [Prod.mk.injEq] at this
  obtain ⟨rfl, rfl, rfl⟩ := this
  exact ⟨hN, a2⟩
end Go.Proofs.YtikdiepcfdimgaaGreatDoor.POw
namespace Go.Proofs.YtikdiepcfdimgaaGreatDoor.POw
open Go.RowKit Go.Proofs.YtikdiepcfdimgaaGreatDoorW.PrintWords Go.Proofs.YtikdiepcfdimgaaGreatDoorW.PrintLast
theorem gcdI_div (n d : Int) (hn : 0 ≤ n) (hd : 1 ≤ d) : 1 ≤ gcdI n d ∧ n / gcdI n d * gcdI n d = n ∧ d / gcdI n d * gcdI n d = d := by
  have hg := gcdI_pos n d hd
  have h1 : gcdI n d ∣ n := by
    unfold gcdI
    have h := Nat.gcd_dvd_left n.toNat d.toNat
    have := Int.natCast_dvd_natCast.2 h
    rwa [Int.toNat_of_nonneg hn] at this
  have h2 : gcdI n d ∣ d := by
    unfold gcdI
    have h := Nat.gcd_dvd_right n.toNat d.toNat
    have := Int.natCast_dvd_natCast.2 h
    rwa [Int.toNat_of_nonneg (by omega : (0 : Int) ≤ d)] at this
  exact ⟨hg, Int.ediv_mul_cancel h1, Int.ediv_mul_cancel h2⟩
theorem makeQ_code (n d : Int) : (makeQ n d).2.2 ≠ 1 := by
  unfold makeQ
  repeat' split
  all_goals simp
theorem makeQ_exact {n d : Int} (hn : 0 ≤ n) (hd : 1 ≤ d) (h : (makeQ n d).2.2 = 0) : 0 ≤ (makeQ n d).1 ∧ 1 ≤ (makeQ n d).2.1 ∧ (makeQ n d).1 * d = n * (makeQ n d).2.1 := by
  have en : absI n = n := by unfold absI; rw [if_neg (by omega)]
  have ed : absI d = d := by unfold absI; rw [if_neg (by omega)]
  obtain ⟨hg, h1, h2⟩ := gcdI_div n d hn hd
  unfold makeQ quoI at h ⊢
  rw [en, ed] at h ⊢
  obtain ⟨g, hge⟩ : ∃ g, gcdI n d = g := ⟨_, rfl⟩
  rw [hge] at h hg h1 h2 ⊢
  obtain ⟨u, hu⟩ : ∃ u, n / g = u := ⟨_, rfl⟩
  obtain ⟨v, hv⟩ : ∃ v, d / g = v := ⟨_, rfl⟩
  rw [hu] at h1 h ⊢
  rw [hv] at h2 h ⊢
  rw [if_neg (by omega : ¬ d = 0)] at h ⊢
  by_cases c1 : 1000000 < u
  · rw [if_pos c1] at h; simp at h
  · rw [if_neg c1] at h ⊢
    by_cases c2 : 1000000 < v
    · rw [if_pos c2] at h; simp at h
    · rw [if_neg c2]
      have e : (decide (n < 0) != decide (d < 0)) = false := by
        rw [decide_eq_false (by omega : ¬ n < 0), decide_eq_false (by omega : ¬ d < 0)]; rfl
      rw [e]
      simp only [Bool.false_eq_true, if_false]
      refine ⟨?_, ?_, ?_⟩
      · rw [← hu]; exact Int.ediv_nonneg hn (by omega)
      · rcases Int.lt_or_le 0 v with hp | hp
        · omega
        · exfalso
          have : v * g ≤ 0 * g := Int.mul_le_mul_of_nonneg_right hp (by omega)
          omega
      · rw [← h1, ← h2]; ac_rfl
theorem mulQ_code (a b c d : Int) : (mulQ a b c d).2.2 ≠ 1 := by
  unfold mulQ
  split
  · split
    · exact makeQ_code _ _
    · simp
  · simp
theorem addQ_code (a b c d : Int) : (addQ a b c d).2.2 ≠ 1 := by
  unfold addQ
  split
  · split
    · exact makeQ_code _ _
    · simp
  · simp
theorem mulQ_exact {a b c d : Int} (ha : 0 ≤ a) (hc : 0 ≤ c) (h : (mulQ a b c d).2.2 = 0) : 1 ≤ b ∧ 1 ≤ d ∧ 0 ≤ (mulQ a b c d).1 ∧ 1 ≤ (mulQ a b c d).2.1 ∧ (mulQ a b c d).1 * (b * d) = a * c * (mulQ a b c d).2.1 := by
  unfold mulQ at h ⊢
  by_cases c1 : rightB a b = true
  · by_cases c2 : rightB c d = true
    · rw [if_pos c1, if_pos c2] at h ⊢
      have hb := rightB_pos c1
      have hd := rightB_pos c2
      have hbd : 1 ≤ b * d := by
        have : 1 * 1 ≤ b * d := Int.mul_le_mul hb hd (by omega) (by omega)
        omega
      exact ⟨hb, hd, makeQ_exact (Int.mul_nonneg ha hc) hbd h⟩
    · rw [if_pos c1, if_neg c2] at h; simp at h
  · rw [if_neg c1] at h; simp at h
theorem addQ_exact {a b c d : Int} (ha : 0 ≤ a) (hc : 0 ≤ c) (h : (addQ a b c d).2.2 = 0) : 1 ≤ b ∧ 1 ≤ d ∧ 0 ≤ (addQ a b c d).1 ∧ 1 ≤ (addQ a b c d).2.1 ∧ (addQ a b c d).1 * (b * d) = (a * d + c * b) * (addQ a b c d).2.1 := by
  unfold addQ at h ⊢
  by_cases c1 : rightB a b = true
  · by_cases c2 : rightB c d = true
    · rw [if_pos c1, if_pos c2] at h ⊢
      have hb := rightB_pos c1
      have hd := rightB_pos c2
      have hbd : 1 ≤ b * d := by
        have : 1 * 1 ≤ b * d := Int.mul_le_mul hb hd (by omega) (by omega)
        omega
      have h1 := Int.mul_nonneg ha (by omega : 0 ≤ d)
      have h2 := Int.mul_nonneg hc (by omega : 0 ≤ b)
      exact ⟨hb, hd, makeQ_exact (by omega) hbd h⟩
    · rw [if_pos c1, if_neg c2] at h; simp at h
  · rw [if_neg c1] at h; simp at h
def Unit01 (t : Tri) : Prop := t.2.2 ≠ 1 ∧ (t.2.2 = 0 → 0 ≤ t.1 ∧ 1 ≤ t.2.1 ∧ t.1 ≤ t.2.1)
theorem step_bound {f0 f1 u v s t a b n d N D : Int} (hD : 0 ≤ D) (hs : 0 ≤ s) (ht : 1 ≤ t) (hv : 1 ≤ v) (hf : 1 ≤ f1) (hb : 1 ≤ b) (hd : 1 ≤ d) (hab : a ≤ b)
    (e1 : u * (t * b) = s * a * v) (e2 : n * (f1 * v) = (f0 * v + u * f1) * d) (h : f0 * D ≤ N * f1) : n * (D * t) ≤ (N * t + D * s) * d := by
  have h1 : u * t ≤ s * v := by
    have h2 : s * v * a ≤ s * v * b := Int.mul_le_mul_of_nonneg_left hab (Int.mul_nonneg hs (by omega))
    have h3 : u * t * b ≤ s * v * b := by
      have : u * t * b = s * v * a := by grind
      omega
    exact Int.le_of_mul_le_mul_right h3 (by omega)
  have hfv : 0 < f1 * v := Int.mul_pos (by omega) (by omega)
  refine Int.le_of_mul_le_mul_right ?_ hfv
  have k1 : f0 * D * (v * t * d) ≤ N * f1 * (v * t * d) := Int.mul_le_mul_of_nonneg_right h (Int.mul_nonneg (Int.mul_nonneg (by omega) (by omega)) (by omega))
  have k2 : u * t * (f1 * d * D) ≤ s * v * (f1 * d * D) := Int.mul_le_mul_of_nonneg_right h1 (Int.mul_nonneg (Int.mul_nonneg (by omega) (by omega)) hD)
  have k3 : n * (D * t) * (f1 * v) = f0 * D * (v * t * d) + u * t * (f1 * d * D) := by grind
  have k4 : (N * t + D * s) * d * (f1 * v) = N * f1 * (v * t * d) + s * v * (f1 * d * D) := by grind
  omega
theorem foldE_bound {sh : ByteArray → Frc} {E : ByteArray → Tri} : ∀ (l : List ByteArray) (f : Frc) (N D : Int), (∀ o ∈ l, Pos (sh o) ∧ ((sh o).f0 ≠ 0 → Unit01 (E o))) → 0 ≤ f.f0 → 1 ≤ f.f1 → 1 ≤ D → f.f0 * D ≤ N * f.f1 →
    (foldE sh E l f).2.2 ≠ 1 ∧ ((foldE sh E l f).2.2 = 0 → 0 ≤ (foldE sh E l f).1 ∧ 1 ≤ (foldE sh E l f).2.1 ∧ 1 ≤ (exF (l.map sh) N D).2 ∧ (foldE sh E l f).1 * (exF (l.map sh) N D).2 ≤ (exF (l.map sh) N D).1 * (foldE sh E l f).2.1)
  | [], f, N, D, _, h0, h1, hD, hf => ⟨by simp [foldE], fun _ => ⟨h0, h1, hD, hf⟩⟩
  | o :: os, f, N, D, hl, h0, h1, hD, hf => by
    obtain ⟨hp, hE⟩ := hl o (List.mem_cons_self ..)
    have hl' := fun q hq => hl q (List.mem_cons_of_mem _ hq)
    unfold Pos at hp
    have hDt : 1 ≤ D * (sh o).f1 := by
      have : 1 * 1 ≤ D * (sh o).f1 := Int.mul_le_mul hD hp.2 (by omega) (by omega)
      omega
    rw [foldE, List.map_cons, exF]
    by_cases c : (sh o).f0 = 0
    · rw [if_pos c]
      refine foldE_bound os f _ _ hl' h0 h1 hDt ?_
      rw [c, Int.mul_zero, Int.add_zero]
      have := Int.mul_le_mul_of_nonneg_right hf (by omega : 0 ≤ (sh o).f1)
      rw [Int.mul_assoc, Int.mul_right_comm N] at this
      exact this
    · rw [if_neg c]
      obtain ⟨e1, e2⟩ := hE c
      by_cases c1 : (E o).2.2 = 0
      · rw [if_pos c1]
        obtain ⟨a0, b1, ab⟩ := e2 c1
        by_cases c2 : (mulQ (sh o).f0 (sh o).f1 (E o).1 (E o).2.1).2.2 = 0
        · rw [if_pos c2]
          obtain ⟨m1, m2, m3, m4, m5⟩ := mulQ_exact hp.1 a0 c2
          by_cases c3 : (addQ f.f0 f.f1 (mulQ (sh o).f0 (sh o).f1 (E o).1 (E o).2.1).1 (mulQ (sh o).f0 (sh o).f1 (E o).1 (E o).2.1).2.1).2.2 = 0
          · rw [if_pos c3]
            obtain ⟨q1, q2, q3, q4, q5⟩ := addQ_exact h0 m3 c3
            exact foldE_bound os _ _ _ hl' q3 q4 hDt (step_bound (by omega) hp.1 hp.2 m4 h1 b1 q4 ab m5 q5 hf)
          · rw [if_neg c3]
            exact ⟨addQ_code _ _ _ _, fun h => absurd h c3⟩
        · rw [if_neg c2]
          exact ⟨mulQ_code _ _ _ _, fun h => absurd h c2⟩
      · rw [if_neg c1]
        exact ⟨e1, fun h => absurd h c1⟩
section
variable {L : List Hold}
theorem Group.no_more (h : Group L) (p : ByteArray → Bool) (x : ByteArray) (d : Int) : moreB L p x d 1 1 = false := by
  have g := h.good
  have ho := h.over
  rw [List.any_eq_false] at ho
  have h1 : moreB L (fun _ => true) x d 1 1 = false := by
    rcases last_hold x d L with hn | ⟨q, hq, h1, h2, h3⟩
    · exact g.more_none _ x d 1 1 (by omega) hn
    · rw [g.more_same (fun _ => true) x 1 1 d q.f3 h2 h3, ← h1]
      simpa using ho q hq
  cases c : moreB L p x d 1 1 with
  | false => rfl
  | true => rw [g.more_mono (q := fun _ => true) (fun _ _ => rfl) (by omega) c] at h1; cases h1
theorem Group.eff_unit (h : Group L) {r : ByteArray → Nat} (hr : Rank L r) (day : Int) (P : ByteArray → Bool) (top : ByteArray) : ∀ (n : Nat) (x : ByteArray), r x < n → Unit01 (effN L day P top n x)
  | 0, _, hn => by omega
  | n + 1, x, hn => by
    have g := h.good
    rw [effN]
    by_cases c : x = top
    · rw [if_pos c]
      unfold Unit01
      simp
    · rw [if_neg c]
      obtain ⟨b1, b2⟩ := foldE_bound (sh := fun o => rsh o x day L (-1) ⟨0, 1⟩) (E := effN L day P top n) (((grOf L gr0).owL x).filter P) ⟨0, 1⟩ 0 1 (fun o ho => ⟨g.pos_share o x day, fun _ => Group.eff_unit h hr day P top n o (by have := hr o x ((grOf_edge L o x).1 (List.mem_filter.1 ho).1); omega)⟩) (by simp) (by simp) (by omega) (by simp)
      refine ⟨b1, fun h0 => ?_⟩
      obtain ⟨a1, a2, a3, a4⟩ := b2 h0
      refine ⟨a1, a2, ?_⟩
      have hm := h.no_more P x day
      unfold moreB at hm
      rw [decide_eq_false_iff_not] at hm
      have e : (fun o => shareL ((grOf L gr0).shL (o, x)) day) = fun o => rsh o x day L (-1) ⟨0, 1⟩ := by
        funext o; rw [g.share]
      rw [e] at hm
      obtain ⟨X, hX⟩ : ∃ X, exF ((((grOf L gr0).owL x).filter P).map fun o => rsh o x day L (-1) ⟨0, 1⟩) 0 1 = X := ⟨_, rfl⟩
      rw [hX] at hm a3 a4
      have h2 : X.1 ≤ X.2 := by omega
      have h3 := Int.mul_le_mul_of_nonneg_right h2 (by omega : 0 ≤ (foldE (fun o => rsh o x day L (-1) ⟨0, 1⟩) (effN L day P top n) (((grOf L gr0).owL x).filter P) ⟨0, 1⟩).2.1)
      refine Int.le_of_mul_le_mul_right (a := X.2) ?_ (by omega)
      exact Int.le_trans a4 (Int.le_trans h3 (Int.le_of_eq (Int.mul_comm _ _)))
theorem Least.inner {day : Int} {top y : ByteArray} {P Q : ByteArray → Bool} (h : Least L day top P) (hy : P y = true) (h2 : Least L day y Q) : ∀ x, Q x = true → P x = true :=
  h2.min P h.clo hy
end
end Go.Proofs.YtikdiepcfdimgaaGreatDoor.POw
namespace Go.Proofs.YtikdiepcfdimgaaGreatDoor.POw
open Go.RowKit Go.Proofs.YtikdiepcfdimgaaGreatDoorW.PrintWords Go.Proofs.YtikdiepcfdimgaaGreatDoorW.PrintLast
def bP : ByteArray := ⟨#[112]⟩
def bA : ByteArray := ⟨#[97]⟩
def bB : ByteArray := ⟨#[98]⟩
def bQ : ByteArray := ⟨#[113]⟩
def ex1 : List Hold := [⟨bP, bA, ⟨4, 5⟩, 10⟩, ⟨bP, bB, ⟨1, 5⟩, 10⟩, ⟨bA, bB, ⟨2, 5⟩, 20⟩, ⟨bP, bA, ⟨0, 1⟩, 30⟩]
def ex2 : List Hold := [⟨bP, bA, ⟨1, 2⟩, 0⟩, ⟨bA, bP, ⟨1, 2⟩, 0⟩]
def ex3 : List Hold := [⟨bP, bA, ⟨1, 2⟩, 0⟩, ⟨bQ, bA, ⟨2, 3⟩, 5⟩]
def exG : Gr := addG (addG (addG (addG gr0 ⟨bP, bA, ⟨4, 5⟩, 10⟩) ⟨bP, bB, ⟨1, 5⟩, 10⟩) ⟨bA, bB, ⟨2, 5⟩, 20⟩) ⟨bP, bA, ⟨0, 1⟩, 30⟩
theorem ex3_new : newF 20 ex3 = some (0, 4, none) := by kernel_rfl
theorem ex2_new : newF 20 ex2 = some (1, 24, none) := by kernel_rfl
theorem ex1_new : newF 20 ex1 = some (0, 0, some exG) := by kernel_rfl
theorem ex1_m25 : membF 20 exG bP 25 = some (some (putB (putB (putB (fun _ => false) bP) bA) bB)) := by kernel_rfl
theorem ex1_m15 : membF 20 exG bP 15 = some (some (putB (putB (fun _ => false) bP) bA)) := by kernel_rfl
theorem ex1_m30 : membF 20 exG bP 30 = some (some (putB (fun _ => false) bP)) := by kernel_rfl
theorem ex1_e25 : effectiveF 20 20 exG bP bB 25 = some (13, 25, 0) := by kernel_rfl
theorem ex1_e15 : effectiveF 20 20 exG bP bB 15 = some (0, 0, 1) := by kernel_rfl
theorem ex1_s25 : sinceF 20 exG bP bB 25 = some (20, true) := by kernel_rfl
theorem ex1_h9 : shareL (exG.shL (bP, bA)) 9 = ⟨0, 1⟩ := by kernel_rfl
theorem ex1_h12 : shareL (exG.shL (bP, bA)) 12 = ⟨4, 5⟩ := by kernel_rfl
end Go.Proofs.YtikdiepcfdimgaaGreatDoor.POw
namespace Go.Proofs.YtikdiepcfdimgaaGreatDoor.POw
open Go.RowKit Go.Lib Go.Proofs.YtikdiepcfdimgaaGreatDoorW.PrintWords Go.Proofs.YtikdiepcfdimgaaGreatDoorW.PrintLast
def hcs (h : Hold) : List Value := [.string h.f0, .string h.f1, .int .i64 h.f2.f0, .int .i64 h.f2.f1, .int .i64 h.f3]
theorem reps_holds (w : World) (base : Nat) (ok : Nat → Prop) : ∀ l : List Hold, Reps (k56.M w base ok) 5 l (l.flatMap hcs)
  | [] => ⟨by simp, fun j p hj => by simp at hj⟩
  | h :: l => by
    obtain ⟨h1, h2⟩ := reps_holds w base ok l
    refine ⟨by rw [List.flatMap_cons, List.length_append, h1]; simp [hcs]; omega, fun j p hj => ?_⟩
    rw [List.flatMap_cons]
    cases j with
    | zero =>
      have e : h = p := by simpa using hj
      subst e
      have : ((hcs h ++ l.flatMap hcs).drop (0 * 5)).take 5 = hcs h := by
        rw [Nat.zero_mul, List.drop_zero, List.take_left' (by simp [hcs])]
      rw [this]
      exact k56_mkM w base ok h
    | succ j =>
      have hj' : l[j]? = some p := by simpa using hj
      have : (hcs h ++ l.flatMap hcs).drop ((j + 1) * 5) = (l.flatMap hcs).drop (j * 5) := by
        rw [List.drop_append, List.drop_eq_nil_of_le (by simp [hcs]; omega), List.nil_append]
        congr 1
        simp [hcs]; omega
      rw [this]
      exact h2 j p hj'
theorem holds_lit (w : World) (e : TypeId) (l : List Hold) (hl : l.length ≤ 1000) : Kd.C k56 (w.alloc (.cells (l.flatMap hcs).toArray e)) (some ⟨w.heap.size, 0, none⟩) l.length l := by
  have hr := reps_holds (w.alloc (.cells (l.flatMap hcs).toArray e)) 0 (fun k => True ∧ some k ≠ (Value.slice (some ⟨w.heap.size, 0, none⟩) l.length l.length).ownBlock) l
  have h2 := World.ownsRow_lit (base := 0) (e := e) (size := 5) w (l.flatMap hcs).toArray l.length (by omega) (by unfold maxLen; omega) (by simpa using hr.1)
  have : Kd.R k56 e (w.alloc (.cells (l.flatMap hcs).toArray e)) 0 (fun _ => True) (.slice (some ⟨w.heap.size, 0, none⟩) l.length l.length) l :=
    ⟨fun _ _ => trivial, l.flatMap hcs, by have h3 : (k56).sz = 5 := rfl; rw [h3]; simpa using h2, hr⟩
  exact (Kd.R_reads' this).2.2
theorem strs_lit (w : World) (l : List ByteArray) (hl : l.length ≤ 1000) : Kd.C Kd.string (w.alloc (.cells (strs l).toArray 9)) (some ⟨w.heap.size, 0, none⟩) l.length l := by
  have h2 := World.ownsRow_lit (base := 0) (e := 9) (size := 1) w (strs l).toArray l.length (by omega) (by unfold maxLen; omega) (by simp [strs])
  obtain ⟨A, c, e, _, h⟩ := strs_C (w := w.alloc (.cells (strs l).toArray 9)) (B := 0) (v := .slice (some ⟨w.heap.size, 0, none⟩) l.length l.length) (l := l) (by simpa using h2)
  injection e with e1 _ _
  rw [e1]
  exact h
theorem list_of {l m : List ByteArray} {r : Option (ByteArray → Bool)} (h : ListP l r) (hs : m.Pairwise (fun a b => sLt a b = true)) (hm : ∀ x, x ∈ m ↔ ∃ p, r = some p ∧ p x = true) : l = m :=
  sorted_ext_ sO h.1 hs (fun x => by rw [h.2, hm])
def GrP (w : World) (g : Nat) (s : Gr) : Prop := ∃ B m1 m2 V U vE vC, GrAt w B g m1 m2 V U vE vC s
theorem GrP.below {w W : World} {g : Nat} {s : Gr} (h : GrP w g s) (hb : Below w.heap.size w W) : GrP W g s := by
  obtain ⟨B, m1, m2, V, U, vE, vC, h⟩ := h
  exact ⟨B, m1, m2, V, U, vE, vC, h.below hb⟩
structure Fit (s : Gr) : Prop where
  grok : GrOk s
  inS : ∀ k (day : Int), inI (shareL (s.shL k) day).f0 ∧ inI (shareL (s.shL k) day).f1
  inC : ∀ c ∈ s.ch, inI c
section
variable {w : World} {s : Gr} {g : Nat}
theorem gq_Members (h : GrP w g s) (gd : Fit s) (kf : Nat) (top : ByteArray) (day : Int) (r : Option (ByteArray → Bool)) (ht : top.size ≤ 1000) (hL : DaysLaid w) (hF : membF kf s top day = some r) :
    Calls Tryz.prog 17 #[.pointer (some ⟨g, 0, none⟩), .string top, .int .i64 day] w fun e w' => ∃ A c l, e = .returned (.slice A (List.length l) c) ∧ Kd.C Kd.string w' A (List.length l) l ∧ List.length l ≤ c ∧ ListP l r ∧ Below w.heap.size w w' := by
  obtain ⟨B, m1, m2, V, U, vE, vC, h⟩ := h
  refine (go_Members h gd.grok kf top day r ht hL hF).mono ?_
  rintro e w' ⟨v, l, rfl, hown, hl, hb⟩
  obtain ⟨A, c, rfl, hc, hC⟩ := strs_C hown
  exact ⟨A, c, l, rfl, hC, hc, hl, hb⟩
theorem gq_Entities (h : GrP w g s) (gd : Fit s) :
    Calls Tryz.prog 24 #[.pointer (some ⟨g, 0, none⟩)] w fun e w' => ∃ A c, e = .returned (.slice A s.en.length c) ∧ Kd.C Kd.string w' A s.en.length s.en ∧ s.en.length ≤ c ∧ Below w.heap.size w w' := by
  obtain ⟨B, m1, m2, V, U, vE, vC, h⟩ := h
  refine (go_Entities h (by have := gd.grok.enl; omega)).mono ?_
  rintro e w' ⟨v, rfl, hown, hb⟩
  obtain ⟨A, c, rfl, hc, hC⟩ := strs_C hown
  exact ⟨A, c, rfl, hC, hc, hb⟩
theorem gq_Effective (h : GrP w g s) (gd : Fit s) (kf n : Nat) (top ent : ByteArray) (day : Int) (res : Int × Int × Int) (ht : top.size ≤ 1000) (he : ent.size ≤ 1000) (hL : DaysLaid w) (hF : effectiveF kf n s top ent day = some res) :
    Calls Tryz.prog 19 #[.pointer (some ⟨g, 0, none⟩), .string top, .string ent, .int .i64 day] w fun e w' => e = .returned (.tuple #[.agg #[.int .i64 res.1, .int .i64 res.2.1], .int .i64 res.2.2]) ∧ Below w.heap.size w w' := by
  obtain ⟨B, m1, m2, V, U, vE, vC, h⟩ := h
  exact go_Effective h gd.grok gd.inS kf n top ent day res ht he hL hF
theorem gq_Since (h : GrP w g s) (gd : Fit s) (kf : Nat) (top ent : ByteArray) (day : Int) (res : Int × Bool) (ht : top.size ≤ 1000) (he : ent.size ≤ 1000) (hL : DaysLaid w) (hF : sinceF kf s top ent day = some res) :
    Calls Tryz.prog 21 #[.pointer (some ⟨g, 0, none⟩), .string top, .string ent, .int .i64 day] w fun e w' => e = .returned (.tuple #[.int .i64 res.1, .bool res.2]) ∧ Below w.heap.size w w' := by
  obtain ⟨B, m1, m2, V, U, vE, vC, h⟩ := h
  exact go_Since h gd.grok gd.inC kf top ent day res ht he hL hF
theorem gq_Share (h : GrP w g s) (gd : Fit s) (a b : ByteArray) (day : Int) (ha : a.size ≤ 1000) (hb : b.size ≤ 1000) (f : Frc) (hf : shareL (s.shL (a, b)) day = f) :
    Calls Tryz.prog 26 #[.pointer (some ⟨g, 0, none⟩), .string a, .string b, .int .i64 day] w fun e w' => e = .returned (.agg #[.int .i64 f.f0, .int .i64 f.f1]) ∧ Below w.heap.size w w' := by
  obtain ⟨B, m1, m2, V, U, vE, vC, h⟩ := h
  subst hf
  exact go_Share h a b day ha hb (by have := gd.grok.shl (a, b); omega)
end
def NewP (w : World) (p : Value) (og : Option Gr) : Prop := match og with
  | none => p = .pointer none
  | some s => ∃ g, p = .pointer (some ⟨g, 0, none⟩) ∧ GrP w g s
theorem gp_New (kf : Nat) (A0 : Option Addr) (c0 : Nat) (l : List Hold) (a e : Int) (og : Option Gr) (w : World) (hC : Kd.C k56 w A0 l.length l) (hsz : l.length ≤ 200 → ∀ h ∈ l, h.f0.size ≤ 100 ∧ h.f1.size ≤ 100 ∧ inI h.f2.f0 ∧ inI h.f2.f1) (hL : DaysLaid w) (hF : newF kf l = some (a, e, og)) :
    Calls Tryz.prog 12 #[.slice A0 l.length c0] w fun r w' => ∃ p, r = .returned (.tuple #[p, .int .i64 a, .int .i64 e]) ∧ NewP w' p og ∧ Below w.heap.size w w' := by
  refine (go_New kf A0 c0 l a e og w hC hsz hL hF).mono ?_
  rintro r w' ⟨p, rfl, hp, hb⟩
  refine ⟨p, rfl, ?_, hb⟩
  cases og with
  | none => exact hp
  | some s =>
    obtain ⟨g, m1, m2, V, U, vE, vC, rfl, _, hG⟩ := hp
    exact ⟨g, rfl, _, m1, m2, V, U, vE, vC, hG⟩
theorem new_lit (kf : Nat) (l : List Hold) (a e : Int) (og : Option Gr) (w : World) (hl : l.length ≤ 200) (hsz : ∀ h ∈ l, h.f0.size ≤ 100 ∧ h.f1.size ≤ 100 ∧ inI h.f2.f0 ∧ inI h.f2.f1) (hL : DaysLaid w) (hF : newF kf l = some (a, e, og)) :
    Calls Tryz.prog 12 #[.slice (some ⟨w.heap.size, 0, none⟩) l.length l.length] (w.alloc (.cells (l.flatMap hcs).toArray 56)) fun r w' => ∃ p, r = .returned (.tuple #[p, .int .i64 a, .int .i64 e]) ∧ NewP w' p og ∧ Below w.heap.size w w' := by
  have hb := (Below.refl w.heap.size w).alloc (Nat.le_refl _) (.cells (l.flatMap hcs).toArray 56)
  refine (gp_New kf _ _ l a e og _ (holds_lit w 56 l (by omega)) (fun _ => hsz) (hL.below hb) hF).mono ?_
  rintro r w' ⟨p, rfl, hp, hb2⟩
  exact ⟨p, rfl, hp, hb.trans (hb2.mono hb.size)⟩
theorem same_lit {k : Nat} {l m : List ByteArray} (h : accountingref15_SameTexts.f k l m = some true) (hm : m.length ≤ 1000) {A : Option Addr} {c : Nat} {w : World} (hC : Kd.C Kd.string w A l.length l) (hc : l.length ≤ c) :
    Calls Tryz.prog 16 #[.slice A l.length c, .slice (some ⟨w.heap.size, 0, none⟩) m.length m.length] (w.alloc (.cells (strs m).toArray 9)) fun e w' => e = .returned (.bool true) ∧ Below w.heap.size w w' := by
  have hb := (Below.refl w.heap.size w).alloc (Nat.le_refl _) (.cells (strs m).toArray 9)
  refine (accountingref15_SameTexts.calls k A c l _ _ m true _ (Kd.C_below hC hb) hc (strs_lit w m hm) (Nat.le_refl _) h).mono ?_
  rintro e w' ⟨rfl, hd⟩
  exact ⟨rfl, hb.trans (hd.below.mono hb.size)⟩
theorem shareL_mem (day : Int) : ∀ (l : List Hold) (f : Frc), l.foldl (fun f h => if h.f3 ≤ day then h.f2 else f) f = f ∨ ∃ h ∈ l, l.foldl (fun f h => if h.f3 ≤ day then h.f2 else f) f = h.f2
  | [], _ => .inl rfl
  | x :: l, f => by
    rw [List.foldl_cons]
    rcases shareL_mem day l (if x.f3 ≤ day then x.f2 else f) with e | ⟨h, hm, e⟩
    · rw [e]
      by_cases c : x.f3 ≤ day
      · rw [if_pos c]; exact .inr ⟨x, List.mem_cons_self .., rfl⟩
      · rw [if_neg c]; exact .inl rfl
    · exact .inr ⟨h, List.mem_cons_of_mem _ hm, e⟩
def AllI (s : Gr) : Prop := ∀ k, ∀ h ∈ s.shL k, inI h.f2.f0 ∧ inI h.f2.f1
theorem AllI.add {s : Gr} (hs : AllI s) (x : Hold) (h0 : inI x.f2.f0) (h1 : inI x.f2.f1) : AllI (addG s x) := by
  intro k h hh
  rw [addG_shL] at hh
  by_cases c : k = x.pr
  · rw [if_pos c] at hh
    rcases List.mem_append.1 ((insH_perm _ _).mem_iff.1 hh) with h2 | h2
    · exact hs _ h h2
    · rw [List.mem_singleton.1 h2]; exact ⟨h0, h1⟩
  · rw [if_neg c] at hh; exact hs k h hh
theorem ex1_fit : Fit exG where
  grok := (newL_ok (show ∀ h ∈ ex1, h.f0.size ≤ 100 ∧ h.f1.size ≤ 100 by decide) (show newL 20 ex1 0 gr0 = some (.inr exG) by kernel_rfl) GrN.start).ok (by decide)
  inS := fun k day => by
    have h0 : AllI gr0 := fun k h hh => by simp [gr0, Gr.shL] at hh
    have hA : AllI exG := (((h0.add _ ⟨by decide, by decide⟩ ⟨by decide, by decide⟩).add _ ⟨by decide, by decide⟩ ⟨by decide, by decide⟩).add _ ⟨by decide, by decide⟩ ⟨by decide, by decide⟩).add _ ⟨by decide, by decide⟩ ⟨by decide, by decide⟩
    unfold shareL
    rcases shareL_mem day (exG.shL k) ⟨0, 1⟩ with e | ⟨h, hm, e⟩
    · rw [e]; exact ⟨⟨by decide, by decide⟩, ⟨by decide, by decide⟩⟩
    · rw [e]; exact hA k h hm
  inC := fun c hc => by
    have : exG.ch = [10, 20, 30] := by kernel_rfl
    rw [this] at hc
    simp only [List.mem_cons, List.not_mem_nil, or_false] at hc
    unfold inI
    omega
end Go.Proofs.YtikdiepcfdimgaaGreatDoor.POw
namespace Go.Proofs.YtikdiepcfdimgaaGreatDoor.POw
open Go.RowKit Go.Lib Go.Proofs.YtikdiepcfdimgaaGreatDoorW.PrintWords Go.Proofs.YtikdiepcfdimgaaGreatDoorW.PrintLast
theorem exq : ∀ h ∈ ex1 ++ ex2 ++ ex3, h.f0.size ≤ 100 ∧ h.f1.size ≤ 100 ∧ inI h.f2.f0 ∧ inI h.f2.f1 := by
  have : ((ex1 ++ ex2 ++ ex3).all fun h => decide (h.f0.size ≤ 100) && decide (h.f1.size ≤ 100) && decide (-9223372036854775808 ≤ h.f2.f0) && decide (h.f2.f0 ≤ 9223372036854775807) && decide (-9223372036854775808 ≤ h.f2.f1) && decide (h.f2.f1 ≤ 9223372036854775807)) = true := by kernel_rfl
  intro h hm
  have := List.all_eq_true.1 this h hm
  simp only [Bool.and_eq_true, decide_eq_true_eq] at this
  unfold inI
  omega
theorem m25_is {l : List ByteArray} (h : ListP l (some (putB (putB (putB (fun _ => false) bP) bA) bB))) : l = [bA, bB, bP] := by
  refine list_of h (by decide) (fun x => ?_)
  unfold putB
  simp only [List.mem_cons, List.not_mem_nil, or_false, Option.some.injEq, exists_eq_left', Bool.or_eq_true, decide_eq_true_eq, Bool.false_eq_true]
  constructor
  · rintro (h | h | h) <;> simp [h]
  · rintro (h | h | h) <;> simp [h]
theorem m15_is {l : List ByteArray} (h : ListP l (some (putB (putB (fun _ => false) bP) bA))) : l = [bA, bP] := by
  refine list_of h (by decide) (fun x => ?_)
  unfold putB
  simp only [List.mem_cons, List.not_mem_nil, or_false, Option.some.injEq, exists_eq_left', Bool.or_eq_true, decide_eq_true_eq, Bool.false_eq_true]
theorem m30_is {l : List ByteArray} (h : ListP l (some (putB (fun _ => false) bP))) : l = [bP] := by
  refine list_of h (by decide) (fun x => ?_)
  unfold putB
  simp only [List.mem_cons, List.not_mem_nil, or_false, Option.some.injEq, exists_eq_left', Bool.or_eq_true, decide_eq_true_eq, Bool.false_eq_true]
theorem zP : bP.size ≤ 1000 := by decide
theorem zA : bA.size ≤ 1000 := by decide
theorem zB : bB.size ≤ 1000 := by decide
section
variable {w : World} {g : Nat}
theorem ex_m25 (h : GrP w g exG) (hL : DaysLaid w) : Calls Tryz.prog 17 #[.pointer (some ⟨g, 0, none⟩), .string ⟨#[112]⟩, .int .i64 25] w fun e w' => ∃ A c, e = .returned (.slice A 3 c) ∧ Kd.C Kd.string w' A 3 [bA, bB, bP] ∧ 3 ≤ c ∧ Below w.heap.size w w' := by
  refine (gq_Members h ex1_fit 20 bP 25 _ zP hL ex1_m25).mono ?_
  rintro e w' ⟨A, c, l, rfl, hC, hc, hl, hb⟩
  obtain rfl := m25_is hl
  exact ⟨A, c, rfl, hC, hc, hb⟩
theorem ex_m15 (h : GrP w g exG) (hL : DaysLaid w) : Calls Tryz.prog 17 #[.pointer (some ⟨g, 0, none⟩), .string ⟨#[112]⟩, .int .i64 15] w fun e w' => ∃ A c, e = .returned (.slice A 2 c) ∧ Kd.C Kd.string w' A 2 [bA, bP] ∧ 2 ≤ c ∧ Below w.heap.size w w' := by
  refine (gq_Members h ex1_fit 20 bP 15 _ zP hL ex1_m15).mono ?_
  rintro e w' ⟨A, c, l, rfl, hC, hc, hl, hb⟩
  obtain rfl := m15_is hl
  exact ⟨A, c, rfl, hC, hc, hb⟩
theorem ex_m30 (h : GrP w g exG) (hL : DaysLaid w) : Calls Tryz.prog 17 #[.pointer (some ⟨g, 0, none⟩), .string ⟨#[112]⟩, .int .i64 30] w fun e w' => ∃ A c, e = .returned (.slice A 1 c) ∧ Kd.C Kd.string w' A 1 [bP] ∧ 1 ≤ c ∧ Below w.heap.size w w' := by
  refine (gq_Members h ex1_fit 20 bP 30 _ zP hL ex1_m30).mono ?_
  rintro e w' ⟨A, c, l, rfl, hC, hc, hl, hb⟩
  obtain rfl := m30_is hl
  exact ⟨A, c, rfl, hC, hc, hb⟩
theorem ex_e25 (h : GrP w g exG) (hL : DaysLaid w) : Calls Tryz.prog 19 #[.pointer (some ⟨g, 0, none⟩), .string ⟨#[112]⟩, .string ⟨#[98]⟩, .int .i64 25] w fun e w' => e = .returned (.tuple #[.agg #[.int .i64 13, .int .i64 25], .int .i64 0]) ∧ Below w.heap.size w w' :=
  gq_Effective h ex1_fit 20 20 bP bB 25 _ zP zB hL ex1_e25
theorem ex_e15 (h : GrP w g exG) (hL : DaysLaid w) : Calls Tryz.prog 19 #[.pointer (some ⟨g, 0, none⟩), .string ⟨#[112]⟩, .string ⟨#[98]⟩, .int .i64 15] w fun e w' => e = .returned (.tuple #[.agg #[.int .i64 0, .int .i64 0], .int .i64 1]) ∧ Below w.heap.size w w' :=
  gq_Effective h ex1_fit 20 20 bP bB 15 _ zP zB hL ex1_e15
theorem ex_s25 (h : GrP w g exG) (hL : DaysLaid w) : Calls Tryz.prog 21 #[.pointer (some ⟨g, 0, none⟩), .string ⟨#[112]⟩, .string ⟨#[98]⟩, .int .i64 25] w fun e w' => e = .returned (.tuple #[.int .i64 20, .bool true]) ∧ Below w.heap.size w w' :=
  gq_Since h ex1_fit 20 bP bB 25 _ zP zB hL ex1_s25
theorem ex_h9 (h : GrP w g exG) : Calls Tryz.prog 26 #[.pointer (some ⟨g, 0, none⟩), .string ⟨#[112]⟩, .string ⟨#[97]⟩, .int .i64 9] w fun e w' => e = .returned (.agg #[.int .i64 0, .int .i64 1]) ∧ Below w.heap.size w w' :=
  gq_Share h ex1_fit bP bA 9 zP zA ⟨0, 1⟩ ex1_h9
theorem ex_h12 (h : GrP w g exG) : Calls Tryz.prog 26 #[.pointer (some ⟨g, 0, none⟩), .string ⟨#[112]⟩, .string ⟨#[97]⟩, .int .i64 12] w fun e w' => e = .returned (.agg #[.int .i64 4, .int .i64 5]) ∧ Below w.heap.size w w' :=
  gq_Share h ex1_fit bP bA 12 zP zA ⟨4, 5⟩ ex1_h12
theorem ex_n1 (hL : DaysLaid w) : Calls Tryz.prog 12 #[.slice (some ⟨w.heap.size, 0, none⟩) 4 4] (w.alloc (.cells #[.string ⟨#[112]⟩, .string ⟨#[97]⟩, .int .i64 4, .int .i64 5, .int .i64 10, .string ⟨#[112]⟩, .string ⟨#[98]⟩, .int .i64 1, .int .i64 5, .int .i64 10, .string ⟨#[97]⟩, .string ⟨#[98]⟩, .int .i64 2, .int .i64 5, .int .i64 20, .string ⟨#[112]⟩, .string ⟨#[97]⟩, .int .i64 0, .int .i64 1, .int .i64 30] 56)) fun r w' => ∃ g, r = .returned (.tuple #[.pointer (some ⟨g, 0, none⟩), .int .i64 0, .int .i64 0]) ∧ GrP w' g exG ∧ Below w.heap.size w w' := by
  refine (new_lit 20 ex1 0 0 (some exG) w (by decide) (fun h hm => exq h (by simp [hm])) hL ex1_new).mono ?_
  rintro r w' ⟨p, rfl, ⟨g, rfl, hg⟩, hb⟩
  exact ⟨g, rfl, hg, hb⟩
theorem ex_n2 (hL : DaysLaid w) : Calls Tryz.prog 12 #[.slice (some ⟨w.heap.size, 0, none⟩) 2 2] (w.alloc (.cells #[.string ⟨#[112]⟩, .string ⟨#[97]⟩, .int .i64 1, .int .i64 2, .int .i64 0, .string ⟨#[97]⟩, .string ⟨#[112]⟩, .int .i64 1, .int .i64 2, .int .i64 0] 56)) fun r w' => r = .returned (.tuple #[.pointer none, .int .i64 1, .int .i64 24]) ∧ Below w.heap.size w w' := by
  refine (new_lit 20 ex2 1 24 none w (by decide) (fun h hm => exq h (by simp [hm])) hL ex2_new).mono ?_
  rintro r w' ⟨p, rfl, rfl, hb⟩
  exact ⟨rfl, hb⟩
theorem ex_n3 (hL : DaysLaid w) : Calls Tryz.prog 12 #[.slice (some ⟨w.heap.size, 0, none⟩) 2 2] (w.alloc (.cells #[.string ⟨#[112]⟩, .string ⟨#[97]⟩, .int .i64 1, .int .i64 2, .int .i64 0, .string ⟨#[113]⟩, .string ⟨#[97]⟩, .int .i64 2, .int .i64 3, .int .i64 5] 56)) fun r w' => r = .returned (.tuple #[.pointer none, .int .i64 0, .int .i64 4]) ∧ Below w.heap.size w w' := by
  refine (new_lit 20 ex3 0 4 none w (by decide) (fun h hm => exq h (by simp [hm])) hL ex3_new).mono ?_
  rintro r w' ⟨p, rfl, rfl, hb⟩
  exact ⟨rfl, hb⟩
theorem ex_t3 {A : Option Addr} {c : Nat} (hC : Kd.C Kd.string w A 3 [bA, bB, bP]) (hc : 3 ≤ c) : Calls Tryz.prog 16 #[.slice A 3 c, .slice (some ⟨w.heap.size, 0, none⟩) 3 3] (w.alloc (.cells #[.string ⟨#[97]⟩, .string ⟨#[98]⟩, .string ⟨#[112]⟩] 9)) fun e w' => e = .returned (.bool true) ∧ Below w.heap.size w w' :=
  same_lit (k := 9) (l := [bA, bB, bP]) (m := [bA, bB, bP]) (by kernel_rfl) (by decide) hC hc
theorem ex_t2 {A : Option Addr} {c : Nat} (hC : Kd.C Kd.string w A 2 [bA, bP]) (hc : 2 ≤ c) : Calls Tryz.prog 16 #[.slice A 2 c, .slice (some ⟨w.heap.size, 0, none⟩) 2 2] (w.alloc (.cells #[.string ⟨#[97]⟩, .string ⟨#[112]⟩] 9)) fun e w' => e = .returned (.bool true) ∧ Below w.heap.size w w' :=
  same_lit (k := 9) (l := [bA, bP]) (m := [bA, bP]) (by kernel_rfl) (by decide) hC hc
theorem ex_t1 {A : Option Addr} {c : Nat} (hC : Kd.C Kd.string w A 1 [bP]) (hc : 1 ≤ c) : Calls Tryz.prog 16 #[.slice A 1 c, .slice (some ⟨w.heap.size, 0, none⟩) 1 1] (w.alloc (.cells #[.string ⟨#[112]⟩] 9)) fun e w' => e = .returned (.bool true) ∧ Below w.heap.size w w' :=
  same_lit (k := 9) (l := [bP]) (m := [bP]) (by kernel_rfl) (by decide) hC hc
end
end Go.Proofs.YtikdiepcfdimgaaGreatDoor.POw
namespace Go.Proofs.YtikdiepcfdimgaaGreatDoor.POw
open Go.RowKit Go.Lib Go.Proofs.YtikdiepcfdimgaaGreatDoorW.PrintWords Go.Proofs.YtikdiepcfdimgaaGreatDoorW.PrintLast
set_option maxRecDepth 100000 in
set_option maxHeartbeats 8000000 in
theorem go_lives (w : World) (hL : DaysLaid w) : Calls Tryz.prog 11 #[] w fun e w' => e = .returned (.bool true) ∧ Below w.heap.size w w' := by
  have HL := Lib.hid hL
  have HB := Lib.hid (Below.refl w.heap.size w)
  clear hL
  go_enter Tryz.func11, Tryz.ntmps11
  go_upto_region 2 with (first
    | (go_at_call 28; refine (accountinglaw43_hold.calls _ _ _ _ _ _ _ _ _ _ _ rfl).mono ?_; rintro e w1 ⟨rfl, hb⟩; replace HB := Lib.hid (HB.out.trans (hb.mono HB.out.size)); clear hb)
    | (go_at_call 12; refine (ex_n1 (HL.out.below HB.out)).mono ?_; rintro e w2 ⟨g, rfl, hG, hb⟩; replace HB := Lib.hid (HB.out.trans (hb.mono HB.out.size)); have HG := Lib.hid hG; clear hb hG))
  go_upto_region 5 with (first
    | (go_at_call 19; refine (ex_e25 HG.out (HL.out.below HB.out)).mono ?_; rintro e w3 ⟨rfl, hb⟩; replace HB := Lib.hid (HB.out.trans (hb.mono HB.out.size)); replace HG := Lib.hid (HG.out.below hb); clear hb))
  have HFR := Lib.hid (FrcAt.made w3 ⟨13, 25⟩)
  have hba := (Below.refl w3.heap.size w3).alloc (Nat.le_refl _) (.cells #[.int .i64 13, .int .i64 25] 42)
  replace HB := Lib.hid (HB.out.trans (hba.mono HB.out.size))
  replace HG := Lib.hid (HG.out.below hba)
  obtain ⟨z, hz⟩ : ∃ z, w3.heap.size = z := ⟨_, rfl⟩
  obtain ⟨w4, hw4⟩ : ∃ W, w3.alloc (.cells #[.int .i64 13, .int .i64 25] 42) = W := ⟨_, rfl⟩
  simp only at HFR
  rw [hw4] at HFR HB HG ⊢
  rw [hz] at HFR ⊢
  clear hz hw4 hba
  go_upto_region 6 with (first
    | (go_at_call 21; refine (ex_s25 HG.out (HL.out.below HB.out)).mono ?_; rintro e w5 ⟨rfl, hb⟩; replace HB := Lib.hid (HB.out.trans (hb.mono HB.out.size)); replace HG := Lib.hid (HG.out.below hb); replace HFR := Lib.hid (HFR.out.below hb); clear hb))
  go_upto_region 7 with (first
    | (go_at_call 19; refine (ex_e15 HG.out (HL.out.below HB.out)).mono ?_; rintro e w5 ⟨rfl, hb⟩; replace HB := Lib.hid (HB.out.trans (hb.mono HB.out.size)); replace HG := Lib.hid (HG.out.below hb); replace HFR := Lib.hid (HFR.out.below hb); clear hb))
  have hba := (Below.refl w5.heap.size w5).alloc (Nat.le_refl _) (.cells #[.int .i64 0, .int .i64 0] 42)
  obtain ⟨w6, hw6⟩ : ∃ W, w5.alloc (.cells #[.int .i64 0, .int .i64 0] 42) = W := ⟨_, rfl⟩
  rw [hw6] at hba ⊢
  replace HB := Lib.hid (HB.out.trans (hba.mono HB.out.size)); replace HG := Lib.hid (HG.out.below hba); replace HFR := Lib.hid (HFR.out.below hba)
  clear hw6 hba
  go_upto_region 8 with (first
    | (go_at_call 28; refine (accountinglaw43_hold.calls _ _ _ _ _ _ _ _ _ _ _ rfl).mono ?_; rintro e w1 ⟨rfl, hb⟩; replace HB := Lib.hid (HB.out.trans (hb.mono HB.out.size)); replace HG := Lib.hid (HG.out.below hb); replace HFR := Lib.hid (HFR.out.below hb); clear hb)
    | (go_at_call 12; refine (ex_n2 (HL.out.below HB.out)).mono ?_; rintro e w7 ⟨rfl, hb⟩; replace HB := Lib.hid (HB.out.trans (hb.mono HB.out.size)); replace HG := Lib.hid (HG.out.below hb); replace HFR := Lib.hid (HFR.out.below hb); clear hb))
  go_upto_region 9 with (first
    | (go_at_call 28; refine (accountinglaw43_hold.calls _ _ _ _ _ _ _ _ _ _ _ rfl).mono ?_; rintro e w1 ⟨rfl, hb⟩; replace HB := Lib.hid (HB.out.trans (hb.mono HB.out.size)); replace HG := Lib.hid (HG.out.below hb); replace HFR := Lib.hid (HFR.out.below hb); clear hb)
    | (go_at_call 12; refine (ex_n3 (HL.out.below HB.out)).mono ?_; rintro e w7 ⟨rfl, hb⟩; replace HB := Lib.hid (HB.out.trans (hb.mono HB.out.size)); replace HG := Lib.hid (HG.out.below hb); replace HFR := Lib.hid (HFR.out.below hb); clear hb))
  have HS1 := Lib.hid trivial; have HS2 := Lib.hid trivial; have HS3 := Lib.hid trivial; have HS4 := Lib.hid trivial
  go_wp2_with (first
    | (go_at_call 17; have q := HS3; clear q HS3; refine (ex_m25 HG.out (HL.out.below HB.out)).mono ?_; rintro e w7 ⟨A, c, rfl, hC, hc, hb⟩; replace HB := Lib.hid (HB.out.trans (hb.mono HB.out.size)); replace HG := Lib.hid (HG.out.below hb); replace HFR := Lib.hid (HFR.out.below hb); clear hb; have HC3 := Lib.hid hC; have HD3 := Lib.hid hc; clear hC hc)
    | (go_at_call 16; refine (ex_t3 HC3.out HD3.out).mono ?_; rintro e w7 ⟨rfl, hb⟩; replace HB := Lib.hid (HB.out.trans (hb.mono HB.out.size)); replace HG := Lib.hid (HG.out.below hb); replace HFR := Lib.hid (HFR.out.below hb); clear hb; clear HC3 HD3)
    | (go_at_call 17; have q := HS2; clear q HS2; refine (ex_m15 HG.out (HL.out.below HB.out)).mono ?_; rintro e w7 ⟨A, c, rfl, hC, hc, hb⟩; replace HB := Lib.hid (HB.out.trans (hb.mono HB.out.size)); replace HG := Lib.hid (HG.out.below hb); replace HFR := Lib.hid (HFR.out.below hb); clear hb; have HC2 := Lib.hid hC; have HD2 := Lib.hid hc; clear hC hc)
    | (go_at_call 16; refine (ex_t2 HC2.out HD2.out).mono ?_; rintro e w7 ⟨rfl, hb⟩; replace HB := Lib.hid (HB.out.trans (hb.mono HB.out.size)); replace HG := Lib.hid (HG.out.below hb); replace HFR := Lib.hid (HFR.out.below hb); clear hb; clear HC2 HD2)
    | (go_at_call 17; have q := HS1; clear q HS1; refine (ex_m30 HG.out (HL.out.below HB.out)).mono ?_; rintro e w7 ⟨A, c, rfl, hC, hc, hb⟩; replace HB := Lib.hid (HB.out.trans (hb.mono HB.out.size)); replace HG := Lib.hid (HG.out.below hb); replace HFR := Lib.hid (HFR.out.below hb); clear hb; have HC1 := Lib.hid hC; have HD1 := Lib.hid hc; clear hC hc)
    | (go_at_call 16; refine (ex_t1 HC1.out HD1.out).mono ?_; rintro e w7 ⟨rfl, hb⟩; replace HB := Lib.hid (HB.out.trans (hb.mono HB.out.size)); replace HG := Lib.hid (HG.out.below hb); replace HFR := Lib.hid (HFR.out.below hb); clear hb; clear HC1 HD1; obtain ⟨f0, f1, _, _, _⟩ := HFR.out.facts)
    | (go_at_call 26; have q := HS4; clear q HS4; refine (ex_h9 HG.out).mono ?_; rintro e w7 ⟨rfl, hb⟩; replace HB := Lib.hid (HB.out.trans (hb.mono HB.out.size)); replace HG := Lib.hid (HG.out.below hb); replace HFR := Lib.hid (HFR.out.below hb); clear hb)
    | (go_at_call 26; refine (ex_h12 HG.out).mono ?_; rintro e w7 ⟨rfl, hb⟩; replace HB := Lib.hid (HB.out.trans (hb.mono HB.out.size)); replace HG := Lib.hid (HG.out.below hb); replace HFR := Lib.hid (HFR.out.below hb); clear hb))
  go_ret
  exact ⟨rfl, HB.out⟩
section
variable {L : List Hold}
theorem Good.inS (g : Good L) (k : Pr) (day : Int) : inI (shareL ((grOf L gr0).shL k) day).f0 ∧ inI (shareL ((grOf L gr0).shL k) day).f1 := by
  obtain ⟨o, x⟩ := k
  rw [g.share]
  have := g.part_share o x day
  unfold Part at this
  unfold inI
  omega
theorem Good.inC (g : Good L) : ∀ c ∈ (grOf L gr0).ch, inI c := fun c hc => by
  rcases (mem_ch c L gr0).1 hc with h | ⟨h, hm, rfl⟩
  · cases h
  · have := g.day h hm
    unfold inI
    omega
theorem Good.grok (g : Good L) : GrOk (grOf L gr0) := g.gr.ok (by have := g.len; omega)
theorem Good.fit (g : Good L) : Fit (grOf L gr0) := ⟨g.grok, g.inS, g.inC⟩
end
section
variable {w : World} {L : List Hold} {g : Nat}
theorem gp_Members (h : GrP w g (grOf L gr0)) (gd : Good L) (kf : Nat) (top : ByteArray) (day : Int) (r : Option (ByteArray → Bool)) (ht : top.size ≤ 1000) (hL : DaysLaid w) (hF : membF kf (grOf L gr0) top day = some r) :
    Calls Tryz.prog 17 #[.pointer (some ⟨g, 0, none⟩), .string top, .int .i64 day] w fun e w' => ∃ A c l, e = .returned (.slice A (List.length l) c) ∧ Kd.C Kd.string w' A (List.length l) l ∧ List.length l ≤ c ∧ ListP l r ∧ Below w.heap.size w w' := gq_Members h gd.fit kf top day r ht hL hF
theorem gp_Entities (h : GrP w g (grOf L gr0)) (gd : Good L) :
    Calls Tryz.prog 24 #[.pointer (some ⟨g, 0, none⟩)] w fun e w' => ∃ A c, e = .returned (.slice A (entL L []).length c) ∧ Kd.C Kd.string w' A (entL L []).length (entL L []) ∧ (entL L []).length ≤ c ∧ Below w.heap.size w w' := by
  have := gq_Entities h gd.fit
  rw [show (grOf L gr0).en = entL L [] from grOf_en L gr0] at this
  exact this
theorem gp_Effective (h : GrP w g (grOf L gr0)) (gd : Good L) (kf n : Nat) (top ent : ByteArray) (day : Int) (res : Int × Int × Int) (ht : top.size ≤ 1000) (he : ent.size ≤ 1000) (hL : DaysLaid w) (hF : effectiveF kf n (grOf L gr0) top ent day = some res) :
    Calls Tryz.prog 19 #[.pointer (some ⟨g, 0, none⟩), .string top, .string ent, .int .i64 day] w fun e w' => e = .returned (.tuple #[.agg #[.int .i64 res.1, .int .i64 res.2.1], .int .i64 res.2.2]) ∧ Below w.heap.size w w' := gq_Effective h gd.fit kf n top ent day res ht he hL hF
theorem gp_Since (h : GrP w g (grOf L gr0)) (gd : Good L) (kf : Nat) (top ent : ByteArray) (day : Int) (res : Int × Bool) (ht : top.size ≤ 1000) (he : ent.size ≤ 1000) (hL : DaysLaid w) (hF : sinceF kf (grOf L gr0) top ent day = some res) :
    Calls Tryz.prog 21 #[.pointer (some ⟨g, 0, none⟩), .string top, .string ent, .int .i64 day] w fun e w' => e = .returned (.tuple #[.int .i64 res.1, .bool res.2]) ∧ Below w.heap.size w w' := gq_Since h gd.fit kf top ent day res ht he hL hF
theorem gp_Share (h : GrP w g (grOf L gr0)) (gd : Good L) (a b : ByteArray) (day : Int) (ha : a.size ≤ 1000) (hb : b.size ≤ 1000) (f : Frc) (hf : shareL ((grOf L gr0).shL (a, b)) day = f) :
    Calls Tryz.prog 26 #[.pointer (some ⟨g, 0, none⟩), .string a, .string b, .int .i64 day] w fun e w' => e = .returned (.agg #[.int .i64 f.f0, .int .i64 f.f1]) ∧ Below w.heap.size w w' := gq_Share h gd.fit a b day ha hb f hf
end
end Go.Proofs.YtikdiepcfdimgaaGreatDoor.POw
namespace Go.Proofs.YtikdiepcfdimgaaGreatDoor.POw
open Go.RowKit Go.Lib Go.Proofs.YtikdiepcfdimgaaGreatDoorW.PrintWords Go.Proofs.YtikdiepcfdimgaaGreatDoorW.PrintLast
def lightB (l : List Hold) : Bool := decide (l.length ≤ 14) && l.all fun h => decide (h.f0.size ≤ 100) && decide (h.f1.size ≤ 100)
theorem light_main (l : List Hold) (hl : l.length ≤ 14) : ∀ (g i : Nat), i + g = l.length → Ev (fun k => accountinglaw43_light.l0 k l (i : Int)) ((l.drop i).all fun h => decide (h.f0.size ≤ 100) && decide (h.f1.size ≤ 100))
  | 0, i, hg => by
    rw [List.drop_eq_nil_of_le (by omega)]
    refine ⟨1, fun k hk => ?_⟩
    obtain ⟨j, rfl⟩ : ∃ j, k = j + 1 := ⟨k - 1, by omega⟩
    show accountinglaw43_light.l0 (j + 1) l (i : Int) = _
    rw [accountinglaw43_light.l0, if_neg (by omega)]
    rfl
  | g + 1, i, hg => by
    have hi : i < l.length := by omega
    obtain ⟨x, hx⟩ : ∃ x, l[i] = x := ⟨_, rfl⟩
    rw [List.drop_eq_getElem_cons hi, hx, List.all_cons]
    have e : wrap64 ((i : Int) + 1) = ((i + 1 : Nat) : Int) := by rw [wr_ (by omega)]; omega
    obtain ⟨k0, E⟩ := light_main l hl g (i + 1) (by omega)
    refine ⟨k0 + 1, fun k hk => ?_⟩
    obtain ⟨j, rfl⟩ : ∃ j, k = j + 1 := ⟨k - 1, by omega⟩
    have F := E j (by omega)
    simp only at F
    show accountinglaw43_light.l0 (j + 1) l (i : Int) = _
    rw [accountinglaw43_light.l0, if_pos (by omega), if_pos (by omega), rd_hold hi, hx, e, F]
    by_cases c1 : x.f0.size ≤ 100
    · rw [if_neg (by omega)]
      by_cases c2 : x.f1.size ≤ 100
      · rw [if_neg (by omega), decide_eq_true c1, decide_eq_true c2]; rfl
      · rw [if_pos (by omega), decide_eq_false c2, Bool.and_false, Bool.false_and]
    · rw [if_pos (by omega), decide_eq_false c1, Bool.false_and, Bool.false_and]
theorem light_ev (l : List Hold) : Ev (fun k => accountinglaw43_light.f k l) (lightB l) := by
  by_cases c : l.length ≤ 14
  · obtain ⟨k0, E⟩ := light_main l c l.length 0 (by omega)
    refine ⟨k0, fun k hk => ?_⟩
    have F := E k hk
    simp only [List.drop_zero] at F
    show accountinglaw43_light.f k l = _
    unfold accountinglaw43_light.f lightB
    rw [if_neg (by omega), decide_eq_true c, Bool.true_and]
    exact F
  · refine ⟨0, fun k _ => ?_⟩
    show accountinglaw43_light.f k l = _
    unfold accountinglaw43_light.f lightB
    rw [if_pos (by omega), decide_eq_false c, Bool.false_and]
theorem go_light (A : Option Addr) (c : Nat) (l : List Hold) (w : World) (hC : Kd.C k56 w A l.length l) (hlc : l.length ≤ c) :
    Calls Tryz.prog 10 #[.slice A l.length c] w fun e w' => e = .returned (.bool (lightB l)) ∧ Below w.heap.size w w' := by
  obtain ⟨k, E⟩ := light_ev l
  refine (accountinglaw43_light.calls k A c l (lightB l) w hC hlc (E k (Nat.le_refl _))).mono ?_
  rintro e w' ⟨rfl, hd⟩
  exact ⟨rfl, hd.below⟩
theorem lightB_spec {l : List Hold} (h : lightB l = true) : l.length ≤ 14 ∧ ∀ q ∈ l, q.f0.size ≤ 100 ∧ q.f1.size ≤ 100 := by
  unfold lightB at h
  simp only [Bool.and_eq_true, decide_eq_true_eq, List.all_eq_true] at h
  exact h
def HI (l : List Hold) : Prop := ∀ h ∈ l, inI h.f2.f0 ∧ inI h.f2.f1
def MadeP (w w' : World) (e : Ending) (l : List Hold) : Prop := (¬ (lightB l = true ∧ Group l) ∧ e = .returned (.tuple #[.pointer none, .bool false]) ∧ Below w.heap.size w w') ∨
  ∃ g, (lightB l = true ∧ Group l) ∧ e = .returned (.tuple #[.pointer (some ⟨g, 0, none⟩), .bool true]) ∧ GrP w' g (grOf l gr0) ∧ Below w.heap.size w w'
set_option maxRecDepth 100000 in
set_option maxHeartbeats 8000000 in
theorem go_made (A : Option Addr) (c : Nat) (l : List Hold) (w : World) (hC : Kd.C k56 w A l.length l) (hlc : l.length ≤ c) (hI : HI l) (hL : DaysLaid w) :
    Calls Tryz.prog 14 #[.slice A l.length c] w fun e w' => MadeP w w' e l := by
  have HLI := Lib.hid (go_light A c l w hC hlc)
  cases hlb : lightB l with
  | false =>
    rw [hlb] at HLI
    go_enter Tryz.func14, Tryz.ntmps14
    go_wp2_with (go_at_call 10; refine HLI.out.mono ?_; rintro e w1 ⟨rfl, hb1⟩)
    go_ret2
    exact .inl ⟨fun h => by rw [hlb] at h; simp at h, rfl, hb1⟩
  | true =>
    rw [hlb] at HLI
    have hsp := lightB_spec hlb
    obtain ⟨i, er, og, ⟨k1, h1⟩, ⟨k2, h2⟩, h3, h4⟩ := new_both l (fun _ => hsp.2)
    have HCH := Lib.hid (fun (W : World) (hW : Below w.heap.size w W) => go_refCheck k2 A c l (i, er) W (Kd.C_below hC hW) hlc (by omega) (fun _ q hq => ⟨(hsp.2 q hq).1, (hsp.2 q hq).2, hI q hq⟩) (h2 k2 (Nat.le_refl _)))
    have HNW := Lib.hid (fun (W : World) (hW : Below w.heap.size w W) => gp_New k1 A c l i er og W (Kd.C_below hC hW) (fun _ q hq => ⟨(hsp.2 q hq).1, (hsp.2 q hq).2, hI q hq⟩) (hL.below hW) (h1 k1 (Nat.le_refl _)))
    by_cases he : er = 0
    · obtain ⟨rfl, hg⟩ := h3 he
      have HGR := Lib.hid (show lightB l = true ∧ Group l from ⟨hlb, hg⟩)
      subst he
      clear h1 h2 h3 h4 hC hL hI hsp hg hlb
      go_enter Tryz.func14, Tryz.ntmps14
      go_wp2_with (first
        | (go_at_call 10; refine HLI.out.mono ?_; rintro e w1 ⟨rfl, hb1⟩)
        | (go_at_call 13; refine (HCH.out _ hb1).mono ?_; rintro e w2 ⟨rfl, hb2⟩; have HB2 := Lib.hid (hb1.trans (hb2.mono hb1.size)))
        | (go_at_call 12; refine (HNW.out _ HB2.out).mono ?_; rintro e w3 ⟨p, rfl, ⟨g, rfl, hG⟩, hb3⟩))
      go_ret2
      exact .inr ⟨g, HGR.out, rfl, hG, HB2.out.trans (hb3.mono HB2.out.size)⟩
    · have HNO := Lib.hid (show ¬ (lightB l = true ∧ Group l) from fun h => he (by
        have := (h.2.new).2.unique ⟨k2, h2⟩
        simp only [Prod.mk.injEq] at this
        exact this.2.symm))
      have he0 : (er == 0) = false := by simpa using he
      have he1 : (er != 0) = true := by simpa using he
      clear h1 h2 h3 h4 hC hL hI hsp he hlb HNW
      go_enter Tryz.func14, Tryz.ntmps14
      go_wp2_with (first
        | (go_at_call 10; refine HLI.out.mono ?_; rintro e w1 ⟨rfl, hb1⟩)
        | (go_at_call 13; refine (HCH.out _ hb1).mono ?_; rintro e w2 ⟨rfl, hb2⟩; have HB2 := Lib.hid (hb1.trans (hb2.mono hb1.size))))
      go_ret2
      exact .inl ⟨HNO.out, rfl, HB2.out⟩
theorem go_made_yes (A : Option Addr) (c : Nat) (l : List Hold) (w : World) (hC : Kd.C k56 w A l.length l) (hlc : l.length ≤ c) (hI : HI l) (hL : DaysLaid w) (h : lightB l = true ∧ Group l) :
    Calls Tryz.prog 14 #[.slice A l.length c] w fun e w' => ∃ g, e = .returned (.tuple #[.pointer (some ⟨g, 0, none⟩), .bool true]) ∧ GrP w' g (grOf l gr0) ∧ Below w.heap.size w w' := by
  refine (go_made A c l w hC hlc hI hL).mono ?_
  rintro e w' (⟨hn, _⟩ | ⟨g, _, h2⟩)
  · exact absurd h hn
  · exact ⟨g, h2⟩
theorem go_made_no (A : Option Addr) (c : Nat) (l : List Hold) (w : World) (hC : Kd.C k56 w A l.length l) (hlc : l.length ≤ c) (hI : HI l) (hL : DaysLaid w) (h : ¬ (lightB l = true ∧ Group l)) :
    Calls Tryz.prog 14 #[.slice A l.length c] w fun e w' => e = .returned (.tuple #[.pointer none, .bool false]) ∧ Below w.heap.size w w' := by
  refine (go_made A c l w hC hlc hI hL).mono ?_
  rintro e w' (⟨_, h2⟩ | ⟨g, h2, _⟩)
  · exact h2
  · exact absurd h2 h
def PBox (w : World) (z : Nat) (t e : ByteArray) (d : Int) : Prop := w.heap[z]? = some (.cells #[.string t, .string e, .int .i64 d] 32 (0, 0))
theorem PBox.made (w : World) (t e : ByteArray) (d : Int) : PBox (w.alloc (.cells #[.string t, .string e, .int .i64 d] 32)) w.heap.size t e d := (Go.MapKept.heap_alloc w _).1
theorem PBox.below {w W : World} {z : Nat} {t e : ByteArray} {d : Int} (h : PBox w z t e d) (hb : Below w.heap.size w W) : PBox W z t e d := (hb.block z (Array.getElem?_eq_some_iff.1 h).1).trans h
theorem PBox.facts {w : World} {z : Nat} {t e : ByteArray} {d : Int} (h : PBox w z t e d) : w.cell? ⟨z, 0, none⟩ = some (.string t) ∧ w.cell? ⟨z, 1, none⟩ = some (.string e) ∧ w.cell? ⟨z, 2, none⟩ = some (.int .i64 d) :=
  ⟨blk_cell h 0, blk_cell h 1, blk_cell h 2⟩
def shortB (t e : ByteArray) : Bool := decide (t.size ≤ 100) && decide (e.size ≤ 100)
theorem go_short (t e : ByteArray) (d : Int) (w : World) : Calls Tryz.prog 15 #[.agg #[.string t, .string e, .int .i64 d]] w fun x w' => x = .returned (.bool (shortB t e)) ∧ Below w.heap.size w w' := by
  refine accountinglaw43_short.calls t e d (shortB t e) w ?_
  unfold accountinglaw43_short.f shortB
  by_cases h : t.size ≤ 100
  · rw [if_pos (by omega), decide_eq_true h, Bool.true_and]
    congr 1
    rw [Bool.eq_iff_iff, decide_eq_true_eq, decide_eq_true_eq]
    omega
  · rw [if_neg (by omega), decide_eq_false h, Bool.false_and]
end Go.Proofs.YtikdiepcfdimgaaGreatDoor.POw
namespace Go.Proofs.YtikdiepcfdimgaaGreatDoor
open Go.RowKit Go.Lib Go.ChangeShapes Go.WideShapes Go.ChangeAt
theorem gDays : Tryz.prog.globalNamed "accounting/days.lengths" = some 0 := by kernel_rfl
theorem tDays : (Tryz.prog.globals[0]?).map (·.type) = some 148 := by kernel_rfl
theorem days_met (os : Os) (args : Array Value) : laidMetH Tryz.prog [("accounting/days.lengths", Rows.laid_accounting_days_lengths)] ((World.doorLaid Tryz.prog 400 os).forCall (fun _ _ => 0) ⟨#[], args, []⟩).memory :=
  laidMetH_of_parts3 (fuel := 8) (laidMet_of_run' 8 (by kernel_rfl) (by kernel_rfl)) (by kernel_rfl) (by kernel_rfl)
theorem days_of_laid {W : World} (h : laidMetH Tryz.prog [("accounting/days.lengths", Rows.laid_accounting_days_lengths)] W) : DaysLaid W := by
  rw [MakeChecks.laidMetH_plain _ _ _ (by kernel_rfl)] at h
  obtain ⟨ps, ⟨g0, t0, cs0, f0, p0, q0, hg0, ht0, hv0, hd0, _, _⟩, _, _⟩ := h
  obtain rfl := Option.some.inj (gDays.symm.trans hg0)
  obtain rfl := Option.some.inj (tDays.symm.trans ht0)
  obtain ⟨xs, m1, rfl, hx1, hlen, hn, hel⟩ := DataW.trod_array Tryz.underlying148 hd0
  have c3 : Tryz.prog.cellsOf 3 = 1 := by kernel_rfl
  have hx2 : xs.map (·.1) = lenL.map (fun n => DataW.lit (.int .i64 n)) := by
    simp only [Prod.mk.injEq] at hx1
    have := hx1.1
    unfold Rows.laid_accounting_days_lengths at this
    simp only [DataW.agg.injEq] at this
    rw [← this]; rfl
  intro i hi
  have h0 := hel i hi
  have hxi : i < xs.length := by rw [hn]; exact hi
  rw [List.getElem?_eq_getElem hxi] at h0
  obtain ⟨k, e1, e2, _⟩ := DataW.trod_int Tryz.underlying3 h0
  have hk : (xs.map (·.1))[i]? = some (DataW.lit (.int .i64 k)) := by rw [List.getElem?_map, List.getElem?_eq_getElem hxi, e2]; rfl
  rw [hx2, List.getElem?_map] at hk
  have hk2 : lenL[i]? = some k := by
    cases hl : lenL[i]? with
    | none => rw [hl] at hk; cases hk
    | some z => rw [hl] at hk; simp at hk; rw [hk]
  have hv := World.var?_cell hg0 hv0 i
  rw [hv]
  rw [c3] at e1
  have : cs0[i]? = some (.int .i64 k) := by
    have e3 := congrArg (·[0]?) e1
    simp at e3
    simpa using e3
  rw [this]
  simp [List.getD, hk2]
end Go.Proofs.YtikdiepcfdimgaaGreatDoor
namespace Go.Proofs.YtikdiepcfdimgaaGreatDoor.POw
open Go.RowKit Go.Lib Go.ChangeShapes Go.WideShapes Go.ChangeAt Go.Proofs.YtikdiepcfdimgaaGreatDoorW.PrintWords Go.Proofs.YtikdiepcfdimgaaGreatDoorW.PrintLast
section
variable {H : Type} {enc : TypeId × Value → H}
set_option maxRecDepth 100000 in
theorem trod_hold {W : World} {base : Nat} {sp : Nat → Bool} {hd : Bool} {n : Nat} {cs : List Value} {x : DataW H × List MemPlace} (h : DataW.trod enc Tryz.prog W base sp hd n 56 cs = some x) :
    ∃ r : Hold, cs = hcs r ∧ inI r.f2.f0 ∧ inI r.f2.f1 := by
  have cR : Tryz.prog.cellsOf 56 = 5 := by kernel_rfl
  have cF : Tryz.prog.cellsOf 42 = 2 := by kernel_rfl
  have cs9 : Tryz.prog.cellsOf 9 = 1 := by kernel_rfl
  have c3 : Tryz.prog.cellsOf 3 = 1 := by kernel_rfl
  obtain ⟨xs, k, rfl, rfl, hlen, hxl, hf⟩ := DataW.trod_struct Tryz.underlying56 h
  rw [cR] at hlen
  match xs, hxl, cs, hlen with
  | [y0, y1, y2, y3], _, [v0, v1, v2, v3, v4], _ =>
    have g0 := hf 0 _ rfl
    have g1 := hf 1 _ rfl
    have g2 := hf 2 _ rfl
    have g3 := hf 3 _ rfl
    simp [cs9, c3, cF] at g0 g1 g2 g3
    obtain ⟨s, e0, rfl, _⟩ := DataW.trod_string Tryz.underlying9 g0
    obtain ⟨s1, e1, rfl, _⟩ := DataW.trod_string Tryz.underlying9 g1
    obtain ⟨zs, k2, rfl, rfl, hlen2, hzl, hf2⟩ := DataW.trod_struct Tryz.underlying42 g2
    obtain ⟨n3, e3, rfl, w3⟩ := DataW.trod_int Tryz.underlying3 g3
    match zs, hzl with
    | [z0, z1], _ =>
      have g4 := hf2 0 _ rfl
      have g5 := hf2 1 _ rfl
      simp [c3] at g4 g5
      obtain ⟨n4, e4, rfl, w4⟩ := DataW.trod_int Tryz.underlying3 g4
      obtain ⟨n5, e5, rfl, w5⟩ := DataW.trod_int Tryz.underlying3 g5
      simp at e0 e1 e3 e4 e5
      subst e0 e1 e3 e4 e5
      have b4 := bounds_i64 w4
      have b5 := bounds_i64 w5
      exact ⟨⟨s, s1, ⟨n4, n5⟩, n3⟩, rfl, by unfold inI; omega, by unfold inI; omega⟩
set_option maxRecDepth 100000 in
theorem open_holds {W : World} {A : Option Addr} {n c : Nat} {d : DataW H} {ps : List MemPlace} (h : DataW.Trod enc Tryz.prog W 0 (fun _ => true) true 22 (.slice A n c) d ps) :
    ∃ l : List Hold, n = l.length ∧ Kd.C k56 W A l.length l ∧ l.length ≤ c ∧ HI l := by
  obtain ⟨fuel, hf⟩ := h
  have cR : Tryz.prog.cellsOf 56 = 5 := by kernel_rfl
  rcases Deep.open_slice Tryz.underlying22 hf with ⟨e1, _⟩ | ⟨a, len, cap, m, nn, D, Pl, e1, hb, hl, hm, hmm, e2, hx⟩
  · simp [Value.cells] at e1
    obtain ⟨rfl, rfl, rfl⟩ := e1
    exact ⟨[], rfl, ⟨rfl, by simp, fun h => absurd h (by simp)⟩, by simp, fun h hh => by cases hh⟩
  · simp [Value.cells] at e1
    obtain ⟨rfl, rfl, rfl⟩ := e1
    simp at hmm
    subst hmm
    rw [cR] at hx
    have hx' : ∀ i, i < m → ∃ r : Hold, W.cells? 0 (a.add (i * 5)) 5 = some (hcs r) ∧ inI r.f2.f0 ∧ inI r.f2.f1 := fun i hi => by
      obtain ⟨cs', h1, h2⟩ := hx i hi
      obtain ⟨r, rfl, h3⟩ := trod_hold h2
      exact ⟨r, h1, h3⟩
    haveI : Inhabited Hold := ⟨z56⟩
    obtain ⟨R, hR⟩ := Deep.choose_lt hx'
    have hl9 : n ≤ 9223372036854775807 := by simp only [maxLen] at *; omega
    refine ⟨(List.range n).map R, by simp, ⟨rfl, by simpa using hl9, fun h0 => ⟨a, rfl, fun j p hj => ?_⟩⟩, by simpa using hl, fun q hq => ?_⟩
    · simp only [List.getElem?_map] at hj
      have hjl : j < n := by
        rcases Nat.lt_or_ge j n with h | h
        · exact h
        · rw [List.getElem?_eq_none (by simpa using h)] at hj; cases hj
      rw [List.getElem?_range hjl] at hj
      simp only [Option.map_some, Option.some.injEq] at hj
      subst hj
      refine ⟨hcs (R j), rfl, k56_mk W (R j), fun i u hu => ?_⟩
      have hi : i < 5 := by simpa [hcs] using (List.getElem?_eq_some_iff.1 hu).1
      have := (World.cells?_some (hR j (by omega)).1).2.2 i hi
      rw [hu] at this
      rw [← this]
      show W.cell? (a.add (j * 5 + i)) = W.cell? ((a.add (j * 5)).add i)
      congr 1
      exact (Addr.add_add a (j * 5) i).symm
    · obtain ⟨j, hj, rfl⟩ := List.mem_map.1 hq
      rw [List.mem_range] at hj
      exact (hR j (by omega)).2
set_option maxRecDepth 100000 in
theorem open_place {W : World} {v : Value} {d : DataW H} {ps : List MemPlace} (h : DataW.Trod enc Tryz.prog W 0 (fun _ => true) true 32 v d ps) :
    ∃ (t e : ByteArray) (n : Int), v = .agg #[.string t, .string e, .int .i64 n] := by
  have cA : Tryz.prog.cellsOf 32 = 3 := by kernel_rfl
  have c9 : Tryz.prog.cellsOf 9 = 1 := by kernel_rfl
  have c3 : Tryz.prog.cellsOf 3 = 1 := by kernel_rfl
  obtain ⟨fuel, hf⟩ := h
  obtain ⟨xs, k, rfl, hx, hlen, hxl, hel⟩ := DataW.trod_struct Tryz.underlying32 hf
  rw [cA] at hlen
  obtain ⟨cs, rfl⟩ : ∃ cs, v = .agg cs := by
    cases v <;> first | exact ⟨_, rfl⟩ | (simp [Value.cells] at hlen)
  simp only [Value.cells] at hlen hel
  obtain ⟨l⟩ := cs
  match xs, hxl, l, hlen with
  | [y0, y1, y2], _, [v0, v1, v2], _ =>
    have g0 := hel 0 _ rfl
    have g1 := hel 1 _ rfl
    have g2 := hel 2 _ rfl
    simp [c9, c3] at g0 g1 g2
    obtain ⟨s0, e0, rfl, _⟩ := DataW.trod_string Tryz.underlying9 g0
    obtain ⟨s1, e1, rfl, _⟩ := DataW.trod_string Tryz.underlying9 g1
    obtain ⟨n2, e2, rfl, _⟩ := DataW.trod_int Tryz.underlying3 g2
    simp at e0 e1 e2
    subst e0 e1 e2
    exact ⟨s0, s1, n2, rfl⟩
end
end Go.Proofs.YtikdiepcfdimgaaGreatDoor.POw
