/- The printed functions, from some fuel on. -/
import Derived.Test.YtohfnpkoheafkaaDoorPAgx4
import Derived.Test.YtohfnpkoheafkaaDoorGA
namespace Go.Proofs.YtohfnpkoheafkaaDoor.PAg
open Go.RowKit Go.Proofs.YtohfnpkoheafkaaDoorW.PrintWords Go.Proofs.YtohfnpkoheafkaaDoorW.PrintLast Go.Proofs.YtohfnpkoheafkaaDoorW.PrintMore

/-- From some fuel on: r. -/
def Ev {α : Type} (F : Nat → Option α) (r : α) : Prop := ∃ K, ∀ k, K ≤ k → F k = some r
theorem Ev.of_mono {α : Type} {F : Nat → Option α} {r : α} (hm : ∀ k, LeO (F k) (F (k + 1))) {K : Nat} (h : F K = some r) : Ev F r :=
  ⟨K, fun k hk => by
    obtain ⟨d, rfl⟩ := Nat.exists_eq_add_of_le hk
    clear hk
    induction d with
    | zero => exact h
    | succ d ih => exact hm _ _ ih⟩
theorem Ev.pure {α : Type} (r : α) : Ev (fun _ => some r) r := ⟨0, fun _ _ => rfl⟩
theorem Ev.bind {α β : Type} {F : Nat → Option α} {G : Nat → α → Option β} {a : α} {r : β} (h1 : Ev F a) (h2 : Ev (fun k => G k a) r) : Ev (fun k => (F k).bind (G k)) r := by
  obtain ⟨K1, h1⟩ := h1
  obtain ⟨K2, h2⟩ := h2
  exact ⟨max K1 K2, fun k hk => by
    show (F k).bind (G k) = some r
    rw [h1 k (by omega)]; exact h2 k (by omega)⟩
theorem Ev.step {α : Type} {F H : Nat → Option α} {r : α} (hF : ∀ k, F (k + 1) = H k) (h : Ev H r) : Ev F r := by
  obtain ⟨K, h⟩ := h
  exact ⟨K + 1, fun k hk => by
    obtain ⟨d, rfl⟩ : ∃ d, k = d + 1 := ⟨k - 1, by omega⟩
    rw [hF]; exact h d (by omega)⟩
theorem Ev.get {α : Type} {F : Nat → Option α} {r : α} (h : Ev F r) : ∃ k, F k = some r := by
  obtain ⟨K, h⟩ := h
  exact ⟨K, h K (Nat.le_refl _)⟩

abbrev Big : Nat := 9223372036854775807
theorem up_one {j n : Nat} (h : j < n) (hn : n ≤ Big) : wrap64 ((j : Int) + 1) = ((j + 1 : Nat) : Int) := by
  rw [IntWalk.wrap64_in _ (by simp only [Big] at hn; omega)]; omega
theorem rd_at {xs : List Int} {j : Nat} (h : j < xs.length) : rd xs (j : Int) = xs[j] := by
  unfold rd; rw [Int.toNat_natCast, List.getD_eq_getElem?_getD, List.getElem?_eq_getElem h]; rfl

theorem ev_bucket_l (a : Int) (l : List Int) (hl : l.length ≤ Big) : ∀ d j, d = l.length - j → j ≤ l.length → j ≤ bucketN a l → Ev (fun k => aging_Bucket.l0 k a l (l.length : Int) (j : Int)) (bucketN a l : Int) := by
  intro d
  induction d with
  | zero =>
    intro j hd hj hb
    have hjl : j = l.length := by omega
    have hbl := bucketN_le a l
    refine Ev.step (H := fun _ => some (l.length : Int)) (fun k => ?_) (by rw [show bucketN a l = l.length by omega]; exact Ev.pure _)
    rw [aging_Bucket.l0, if_neg (by omega)]
  | succ d ih =>
    intro j hd hj hb
    have hlt : j < l.length := by omega
    by_cases hle : a ≤ l[j]
    · have e := bucketN_at hlt hle hb
      refine Ev.step (H := fun _ => some (j : Int)) (fun k => ?_) (by rw [e]; exact Ev.pure _)
      rw [aging_Bucket.l0, if_pos (by omega), if_pos (by omega), if_pos (by omega), rd_at hlt, if_pos hle]
    · refine Ev.step (H := fun k => aging_Bucket.l0 k a l (l.length : Int) ((j + 1 : Nat) : Int)) (fun k => ?_) (ih (j + 1) (by omega) (by omega) (bucketN_next hlt hle hb))
      rw [aging_Bucket.l0, if_pos (by omega), if_pos (by omega), if_pos (by omega), rd_at hlt, if_neg hle, up_one hlt hl]
theorem ev_bucket (a : Int) (l : List Int) (hl : l.length ≤ Big) : Ev (fun k => aging_Bucket.f k a l) (bucketN a l : Int) := ev_bucket_l a l hl _ 0 rfl (Nat.zero_le _) (Nat.zero_le _)
theorem ev_refBucket_l (a : Int) (l : List Int) (hl : l.length ≤ Big) : ∀ d j, d = l.length - j → j ≤ l.length → j ≤ bucketN a l → Ev (fun k => accountingref27_Bucket.l0 k a l (j : Int)) (bucketN a l : Int) := by
  intro d
  induction d with
  | zero =>
    intro j hd hj hb
    have hjl : j = l.length := by omega
    have hbl := bucketN_le a l
    refine Ev.step (H := fun _ => some (l.length : Int)) (fun k => ?_) (by rw [show bucketN a l = l.length by omega]; exact Ev.pure _)
    rw [accountingref27_Bucket.l0, if_neg (by omega)]
  | succ d ih =>
    intro j hd hj hb
    have hlt : j < l.length := by omega
    by_cases hle : a ≤ l[j]
    · have e := bucketN_at hlt hle hb
      refine Ev.step (H := fun _ => some (j : Int)) (fun k => ?_) (by rw [e]; exact Ev.pure _)
      rw [accountingref27_Bucket.l0, if_pos (by omega), if_pos (by omega), rd_at hlt, if_pos hle]
    · refine Ev.step (H := fun k => accountingref27_Bucket.l0 k a l ((j + 1 : Nat) : Int)) (fun k => ?_) (ih (j + 1) (by omega) (by omega) (bucketN_next hlt hle hb))
      rw [accountingref27_Bucket.l0, if_pos (by omega), if_pos (by omega), rd_at hlt, if_neg hle, up_one hlt hl]
theorem ev_refBucket (a : Int) (l : List Int) (hl : l.length ≤ Big) : Ev (fun k => accountingref27_Bucket.f k a l) (bucketN a l : Int) := ev_refBucket_l a l hl _ 0 rfl (Nat.zero_le _) (Nat.zero_le _)

theorem rdL_at {xs : List Left} {j : Nat} (h : j < xs.length) : rd_T39 xs (j : Int) = xs[j] := by
  unfold rd_T39; rw [Int.toNat_natCast, List.getD_eq_getElem?_getD, List.getElem?_eq_getElem h]; rfl
theorem rdA_at {xs : List Aged} {j : Nat} (h : j < xs.length) : rd_T37 xs (j : Int) = xs[j] := by
  unfold rd_T37; rw [Int.toNat_natCast, List.getD_eq_getElem?_getD, List.getElem?_eq_getElem h]; rfl

def Small (l : List Left) (j : Nat) : Prop := ∀ i, j ≤ i → ∀ hi : i < l.length, l[i].f0.size ≤ 100 ∧ l[i].f1.size ≤ 100
theorem ev_light_l (l : List Left) (hl : l.length ≤ Big) : ∀ d j, d = l.length - j → j ≤ l.length → ∃ b, Ev (fun k => accountinglaw27_light.l0 k l (j : Int)) b ∧ (b = true → Small l j) := by
  intro d
  induction d with
  | zero =>
    intro j hd hj
    refine ⟨true, Ev.step (H := fun _ => some true) (fun k => ?_) (Ev.pure _), fun _ i h1 h2 => by omega⟩
    rw [accountinglaw27_light.l0, if_neg (by omega)]
  | succ d ih =>
    intro j hd hj
    have hlt : j < l.length := by omega
    by_cases h1 : ((l[j].f0).size : Int) > 100
    · refine ⟨false, Ev.step (H := fun _ => some false) (fun k => ?_) (Ev.pure _), fun h => by cases h⟩
      rw [accountinglaw27_light.l0, if_pos (by omega), if_pos (by omega), rdL_at hlt, if_pos h1]
    · by_cases h2 : ((l[j].f1).size : Int) > 100
      · refine ⟨false, Ev.step (H := fun _ => some false) (fun k => ?_) (Ev.pure _), fun h => by cases h⟩
        rw [accountinglaw27_light.l0, if_pos (by omega), if_pos (by omega), rdL_at hlt, if_neg h1, if_pos h2]
      · obtain ⟨b, hb, hbs⟩ := ih (j + 1) (by omega) (by omega)
        refine ⟨b, Ev.step (H := fun k => accountinglaw27_light.l0 k l ((j + 1 : Nat) : Int)) (fun k => ?_) hb, fun h i hji hi => ?_⟩
        · rw [accountinglaw27_light.l0, if_pos (by omega), if_pos (by omega), rdL_at hlt, if_neg h1, if_neg h2, up_one hlt hl]
        · rcases Nat.eq_or_lt_of_le hji with rfl | hlt'
          · exact ⟨by omega, by omega⟩
          · exact hbs h i hlt' hi
theorem ev_light (l : List Left) (lims : List Int) (hl : l.length ≤ Big) : ∃ b, Ev (fun k => accountinglaw27_light.f k l lims) b ∧ (b = true → l.length ≤ 60 ∧ lims.length ≤ 20 ∧ Small l 0) := by
  have hj : ∀ c : Bool, ∃ b, Ev (fun k => accountinglaw27_light.j0 k l c) b ∧ (b = true → c = false ∧ Small l 0) := fun c => by
    cases c with
    | true => exact ⟨false, Ev.step (H := fun _ => some false) (fun k => by rw [accountinglaw27_light.j0, if_pos rfl]) (Ev.pure _), fun h => by cases h⟩
    | false =>
      obtain ⟨b, hb, hbs⟩ := ev_light_l l hl _ 0 rfl (Nat.zero_le _)
      exact ⟨b, Ev.step (H := fun k => accountinglaw27_light.l0 k l 0) (fun k => by rw [accountinglaw27_light.j0, if_neg (by simp)]) hb, fun h => ⟨rfl, hbs h⟩⟩
  by_cases h1 : (l.length : Int) > 60
  · obtain ⟨b, hb, hbs⟩ := hj true
    refine ⟨b, ?_, fun h => by cases (hbs h).1⟩
    simpa only [accountinglaw27_light.f, if_pos h1] using hb
  · obtain ⟨b, hb, hbs⟩ := hj (decide ((lims.length : Int) > 20))
    refine ⟨b, ?_, fun h => ⟨by omega, by have := of_decide_eq_false (hbs h).1; omega, (hbs h).2⟩⟩
    simpa only [accountinglaw27_light.f, if_neg h1] using hb

theorem ev_same_all (r : List Aged) (hr : r.length ≤ Big) (hs : ∀ x ∈ r, x.f2.length ≤ Big) : ∀ d j, d = r.length - j → j ≤ r.length → Ev (fun k => accountingref27_Same.l0 k r r (j : Int)) true := by
  intro d
  induction d with
  | zero =>
    intro j hd hj
    refine Ev.step (H := fun _ => some true) (fun k => ?_) (Ev.pure _)
    rw [accountingref27_Same.l0, if_neg (by omega)]
  | succ d ih =>
    intro j hd hj
    have hlt : j < r.length := by omega
    have hsz := hs r[j] (List.getElem_mem hlt)
    have inner : ∀ d' i, d' = r[j].f2.length - i → i ≤ r[j].f2.length → Ev (fun k => accountingref27_Same.l1 k r r (j : Int) (i : Int)) true := by
      intro d'
      induction d' with
      | zero =>
        intro i hd' hi
        refine Ev.step (H := fun k => accountingref27_Same.l0 k r r ((j + 1 : Nat) : Int)) (fun k => ?_) (ih (j + 1) (by omega) (by omega))
        rw [accountingref27_Same.l1, if_pos (by omega), if_pos (by omega), rdA_at hlt, if_neg (by omega), up_one hlt hr]
      | succ d' ih' =>
        intro i hd' hi
        have hi' : i < r[j].f2.length := by omega
        refine Ev.step (H := fun k => accountingref27_Same.l1 k r r (j : Int) ((i + 1 : Nat) : Int)) (fun k => ?_) (ih' (i + 1) (by omega) (by omega))
        rw [accountingref27_Same.l1, if_pos (by omega), if_pos (by omega), rdA_at hlt, if_pos (by omega), if_pos (by omega), if_pos (by omega), if_pos (by omega), if_pos rfl, up_one hi' hsz]
    refine Ev.step (H := fun k => accountingref27_Same.j1 k r r (j : Int) false) (fun k => ?_) (Ev.step (H := fun k => accountingref27_Same.l1 k r r (j : Int) 0) (fun k => by rw [accountingref27_Same.j1, if_neg (by simp)]) (inner _ 0 rfl (Nat.zero_le _)))
    rw [accountingref27_Same.l0, if_pos (by omega), if_pos (by omega), if_pos (by omega), if_pos rfl, if_pos rfl]
    simp
theorem ev_same (r : List Aged) (hr : r.length ≤ Big) (hs : ∀ x ∈ r, x.f2.length ≤ Big) : Ev (fun k => accountingref27_Same.f k r r) true := by
  have := ev_same_all r hr hs _ 0 rfl (Nat.zero_le _)
  simp only [accountingref27_Same.f, if_pos]
  exact this

theorem lives_run : accountinglaw27_lives.f 20 = some true := by kernel_rfl
theorem ev_lives : Ev (fun k => accountinglaw27_lives.f k) true := Ev.of_mono accountinglaw27_lives.mono lives_run

end Go.Proofs.YtohfnpkoheafkaaDoor.PAg
