/- Checks of a rate; the search; the references' small functions. -/
import Derived.Test.YtncbfpigojeekaaDoorC2
namespace Go.Proofs.YtncbfpigojeekaaDoor
open Go.RowKit

set_option maxHeartbeats 1000000 in
theorem fx_search.calls (xs : List Rate) (v : Value) (day : Int) (w : World) (hv : SlR Rate.cells 5 w v xs) (hR : Rising xs) (hlen : xs.length ≤ 4611686018427387904) :
    Calls Tryd.prog 30 #[v, .int .i64 day] w fun e w' => e = .returned (.int .i64 (lowB xs day)) ∧ Below w.heap.size w w' := by
  go_enter Tryd.func30, Tryd.ntmps30
  go_wp2_with (go_at_call 46; refine (bsearch.calls xs v day _ hv hR hlen).mono ?_; rintro e w1 ⟨⟨b, rfl⟩, hb1⟩)
  go_ret
  exact ⟨rfl, hb1⟩

def checkS (base : ByteArray) (r : Rate) : Int :=
  if !codeB r.cur || r.cur == base then 13 else if !(decide (1 ≤ r.kind) && decide (r.kind ≤ 3)) then 10 else if !isDay r.day then 11 else if !rightB r.n r.d || decide (r.n ≤ 0) then 2 else 0

theorem bc1 (w w1 : World) (o : Obj) (h1 : Below (w.alloc o).heap.size (w.alloc o) w1) : Below w.heap.size w w1 := ((Below.refl _ _).alloc (Nat.le_refl _) _).trans (h1.mono (by simp))
theorem bc2 (w w1 w2 : World) (o : Obj) (h1 : Below (w.alloc o).heap.size (w.alloc o) w1) (h2 : Below w1.heap.size w1 w2) : Below w.heap.size w w2 := (bc1 w w1 o h1).trans (h2.mono (by have := (bc1 w w1 o h1).size; omega))
theorem bc3 (w w1 w2 w3 : World) (o : Obj) (h1 : Below (w.alloc o).heap.size (w.alloc o) w1) (h2 : Below w1.heap.size w1 w2) (h3 : Below w2.heap.size w2 w3) : Below w.heap.size w w3 := (bc2 w w1 w2 o h1 h2).trans (h3.mono (by have := (bc2 w w1 w2 o h1 h2).size; omega))

def chk (A B K D R N : Bool) : Int := if !A || B then 13 else if !K then 10 else if !D then 11 else if !R || N then 2 else 0

set_option maxHeartbeats 4000000 in
theorem fx_check.calls (base : ByteArray) (r : Rate) (w : World) (hl : DaysLaid w) (hw : r.wf) :
    Calls Tryd.prog 24 #[.string base, r.v] w fun e w' => e = .returned (.int .i64 (checkS base r)) ∧ Below w.heap.size w w' := by
  obtain ⟨z1, z2, z3, z4, z5⟩ := hw
  obtain ⟨cur, kind, day, n, d⟩ := r
  simp only at z1 z2 z3 z4 z5
  have hle := fun (o : Obj) (w1 : World) (h : Below (w.alloc o).heap.size (w.alloc o) w1) => (hl.below ((Below.refl w.heap.size w).alloc (Nat.le_refl _) o)).below h
  have HL := Lib.hid hle
  clear hl hle
  have e1 : (cur == base) = (cur.toList == base.toList) := beq_toListBytes _ _
  obtain ⟨A, hA⟩ : ∃ A, codeB cur = A := ⟨_, rfl⟩
  obtain ⟨B, hB⟩ : ∃ B, (cur.toList == base.toList) = B := ⟨_, rfl⟩
  obtain ⟨K, hK⟩ : ∃ K, (decide (1 ≤ kind) && decide (kind ≤ 3)) = K := ⟨_, rfl⟩
  obtain ⟨D, hD⟩ : ∃ D, isDay day = D := ⟨_, rfl⟩
  obtain ⟨R, hR⟩ : ∃ R, rightB n d = R := ⟨_, rfl⟩
  obtain ⟨N, hN⟩ : ∃ N, decide (n ≤ 0) = N := ⟨_, rfl⟩
  have HS := Lib.hid (show checkS base ⟨cur, kind, day, n, d⟩ = chk A B K D R N by unfold checkS chk; simp only [e1, hA, hB, hK, hD, hR, hN])
  have HA := Lib.hid hA; have HK := Lib.hid hK; have HD := Lib.hid hD; have HR := Lib.hid hR
  clear hA hK hD hR e1
  unfold Rate.v
  simp only
  cases A
  · go_enter Tryd.func24, Tryd.ntmps24
    go_wp2_with (first
      | (go_at_call 23; refine (money_Code.calls _ _ z1).mono ?_; rintro e w1 ⟨rfl, hb1⟩; rw [HA.out]; obtain ⟨hcc, hff⟩ := bcell hb1)
      | (go_at_call 28; refine (fx_known.calls _ _).mono ?_; rintro e w' ⟨rfl, rfl⟩; rw [HK.out])
      | (go_at_call 29; refine (fx_day.calls _ _ (HL.out _ _ hb1)).mono ?_; rintro e w2 ⟨rfl, hb2⟩; rw [HD.out]; obtain ⟨hcc2, hff2⟩ := bcell hb2; have hz2 : w.heap.size < w1.heap.size := by (have := hb1.size; simp at this; omega))
      | (go_at_call 41; refine (frac_Right.calls _ _ _ z4 z5).mono ?_; rintro e w3 ⟨rfl, hb3⟩; rw [HR.out]; obtain ⟨hcc3, hff3⟩ := bcell hb3; have hz3 : w.heap.size < w2.heap.size := by (have := hb2.size; omega)))
    go_ret
    exact ⟨by rw [HS.out]; rfl, bc1 w w1 _ hb1⟩
  · cases B
    · cases K
      · go_enter Tryd.func24, Tryd.ntmps24
        go_wp2_with (first
          | (go_at_call 23; refine (money_Code.calls _ _ z1).mono ?_; rintro e w1 ⟨rfl, hb1⟩; rw [HA.out]; obtain ⟨hcc, hff⟩ := bcell hb1)
          | (go_at_call 28; refine (fx_known.calls _ _).mono ?_; rintro e w' ⟨rfl, rfl⟩; rw [HK.out])
          | (go_at_call 29; refine (fx_day.calls _ _ (HL.out _ _ hb1)).mono ?_; rintro e w2 ⟨rfl, hb2⟩; rw [HD.out]; obtain ⟨hcc2, hff2⟩ := bcell hb2; have hz2 : w.heap.size < w1.heap.size := by (have := hb1.size; simp at this; omega))
          | (go_at_call 41; refine (frac_Right.calls _ _ _ z4 z5).mono ?_; rintro e w3 ⟨rfl, hb3⟩; rw [HR.out]; obtain ⟨hcc3, hff3⟩ := bcell hb3; have hz3 : w.heap.size < w2.heap.size := by (have := hb2.size; omega)))
        go_ret
        exact ⟨by rw [HS.out]; rfl, bc1 w w1 _ hb1⟩
      · cases D
        · go_enter Tryd.func24, Tryd.ntmps24
          go_wp2_with (first
            | (go_at_call 23; refine (money_Code.calls _ _ z1).mono ?_; rintro e w1 ⟨rfl, hb1⟩; rw [HA.out]; obtain ⟨hcc, hff⟩ := bcell hb1)
            | (go_at_call 28; refine (fx_known.calls _ _).mono ?_; rintro e w' ⟨rfl, rfl⟩; rw [HK.out])
            | (go_at_call 29; refine (fx_day.calls _ _ (HL.out _ _ hb1)).mono ?_; rintro e w2 ⟨rfl, hb2⟩; rw [HD.out]; obtain ⟨hcc2, hff2⟩ := bcell hb2; have hz2 : w.heap.size < w1.heap.size := by (have := hb1.size; simp at this; omega))
            | (go_at_call 41; refine (frac_Right.calls _ _ _ z4 z5).mono ?_; rintro e w3 ⟨rfl, hb3⟩; rw [HR.out]; obtain ⟨hcc3, hff3⟩ := bcell hb3; have hz3 : w.heap.size < w2.heap.size := by (have := hb2.size; omega)))
          go_ret
          exact ⟨by rw [HS.out]; rfl, bc2 w w1 w2 _ hb1 hb2⟩
        · cases R
          · go_enter Tryd.func24, Tryd.ntmps24
            go_wp2_with (first
              | (go_at_call 23; refine (money_Code.calls _ _ z1).mono ?_; rintro e w1 ⟨rfl, hb1⟩; rw [HA.out]; obtain ⟨hcc, hff⟩ := bcell hb1)
              | (go_at_call 28; refine (fx_known.calls _ _).mono ?_; rintro e w' ⟨rfl, rfl⟩; rw [HK.out])
              | (go_at_call 29; refine (fx_day.calls _ _ (HL.out _ _ hb1)).mono ?_; rintro e w2 ⟨rfl, hb2⟩; rw [HD.out]; obtain ⟨hcc2, hff2⟩ := bcell hb2; have hz2 : w.heap.size < w1.heap.size := by (have := hb1.size; simp at this; omega))
              | (go_at_call 41; refine (frac_Right.calls _ _ _ z4 z5).mono ?_; rintro e w3 ⟨rfl, hb3⟩; rw [HR.out]; obtain ⟨hcc3, hff3⟩ := bcell hb3; have hz3 : w.heap.size < w2.heap.size := by (have := hb2.size; omega)))
            go_ret
            exact ⟨by rw [HS.out]; rfl, bc3 w w1 w2 w3 _ hb1 hb2 hb3⟩
          · cases N
            · go_enter Tryd.func24, Tryd.ntmps24
              go_wp2_with (first
                | (go_at_call 23; refine (money_Code.calls _ _ z1).mono ?_; rintro e w1 ⟨rfl, hb1⟩; rw [HA.out]; obtain ⟨hcc, hff⟩ := bcell hb1)
                | (go_at_call 28; refine (fx_known.calls _ _).mono ?_; rintro e w' ⟨rfl, rfl⟩; rw [HK.out])
                | (go_at_call 29; refine (fx_day.calls _ _ (HL.out _ _ hb1)).mono ?_; rintro e w2 ⟨rfl, hb2⟩; rw [HD.out]; obtain ⟨hcc2, hff2⟩ := bcell hb2; have hz2 : w.heap.size < w1.heap.size := by (have := hb1.size; simp at this; omega))
                | (go_at_call 41; refine (frac_Right.calls _ _ _ z4 z5).mono ?_; rintro e w3 ⟨rfl, hb3⟩; rw [HR.out]; obtain ⟨hcc3, hff3⟩ := bcell hb3; have hz3 : w.heap.size < w2.heap.size := by (have := hb2.size; omega)))
              go_ret
              exact ⟨by rw [HS.out]; rfl, bc3 w w1 w2 w3 _ hb1 hb2 hb3⟩
            · go_enter Tryd.func24, Tryd.ntmps24
              go_wp2_with (first
                | (go_at_call 23; refine (money_Code.calls _ _ z1).mono ?_; rintro e w1 ⟨rfl, hb1⟩; rw [HA.out]; obtain ⟨hcc, hff⟩ := bcell hb1)
                | (go_at_call 28; refine (fx_known.calls _ _).mono ?_; rintro e w' ⟨rfl, rfl⟩; rw [HK.out])
                | (go_at_call 29; refine (fx_day.calls _ _ (HL.out _ _ hb1)).mono ?_; rintro e w2 ⟨rfl, hb2⟩; rw [HD.out]; obtain ⟨hcc2, hff2⟩ := bcell hb2; have hz2 : w.heap.size < w1.heap.size := by (have := hb1.size; simp at this; omega))
                | (go_at_call 41; refine (frac_Right.calls _ _ _ z4 z5).mono ?_; rintro e w3 ⟨rfl, hb3⟩; rw [HR.out]; obtain ⟨hcc3, hff3⟩ := bcell hb3; have hz3 : w.heap.size < w2.heap.size := by (have := hb2.size; omega)))
              go_ret
              exact ⟨by rw [HS.out]; rfl, bc3 w w1 w2 w3 _ hb1 hb2 hb3⟩
    · go_enter Tryd.func24, Tryd.ntmps24
      go_wp2_with (first
        | (go_at_call 23; refine (money_Code.calls _ _ z1).mono ?_; rintro e w1 ⟨rfl, hb1⟩; rw [HA.out]; obtain ⟨hcc, hff⟩ := bcell hb1)
        | (go_at_call 28; refine (fx_known.calls _ _).mono ?_; rintro e w' ⟨rfl, rfl⟩; rw [HK.out])
        | (go_at_call 29; refine (fx_day.calls _ _ (HL.out _ _ hb1)).mono ?_; rintro e w2 ⟨rfl, hb2⟩; rw [HD.out]; obtain ⟨hcc2, hff2⟩ := bcell hb2; have hz2 : w.heap.size < w1.heap.size := by (have := hb1.size; simp at this; omega))
        | (go_at_call 41; refine (frac_Right.calls _ _ _ z4 z5).mono ?_; rintro e w3 ⟨rfl, hb3⟩; rw [HR.out]; obtain ⟨hcc3, hff3⟩ := bcell hb3; have hz3 : w.heap.size < w2.heap.size := by (have := hb2.size; omega)))
      go_ret
      exact ⟨by rw [HS.out]; rfl, bc1 w w1 _ hb1⟩

end Go.Proofs.YtncbfpigojeekaaDoor
