/- aging.Bucket, and the first loop of aging.Of. -/
import Derived.Test.YtohfnpkoheafkaaDoorG2
import Derived.Deep.QuietTactic
import Derived.BigQuiet
import Derived.Deep.RegionHeld3
import Derived.Deep.DeepCutAuto
namespace Go.Proofs.YtohfnpkoheafkaaDoor.PAg
open Go.RowKit Go.Proofs.YtohfnpkoheafkaaDoorW.PrintWords Go.Proofs.YtohfnpkoheafkaaDoorW.PrintLast Go.Proofs.YtohfnpkoheafkaaDoorW.PrintMore

theorem addr_of_cell {w : World} {ad : Addr} {v : Value} (h : w.cell? (ad.add 0) = some v) : ∃ b o, ad = ⟨b, o, none⟩ := by
  obtain ⟨b, o, s⟩ := ad
  cases s with
  | none => exact ⟨b, o, rfl⟩
  | some z =>
    exfalso
    simp [World.cell?, Addr.add] at h
    split at h <;> cases h
theorem ints_at {w : World} {A : Option Addr} {n : Nat} {xs : List Int} (h : Kd.C (Kd.int .i64) w A n xs) : ∀ i (hi : i < xs.length), ∃ b o, A = some ⟨b, o, none⟩ ∧ b < w.heap.size ∧ w.cell? ⟨b, o + i, none⟩ = some (.int .i64 xs[i]) := by
  intro i hi
  obtain ⟨hl, _, hc⟩ := h
  obtain ⟨ad, rfl, hcell⟩ := hc (by omega)
  obtain ⟨c, hcl, hK, hu⟩ := hcell i xs[i] (List.getElem?_eq_getElem hi)
  have hK' : c = [.int .i64 xs[i]] := hK
  subst hK'
  have h1 := hu 0 _ rfl
  have hp : 0 < xs.length := by omega
  obtain ⟨x0, hx0⟩ : ∃ x0, xs[0]'hp = x0 := ⟨_, rfl⟩
  obtain ⟨c0, _, hK0, hu0⟩ := hcell 0 x0 (by rw [← hx0]; exact List.getElem?_eq_getElem hp)
  have hK0' : c0 = [.int .i64 x0] := hK0
  subst hK0'
  have h0 := hu0 0 _ rfl
  rw [Nat.zero_mul, Nat.zero_add] at h0
  obtain ⟨b, o, rfl⟩ := addr_of_cell h0
  have e : (⟨b, o, none⟩ : Addr).add (i * 1 + 0) = ⟨b, o + i, none⟩ := by rw [Addr.add_lit]; congr 1; omega
  have h2 : w.cell? ⟨b, o + i, none⟩ = some (.int .i64 xs[i]) := by rw [← e]; exact h1
  exact ⟨b, o, rfl, block_lt_of_cell h2, h2⟩
theorem lefts_at {w : World} {A : Option Addr} {n : Nat} {xs : List Left} (h : Kd.C k39 w A n xs) : ∀ i (hi : i < xs.length), ∃ b o, A = some ⟨b, o, none⟩ ∧ b < w.heap.size ∧
    w.cell? ⟨b, o + i * 4, none⟩ = some (.string xs[i].f0) ∧ w.cell? ⟨b, o + i * 4 + 1, none⟩ = some (.string xs[i].f1) ∧ w.cell? ⟨b, o + i * 4 + 2, none⟩ = some (.int .i64 xs[i].f2) ∧ w.cell? ⟨b, o + i * 4 + 3, none⟩ = some (.int .i64 xs[i].f3) := by
  intro i hi
  obtain ⟨hl, _, hc⟩ := h
  obtain ⟨ad, rfl, hcell⟩ := hc (by omega)
  obtain ⟨c, hcl, hK, hu⟩ := hcell i xs[i] (List.getElem?_eq_getElem hi)
  have hK' := k39_open hK
  subst hK'
  have hp : 0 < xs.length := by omega
  obtain ⟨x0, hx0⟩ : ∃ x0, xs[0]'hp = x0 := ⟨_, rfl⟩
  obtain ⟨c0, _, hK0, hu0⟩ := hcell 0 x0 (by rw [← hx0]; exact List.getElem?_eq_getElem hp)
  have hK0' := k39_open hK0
  subst hK0'
  have h0 := hu0 0 _ rfl
  rw [Nat.zero_mul, Nat.zero_add] at h0
  obtain ⟨b, o, rfl⟩ := addr_of_cell h0
  have e : ∀ j, (⟨b, o, none⟩ : Addr).add (i * 4 + j) = ⟨b, o + i * 4 + j, none⟩ := fun j => by rw [Addr.add_lit]; congr 1; omega
  have f : ∀ j u, [Value.string xs[i].f0, .string xs[i].f1, .int .i64 xs[i].f2, .int .i64 xs[i].f3][j]? = some u → w.cell? ⟨b, o + i * 4 + j, none⟩ = some u := fun j u hj => by rw [← e]; exact hu j u hj
  have h2 := f 0 _ rfl
  exact ⟨b, o, rfl, block_lt_of_cell h2, h2, f 1 _ rfl, f 2 _ rfl, f 3 _ rfl⟩

theorem bucketN_le (age : Int) (lims : List Int) : bucketN age lims ≤ lims.length := List.findIdx_le_length
theorem bucketN_at {age : Int} {lims : List Int} {k : Nat} (hk : k < lims.length) (h : age ≤ lims[k]) (hb : k ≤ bucketN age lims) : bucketN age lims = k := by
  have : bucketN age lims ≤ k := by
    rcases Nat.lt_or_ge k (bucketN age lims) with h1 | h1
    · have := List.not_of_lt_findIdx h1
      simp at this; omega
    · exact h1
  omega
theorem bucketN_next {age : Int} {lims : List Int} {k : Nat} (hk : k < lims.length) (h : ¬ age ≤ lims[k]) (hb : k ≤ bucketN age lims) : k + 1 ≤ bucketN age lims := by
  rcases Nat.lt_or_ge k (bucketN age lims) with h1 | h1
  · exact h1
  · exfalso
    have e : bucketN age lims = k := by omega
    have := List.findIdx_getElem (xs := lims) (p := fun x => decide (age ≤ x)) (w := by unfold bucketN at e; omega)
    unfold bucketN at e
    simp only [e] at this
    simp at this
    exact h this

set_option maxHeartbeats 2000000 in
theorem go_Bucket (age : Int) (lims : List Int) (A : Option Addr) (c : Nat) (w : World) (hr : Kd.C (Kd.int .i64) w A lims.length lims) :
    Calls Tryd.prog 10 #[.int .i64 age, .slice A lims.length c] w fun e w' => e = .returned (.int .i64 (bucketN age lims)) ∧ w = w' := by
  have hlen := hr.2.1
  have hat := ints_at hr
  have HAT := Lib.hid hat; clear hat hr
  obtain ⟨R, hR⟩ : ∃ R, bucketN age lims = R := ⟨_, rfl⟩
  have HR := Lib.hid hR
  rw [hR]
  have hRl : R ≤ lims.length := by rw [← hR]; exact bucketN_le age lims
  clear hR
  go_enter Tryd.func10, Tryd.ntmps10
  go_wp2
  go_loopg [8] lims.length (fun g t wr => ∃ k : Nat, g = lims.length - k ∧ k ≤ lims.length ∧ t = .int .i64 k ∧ wr = w ∧ k ≤ R)
  case atStart => exact ⟨0, rfl, Nat.zero_le _, rfl, rfl, Nat.zero_le _⟩
  case round =>
    obtain ⟨k, rfl, hk, rfl, rfl, hkR⟩ := hrel
    by_cases hlt : k < lims.length
    · obtain ⟨b, o, rfl, hbw, hc⟩ := HAT.out k hlt
      obtain ⟨x, hx⟩ : ∃ x, lims[k] = x := ⟨_, rfl⟩
      rw [hx] at hc
      by_cases hle : age ≤ x
      · have HF := Lib.hid (show R = k by rw [← HR.out]; exact bucketN_at hlt (by rw [hx]; exact hle) (by rw [HR.out]; exact hkR))
        clear hx
        go_wp2
        go_ret
        exact ⟨by rw [HF.out]; rfl, rfl⟩
      · have HF := Lib.hid (show k + 1 ≤ R by rw [← HR.out]; exact bucketN_next hlt (by rw [hx]; exact hle) (by rw [HR.out]; exact hkR))
        have hleb : decide (age ≤ x) = false := decide_eq_false hle
        clear hx hle
        go_wp2
        go_roundg (lims.length - (k + 1))
        case measure => omega
        case rel => exact ⟨k + 1, rfl, by omega, by go_num, rfl, HF.out⟩
    · have HF := Lib.hid (show R = lims.length by omega)
      have hlt' : ¬ (k : Int) < (lims.length : Int) := by omega
      go_wp2
      go_ret
      exact ⟨by rw [HF.out]; rfl, rfl⟩

end Go.Proofs.YtohfnpkoheafkaaDoor.PAg
