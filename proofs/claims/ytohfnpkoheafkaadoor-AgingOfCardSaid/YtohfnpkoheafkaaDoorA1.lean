/- First contracts: money.Code (three capital letters) and the days package. -/
import Derived.Test.YtohfnpkoheafkaaDoorProg
import Derived.WalkKit
import Derived.KernelRfl
import Derived.RowKit3
import Derived.Deep.LoopGhost
import Derived.Deep.QuietTactic
import Derived.BigQuiet
import Derived.WideLaws
import Derived.WalkSpells
import Derived.WalkLawsBesides
import Derived.Lib.Hide
namespace Go.Proofs.YtohfnpkoheafkaaDoor
open Go.RowKit

theorem bcell {W w1 : World} (hb : Below W.heap.size W w1) : (∀ b o, b < W.heap.size → w1.cell? ⟨b, o, none⟩ = W.cell? ⟨b, o, none⟩) ∧ (∀ b o, b < W.heap.size → w1.frozen? ⟨b, o, none⟩ = W.frozen? ⟨b, o, none⟩) :=
  ⟨fun b o h => hb.cell (p := ⟨b, o, none⟩) h, fun b o h => hb.frozen (p := ⟨b, o, none⟩) h⟩

def isUp (b : UInt8) : Bool := decide (65 ≤ b.toNat) && decide (b.toNat ≤ 90)
def codeB (s : ByteArray) : Bool := s.data.toList.all isUp && decide (s.size = 3)

theorem codeB_bad (s : ByteArray) (k : Nat) (h : k < s.size) (hb : isUp s[k] = false) : codeB s = false := by
  unfold codeB
  have : s.data.toList.all isUp = false := by
    rw [List.all_eq_false]
    exact ⟨s[k], by show s.data[k] ∈ _; simp, by simp [hb]⟩
  rw [this]; rfl

theorem codeB_all (s : ByteArray) (h : ∀ k (hk : k < s.size), isUp s[k] = true) : codeB s = decide (s.size = 3) := by
  unfold codeB
  have : s.data.toList.all isUp = true := by
    rw [List.all_eq_true]
    intro x hx
    obtain ⟨i, hi, rfl⟩ := List.getElem_of_mem hx
    exact h i (by simpa using hi)
  rw [this]; rfl

set_option maxRecDepth 100000 in
set_option maxHeartbeats 1000000 in
theorem money_Code.calls (s : ByteArray) (w : World) (hs : s.size ≤ 140737488351232) :
    Calls Tryd.prog 32 #[.string s] w fun e w' => e = .returned (.bool (codeB s)) ∧ Below w.heap.size w w' := by
  go_enter Tryd.func32, Tryd.ntmps32
  go_wp2
  go_loopw [3] (fun n w' => ∃ pos : Nat, w' = w.iter s pos ∧ pos ≤ s.size ∧ n = .int .i64 pos ∧ ∀ k (hk : k < s.size), k < pos → isUp s[k] = true) (fun _ w' => s.size - w'.iterPos w.heap.size)
  case atStart => exact ⟨0, rfl, Nat.zero_le _, rfl, fun k _ h => absurd h (Nat.not_lt_zero _)⟩
  case round =>
    obtain ⟨pos, rfl, hps, rfl, hall⟩ := hrel
    have HA := Lib.hid hall; clear hall
    by_cases hp : pos < s.size
    · have hnx : ∀ ty, (Instr.next (.pointer (some ⟨w.heap.size, 0, none⟩)) true ty).run Tryd.prog (w.iter s pos) = _ := fun ty => run_next_any w s pos ty hp
      by_cases ha : (s[pos]'hp).toNat < 128
      · rw [decode_ascii s pos hp ha] at hnx
        by_cases hu : isUp s[pos] = true
        · have hu' : 65 ≤ (s[pos]'hp).toNat ∧ (s[pos]'hp).toNat ≤ 90 := by simpa [isUp] using hu
          have h1 : decide (((s[pos]'hp).toNat : Int) < 65) = false := by simp; omega
          have h2 : decide (90 < ((s[pos]'hp).toNat : Int)) = false := by simp; omega
          have HU := Lib.hid hu; clear hu hu'
          go_wp2
          go_roundw
          case rel =>
            refine ⟨pos + 1, rfl, by omega, by go_num, fun k hk hlt => ?_⟩
            by_cases e : k = pos
            · subst e; exact HU.out
            · exact HA.out k hk (by omega)
          case measure => simp; omega
        · have hu0 : isUp s[pos] = false := by simpa using hu
          have HC := Lib.hid (codeB_bad s pos hp hu0)
          have hu' : ¬ (65 ≤ (s[pos]'hp).toNat ∧ (s[pos]'hp).toNat ≤ 90) := by simpa [isUp] using hu
          clear hu hu0
          by_cases h1 : (s[pos]'hp).toNat < 65
          · have h1' : decide (((s[pos]'hp).toNat : Int) < 65) = true := by simp; omega
            clear hu'
            go_wp2
            go_ret
            exact ⟨by rw [HC.out]; rfl, (Below.refl _ _).alloc (Nat.le_refl _) _⟩
          · have h1' : decide (((s[pos]'hp).toNat : Int) < 65) = false := by simp; omega
            have h2' : decide (90 < ((s[pos]'hp).toNat : Int)) = true := by simp; omega
            clear hu'
            go_wp2
            go_ret
            exact ⟨by rw [HC.out]; rfl, (Below.refl _ _).alloc (Nat.le_refl _) _⟩
      · have hd := (decode_high s pos hp (by omega)).1
        have hu0 : isUp s[pos] = false := by simp [isUp]; omega
        have HC := Lib.hid (codeB_bad s pos hp hu0)
        generalize (Utf8.decode s pos).1 = c at hnx hd
        generalize pos + (Utf8.decode s pos).2 = pos' at hnx
        have h1' : decide ((c : Int) < 65) = false := by simp; omega
        have h2' : decide (90 < (c : Int)) = true := by simp; omega
        clear hu0
        go_wp2
        go_ret
        exact ⟨by rw [HC.out]; rfl, (Below.refl _ _).alloc (Nat.le_refl _) _⟩
    · have hnx : ∀ ty, (Instr.next (.pointer (some ⟨w.heap.size, 0, none⟩)) true ty).run Tryd.prog (w.iter s pos) = _ := fun ty => run_next_end w s pos ty hp
      have e : pos = s.size := by omega
      subst e
      have HC := Lib.hid (codeB_all s (fun k hk => HA.out k hk hk))
      go_wp2
      go_ret
      exact ⟨by rw [HC.out]; show Ending.returned (.bool _) = _; congr 2; rw [Bool.eq_iff_iff]; simp; omega, (Below.refl _ _).alloc (Nat.le_refl _) _⟩

end Go.Proofs.YtohfnpkoheafkaaDoor
