/- words.Code and aging.isDay. -/
import Derived.Test.YtohfnpkoheafkaaDoorA3
import Derived.Lib.Hide
namespace Go.Proofs.YtohfnpkoheafkaaDoor
open Go.RowKit

def wordB (c : UInt8) : Bool := (decide (97 ≤ c.toNat) && decide (c.toNat ≤ 122)) || (decide (65 ≤ c.toNat) && decide (c.toNat ≤ 90)) || decide (c.toNat = 95) || (decide (48 ≤ c.toNat) && decide (c.toNat ≤ 57))
def allW (s : ByteArray) : Bool := s.data.toList.all wordB
def wcodeB (s : ByteArray) : Bool := decide (s.size ≠ 0) && decide (s.size ≤ 12) && allW s

def ltrI (c : Int) : Bool := (decide (97 ≤ c) && decide (c ≤ 122)) || (decide (65 ≤ c) && decide (c ≤ 90)) || (c == 95)
def digI (c : Int) : Bool := decide (48 ≤ c) && decide (c ≤ 57)
theorem wordB_eq (c : UInt8) : wordB c = (ltrI (c.toNat : Int) || digI (c.toNat : Int)) := by
  unfold wordB ltrI digI
  rw [Bool.eq_iff_iff]
  simp
  omega

set_option maxHeartbeats 1000000 in
theorem words_digit_any (c : Int) (w : World) : Calls Tryd.prog 60 #[.int .u8 c] w fun e w' => e = .returned (.bool (digI c)) ∧ w = w' := by
  by_cases h1 : 48 ≤ c
  · have HF := Lib.hid (show digI c = decide (c ≤ 57) by unfold digI; rw [decide_eq_true h1]; rfl)
    go_enter Tryd.func60, Tryd.ntmps60
    go_wp2
    go_ret
    exact ⟨by rw [HF.out]; rfl, rfl⟩
  · have HF := Lib.hid (show digI c = false by unfold digI; rw [decide_eq_false h1]; rfl)
    go_enter Tryd.func60, Tryd.ntmps60
    go_wp2
    go_ret
    exact ⟨by rw [HF.out]; rfl, rfl⟩

set_option maxHeartbeats 2000000 in
theorem words_letter_any (c : Int) (w : World) : Calls Tryd.prog 59 #[.int .u8 c] w fun e w' => e = .returned (.bool (ltrI c)) ∧ w = w' := by
  by_cases h1 : 97 ≤ c
  · by_cases h2 : c ≤ 122
    · have HF := Lib.hid (show ltrI c = true by unfold ltrI; simp [h1, h2])
      go_enter Tryd.func59, Tryd.ntmps59
      go_wp2
      go_ret
      exact ⟨by rw [HF.out]; rfl, rfl⟩
    · have b2 : decide (c ≤ 122) = false := decide_eq_false h2
      have h3 : 65 ≤ c := by omega
      have b4 : decide (c ≤ 90) = false := decide_eq_false (by omega)
      have b5 : (c == 95) = false := by simp; omega
      have HF := Lib.hid (show ltrI c = false by unfold ltrI; rw [b2, b4, b5]; simp)
      clear h2
      go_enter Tryd.func59, Tryd.ntmps59
      go_wp2
      go_ret
      exact ⟨by rw [HF.out]; rfl, rfl⟩
  · have b1 : decide (97 ≤ c) = false := decide_eq_false h1
    by_cases h3 : 65 ≤ c
    · by_cases h4 : c ≤ 90
      · have HF := Lib.hid (show ltrI c = true by unfold ltrI; simp [h3, h4])
        clear h1
        go_enter Tryd.func59, Tryd.ntmps59
        go_wp2
        go_ret
        exact ⟨by rw [HF.out]; rfl, rfl⟩
      · have b4 : decide (c ≤ 90) = false := decide_eq_false h4
        have HF := Lib.hid (show ltrI c = (c == 95) by unfold ltrI; rw [b1, b4]; simp)
        clear h1 h4
        go_enter Tryd.func59, Tryd.ntmps59
        go_wp2
        go_ret
        exact ⟨by rw [HF.out]; rfl, rfl⟩
    · have b3 : decide (65 ≤ c) = false := decide_eq_false h3
      have HF := Lib.hid (show ltrI c = (c == 95) by unfold ltrI; rw [b1, b3]; simp)
      clear h1 h3
      go_enter Tryd.func59, Tryd.ntmps59
      go_wp2
      go_ret
      exact ⟨by rw [HF.out]; rfl, rfl⟩

set_option maxHeartbeats 2000000 in
theorem words_Code_1_any (c : UInt8) (w : World) : Calls Tryd.prog 58 #[.int .u8 c.toNat] w fun e w' => e = .returned (.bool (wordB c)) ∧ w = w' := by
  have HE := Lib.hid (wordB_eq c)
  obtain ⟨a, ha⟩ : ∃ a, ltrI (c.toNat : Int) = a := ⟨_, rfl⟩
  obtain ⟨b, hb⟩ : ∃ b, digI (c.toNat : Int) = b := ⟨_, rfl⟩
  rw [ha, hb] at HE
  have HA := Lib.hid ha; have HB := Lib.hid hb
  clear ha hb
  cases a
  all_goals
    go_enter Tryd.func58, Tryd.ntmps58
    go_wp2_with (first
      | (go_at_call 59; refine (words_letter_any _ _).mono ?_; rintro e w' ⟨rfl, rfl⟩; rw [HA.out])
      | (go_at_call 60; refine (words_digit_any _ _).mono ?_; rintro e w' ⟨rfl, rfl⟩; rw [HB.out]))
    go_ret
    exact ⟨by rw [HE.out]; simp, rfl⟩

theorem all_take_succ (s : ByteArray) (k : Nat) (h : k < s.size) : (s.data.toList.take (k + 1)).all wordB = ((s.data.toList.take k).all wordB && wordB s[k]) := by
  rw [List.take_succ_eq_append_getElem (by simpa using h), List.all_append]
  simp
  rfl

set_option maxHeartbeats 4000000 in
theorem words_every_any (s : ByteArray) (hs : s.size ≤ 140737488351232) (w : World) :
    Calls Tryd.prog 57 #[.string s, .func (.func 58) #[] #[]] w fun e w' => e = .returned (.bool (allW s)) ∧ w = w' := by
  go_enter Tryd.func57, Tryd.ntmps57
  go_wp2
  go_loopg [8] s.size (fun g t wr => ∃ k : Nat, g = s.size - k ∧ k ≤ s.size ∧ t = .int .i64 k ∧ wr = w ∧ Hid ((s.data.toList.take k).all wordB = true))
  case atStart => exact ⟨0, rfl, Nat.zero_le _, rfl, rfl, Lib.hid rfl⟩
  case round =>
    obtain ⟨k, rfl, hk, rfl, rfl, HI⟩ := hrel
    by_cases hlt : k < s.size
    · have HT := Lib.hid (all_take_succ s k hlt)
      obtain ⟨b, hb⟩ : ∃ b, wordB s[k] = b := ⟨_, rfl⟩
      rw [hb] at HT
      have HB := Lib.hid hb; clear hb
      cases b
      · have HF := Lib.hid (show allW s = false by
          unfold allW
          rw [Bool.eq_false_iff]
          intro h
          have h2 := HT.out
          rw [Bool.and_false, Bool.eq_false_iff] at h2
          exact h2 (List.all_eq_true.2 fun x hx => List.all_eq_true.1 h x (List.mem_of_mem_take hx)))
        go_wp2_with (go_at_call 58; refine (words_Code_1_any _ _).mono ?_; rintro e w' ⟨rfl, rfl⟩; rw [HB.out])
        go_ret
        exact ⟨by rw [HF.out]; rfl, rfl⟩
      · go_wp2_with (go_at_call 58; refine (words_Code_1_any _ _).mono ?_; rintro e w' ⟨rfl, rfl⟩; rw [HB.out])
        go_roundg (s.size - (k + 1))
        case measure => omega
        case rel => exact ⟨k + 1, rfl, by omega, by go_num, rfl, Lib.hid (by rw [HT.out, HI.out]; rfl)⟩
    · have HF := Lib.hid (show allW s = true by
        unfold allW
        have h := HI.out
        rw [List.take_of_length_le (by simp; omega)] at h
        exact h)
      have hkl : ¬ (k : Int) < (s.size : Int) := by omega
      go_wp2
      go_ret
      exact ⟨by rw [HF.out]; rfl, rfl⟩

set_option maxHeartbeats 2000000 in
theorem go_words_Code (s : ByteArray) (w : World) (hs : s.size ≤ 140737488351232) :
    Calls Tryd.prog 31 #[.string s] w fun e w' => e = .returned (.bool (wcodeB s)) ∧ w = w' := by
  have e : s.toList.length = s.size := by rw [ByteArray.toList_eq, Array.length_toList]; rfl
  by_cases h0 : s.size = 0
  · have HF := Lib.hid (show wcodeB s = false by unfold wcodeB; simp [h0])
    have h1 : s.toList = [] := List.eq_nil_of_length_eq_zero (by rw [e]; exact h0)
    have h2 : s.toList.isEmpty = true := by rw [h1]; rfl
    clear e
    go_enter Tryd.func31, Tryd.ntmps31
    go_wp2
    go_ret
    exact ⟨by rw [HF.out]; rfl, rfl⟩
  · have h1 : s.toList ≠ [] := fun h => h0 (by rw [← e, h]; rfl)
    have h2 : s.toList.isEmpty = false := by cases h : s.toList with | nil => exact absurd h h1 | cons => rfl
    clear e
    by_cases h3 : s.size ≤ 12
    · have HF := Lib.hid (show wcodeB s = allW s by unfold wcodeB; simp [h0, h3])
      have h4 : (s.size : Int) ≤ 12 := by omega
      clear h0
      go_enter Tryd.func31, Tryd.ntmps31
      go_wp2_with (go_at_call 57; refine (words_every_any s hs _).mono ?_; rintro e w' ⟨rfl, rfl⟩)
      go_ret
      exact ⟨by rw [HF.out]; rfl, rfl⟩
    · have HF := Lib.hid (show wcodeB s = false by unfold wcodeB; simp [h3])
      have h4 : ¬ (s.size : Int) ≤ 12 := by omega
      clear h0
      go_enter Tryd.func31, Tryd.ntmps31
      go_wp2
      go_ret
      exact ⟨by rw [HF.out]; rfl, rfl⟩

set_option maxHeartbeats 2000000 in
theorem go_aging_isDay (n : Int) (w : World) (hl : DaysLaid w) : Calls Tryd.prog 21 #[.int .i64 n] w fun e w' => e = .returned (.bool (isDay n)) ∧ Below w.heap.size w w' := by
  cases hd : isDay n
  all_goals
    have HD := Lib.hid hd; clear hd
    have HL := Lib.hid hl; clear hl
    go_enter Tryd.func21, Tryd.ntmps21
    go_wp2_with (go_at_call 30; refine (days_Date.calls n _ HL.out).mono ?_; rintro e w1 ⟨⟨y, m, d, rfl⟩, hb1⟩; rw [HD.out])
    go_ret
    exact ⟨rfl, hb1.alloc hb1.size _⟩

end Go.Proofs.YtohfnpkoheafkaaDoor
