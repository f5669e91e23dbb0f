/- The walk of the program and the plain laws behind the statements of this seat, part 4. -/
import Derived.Test.YtikdiepcfdimgaaGreatDoorZbc
import Derived.Lib.Hide
set_option linter.all false
namespace Go.Proofs.YtikdiepcfdimgaaGreatDoor
open Go.RowKit
def wordB (c : UInt8) : Bool := (decide (97 ≤ c.toNat) && decide (c.toNat ≤ 122)) || (decide (65 ≤ c.toNat) && decide (c.toNat ≤ 90)) || decide (c.toNat = 95) || (decide (48 ≤ c.toNat) && decide (c.toNat ≤ 57))
def allW (s : ByteArray) : Bool := s.data.toList.all wordB
def wcodeB (s : ByteArray) : Bool := decide (s.size ≠ 0) && decide (s.size ≤ 12) && allW s
def ltrI (c : Int) : Bool := (decide (97 ≤ c) && decide (c ≤ 122)) || (decide (65 ≤ c) && decide (c ≤ 90)) || (c == 95)
def digI (c : Int) : Bool := decide (48 ≤ c) && decide (c ≤ 57)
theorem wordB_eq (c : UInt8) : wordB c = (ltrI (c.toNat : Int) || digI (c.toNat : Int)) := by
  unfold wordB ltrI digI
  rw [Bool.eq_iff_iff]
  simp
  omega
set_option maxHeartbeats 1000000 in
theorem words_digit_any (c : Int) (w : World) : Calls Tryz.prog 72 #[.int .u8 c] w fun e w' => e = .returned (.bool (digI c)) ∧ w = w' := by
  by_cases h1 : 48 ≤ c
  · have HF := Lib.hid (show digI c = decide (c ≤ 57) by unfold digI; rw [decide_eq_true h1]; rfl)
    go_enter Tryz.func72, Tryz.ntmps72
    go_wp2
    go_ret
    exact ⟨by rw [HF.out]; rfl, rfl⟩
  · have HF := Lib.hid (show digI c = false by unfold digI; rw [decide_eq_false h1]; rfl)
    go_enter Tryz.func72, Tryz.ntmps72
    go_wp2
    go_ret
    exact ⟨by rw [HF.out]; rfl, rfl⟩
set_option maxHeartbeats 2000000 in
theorem words_letter_any (c : Int) (w : World) : Calls Tryz.prog 71 #[.int .u8 c] w fun e w' => e = .returned (.bool (ltrI c)) ∧ w = w' := by
  by_cases h1 : 97 ≤ c
  · by_cases h2 : c ≤ 122
    · have HF := Lib.hid (show ltrI c = true by unfold ltrI; simp [h1, h2])
      go_enter Tryz.func71, Tryz.ntmps71
      go_wp2
      go_ret
      exact ⟨by rw [HF.out]; rfl, rfl⟩
    · have b2 : decide (c ≤ 122) = false := decide_eq_false h2
      have h3 : 65 ≤ c := by omega
      have b4 : decide (c ≤ 90) = false := decide_eq_false (by omega)
      have b5 : (c == 95) = false := by simp; omega
      have HF := Lib.hid (show ltrI c = false by unfold ltrI; rw [b2, b4, b5]; simp)
      clear h2
      go_enter Tryz.func71, Tryz.ntmps71
      go_wp2
      go_ret
      exact ⟨by rw [HF.out]; rfl, rfl⟩
  · have b1 : decide (97 ≤ c) = false := decide_eq_false h1
    by_cases h3 : 65 ≤ c
    · by_cases h4 : c ≤ 90
      · have HF := Lib.hid (show ltrI c = true by unfold ltrI; simp [h3, h4])
        clear h1
        go_enter Tryz.func71, Tryz.ntmps71
        go_wp2
        go_ret
        exact ⟨by rw [HF.out]; rfl, rfl⟩
      · have b4 : decide (c ≤ 90) = false := decide_eq_false h4
        have HF := Lib.hid (show ltrI c = (c == 95) by unfold ltrI; rw [b1, b4]; simp)
        clear h1 h4
        go_enter Tryz.func71, Tryz.ntmps71
        go_wp2
        go_ret
        exact ⟨by rw [HF.out]; rfl, rfl⟩
    · have b3 : decide (65 ≤ c) = false := decide_eq_false h3
      have HF := Lib.hid (show ltrI c = (c == 95) by unfold ltrI; rw [b1, b3]; simp)
      clear h1 h3
      go_enter Tryz.func71, Tryz.ntmps71
      go_wp2
      go_ret
      exact ⟨by rw [HF.out]; rfl, rfl⟩
set_option maxHeartbeats 2000000 in
theorem words_Code_1_any (c : UInt8) (w : World) : Calls Tryz.prog 70 #[.int .u8 c.toNat] w fun e w' => e = .returned (.bool (wordB c)) ∧ w = w' := by
  have HE := Lib.hid (wordB_eq c)
  obtain ⟨a, ha⟩ : ∃ a, ltrI (c.toNat : Int) = a := ⟨_, rfl⟩
  obtain ⟨b, hb⟩ : ∃ b, digI (c.toNat : Int) = b := ⟨_, rfl⟩
  rw [ha, hb] at HE
  have HA := Lib.hid ha; have HB := Lib.hid hb
  clear ha hb
  cases a
  all_goals
    go_enter Tryz.func70, Tryz.ntmps70
    go_wp2_with (first
      | (go_at_call 71; refine (words_letter_any _ _).mono ?_; rintro e w' ⟨rfl, rfl⟩; rw [HA.out])
      | (go_at_call 72; refine (words_digit_any _ _).mono ?_; rintro e w' ⟨rfl, rfl⟩; rw [HB.out]))
    go_ret
    exact ⟨by rw [HE.out]; simp, rfl⟩
theorem all_take_succ (s : ByteArray) (k : Nat) (h : k < s.size) : (s.data.toList.take (k + 1)).all wordB = ((s.data.toList.take k).all wordB && wordB s[k]) := by
  rw [List.take_succ_eq_append_getElem (by simpa using h), List.all_append]
  simp
  rfl
set_option maxHeartbeats 4000000 in
theorem words_every_any (s : ByteArray) (hs : s.size ≤ 140737488351232) (w : World) :
    Calls Tryz.prog 69 #[.string s, .func (.func 70) #[] #[]] w fun e w' => e = .returned (.bool (allW s)) ∧ w = w' := by
  go_enter Tryz.func69, Tryz.ntmps69
  go_wp2
  go_loopg [8] s.size (fun g t wr => ∃ k : Nat, g = s.size - k ∧ k ≤ s.size ∧ t = .int .i64 k ∧ wr = w ∧ Hid ((s.data.toList.take k).all wordB = true))
  case atStart => exact ⟨0, rfl, Nat.zero_le _, rfl, rfl, Lib.hid rfl⟩
  case round =>
    obtain ⟨k, rfl, hk, rfl, rfl, HI⟩ := hrel
    by_cases hlt : k < s.size
    · have HT := Lib.hid (all_take_succ s k hlt)
      obtain ⟨b, hb⟩ : ∃ b, wordB s[k] = b := ⟨_, rfl⟩
      rw [hb] at HT
      have HB := Lib.hid hb; clear hb
      cases b
      · have HF := Lib.hid (show allW s = false by
          unfold allW
          rw [Bool.eq_false_iff]
          intro h
          have h2 := HT.out
          rw [Bool.and_false, Bool.eq_false_iff] at h2
          exact h2 (List.all_eq_true.2 fun x hx => List.all_eq_true.1 h x (List.mem_of_mem_take hx)))
        go_wp2_with (go_at_call 70; refine (words_Code_1_any _ _).mono ?_; rintro e w' ⟨rfl, rfl⟩; rw [HB.out])
        go_ret
        exact ⟨by rw [HF.out]; rfl, rfl⟩
      · go_wp2_with (go_at_call 70; refine (words_Code_1_any _ _).mono ?_; rintro e w' ⟨rfl, rfl⟩; rw [HB.out])
        go_roundg (s.size - (k + 1))
        case measure => omega
        case rel => exact ⟨k + 1, rfl, by omega, by go_num, rfl, Lib.hid (by rw [HT.out, HI.out]; rfl)⟩
    · have HF := Lib.hid (show allW s = true by
        unfold allW
        have h := HI.out
        rw [List.take_of_length_le (by simp; omega)] at h
        exact h)
      have hkl : ¬ (k : Int) < (s.size : Int) := by omega
      go_wp2
      go_ret
      exact ⟨by rw [HF.out]; rfl, rfl⟩
set_option maxHeartbeats 2000000 in
theorem go_words_Code (s : ByteArray) (w : World) (hs : s.size ≤ 140737488351232) :
    Calls Tryz.prog 45 #[.string s] w fun e w' => e = .returned (.bool (wcodeB s)) ∧ w = w' := by
  have e : s.toList.length = s.size := by rw [ByteArray.toList_eq, Array.length_toList]; rfl
  by_cases h0 : s.size = 0
  · have HF := Lib.hid (show wcodeB s = false by unfold wcodeB; simp [h0])
    have h1 : s.toList = [] := List.eq_nil_of_length_eq_zero (by rw [e]; exact h0)
    have h2 : s.toList.isEmpty = true := by rw [h1]; rfl
    clear e
    go_enter Tryz.func45, Tryz.ntmps45
    go_wp2
    go_ret
    exact ⟨by rw [HF.out]; rfl, rfl⟩
  · have h1 : s.toList ≠ [] := fun h => h0 (by rw [← e, h]; rfl)
    have h2 : s.toList.isEmpty = false := by cases h : s.toList with | nil => exact absurd h h1 | cons => rfl
    clear e
    by_cases h3 : s.size ≤ 12
    · have HF := Lib.hid (show wcodeB s = allW s by unfold wcodeB; simp [h0, h3])
      have h4 : (s.size : Int) ≤ 12 := by omega
      clear h0
      go_enter Tryz.func45, Tryz.ntmps45
      go_wp2_with (go_at_call 69; refine (words_every_any s hs _).mono ?_; rintro e w' ⟨rfl, rfl⟩)
      go_ret
      exact ⟨by rw [HF.out]; rfl, rfl⟩
    · have HF := Lib.hid (show wcodeB s = false by unfold wcodeB; simp [h3])
      have h4 : ¬ (s.size : Int) ≤ 12 := by omega
      clear h0
      go_enter Tryz.func45, Tryz.ntmps45
      go_wp2
      go_ret
      exact ⟨by rw [HF.out]; rfl, rfl⟩
set_option maxHeartbeats 2000000 in
theorem go_aging_isDay (n : Int) (w : World) (hl : DaysLaid w) : Calls Tryz.prog 47 #[.int .i64 n] w fun e w' => e = .returned (.bool (isDay n)) ∧ Below w.heap.size w w' := by
  cases hd : isDay n
  all_goals
    have HD := Lib.hid hd; clear hd
    have HL := Lib.hid hl; clear hl
    go_enter Tryz.func47, Tryz.ntmps47
    go_wp2_with (go_at_call 75; refine (days_Date.calls n _ HL.out).mono ?_; rintro e w1 ⟨⟨y, m, d, rfl⟩, hb1⟩; rw [HD.out])
    go_ret
    exact ⟨rfl, hb1.alloc hb1.size _⟩
end Go.Proofs.YtikdiepcfdimgaaGreatDoor
namespace Go.Proofs.YtikdiepcfdimgaaGreatDoor.POw
open Go.RowKit Go.Lib Go.Proofs.YtikdiepcfdimgaaGreatDoorW.PrintWords Go.Proofs.YtikdiepcfdimgaaGreatDoorW.PrintLast
def fitH (h : Hold) : Bool := rightB h.f2.f0 h.f2.f1 && decide (0 ≤ h.f2.f0) && decide (h.f2.f0 ≤ h.f2.f1)
def refusedF (k : Nat) (s : Gr) (h : Hold) : Option Int :=
  if wcodeB h.f0 = true then (if wcodeB h.f1 = true then (if fitH h = true then (if isDay h.f3 = true then (if (s.shL (h.f0, h.f1)).any (fun x => decide (x.f3 = h.f3)) = true then some 8 else
    if h.f0 = h.f1 then some 24 else (ownsF k s h.f1 h.f0).bind fun b => if b = true then some 24 else some 0) else some 11) else some 2) else some 7) else some 7
def HBox (w : World) (z : Nat) (h : Hold) : Prop := w.heap[z]? = some (.cells #[.string h.f0, .string h.f1, .int .i64 h.f2.f0, .int .i64 h.f2.f1, .int .i64 h.f3] 56 (0, 0))
theorem HBox.made (w : World) (h : Hold) : HBox (w.alloc (.cells #[.string h.f0, .string h.f1, .int .i64 h.f2.f0, .int .i64 h.f2.f1, .int .i64 h.f3] 56)) w.heap.size h := (Go.MapKept.heap_alloc w _).1
theorem HBox.below {w W : World} {z : Nat} {h : Hold} (hb : HBox w z h) (hB : Below w.heap.size w W) : HBox W z h := (hB.block z (Array.getElem?_eq_some_iff.1 hb).1).trans hb
theorem HBox.facts {w : World} {z : Nat} {h : Hold} (hb : HBox w z h) : w.cell? ⟨z, 0, none⟩ = some (.string h.f0) ∧ w.cell? ⟨z, 1, none⟩ = some (.string h.f1) ∧ w.cell? ⟨z, 2, none⟩ = some (.int .i64 h.f2.f0) ∧ w.cell? ⟨z, 3, none⟩ = some (.int .i64 h.f2.f1) ∧ w.cell? ⟨z, 4, none⟩ = some (.int .i64 h.f3) :=
  ⟨blk_cell hb 0, blk_cell hb 1, blk_cell hb 2, blk_cell hb 3, blk_cell hb 4⟩
section
variable {w : World} {B g m1 m2 : Nat} {V : Pr → Value} {U : ByteArray → Value} {vE vC : Value} {s : Gr}
set_option maxRecDepth 100000 in
set_option maxHeartbeats 8000000 in
theorem go_refused (hG : GrAt w B g m1 m2 V U vE vC s) (ok : GrOk s) (kf : Nat) (h : Hold) (r : Int) (hx : h.f0.size ≤ 100) (hy : h.f1.size ≤ 100) (hn : inI h.f2.f0) (hd : inI h.f2.f1) (hL : DaysLaid w) (hF : refusedF kf s h = some r) :
    Calls Tryz.prog 29 #[.pointer (some ⟨g, 0, none⟩), .agg #[.string h.f0, .string h.f1, .int .i64 h.f2.f0, .int .i64 h.f2.f1, .int .i64 h.f3]] w fun e w' => e = .returned (.int .i64 r) ∧ Below w.heap.size w w' := by
  have HG := Lib.hid hG; have HOK := Lib.hid ok; have HL := Lib.hid hL
  have hg := hG.lt
  clear hG ok hL
  have hc0 := fun W => go_words_Code h.f0 W (by omega)
  have hc1 := fun W => go_words_Code h.f1 W (by omega)
  have hb0 := HBox.made w h
  have hB0 : Below w.heap.size w (w.alloc (.cells #[.string h.f0, .string h.f1, .int .i64 h.f2.f0, .int .i64 h.f2.f1, .int .i64 h.f3] 56)) := (Below.refl _ _).alloc (Nat.le_refl _) _
  have HB0 := Lib.hid hb0; have HC0 := Lib.hid hc0; have HC1 := Lib.hid hc1; have HB := Lib.hid hB0
  clear hb0 hc0 hc1 hB0
  unfold refusedF at hF
  by_cases c0 : wcodeB h.f0 = true
  · rw [if_pos c0] at hF
    rw [c0] at HC0
    by_cases c1 : wcodeB h.f1 = true
    · rw [if_pos c1] at hF
      rw [c1] at HC1
      have hR := fun W => frac_Right.calls h.f2.f0 h.f2.f1 W hn hd
      have HR := Lib.hid hR; have HF := Lib.hid hF
      clear hR hF c0 c1
      go_enter Tryz.func29, Tryz.ntmps29
      go_upto_region 3 with (first
        | (go_at_call_of 45 (Value.string h.f0); refine (HC0.out _).mono ?_; rintro e w1 ⟨rfl, rfl⟩)
        | (go_at_call_of 45 (Value.string h.f1); refine (HC1.out _).mono ?_; rintro e w1 ⟨rfl, rfl⟩))
      obtain ⟨w1, hw1⟩ : ∃ W, w.alloc (.cells #[.string h.f0, .string h.f1, .int .i64 h.f2.f0, .int .i64 h.f2.f1, .int .i64 h.f3] 56) = W := ⟨_, rfl⟩
      rw [hw1] at HB0 HB ⊢
      clear hw1
      obtain ⟨z, hz⟩ : ∃ z, w.heap.size = z := ⟨_, rfl⟩
      have HZ := Lib.hid hz
      rw [hz] at HB0 ⊢
      clear hz
      obtain ⟨k0, k1, k2, k3, k4⟩ := HB0.out.facts
      have hF := HF.out
      by_cases r1 : rightB h.f2.f0 h.f2.f1 = true
      · have hf1 : fitH h = (decide (0 ≤ h.f2.f0) && decide (h.f2.f0 ≤ h.f2.f1)) := by unfold fitH; rw [r1, Bool.true_and]
        rw [r1] at HR
        rw [hf1] at hF
        clear hf1 r1
        by_cases n1 : h.f2.f0 < 0
        · rw [show decide (0 ≤ h.f2.f0) = false from decide_eq_false (by omega)] at hF
          have HT := Lib.hid (Option.some.inj (by simpa using hF : some (2 : Int) = some r))
          clear hF
          go_wp2_with (go_at_call 46; refine (HR.out _).mono ?_; rintro e w2 ⟨rfl, hb2⟩; have HX2 := Lib.hid (HB0.out.below hb2); have HB2 := Lib.hid (HB.out.trans (hb2.mono HB.out.size)); obtain ⟨p0, p1, p2, p3, p4⟩ := HX2.out.facts)
          go_ret
          exact ⟨by rw [← HT.out]; rfl, HB2.out⟩
        · by_cases n2 : h.f2.f1 < h.f2.f0
          · rw [show decide (h.f2.f0 ≤ h.f2.f1) = false from decide_eq_false (by omega)] at hF
            have HT := Lib.hid (Option.some.inj (by simpa using hF : some (2 : Int) = some r))
            have n1b : decide (h.f2.f0 < 0) = false := decide_eq_false n1
            clear hF
            go_wp2_with (go_at_call 46; refine (HR.out _).mono ?_; rintro e w2 ⟨rfl, hb2⟩; have HX2 := Lib.hid (HB0.out.below hb2); have HB2 := Lib.hid (HB.out.trans (hb2.mono HB.out.size)); obtain ⟨p0, p1, p2, p3, p4⟩ := HX2.out.facts)
            go_ret
            exact ⟨by rw [← HT.out]; rfl, HB2.out⟩
          · rw [show decide (0 ≤ h.f2.f0) = true from decide_eq_true (by omega), show decide (h.f2.f0 ≤ h.f2.f1) = true from decide_eq_true (by omega), Bool.and_self, if_pos rfl] at hF
            have n1b : decide (h.f2.f0 < 0) = false := decide_eq_false n1
            have n2b : decide (h.f2.f1 < h.f2.f0) = false := decide_eq_false n2
            have HD := Lib.hid (fun (W : World) (hW : Below w.heap.size w W) => go_aging_isDay h.f3 W (HL.out.below hW))
            by_cases dy : isDay h.f3 = true
            · rw [if_pos dy] at hF
              rw [dy] at HD
              have HF2 := Lib.hid hF
              clear hF dy HF
              go_upto_region 7 with (first
                | (go_at_call 46; refine (HR.out _).mono ?_; rintro e w2 ⟨rfl, hb2⟩; have HX2 := Lib.hid (HB0.out.below hb2); have HB2 := Lib.hid (HB.out.trans (hb2.mono HB.out.size)); obtain ⟨p0, p1, p2, p3, p4⟩ := HX2.out.facts)
                | (go_at_call 47; refine (HD.out _ HB2.out).mono ?_; rintro e w3 ⟨rfl, hb3⟩; have HX3 := Lib.hid (HX2.out.below hb3); have HB3 := Lib.hid (HB2.out.trans (hb3.mono HB2.out.size))))
              clear k0 k1 k2 k3 k4 p0 p1 p2 p3 p4
              obtain ⟨k0, k1, k2, k3, k4⟩ := HX3.out.facts
              have hGr := HG.out.below HB3.out
              have hgc := hGr.facts.1
              obtain ⟨A, c, hown, hlook, _⟩ := hGr.look_sh (h.f0, h.f1) (show h.f0.size ≤ 1000 by omega) (show h.f1.size ≤ 1000 by omega)
              have hll := HOK.out.shl (h.f0, h.f1)
              obtain ⟨l, hle⟩ : ∃ l, s.shL (h.f0, h.f1) = l := ⟨_, rfl⟩
              rw [hle] at hown hlook hll
              have HF3 := HF2.out
              rw [hle] at HF3
              have HF4 := Lib.hid HF3
              have hlk := hlook _ (Below.refl _ w3).drew
              have HLOOK := Lib.hid hlook; have HOWN := Lib.hid hown
              clear hlook hown hle HF3 HF2 hGr
              refine start_ (n := 12) (S := fun w' => w'.cell? ⟨g, 0, none⟩ = some (.map (some m1)) ∧ w'.cell? ⟨z, 0, none⟩ = some (.string h.f0) ∧ w'.cell? ⟨z, 1, none⟩ = some (.string h.f1) ∧ (Instr.lookup 58 (.map (some m1)) (.agg #[.string h.f0, .string h.f1]) false).run Tryz.prog w' = .ok (.slice A l.length c) w') (ds := []) #[false, false, false, false, false, false, false, false, false, false, false, false] (by kernel_rfl) rfl rfl ⟨hgc, k0, k1, hlk⟩ (fun hHeld => ?_)
              refine pure_ (i := 0) (N := some 43) (v := ?_) (a' := ?_) #[true, false, false, false, false, false, false, false, false, false, false, false] rfl rfl (by kernel_rfl) (fun _ _ _ h => h) (Or.inl ⟨by rfl, ?_⟩) ?_ ?_
              rotate_left
              · intro w'
                go_simp
                with_reducible rfl
              rotate_left
              · simp only [Act.put, pkA, pkZ, pkS, i64_w, i32_w]
                rfl
              refine pure_ (i := 1) (N := some 44) (v := ?_) (a' := ?_) #[true, true, false, false, false, false, false, false, false, false, false, false] rfl rfl (by kernel_rfl) (fun _ _ _ h => h) (Or.inl ⟨by rfl, ?_⟩) ?_ ?_
              rotate_left
              · intro w'
                go_simp
                with_reducible rfl
              rotate_left
              · simp only [Act.put, pkA, pkZ, pkS, i64_w, i32_w]
                rfl
              refine pure_ (i := 2) (N := some 45) (v := ?_) (a' := ?_) #[true, true, true, false, false, false, false, false, false, false, false, false] rfl rfl (by kernel_rfl) (fun _ _ _ h => h) (Or.inl ⟨by rfl, ?_⟩) ?_ ?_
              rotate_left
              · intro w'
                go_simp
                with_reducible rfl
              rotate_left
              · simp only [Act.put, pkA, pkZ, pkS, i64_w, i32_w]
                rfl
              refine pure_ (i := 4) (N := some 47) (v := ?_) (a' := ?_) #[true, true, true, false, true, false, false, false, false, false, false, false] rfl rfl (by kernel_rfl) (fun _ _ _ h => h) (Or.inl ⟨by rfl, ?_⟩) ?_ ?_
              rotate_left
              · intro w'
                go_simp
                with_reducible rfl
              rotate_left
              · simp only [Act.put, pkA, pkZ, pkS, i64_w, i32_w]
                rfl
              refine pure_ (i := 6) (N := some 49) (v := ?_) (a' := ?_) #[true, true, true, false, true, false, true, false, false, false, false, false] rfl rfl (by kernel_rfl) (fun _ _ _ h => h) (Or.inl ⟨by rfl, ?_⟩) ?_ ?_
              rotate_left
              · intro w'
                go_simp
                with_reducible rfl
              rotate_left
              · simp only [Act.put, pkA, pkZ, pkS, i64_w, i32_w]
                rfl
              refine pure_ (i := 11) (N := some 54) (v := ?_) (a' := ?_) #[true, true, true, false, true, false, true, false, false, false, false, true] rfl rfl (by kernel_rfl) (fun _ _ _ h => h) (Or.inl ⟨by rfl, ?_⟩) ?_ ?_
              rotate_left
              · intro w'
                go_simp
                with_reducible rfl
              rotate_left
              · simp only [Act.put, pkA, pkZ, pkS, i64_w, i32_w]
                rfl
              refine take_ (i := 3) (N := some 46) (v := ?_) (a' := ?_) #[true, true, true, true, true, false, true, false, false, false, false, true] rfl rfl (by kernel_rfl) (fun _ _ _ h => h) (Or.inl ⟨by rfl, ?_⟩) hHeld ?_ ?_
              rotate_left
              · rintro w' ⟨s0, s1, s2, s3⟩
                go_simp
                with_reducible rfl
              rotate_left
              · simp only [Act.put, pkA, pkZ, pkS, i64_w, i32_w]
                rfl
              refine take_ (i := 5) (N := some 48) (v := ?_) (a' := ?_) #[true, true, true, true, true, true, true, false, false, false, false, true] rfl rfl (by kernel_rfl) (fun _ _ _ h => h) (Or.inl ⟨by rfl, ?_⟩) hHeld ?_ ?_
              rotate_left
              · rintro w' ⟨s0, s1, s2, s3⟩
                go_simp
                with_reducible rfl
              rotate_left
              · simp only [Act.put, pkA, pkZ, pkS, i64_w, i32_w]
                rfl
              refine take_ (i := 7) (N := some 50) (v := ?_) (a' := ?_) #[true, true, true, true, true, true, true, true, false, false, false, true] rfl rfl (by kernel_rfl) (fun _ _ _ h => h) (Or.inl ⟨by rfl, ?_⟩) hHeld ?_ ?_
              rotate_left
              · rintro w' ⟨s0, s1, s2, s3⟩
                go_simp
                with_reducible rfl
              rotate_left
              · simp only [Act.put, pkA, pkZ, pkS, i64_w, i32_w]
                rfl
              refine pure_ (i := 8) (N := some 51) (v := ?_) (a' := ?_) #[true, true, true, true, true, true, true, true, true, false, false, true] rfl rfl (by kernel_rfl) (fun _ _ _ h => h) (Or.inl ⟨by rfl, ?_⟩) ?_ ?_
              rotate_left
              · intro w'
                go_simp
                with_reducible rfl
              rotate_left
              · simp only [Act.put, pkA, pkZ, pkS, i64_w, i32_w]
                rfl
              refine take_ (i := 9) (N := some 52) (v := ?_) (a' := ?_) #[true, true, true, true, true, true, true, true, true, true, false, true] rfl rfl (by kernel_rfl) (fun _ _ _ h => h) (Or.inl ⟨by rfl, ?_⟩) hHeld ?_ ?_
              rotate_left
              · rintro w' ⟨s0, s1, s2, s3⟩
                go_simp
                with_reducible rfl
              rotate_left
              · simp only [Act.put, pkA, pkZ, pkS, i64_w, i32_w]
                rfl
              refine pure_ (i := 10) (N := some 53) (v := ?_) (a' := ?_) #[true, true, true, true, true, true, true, true, true, true, true, true] rfl rfl (by kernel_rfl) (fun _ _ _ h => h) (Or.inl ⟨by rfl, ?_⟩) ?_ ?_
              rotate_left
              · intro w'
                go_simp
                with_reducible rfl
              rotate_left
              · simp only [Act.put, pkA, pkZ, pkS, i64_w, i32_w]
                rfl
              refine done_ (by kernel_rfl) ?_
              have HX4 := Lib.hid (HX3.out.below (Below.refl _ w3).drew)
              have HB4 := Lib.hid (HB3.out.trans ((Below.refl _ w3).drew.mono HB3.out.size))
              have HOW4 := Lib.hid (pw_own_below HOWN.out (Below.refl _ w3).drew)
              obtain ⟨w4, hw4⟩ : ∃ W, w3.drew = W := ⟨_, rfl⟩
              rw [hw4] at HX4 HB4 HOW4 ⊢
              clear hw4 hlk HLOOK HOWN k0 k1 k2 k3 k4 hgc
              go_wp2
              go_loopg [54] l.length (fun n t wr => ∃ k : Nat, n = l.length - k ∧ k ≤ l.length ∧ t = .int .i64 k ∧ Below w4.heap.size w4 wr ∧ Hid ((l.take k).any (fun x => decide (x.f3 = h.f3)) = false))
              case atStart => exact ⟨0, rfl, Nat.zero_le _, rfl, Below.refl _ _, Lib.hid rfl⟩
              case round =>
                obtain ⟨k, rfl, hk, rfl, hbr, HA⟩ := hrel
                by_cases hlt : k < l.length
                · obtain ⟨gb, hA, hgb, q0, q1, q2, q3, q4⟩ := own_hold_at (pw_own_below HOW4.out hbr) k hlt
                  subst hA
                  obtain ⟨x, hxe⟩ : ∃ x, l[k] = x := ⟨_, rfl⟩
                  have HS := Lib.hid (show (l.take (k + 1)).any (fun x => decide (x.f3 = h.f3)) = decide (x.f3 = h.f3) by rw [List.take_succ_eq_append_getElem hlt, List.any_append, HA.out, hxe]; simp)
                  have HIN := Lib.hid (show x ∈ l from hxe ▸ List.getElem_mem hlt)
                  rw [hxe] at q0 q1 q2 q3 q4
                  clear hxe
                  have hki : (k : Int) < (l.length : Int) := by omega
                  obtain ⟨k0, k1, k2, k3, k4⟩ := (HX4.out.below hbr).facts
                  have hzl : z < wr.heap.size := (Array.getElem?_eq_some_iff.1 (HX4.out.below hbr)).1
                  by_cases he : x.f3 = h.f3
                  · have heb : (x.f3 == h.f3) = true := by simp [he]
                    have HT := Lib.hid (show r = 8 by
                      have h1 := HF4.out
                      rw [if_pos (List.any_eq_true.2 ⟨x, HIN.out, by simp [he]⟩)] at h1
                      exact (Option.some.inj h1).symm)
                    clear he
                    go_wp2
                    go_ret
                    exact ⟨by rw [HT.out]; rfl, HB4.out.trans ((hbr.alloc hbr.size _).mono HB4.out.size)⟩
                  · have heb : (x.f3 == h.f3) = false := by simp [he]
                    have HS2 := Lib.hid (show (l.take (k + 1)).any (fun x => decide (x.f3 = h.f3)) = false by rw [HS.out]; simp [he])
                    clear he
                    go_wp2
                    go_roundg (l.length - (k + 1))
                    case measure => omega
                    case rel => exact ⟨k + 1, rfl, by omega, by go_num, hbr.alloc hbr.size _, HS2⟩
                · have hke : k = l.length := by omega
                  subst hke
                  rw [List.take_length] at HA
                  have hF5 := HF4.out
                  rw [HA.out, if_neg (by simp)] at hF5
                  have HX5 := Lib.hid (HX4.out.below hbr)
                  have HB5 := Lib.hid (HB4.out.trans (hbr.mono HB4.out.size))
                  obtain ⟨k0, k1, k2, k3, k4⟩ := HX5.out.facts
                  by_cases he : h.f0 = h.f1
                  · rw [if_pos he] at hF5
                    have heb : (h.f0.toList == h.f1.toList) = true := by rw [he]; simp
                    have HT := Lib.hid (Option.some.inj hF5)
                    clear he hF5
                    go_wp2
                    go_ret
                    exact ⟨by rw [← HT.out]; rfl, HB5.out⟩
                  · rw [if_neg he] at hF5
                    have heb := str_bool he
                    obtain ⟨b, hob, hF6⟩ := Option.bind_eq_some_iff.1 hF5
                    have HO := Lib.hid (go_owns (HG.out.below HB5.out) HOK.out kf h.f1 h.f0 b (by omega) hob)
                    clear he hF5 hob
                    cases b with
                    | true =>
                      have HT := Lib.hid (Option.some.inj (by simpa using hF6 : some (24 : Int) = some r))
                      clear hF6
                      go_wp2_with (go_at_call 48; refine HO.out.mono ?_; rintro e w6 ⟨rfl, hb6⟩)
                      go_ret
                      exact ⟨by rw [← HT.out]; rfl, HB5.out.trans (hb6.mono HB5.out.size)⟩
                    | false =>
                      have HT := Lib.hid (Option.some.inj (by simpa using hF6 : some (0 : Int) = some r))
                      clear hF6
                      go_wp2_with (go_at_call 48; refine HO.out.mono ?_; rintro e w6 ⟨rfl, hb6⟩)
                      go_ret
                      exact ⟨by rw [← HT.out]; rfl, HB5.out.trans (hb6.mono HB5.out.size)⟩
            · rw [if_neg dy] at hF
              have dyb : isDay h.f3 = false := by simpa using dy
              rw [dyb] at HD
              have HT := Lib.hid (Option.some.inj hF)
              clear hF dy dyb HF
              go_wp2_with (first
                | (go_at_call 46; refine (HR.out _).mono ?_; rintro e w2 ⟨rfl, hb2⟩; have HX2 := Lib.hid (HB0.out.below hb2); have HB2 := Lib.hid (HB.out.trans (hb2.mono HB.out.size)); obtain ⟨p0, p1, p2, p3, p4⟩ := HX2.out.facts)
                | (go_at_call 47; refine (HD.out _ HB2.out).mono ?_; rintro e w3 ⟨rfl, hb3⟩; have HX3 := Lib.hid (HX2.out.below hb3); have HB3 := Lib.hid (HB2.out.trans (hb3.mono HB2.out.size))))
              go_ret
              exact ⟨by rw [← HT.out]; rfl, HB3.out⟩
      · have hf1 : fitH h = false := by unfold fitH; rw [show rightB h.f2.f0 h.f2.f1 = false by simpa using r1]; simp
        rw [hf1] at hF
        have HT := Lib.hid (Option.some.inj (by simpa using hF : some (2 : Int) = some r))
        rw [show rightB h.f2.f0 h.f2.f1 = false by simpa using r1] at HR
        clear hF hf1 r1
        go_wp2_with (go_at_call 46; refine (HR.out _).mono ?_; rintro e w2 ⟨rfl, hb2⟩; have HX2 := Lib.hid (HB0.out.below hb2); have HB2 := Lib.hid (HB.out.trans (hb2.mono HB.out.size)); obtain ⟨p0, p1, p2, p3, p4⟩ := HX2.out.facts)
        go_ret
        exact ⟨by rw [← HT.out]; rfl, HB2.out⟩
    · rw [if_neg c1] at hF
      have c1b : wcodeB h.f1 = false := by simpa using c1
      rw [c1b] at HC1
      have HT := Lib.hid (Option.some.inj hF)
      clear hF c0 c1
      go_enter Tryz.func29, Tryz.ntmps29
      go_wp2_with (first
        | (go_at_call_of 45 (Value.string h.f0); refine (HC0.out _).mono ?_; rintro e w1 ⟨rfl, rfl⟩)
        | (go_at_call_of 45 (Value.string h.f1); refine (HC1.out _).mono ?_; rintro e w1 ⟨rfl, rfl⟩))
      go_ret
      exact ⟨by rw [← HT.out]; rfl, HB.out⟩
  · rw [if_neg c0] at hF
    have c0b : wcodeB h.f0 = false := by simpa using c0
    rw [c0b] at HC0
    have HT := Lib.hid (Option.some.inj hF)
    clear hF c0
    go_enter Tryz.func29, Tryz.ntmps29
    go_wp2_with (go_at_call_of 45 (Value.string h.f0); refine (HC0.out _).mono ?_; rintro e w1 ⟨rfl, rfl⟩)
    go_ret
    exact ⟨by rw [← HT.out]; rfl, HB.out⟩
end
end Go.Proofs.YtikdiepcfdimgaaGreatDoor.POw
namespace Go.Proofs.YtikdiepcfdimgaaGreatDoor.POw
open Go.RowKit Go.Lib Go.Proofs.YtikdiepcfdimgaaGreatDoorW.PrintWords Go.Proofs.YtikdiepcfdimgaaGreatDoorW.PrintLast
def insH (l : List Hold) (h : Hold) : List Hold := l.filter (fun a => hLt a h) ++ h :: l.filter (fun a => !hLt a h)
theorem insH_perm (l : List Hold) (h : Hold) : (insH l h).Perm (l ++ [h]) := by
  unfold insH
  refine (List.perm_middle).trans ?_
  refine List.Perm.trans (List.Perm.cons h (List.filter_append_perm _ l)) ?_
  exact (List.perm_append_singleton h l).symm
theorem insH_sorted {l : List Hold} {h : Hold} (hs : l.Pairwise (fun a b => a.f3 < b.f3)) (hf : ∀ x ∈ l, x.f3 ≠ h.f3) : (insH l h).Pairwise (fun a b => a.f3 < b.f3) := by
  unfold insH
  rw [List.pairwise_append]
  refine ⟨hs.filter _, ?_, ?_⟩
  · rw [List.pairwise_cons]
    refine ⟨fun x hx => ?_, hs.filter _⟩
    obtain ⟨h1, h2⟩ := List.mem_filter.1 hx
    have := hf x h1
    simp [hLt] at h2
    omega
  · intro x hx y hy
    obtain ⟨h1, h2⟩ := List.mem_filter.1 hx
    simp [hLt] at h2
    rcases List.mem_cons.1 hy with rfl | hy
    · exact h2
    · obtain ⟨h3, h4⟩ := List.mem_filter.1 hy
      simp [hLt] at h4
      omega
theorem sorted_ext_h : ∀ {l1 l2 : List Hold}, l1.Pairwise (fun a b => a.f3 < b.f3) → l2.Pairwise (fun a b => a.f3 < b.f3) → (∀ x, x ∈ l1 ↔ x ∈ l2) → l1 = l2
  | [], [], _, _, _ => rfl
  | [], b :: l2, _, _, h => by have := (h b).2 (List.mem_cons_self ..); cases this
  | a :: l1, [], _, _, h => by have := (h a).1 (List.mem_cons_self ..); cases this
  | a :: l1, b :: l2, h1, h2, h => by
    obtain ⟨ha, h1'⟩ := List.pairwise_cons.1 h1
    obtain ⟨hb, h2'⟩ := List.pairwise_cons.1 h2
    have hab : a = b := by
      rcases List.mem_cons.1 ((h a).1 (List.mem_cons_self ..)) with e | e
      · exact e
      · rcases List.mem_cons.1 ((h b).2 (List.mem_cons_self ..)) with e2 | e2
        · exact e2.symm
        · have k1 := hb a e
          have k2 := ha b e2
          omega
    subst hab
    have na1 : a ∉ l1 := fun hm => by have := ha a hm; omega
    have na2 : a ∉ l2 := fun hm => by have := hb a hm; omega
    rw [sorted_ext_h h1' h2' (fun x => ?_)]
    constructor
    · intro hx
      rcases List.mem_cons.1 ((h x).1 (List.mem_cons_of_mem _ hx)) with e | e
      · exact absurd (e ▸ hx) na1
      · exact e
    · intro hx
      rcases List.mem_cons.1 ((h x).2 (List.mem_cons_of_mem _ hx)) with e | e
      · exact absurd (e ▸ hx) na2
      · exact e
theorem grown_then {w a b : World} {row row' : Option Nat} (h : w.grownBy a row) (k : a.grownBy b row') (hr : row' = row ∨ ∃ n, row' = some n ∧ w.heap.size ≤ n) : w.grownBy b row :=
  ⟨k.os.trans h.os, k.tape.trans h.tape, k.output.trans h.output, Nat.le_trans h.size k.size, fun i hi hne => (k.block i (Nat.lt_of_lt_of_le hi h.size) (fun e => by
    rcases hr with hr | ⟨n, hr, hn⟩
    · exact hne (e.trans hr)
    · rw [hr] at e; injection e with e; omega)).trans (h.block i hi hne)⟩
theorem grown_below {w a b : World} {row : Option Nat} (h : w.grownBy a row) (k : Below a.heap.size a b) : w.grownBy b row :=
  ⟨k.os.trans h.os, k.tape.trans h.tape, k.output.trans h.output, Nat.le_trans h.size k.size, fun i hi hne => (k.block i (Nat.lt_of_lt_of_le hi h.size)).trans (h.block i hi hne)⟩
theorem grown_set {w a : World} {row : Option Nat} (h : w.grownBy a row) {p : Addr} (hp : w.heap.size ≤ p.block) (u : Value) : w.grownBy (a.setCell p u) row :=
  ⟨h.os, h.tape, h.output, by simpa [World.setCell] using h.size, fun i hi hne => (Below.heap_setCell a p u i (by omega)).trans (h.block i hi hne)⟩
section
variable {w W : World} {B g m1 m2 : Nat} {V : Pr → Value} {U : ByteArray → Value} {vE vC : Value} {s : Gr}
theorem GrAt.map1 (h : GrAt w B g m1 m2 V U vE vC s) : ∃ es clock, w.heap[m1]? = some (.map es clock) := by
  obtain ⟨es, clock, hb, _⟩ := h.sh
  exact ⟨es, clock, hb⟩
theorem GrAt.map2 (h : GrAt w B g m1 m2 V U vE vC s) : ∃ es clock, w.heap[m2]? = some (.map es clock) := by
  obtain ⟨es, clock, hb, _⟩ := h.ow
  exact ⟨es, clock, hb⟩
theorem own_block_cells {B e sz n : Nat} {v : Value} {xs : List Value} (h : w.ownsRow B e sz v n xs) {k : Nat} (hk : v.ownBlock = some k) : ∃ cs, w.heap[k]? = some (.cells cs e (0, 0)) := (q_typed (q_of_own h) k hk).2
theorem own_not_block {B e sz n k : Nat} {v : Value} {xs : List Value} (h : w.ownsRow B e sz v n xs) {o : Obj} (ho : w.heap[k]? = some o) (hne : ∀ cs, o ≠ .cells cs e (0, 0)) : v.ownBlock ≠ some k := fun he => by
  obtain ⟨cs, hc⟩ := own_block_cells h he
  rw [ho] at hc
  injection hc with hc
  exact hne cs hc
theorem GrAt.setShares (h : GrAt w B g m1 m2 V U vE vC s) (hdif : m1 ≠ m2) {k : Pr} (hk1 : k.1.size ≤ 1000) (hk2 : k.2.size ≤ 1000) {v' : Value} {l' : List Hold} (hne' : l' ≠ [])
    (hgr : w.grownBy W (((s.sh k).map fun _ => V k).getD (.slice none 0 0)).ownBlock) (hown : W.ownsRow B 56 5 v' l'.length (flatH l')) (hat : v'.ownBlock = (((s.sh k).map fun _ => V k).getD (.slice none 0 0)).ownBlock ∨ ∃ b, v'.ownBlock = some b ∧ w.heap.size ≤ b) :
    ∃ ob, (Instr.mapUpdate 58 (.map (some m1)) (.agg #[.string k.1, .string k.2]) v').run Tryz.prog W = .ok () (ChangeMaps.setBlock W m1 ob) ∧
      GrAt (ChangeMaps.setBlock W m1 ob) B g m1 m2 (fun y => if y = k then v' else V y) U vE vC { s with sh := fun y => if y = k then some l' else s.sh y } := by
  obtain ⟨v0, hv0⟩ : ∃ v0, ((s.sh k).map fun _ => V k).getD (.slice none 0 0) = v0 := ⟨_, rfl⟩
  rw [hv0] at hgr hat
  have hrow : ∀ b, v0.ownBlock = some b → ∃ cs, w.heap[b]? = some (.cells cs 56 (0, 0)) := fun b hb => by
    cases hs : s.sh k with
    | none => rw [hs] at hv0; simp at hv0; rw [← hv0] at hb; simp [Value.ownBlock] at hb
    | some l => rw [hs] at hv0; simp at hv0; rw [← hv0] at hb; exact own_block_cells (h.shr k l hs).2 hb
  have hsame : ∀ {b : Nat} {o : Obj}, w.heap[b]? = some o → (∀ cs, o ≠ .cells cs 56 (0, 0)) → W.heap[b]? = some o := fun {b o} ho hne => by
    rw [hgr.block b (Array.getElem?_eq_some_iff.1 ho).1 (fun e => ?_)]
    · exact ho
    · obtain ⟨cs, hc⟩ := hrow b e.symm
      rw [ho] at hc; injection hc with hc
      exact hne cs hc
  obtain ⟨es1, cl1, hm1⟩ := h.map1
  obtain ⟨es2, cl2, hm2⟩ := h.map2
  have hw1 := hsame hm1 (fun _ e => by cases e)
  have hw2 := hsame hm2 (fun _ e => by cases e)
  have hwg := hsame h.blk (fun _ e => by injection e with _ e; exact absurd e (by decide))
  have hg1 : g ≠ m1 := fun e => by have := h.blk; rw [e, hm1] at this; cases this
  obtain ⟨kl, hkl⟩ := key_pr hk1 hk2
  obtain ⟨ob, hob, hm⟩ := (h.sh.of_block (hw1.trans hm1.symm)).store pair_keyed encP_inj Tryz.underlying58 k v' hkl
  have hoth : ∀ b, b ≠ m1 → (ChangeMaps.setBlock W m1 ob).heap[b]? = W.heap[b]? := fun b hb => setBlock_heap _ _ _ _ hb
  have hrow2 : ∀ {e sz n : Nat} {v : Value} {xs : List Value}, w.ownsRow B e sz v n xs → (∀ b, v.ownBlock = some b → some b ≠ v0.ownBlock) → (ChangeMaps.setBlock W m1 ob).ownsRow B e sz v n xs := fun {e sz n v xs} ho hne => by
    refine own_move ho (fun b hb => ?_)
    have hbl := own_lt ho b hb
    rw [hoth b (fun e1 => by obtain ⟨cs, hc⟩ := own_block_cells ho hb; rw [e1, hm1] at hc; cases hc), hgr.block b hbl (hne b hb)]
  have htype : ∀ {e sz n : Nat} {v : Value} {xs : List Value}, w.ownsRow B e sz v n xs → e ≠ 56 → ∀ b, v.ownBlock = some b → some b ≠ v0.ownBlock := fun {e sz n v xs} ho hne b hb e1 => by
    obtain ⟨cs, hc⟩ := own_block_cells ho hb
    obtain ⟨cs', hc'⟩ := hrow b e1.symm
    rw [hc] at hc'
    injection hc' with hc'; injection hc' with _ hc'
    exact hne hc'
  refine ⟨ob, hob, ⟨(hoth g hg1).trans hwg, h.hg, h.h1, h.h2, ?_, ?_, ?_, ?_, ?_, ?_, ?_⟩⟩
  · have e : (fun y => ((if y = k then some l' else s.sh y)).map fun _ => if y = k then v' else V y) = putM (fun y => (s.sh y).map fun _ => V y) k v' := by
      funext y
      unfold putM
      by_cases hy : y = k
      · simp [hy]
      · simp [hy]
    show MapAt _ _ _ _ _ (fun y => ((if y = k then some l' else s.sh y)).map fun _ => if y = k then v' else V y)
    rw [e]; exact hm
  · exact h.ow.of_block ((hoth m2 hdif.symm).trans (hw2.trans hm2.symm))
  · intro y l hl
    simp only at hl ⊢
    by_cases hy : y = k
    · rw [if_pos hy] at hl ⊢
      cases hl
      exact ⟨hne', own_move hown (fun b hb => hoth b (fun e1 => by obtain ⟨cs, hc⟩ := own_block_cells hown hb; rw [e1, hw1] at hc; cases hc))⟩
    · rw [if_neg hy] at hl ⊢
      obtain ⟨h1, h2⟩ := h.shr y l hl
      refine ⟨h1, hrow2 h2 (fun b hb e1 => ?_)⟩
      cases hs : s.sh k with
      | none => rw [hs] at hv0; simp at hv0; rw [← hv0] at e1; simp [Value.ownBlock] at e1
      | some l0 =>
        rw [hs] at hv0; simp at hv0
        rw [← hv0] at e1
        exact hy (h.shd y k l l0 hl hs (hb.trans e1))
  · intro y y' l l2 hl hl2 he
    simp only at hl hl2 he
    have hnew : ∀ z lz, z ≠ k → s.sh z = some lz → (V z).ownBlock ≠ v'.ownBlock := fun z lz hz hsz e1 => by
      obtain ⟨hlz, hoz⟩ := h.shr z lz hsz
      have hbz : ∃ b, (V z).ownBlock = some b := by
        rcases hoz.2 with ⟨_, h0⟩ | ⟨g', cap, cur, hv, _⟩
        · exact absurd (List.eq_nil_of_length_eq_zero h0) hlz
        · exact ⟨g', by rw [hv]; rfl⟩
      obtain ⟨b, hb⟩ := hbz
      have hbl := own_lt hoz b hb
      rcases hat with hat | ⟨b', hb', hle⟩
      · cases hs : s.sh k with
        | none => rw [hs] at hv0; simp at hv0; rw [hb, hat, ← hv0] at e1; simp [Value.ownBlock] at e1
        | some l0 =>
          rw [hs] at hv0; simp at hv0
          rw [hat, ← hv0] at e1
          exact hz (h.shd z k lz l0 hsz hs e1)
      · rw [hb, hb'] at e1; injection e1 with e1; omega
    by_cases hy : y = k <;> by_cases hy' : y' = k
    · rw [hy, hy']
    · rw [if_neg hy'] at hl2 he; rw [if_pos hy] at he
      exact absurd he.symm (hnew y' l2 hy' hl2)
    · rw [if_neg hy] at hl he; rw [if_pos hy'] at he
      exact absurd he (hnew y l hy hl)
    · rw [if_neg hy] at hl he; rw [if_neg hy'] at hl2 he
      exact h.shd y y' l l2 hl hl2 he
  · intro x l hl
    exact hrow2 (h.owr x l hl) (htype (h.owr x l hl) (by decide))
  · exact hrow2 h.enr (htype h.enr (by decide))
  · exact hrow2 h.chr (htype h.chr (by decide))
end
end Go.Proofs.YtikdiepcfdimgaaGreatDoor.POw
namespace Go.Proofs.YtikdiepcfdimgaaGreatDoor.POw
open Go.RowKit Go.Lib Go.Proofs.YtikdiepcfdimgaaGreatDoorW.PrintWords Go.Proofs.YtikdiepcfdimgaaGreatDoorW.PrintLast
section
variable {w W : World} {B g m1 m2 : Nat} {V : Pr → Value} {U : ByteArray → Value} {vE vC : Value} {s : Gr}
theorem own_ne_of {B e sz n k e' : Nat} {v : Value} {xs : List Value} {cs : Array Value} (h : w.ownsRow B e sz v n xs) (hk : w.heap[k]? = some (.cells cs e' (0, 0))) (hne : e ≠ e') : v.ownBlock ≠ some k :=
  own_not_block h hk (fun cs' e1 => by injection e1 with _ e1; exact hne e1.symm)
theorem GrAt.setOwners (h : GrAt w B g m1 m2 V U vE vC s) (hdif : m1 ≠ m2) {x : ByteArray} (hx : x.size ≤ 1000) {v' : Value} {l' : List ByteArray} (hown : w.ownsRow B 9 1 v' l'.length (strs l')) :
    ∃ ob, (Instr.mapUpdate 59 (.map (some m2)) (.string x) v').run Tryz.prog w = .ok () (ChangeMaps.setBlock w m2 ob) ∧
      GrAt (ChangeMaps.setBlock w m2 ob) B g m1 m2 V (fun y => if y = x then v' else U y) vE vC { s with ow := fun y => if y = x then some l' else s.ow y } := by
  obtain ⟨es1, cl1, hm1⟩ := h.map1
  obtain ⟨es2, cl2, hm2⟩ := h.map2
  obtain ⟨kl, hkl⟩ := key_s hx
  obtain ⟨ob, hob, hm⟩ := h.ow.store str_keyed encS_inj Tryz.underlying59 x v' hkl
  have hoth : ∀ b, b ≠ m2 → (ChangeMaps.setBlock w m2 ob).heap[b]? = w.heap[b]? := fun b hb => setBlock_heap _ _ _ _ hb
  have hrow : ∀ {e sz n : Nat} {v : Value} {xs : List Value}, w.ownsRow B e sz v n xs → (ChangeMaps.setBlock w m2 ob).ownsRow B e sz v n xs := fun {e sz n v xs} ho =>
    own_move ho (fun b hb => hoth b (fun e1 => own_not_block ho hm2 (fun _ e => by cases e) (by rw [hb, e1])))
  refine ⟨ob, hob, ⟨(hoth g (fun e => by have := h.blk; rw [e, hm2] at this; cases this)).trans h.blk, h.hg, h.h1, h.h2, h.sh.of_block (hoth m1 hdif), ?_, ?_, h.shd, ?_, hrow h.enr, hrow h.chr⟩⟩
  · have e : (fun y => ((if y = x then some l' else s.ow y)).map fun _ => if y = x then v' else U y) = putM (fun y => (s.ow y).map fun _ => U y) x v' := by
      funext y
      unfold putM
      by_cases hy : y = x
      · simp [hy]
      · simp [hy]
    show MapAt _ _ _ _ _ (fun y => ((if y = x then some l' else s.ow y)).map fun _ => if y = x then v' else U y)
    rw [e]; exact hm
  · intro k l hl
    exact ⟨(h.shr k l hl).1, hrow (h.shr k l hl).2⟩
  · intro y l hl
    simp only at hl ⊢
    by_cases hy : y = x
    · rw [if_pos hy] at hl ⊢
      cases hl; exact hrow hown
    · rw [if_neg hy] at hl ⊢
      exact hrow (h.owr y l hl)
theorem GrAt.setEn (h : GrAt w B g m1 m2 V U vE vC s) {v' : Value} {l' : List ByteArray} (hown : w.ownsRow B 9 1 v' l'.length (strs l')) :
    GrAt (w.setCell ⟨g, 2, none⟩ v') B g m1 m2 V U v' vC { s with en := l' } := by
  obtain ⟨es1, cl1, hm1⟩ := h.map1
  obtain ⟨es2, cl2, hm2⟩ := h.map2
  have hoth : ∀ b, b ≠ g → (w.setCell ⟨g, 2, none⟩ v').heap[b]? = w.heap[b]? := fun b hb => Below.heap_setCell _ _ _ _ hb
  have hrow : ∀ {e sz n : Nat} {v : Value} {xs : List Value}, w.ownsRow B e sz v n xs → e ≠ 62 → (w.setCell ⟨g, 2, none⟩ v').ownsRow B e sz v n xs := fun {e sz n v xs} ho hne =>
    own_move ho (fun b hb => hoth b (fun e1 => own_ne_of ho h.blk hne (by rw [hb, e1])))
  refine ⟨?_, h.hg, h.h1, h.h2, h.sh.of_block (hoth m1 (fun e => by have := h.blk; rw [← e, hm1] at this; cases this)), h.ow.of_block (hoth m2 (fun e => by have := h.blk; rw [← e, hm2] at this; cases this)), fun k l hl => ⟨(h.shr k l hl).1, hrow (h.shr k l hl).2 (by decide)⟩, h.shd, fun x l hl => hrow (h.owr x l hl) (by decide), hrow hown (by decide), hrow h.chr (by decide)⟩
  exact blk_set h.blk 2 v'
theorem GrAt.setCh (h : GrAt w B g m1 m2 V U vE vC s) {v' : Value} {l' : List Int} (hown : w.ownsRow B 3 1 v' l'.length (intVs l')) :
    GrAt (w.setCell ⟨g, 3, none⟩ v') B g m1 m2 V U vE v' { s with ch := l' } := by
  obtain ⟨es1, cl1, hm1⟩ := h.map1
  obtain ⟨es2, cl2, hm2⟩ := h.map2
  have hoth : ∀ b, b ≠ g → (w.setCell ⟨g, 3, none⟩ v').heap[b]? = w.heap[b]? := fun b hb => Below.heap_setCell _ _ _ _ hb
  have hrow : ∀ {e sz n : Nat} {v : Value} {xs : List Value}, w.ownsRow B e sz v n xs → e ≠ 62 → (w.setCell ⟨g, 3, none⟩ v').ownsRow B e sz v n xs := fun {e sz n v xs} ho hne =>
    own_move ho (fun b hb => hoth b (fun e1 => own_ne_of ho h.blk hne (by rw [hb, e1])))
  refine ⟨?_, h.hg, h.h1, h.h2, h.sh.of_block (hoth m1 (fun e => by have := h.blk; rw [← e, hm1] at this; cases this)), h.ow.of_block (hoth m2 (fun e => by have := h.blk; rw [← e, hm2] at this; cases this)), fun k l hl => ⟨(h.shr k l hl).1, hrow (h.shr k l hl).2 (by decide)⟩, h.shd, fun x l hl => hrow (h.owr x l hl) (by decide), hrow h.enr (by decide), hrow hown (by decide)⟩
  exact blk_set h.blk 3 v'
end
def addG (s : Gr) (h : Hold) : Gr where
  sh := fun k => if k = h.pr then some (insH (s.shL h.pr) h) else s.sh k
  ow := fun x => if x = h.f1 then some (withG sLt (s.owL h.f1) h.f0) else s.ow x
  en := withG sLt (withG sLt s.en h.f0) h.f1
  ch := withG iLt s.ch h.f3
theorem addG_shL (s : Gr) (h : Hold) (k : Pr) : (addG s h).shL k = if k = h.pr then insH (s.shL h.pr) h else s.shL k := by
  unfold Gr.shL addG
  by_cases hk : k = h.pr
  · simp [hk, Gr.shL]
  · simp [hk]
theorem addG_owL (s : Gr) (h : Hold) (x : ByteArray) : (addG s h).owL x = if x = h.f1 then withG sLt (s.owL h.f1) h.f0 else s.owL x := by
  unfold Gr.owL addG
  by_cases hk : x = h.f1
  · simp [hk, Gr.owL]
  · simp [hk]
end Go.Proofs.YtikdiepcfdimgaaGreatDoor.POw
namespace Go.Proofs.YtikdiepcfdimgaaGreatDoor.POw
open Go.RowKit Go.Lib Go.Proofs.YtikdiepcfdimgaaGreatDoorW.PrintWords Go.Proofs.YtikdiepcfdimgaaGreatDoorW.PrintLast
theorem info_hold : (Tryz.prog.info? 56).map (fun i => (i.zero, i.size, i.bytes)) = some (some (.agg #[.string ⟨#[]⟩, .string ⟨#[]⟩, .int .i64 0, .int .i64 0, .int .i64 0]), 5, 56) := by kernel_rfl
def AddPost (B g m1 m2 : Nat) (s : Gr) (w w' : World) : Prop := ∃ V' U' vE' vC', GrAt w' B g m1 m2 V' U' vE' vC' s ∧ Below B w w'
theorem cellsH_one (h : Hold) : ∀ u ∈ cellsH h, u.oneCell' = true := by
  intro u hu
  simp [cellsH] at hu
  rcases hu with rfl | rfl | rfl | rfl | rfl <;> rfl
section
variable {w : World} {B g m1 m2 : Nat} {V : Pr → Value} {U : ByteArray → Value} {vE vC : Value} {s : Gr}
set_option maxRecDepth 100000 in
set_option maxHeartbeats 8000000 in
theorem go_add (hG : GrAt w B g m1 m2 V U vE vC s) (ok : GrOk s) (hdif : m1 ≠ m2) (hBw : B ≤ w.heap.size) (h : Hold) (hx : h.f0.size ≤ 100) (hy : h.f1.size ≤ 100) (hl1 : ∀ k, (s.shL k).length ≤ 900) (hl2 : ∀ x, (s.owL x).length ≤ 900) (hl3 : s.en.length ≤ 900) (hl4 : s.ch.length ≤ 900) (hfr : ∀ x ∈ s.shL h.pr, x.f3 ≠ h.f3) :
    Calls Tryz.prog 30 #[.pointer (some ⟨g, 0, none⟩), .agg #[.string h.f0, .string h.f1, .int .i64 h.f2.f0, .int .i64 h.f2.f1, .int .i64 h.f3]] w fun e w' => e = .returned (.tuple #[]) ∧ AddPost B g m1 m2 (addG s h) w w' := by
  have hb1 : Below w.heap.size w ((w.alloc (.cells #[.string h.f0, .string h.f1, .int .i64 h.f2.f0, .int .i64 h.f2.f1, .int .i64 h.f3] 56)).alloc (.cells #[.string h.f0, .string h.f1] 86)) := ((Below.refl _ _).alloc (Nat.le_refl _) _).alloc (by simp) _
  have hx1 : HBox ((w.alloc (.cells #[.string h.f0, .string h.f1, .int .i64 h.f2.f0, .int .i64 h.f2.f1, .int .i64 h.f3] 56)).alloc (.cells #[.string h.f0, .string h.f1] 86)) w.heap.size h := (HBox.made w h).below ((Below.refl _ _).alloc (Nat.le_refl _) _)
  have hp1 : ((w.alloc (.cells #[.string h.f0, .string h.f1, .int .i64 h.f2.f0, .int .i64 h.f2.f1, .int .i64 h.f3] 56)).alloc (.cells #[.string h.f0, .string h.f1] 86)).heap[w.heap.size + 1]? = some (.cells #[.string h.f0, .string h.f1] 86 (0, 0)) := by
    have := (Go.MapKept.heap_alloc (w.alloc (.cells #[.string h.f0, .string h.f1, .int .i64 h.f2.f0, .int .i64 h.f2.f1, .int .i64 h.f3] 56)) (.cells #[.string h.f0, .string h.f1] 86)).1
    rw [World.size_alloc] at this
    exact this
  have hG1 := hG.below hb1
  have hgl := hG.lt
  go_enter Tryz.func30, Tryz.ntmps30
  go_upto_region 2 with fail
  obtain ⟨w1, hw1⟩ : ∃ W, (w.alloc (.cells #[.string h.f0, .string h.f1, .int .i64 h.f2.f0, .int .i64 h.f2.f1, .int .i64 h.f3] 56)).alloc (.cells #[.string h.f0, .string h.f1] 86) = W := ⟨_, rfl⟩
  obtain ⟨z3, hz3⟩ : ∃ z, w.heap.size = z := ⟨_, rfl⟩
  obtain ⟨z4, hz4⟩ : ∃ z, w.heap.size + 1 = z := ⟨_, rfl⟩
  have hzs : w1.heap.size = w.heap.size + 1 + 1 := by rw [← hw1, World.size_alloc, World.size_alloc]
  rw [hw1] at hb1 hx1 hp1 hG1 ⊢
  rw [hz4] at hp1 ⊢
  rw [hz3] at hx1 ⊢
  have HZZ := Lib.hid (show w.heap.size = z3 ∧ z3 < z4 ∧ z4 + 1 = w1.heap.size from ⟨hz3, by omega, by omega⟩)
  clear hw1 hz3 hz4 hzs
  obtain ⟨i0, hi0, hi1, hi2, hi3⟩ := info_parts info_hold
  obtain ⟨A, c, hown, hlook, hV⟩ := hG1.look_sh h.pr (show h.f0.size ≤ 1000 by omega) (show h.f1.size ≤ 1000 by omega)
  obtain ⟨A0, c0, hown0, _, hV0⟩ := hG.look_sh h.pr (show h.f0.size ≤ 1000 by omega) (show h.f1.size ≤ 1000 by omega)
  have hll := hl1 h.pr
  obtain ⟨l, hle⟩ : ∃ l, s.shL h.pr = l := ⟨_, rfl⟩
  rw [hle] at hown hown0 hV hV0 hll hfr hlook
  have hVV := hV.symm.trans hV0
  injection hVV with hA1 _ hA3
  subst hA1 hA3
  have ROWLT := Lib.hid (fun (b : Nat) (hb : (Value.slice A l.length c).ownBlock = some b) => own_lt hown0 b hb)
  have hz := HZZ.out
  obtain ⟨es1, cl1, hm1⟩ := hG1.map1
  have hne1 : ∀ {b : Nat} {o : Obj}, w1.heap[b]? = some o → (∀ cs, o ≠ .cells cs 56 (0, 0)) → some b ≠ (Value.slice A l.length c).ownBlock := fun {b o} ho hne e => own_not_block hown ho hne e.symm
  have HS := Lib.hid (show ∀ w' : World, w1.grownBy w' (Value.slice A l.length c).ownBlock → w'.cell? ⟨g, 0, none⟩ = some (.map (some m1)) ∧ w'.cell? ⟨z4, 0, none⟩ = some (.string h.f0) ∧ w'.cell? ⟨z4, 1, none⟩ = some (.string h.f1) ∧ (Instr.lookup 58 (.map (some m1)) (.agg #[.string h.f0, .string h.f1]) false).run Tryz.prog w' = .ok (.slice A l.length c) w' ∧ w'.cell? ⟨z3, 0, none⟩ = some (.string h.f0) ∧ w'.cell? ⟨z3, 1, none⟩ = some (.string h.f1) ∧ w'.cell? ⟨z3, 2, none⟩ = some (.int .i64 h.f2.f0) ∧ w'.cell? ⟨z3, 3, none⟩ = some (.int .i64 h.f2.f1) ∧ w'.cell? ⟨z3, 4, none⟩ = some (.int .i64 h.f3) from fun w' gr => by
    have q1 : w'.heap[g]? = w1.heap[g]? := gr.block g hG1.lt (hne1 hG1.blk (fun _ e => by injection e with _ e; exact absurd e (by decide)))
    have q2 : w'.heap[z4]? = w1.heap[z4]? := gr.block z4 (by omega) (fun e => by have := ROWLT.out _ e.symm; omega)
    have q3 : w'.heap[z3]? = w1.heap[z3]? := gr.block z3 (by omega) (fun e => by have := ROWLT.out _ e.symm; omega)
    have q4 : w'.heap[m1]? = w1.heap[m1]? := gr.block m1 hG1.sh.lt (hne1 hm1 (fun _ e => by cases e))
    have hxx : HBox w' z3 h := q3.trans hx1
    obtain ⟨kl, hkl⟩ := key_pr (k := h.pr) (show h.f0.size ≤ 1000 by omega) (show h.f1.size ≤ 1000 by omega)
    have hr := (hG1.sh.of_block q4).lookup pair_keyed encP_inj Tryz.underlying58 (z := .slice none 0 0) (by kernel_rfl) false h.pr hkl
    simp only [Bool.false_eq_true, if_false] at hr
    rw [hV] at hr
    exact ⟨blk_cell (q1.trans hG1.blk) 0, blk_cell (q2.trans hp1) 0, blk_cell (q2.trans hp1) 1, hr, hxx.facts⟩)
  have HOWN := Lib.hid hown; have HG1 := Lib.hid hG1; have HG := Lib.hid hG; have HX1 := Lib.hid hx1; have HP1 := Lib.hid hp1; have HV := Lib.hid hV; have HM1 := Lib.hid hm1; have HB1 := Lib.hid hb1; have HOK := Lib.hid ok
  have HFR := Lib.hid hfr; have HL2 := Lib.hid hl2; have HLE := Lib.hid hle
  have hBw : B ≤ w1.heap.size := Nat.le_trans hBw hb1.size
  clear hown hown0 hG1 hG hx1 hp1 hV hV0 hm1 hb1 ok hne1 hlook hl1 hl2 hfr hle
  have gr_ : w1.grownBy w1.drew (Value.slice A l.length c).ownBlock := grown_of_below ((Below.refl _ w1).drew) _
  have ow_ : w1.drew.ownsRow B 56 5 (.slice A l.length c) l.length (flatH l) := pw_own_below HOWN.out ((Below.refl _ w1).drew)
  refine start_ (n := 11) (S := fun w' => w'.cell? ⟨g, 0, none⟩ = some (.map (some m1)) ∧ w'.cell? ⟨z4, 0, none⟩ = some (.string h.f0) ∧ w'.cell? ⟨z4, 1, none⟩ = some (.string h.f1) ∧ (Instr.lookup 58 (.map (some m1)) (.agg #[.string h.f0, .string h.f1]) false).run Tryz.prog w' = .ok (.slice A l.length c) w' ∧ w'.cell? ⟨z3, 0, none⟩ = some (.string h.f0) ∧ w'.cell? ⟨z3, 1, none⟩ = some (.string h.f1) ∧ w'.cell? ⟨z3, 2, none⟩ = some (.int .i64 h.f2.f0) ∧ w'.cell? ⟨z3, 3, none⟩ = some (.int .i64 h.f2.f1) ∧ w'.cell? ⟨z3, 4, none⟩ = some (.int .i64 h.f3)) (ds := []) #[false, false, false, false, false, false, false, false, false, false, false] (by kernel_rfl) rfl rfl ⟨(HS.out _ gr_).1, (HS.out _ gr_).2.1, (HS.out _ gr_).2.2.1, (HS.out _ gr_).2.2.2.1, (HS.out _ gr_).2.2.2.2.1, (HS.out _ gr_).2.2.2.2.2.1, (HS.out _ gr_).2.2.2.2.2.2.1, (HS.out _ gr_).2.2.2.2.2.2.2.1, (HS.out _ gr_).2.2.2.2.2.2.2.2⟩ (fun hHeld => ?_)
  refine pure_ (i := 0) (N := some 12) (v := ?_) (a' := ?_) #[true, false, false, false, false, false, false, false, false, false, false] rfl rfl (by kernel_rfl) (fun _ _ _ h => h) (Or.inl ⟨by rfl, ?_⟩) ?_ ?_
  rotate_left
  · intro w'
    go_simp
    with_reducible rfl
  rotate_left
  · simp only [Act.put, pkA, pkZ, pkS, i64_w, i32_w]
    rfl
  refine pure_ (i := 1) (N := some 13) (v := ?_) (a' := ?_) #[true, true, false, false, false, false, false, false, false, false, false] rfl rfl (by kernel_rfl) (fun _ _ _ h => h) (Or.inl ⟨by rfl, ?_⟩) ?_ ?_
  rotate_left
  · intro w'
    go_simp
    with_reducible rfl
  rotate_left
  · simp only [Act.put, pkA, pkZ, pkS, i64_w, i32_w]
    rfl
  refine pure_ (i := 2) (N := some 14) (v := ?_) (a' := ?_) #[true, true, true, false, false, false, false, false, false, false, false] rfl rfl (by kernel_rfl) (fun _ _ _ h => h) (Or.inl ⟨by rfl, ?_⟩) ?_ ?_
  rotate_left
  · intro w'
    go_simp
    with_reducible rfl
  rotate_left
  · simp only [Act.put, pkA, pkZ, pkS, i64_w, i32_w]
    rfl
  refine take_ (i := 3) (N := some 15) (v := ?_) (a' := ?_) #[true, true, true, true, false, false, false, false, false, false, false] rfl rfl (by kernel_rfl) (fun _ _ _ h => h) (Or.inl ⟨by rfl, ?_⟩) hHeld ?_ ?_
  rotate_left
  · rintro w' ⟨s0, s1, s2, s3, s4, s5, s6, s7, s8⟩
    go_simp
    with_reducible rfl
  rotate_left
  · simp only [Act.put, pkA, pkZ, pkS, i64_w, i32_w]
    rfl
  refine take_ (i := 4) (N := some 16) (v := ?_) (a' := ?_) #[true, true, true, true, true, false, false, false, false, false, false] rfl rfl (by kernel_rfl) (fun _ _ _ h => h) (Or.inl ⟨by rfl, ?_⟩) hHeld ?_ ?_
  rotate_left
  · rintro w' ⟨s0, s1, s2, s3, s4, s5, s6, s7, s8⟩
    go_simp
    with_reducible rfl
  rotate_left
  · simp only [Act.put, pkA, pkZ, pkS, i64_w, i32_w]
    rfl
  refine take_ (i := 5) (N := some 17) (v := ?_) (a' := ?_) #[true, true, true, true, true, true, false, false, false, false, false] rfl rfl (by kernel_rfl) (fun _ _ _ h => h) (Or.inl ⟨by rfl, ?_⟩) hHeld ?_ ?_
  rotate_left
  · rintro w' ⟨s0, s1, s2, s3, s4, s5, s6, s7, s8⟩
    go_simp
    with_reducible rfl
  rotate_left
  · simp only [Act.put, pkA, pkZ, pkS, i64_w, i32_w]
    rfl
  refine take_ (i := 6) (N := some 18) (v := ?_) (a' := ?_) #[true, true, true, true, true, true, true, false, false, false, false] rfl rfl (by kernel_rfl) (fun _ _ _ h => h) (Or.inl ⟨by rfl, ?_⟩) hHeld ?_ ?_
  rotate_left
  · rintro w' ⟨s0, s1, s2, s3, s4, s5, s6, s7, s8⟩
    go_simp
    with_reducible rfl
  rotate_left
  · simp only [Act.put, pkA, pkZ, pkS, i64_w, i32_w]
    rfl
  refine join_ (σ := Nat × Value × Nat) 1 #[true, true, true, true, true, true, true, true, true, true, false] (fun q => [(19, .slice (some ⟨q.1, 0, none⟩) 1 1), (20, q.2.1), (5, .pointer (some ⟨q.2.2, 0, none⟩))]) (fun q w' => w1.grownBy w' (Value.slice A l.length c).ownBlock ∧ w'.ownsRow B 56 5 q.2.1 (l.length + 1) (flatH l ++ cellsH h) ∧ w'.heap[q.2.2]? = some (.cells #[.slice none 0 0] 22 (0, 0)) ∧ w1.heap.size ≤ q.2.2 ∧ (q.2.1.ownBlock = (Value.slice A l.length c).ownBlock ∨ ∃ b, q.2.1.ownBlock = some b ∧ w1.heap.size ≤ b)) ?_ ?_
  rotate_left
  · intro hCont
    refine two_ (i := 7) (j := 9) (Ni := some 19) (Nj := some 5) #[true, true, true, true, true, true, true, true, false, false, false] #[true, true, true, true, true, true, true, false, false, true, false] rfl rfl rfl rfl (by kernel_rfl) (by decide) (by decide) (fun K hK => ?_) (fun K hK => ?_)
    · skip
      refine value_ (w1 := ?_) (v := ?_) (by rfl) rfl ?_ ?_
      rotate_left 2
      · go_simp
        constructor
        · rfl
        · rfl
      have gr7_ := grown_below gr_ ((Below.refl _ w1.drew).alloc (Nat.le_refl _) (.cells #[.string h.f0, .string h.f1, .int .i64 h.f2.f0, .int .i64 h.f2.f1, .int .i64 h.f3] 56))
      have ow7_ := (ow_).alloc (.cells #[.string h.f0, .string h.f1, .int .i64 h.f2.f0, .int .i64 h.f2.f1, .int .i64 h.f3] 56)
      refine hK.out _ _ ⟨(HS.out _ gr7_).1, (HS.out _ gr7_).2.1, (HS.out _ gr7_).2.2.1, (HS.out _ gr7_).2.2.2.1, (HS.out _ gr7_).2.2.2.2.1, (HS.out _ gr7_).2.2.2.2.2.1, (HS.out _ gr7_).2.2.2.2.2.2.1, (HS.out _ gr7_).2.2.2.2.2.2.2.1, (HS.out _ gr7_).2.2.2.2.2.2.2.2⟩ (fun hHeld => ?_)
      clear hK K
      refine norm_ (a' := ?_) ?_ ?_
      rotate_left
      · show Act.put _ (some 19) _ = _
        simp only [Act.put, pkA, pkZ, pkS, i64_w, i32_w]
        rfl
      refine two_ (i := 8) (j := 9) (Ni := some 20) (Nj := some 5) #[true, true, true, true, true, true, true, true, true, false, false] #[true, true, true, true, true, true, true, true, false, true, false] rfl rfl rfl rfl (by kernel_rfl) (by decide) (by decide) (fun K hK => ?_) (fun K hK => ?_)
      · skip
        have ng : ((w1.drew.alloc (.cells #[.string h.f0, .string h.f1, .int .i64 h.f2.f0, .int .i64 h.f2.f1, .int .i64 h.f3] 56))).heap[w1.heap.size]? = some (.cells #[.string h.f0, .string h.f1, .int .i64 h.f2.f0, .int .i64 h.f2.f1, .int .i64 h.f3] 56 (0, 0)) := (Go.MapKept.heap_alloc w1.drew (.cells #[.string h.f0, .string h.f1, .int .i64 h.f2.f0, .int .i64 h.f2.f1, .int .i64 h.f3] 56)).1
        refine step_append_any (by rfl) (.tmp 17) (.tmp 19) 22 (by rfl) B 56 i0 _ 5 56 Tryz.underlying22 hi0 hi1 hi2 hi3 rfl (by omega) _ l.length (flatH l) (by rfl) ow7_ _ 1 _ (cellsH h) (by rfl) rfl (fun j u hu => ⟨_, rfl, World.news_of_block ng j u hu⟩) (cellsH_one h) (by unfold maxLen; omega) (by omega) (Nat.le_trans hBw gr7_.size) ?_
        intro v8 w8 own8 gr8 fr8
        have gr7_8_ := grown_then gr7_ gr8 (.inl rfl)
        refine hK.out _ _ ⟨(HS.out _ gr7_8_).1, (HS.out _ gr7_8_).2.1, (HS.out _ gr7_8_).2.2.1, (HS.out _ gr7_8_).2.2.2.1, (HS.out _ gr7_8_).2.2.2.2.1, (HS.out _ gr7_8_).2.2.2.2.2.1, (HS.out _ gr7_8_).2.2.2.2.2.2.1, (HS.out _ gr7_8_).2.2.2.2.2.2.2.1, (HS.out _ gr7_8_).2.2.2.2.2.2.2.2⟩ (fun hHeld => ?_)
        clear hK K
        refine norm_ (a' := ?_) ?_ ?_
        rotate_left
        · show Act.put _ (some 20) _ = _
          simp only [Act.put, pkA, pkZ, pkS, i64_w, i32_w]
          rfl
        refine one_ (i := 9) (N := some 5) #[true, true, true, true, true, true, true, true, true, true, false] rfl rfl (by kernel_rfl) (by decide) (fun K hK => ?_)
        refine value_ (w1 := ?_) (v := ?_) (by rfl) rfl ?_ ?_
        rotate_left 2
        · go_simp
          constructor
          · rfl
          · rfl
        have gr7_8_9_ := grown_below gr7_8_ ((Below.refl _ w8).alloc (Nat.le_refl _) (.cells #[.slice none 0 0] 22))
        have ow7_8_9_ := (own8).alloc (.cells #[.slice none 0 0] 22)
        refine hK.out _ _ ⟨(HS.out _ gr7_8_9_).1, (HS.out _ gr7_8_9_).2.1, (HS.out _ gr7_8_9_).2.2.1, (HS.out _ gr7_8_9_).2.2.2.1, (HS.out _ gr7_8_9_).2.2.2.2.1, (HS.out _ gr7_8_9_).2.2.2.2.2.1, (HS.out _ gr7_8_9_).2.2.2.2.2.2.1, (HS.out _ gr7_8_9_).2.2.2.2.2.2.2.1, (HS.out _ gr7_8_9_).2.2.2.2.2.2.2.2⟩ (fun hHeld => ?_)
        clear hK K
        refine norm_ (a' := ?_) ?_ ?_
        rotate_left
        · show Act.put _ (some 5) _ = _
          simp only [Act.put, pkA, pkZ, pkS, i64_w, i32_w]
          rfl
        exact norm_ (by simp only [putAll, Act.put, pkA, pkZ, pkS]) (hCont (w1.heap.size, v8, w8.heap.size) _ ⟨gr7_8_9_, ow7_8_9_, (Go.MapKept.heap_alloc w8 (.cells #[.slice none 0 0] 22)).1, gr7_8_.size, (fr8.imp id fun e => ⟨_, e, gr7_.size⟩)⟩)
      · skip
        refine value_ (w1 := ?_) (v := ?_) (by rfl) rfl ?_ ?_
        rotate_left 2
        · go_simp
          constructor
          · rfl
          · rfl
        have gr7_9_ := grown_below gr7_ ((Below.refl _ (w1.drew.alloc (.cells #[.string h.f0, .string h.f1, .int .i64 h.f2.f0, .int .i64 h.f2.f1, .int .i64 h.f3] 56))).alloc (Nat.le_refl _) (.cells #[.slice none 0 0] 22))
        have ow7_9_ := (ow7_).alloc (.cells #[.slice none 0 0] 22)
        refine hK.out _ _ ⟨(HS.out _ gr7_9_).1, (HS.out _ gr7_9_).2.1, (HS.out _ gr7_9_).2.2.1, (HS.out _ gr7_9_).2.2.2.1, (HS.out _ gr7_9_).2.2.2.2.1, (HS.out _ gr7_9_).2.2.2.2.2.1, (HS.out _ gr7_9_).2.2.2.2.2.2.1, (HS.out _ gr7_9_).2.2.2.2.2.2.2.1, (HS.out _ gr7_9_).2.2.2.2.2.2.2.2⟩ (fun hHeld => ?_)
        clear hK K
        refine norm_ (a' := ?_) ?_ ?_
        rotate_left
        · show Act.put _ (some 5) _ = _
          simp only [Act.put, pkA, pkZ, pkS, i64_w, i32_w]
          rfl
        refine one_ (i := 8) (N := some 20) #[true, true, true, true, true, true, true, true, true, true, false] rfl rfl (by kernel_rfl) (by decide) (fun K hK => ?_)
        have ng : (((w1.drew.alloc (.cells #[.string h.f0, .string h.f1, .int .i64 h.f2.f0, .int .i64 h.f2.f1, .int .i64 h.f3] 56)).alloc (.cells #[.slice none 0 0] 22))).heap[w1.heap.size]? = some (.cells #[.string h.f0, .string h.f1, .int .i64 h.f2.f0, .int .i64 h.f2.f1, .int .i64 h.f3] 56 (0, 0)) := (two_new w1 (.cells #[.string h.f0, .string h.f1, .int .i64 h.f2.f0, .int .i64 h.f2.f1, .int .i64 h.f3] 56) (.cells #[.slice none 0 0] 22)).1
        refine step_append_any (by rfl) (.tmp 17) (.tmp 19) 22 (by rfl) B 56 i0 _ 5 56 Tryz.underlying22 hi0 hi1 hi2 hi3 rfl (by omega) _ l.length (flatH l) (by rfl) ow7_9_ _ 1 _ (cellsH h) (by rfl) rfl (fun j u hu => ⟨_, rfl, World.news_of_block ng j u hu⟩) (cellsH_one h) (by unfold maxLen; omega) (by omega) (Nat.le_trans hBw gr7_9_.size) ?_
        intro v8 w8 own8 gr8 fr8
        have gr7_9_8_ := grown_then gr7_9_ gr8 (.inl rfl)
        refine hK.out _ _ ⟨(HS.out _ gr7_9_8_).1, (HS.out _ gr7_9_8_).2.1, (HS.out _ gr7_9_8_).2.2.1, (HS.out _ gr7_9_8_).2.2.2.1, (HS.out _ gr7_9_8_).2.2.2.2.1, (HS.out _ gr7_9_8_).2.2.2.2.2.1, (HS.out _ gr7_9_8_).2.2.2.2.2.2.1, (HS.out _ gr7_9_8_).2.2.2.2.2.2.2.1, (HS.out _ gr7_9_8_).2.2.2.2.2.2.2.2⟩ (fun hHeld => ?_)
        clear hK K
        refine norm_ (a' := ?_) ?_ ?_
        rotate_left
        · show Act.put _ (some 20) _ = _
          simp only [Act.put, pkA, pkZ, pkS, i64_w, i32_w]
          rfl
        exact norm_ (by simp only [putAll, Act.put, pkA, pkZ, pkS]) (hCont (w1.heap.size, v8, w1.heap.size + 1) _ ⟨gr7_9_8_, own8, (gr8.block (w1.heap.size + 1) (by rw [show ∀ W : World, W.drew.heap.size = W.heap.size from fun _ => rfl, World.size_alloc, World.size_alloc]; omega) (fun e => by have := ROWLT.out _ e.symm; omega)).trans (two_new w1 (.cells #[.string h.f0, .string h.f1, .int .i64 h.f2.f0, .int .i64 h.f2.f1, .int .i64 h.f3] 56) (.cells #[.slice none 0 0] 22)).2.1, Nat.le_succ _, (fr8.imp id fun e => ⟨_, e, gr7_9_.size⟩)⟩)
    · skip
      refine value_ (w1 := ?_) (v := ?_) (by rfl) rfl ?_ ?_
      rotate_left 2
      · go_simp
        constructor
        · rfl
        · rfl
      have gr9_ := grown_below gr_ ((Below.refl _ w1.drew).alloc (Nat.le_refl _) (.cells #[.slice none 0 0] 22))
      have ow9_ := (ow_).alloc (.cells #[.slice none 0 0] 22)
      refine hK.out _ _ ⟨(HS.out _ gr9_).1, (HS.out _ gr9_).2.1, (HS.out _ gr9_).2.2.1, (HS.out _ gr9_).2.2.2.1, (HS.out _ gr9_).2.2.2.2.1, (HS.out _ gr9_).2.2.2.2.2.1, (HS.out _ gr9_).2.2.2.2.2.2.1, (HS.out _ gr9_).2.2.2.2.2.2.2.1, (HS.out _ gr9_).2.2.2.2.2.2.2.2⟩ (fun hHeld => ?_)
      clear hK K
      refine norm_ (a' := ?_) ?_ ?_
      rotate_left
      · show Act.put _ (some 5) _ = _
        simp only [Act.put, pkA, pkZ, pkS, i64_w, i32_w]
        rfl
      refine one_ (i := 7) (N := some 19) #[true, true, true, true, true, true, true, true, false, true, false] rfl rfl (by kernel_rfl) (by decide) (fun K hK => ?_)
      refine value_ (w1 := ?_) (v := ?_) (by rfl) rfl ?_ ?_
      rotate_left 2
      · go_simp
        constructor
        · rfl
        · rfl
      have gr9_7_ := grown_below gr9_ ((Below.refl _ (w1.drew.alloc (.cells #[.slice none 0 0] 22))).alloc (Nat.le_refl _) (.cells #[.string h.f0, .string h.f1, .int .i64 h.f2.f0, .int .i64 h.f2.f1, .int .i64 h.f3] 56))
      have ow9_7_ := (ow9_).alloc (.cells #[.string h.f0, .string h.f1, .int .i64 h.f2.f0, .int .i64 h.f2.f1, .int .i64 h.f3] 56)
      refine hK.out _ _ ⟨(HS.out _ gr9_7_).1, (HS.out _ gr9_7_).2.1, (HS.out _ gr9_7_).2.2.1, (HS.out _ gr9_7_).2.2.2.1, (HS.out _ gr9_7_).2.2.2.2.1, (HS.out _ gr9_7_).2.2.2.2.2.1, (HS.out _ gr9_7_).2.2.2.2.2.2.1, (HS.out _ gr9_7_).2.2.2.2.2.2.2.1, (HS.out _ gr9_7_).2.2.2.2.2.2.2.2⟩ (fun hHeld => ?_)
      clear hK K
      refine norm_ (a' := ?_) ?_ ?_
      rotate_left
      · show Act.put _ (some 19) _ = _
        simp only [Act.put, pkA, pkZ, pkS, i64_w, i32_w]
        rfl
      refine one_ (i := 8) (N := some 20) #[true, true, true, true, true, true, true, true, true, true, false] rfl rfl (by kernel_rfl) (by decide) (fun K hK => ?_)
      have ng : (((w1.drew.alloc (.cells #[.slice none 0 0] 22)).alloc (.cells #[.string h.f0, .string h.f1, .int .i64 h.f2.f0, .int .i64 h.f2.f1, .int .i64 h.f3] 56))).heap[w1.heap.size + 1]? = some (.cells #[.string h.f0, .string h.f1, .int .i64 h.f2.f0, .int .i64 h.f2.f1, .int .i64 h.f3] 56 (0, 0)) := (two_new w1 (.cells #[.slice none 0 0] 22) (.cells #[.string h.f0, .string h.f1, .int .i64 h.f2.f0, .int .i64 h.f2.f1, .int .i64 h.f3] 56)).2.1
      refine step_append_any (by rfl) (.tmp 17) (.tmp 19) 22 (by rfl) B 56 i0 _ 5 56 Tryz.underlying22 hi0 hi1 hi2 hi3 rfl (by omega) _ l.length (flatH l) (by rfl) ow9_7_ _ 1 _ (cellsH h) (by rfl) rfl (fun j u hu => ⟨_, rfl, World.news_of_block ng j u hu⟩) (cellsH_one h) (by unfold maxLen; omega) (by omega) (Nat.le_trans hBw gr9_7_.size) ?_
      intro v8 w8 own8 gr8 fr8
      have gr9_7_8_ := grown_then gr9_7_ gr8 (.inl rfl)
      refine hK.out _ _ ⟨(HS.out _ gr9_7_8_).1, (HS.out _ gr9_7_8_).2.1, (HS.out _ gr9_7_8_).2.2.1, (HS.out _ gr9_7_8_).2.2.2.1, (HS.out _ gr9_7_8_).2.2.2.2.1, (HS.out _ gr9_7_8_).2.2.2.2.2.1, (HS.out _ gr9_7_8_).2.2.2.2.2.2.1, (HS.out _ gr9_7_8_).2.2.2.2.2.2.2.1, (HS.out _ gr9_7_8_).2.2.2.2.2.2.2.2⟩ (fun hHeld => ?_)
      clear hK K
      refine norm_ (a' := ?_) ?_ ?_
      rotate_left
      · show Act.put _ (some 20) _ = _
        simp only [Act.put, pkA, pkZ, pkS, i64_w, i32_w]
        rfl
      exact norm_ (by simp only [putAll, Act.put, pkA, pkZ, pkS]) (hCont (w1.heap.size + 1, v8, w1.heap.size) _ ⟨gr9_7_8_, own8, (gr8.block w1.heap.size (by rw [show ∀ W : World, W.drew.heap.size = W.heap.size from fun _ => rfl, World.size_alloc, World.size_alloc]; omega) (fun e => by have := ROWLT.out _ e.symm; omega)).trans (two_new w1 (.cells #[.slice none 0 0] 22) (.cells #[.string h.f0, .string h.f1, .int .i64 h.f2.f0, .int .i64 h.f2.f1, .int .i64 h.f3] 56)).1, Nat.le_refl _, (fr8.imp id fun e => ⟨_, e, gr9_7_.size⟩)⟩)
  rintro ⟨z19, v20, z5⟩ wj ⟨grj, owj, hz5, hz5l, hat⟩
  obtain ⟨A20, c20, hv20, _⟩ := own_form owj
  subst hv20
  have hHeld := HS.out _ grj
  have e5 := blk_cell hz5 0
  have f5 := blk_frozen hz5 0
  refine norm_ (a' := ?_) ?_ ?_
  rotate_left
  · simp only [putAll, Act.put, pkA, pkZ, pkS]
    rfl
  refine one_ (i := 10) (N := none) #[true, true, true, true, true, true, true, true, true, true, true] rfl rfl (by kernel_rfl) (by decide) (fun K hK => ?_)
  refine skip_ (w1 := ?_) (by rfl) rfl ?_ ?_
  rotate_left
  · go_simp
    rfl
  have gr10 := grown_set grj (p := ⟨z5, 0, none⟩) hz5l (.slice A20 (l.length + 1) c20)
  refine hK.out _ _ ⟨(HS.out _ gr10).1, (HS.out _ gr10).2.1, (HS.out _ gr10).2.2.1, (HS.out _ gr10).2.2.2.1, (HS.out _ gr10).2.2.2.2.1, (HS.out _ gr10).2.2.2.2.2.1, (HS.out _ gr10).2.2.2.2.2.2.1, (HS.out _ gr10).2.2.2.2.2.2.2.1, (HS.out _ gr10).2.2.2.2.2.2.2.2⟩ (fun hHeld => ?_)
  clear hK K
  refine done_ (by kernel_rfl) ?_
  have hat2 := hat
  have own3 : (wj.setCell ⟨z5, 0, none⟩ (.slice A20 (l.length + 1) c20)).ownsRow B 56 5 (.slice A20 (l.length + 1) c20) (l.length + 1) (flatH l ++ cellsH h) := own_move owj (fun b hb => Below.heap_setCell _ _ _ _ (fun e => own_ne_of owj hz5 (by decide) (by rw [hb, e])))
  have hz53 : (wj.setCell ⟨z5, 0, none⟩ (.slice A20 (l.length + 1) c20)).heap[z5]? = some (.cells #[.slice A20 (l.length + 1) c20] 22 (0, 0)) := blk_set hz5 0 _
  have hne5 : some z5 ≠ (Value.slice A20 (l.length + 1) c20).ownBlock := fun e => own_ne_of owj hz5 (by decide) e.symm
  obtain ⟨w3, hw3⟩ : ∃ W, wj.setCell ⟨z5, 0, none⟩ (.slice A20 (l.length + 1) c20) = W := ⟨_, rfl⟩
  rw [hw3] at own3 hz53 gr10 ⊢
  clear hw3 e5 f5 hz5 owj grj hHeld
  have el : (l ++ [h]).length = l.length + 1 := by simp
  have ef : flatH (l ++ [h]) = flatH l ++ cellsH h := by simp [flatH]
  have hnd : ((l ++ [h]).map (·.f3)).Nodup := by
    rw [List.map_append, List.nodup_append]
    have hso := HOK.out.sho h.pr
    rw [HLE.out] at hso
    refine ⟨?_, by simp, ?_⟩
    · rw [List.nodup_iff_pairwise_ne, List.pairwise_map]
      exact hso.imp (fun hab e => by omega)
    · intro a ha b hb
      obtain ⟨x, hx, rfl⟩ := List.mem_map.1 ha
      simp at hb
      rw [hb]; exact HFR.out x hx
  have hz53l : z5 < w3.heap.size := (Array.getElem?_eq_some_iff.1 hz53).1
  have hsort := sorted_rows (w := w3) (base := B) (Bs := z5) (done := l ++ [h]) (v := .slice A20 (l.length + 1) c20) (by rw [el, ef]; exact own3) (blk_cell hz53 0) hz53l hne5 (Nat.le_trans hBw gr10.size) hnd (by rw [el]; omega)
  have c53 := blk_cell hz53 0
  have HSORT := Lib.hid hsort; have HZ53 := Lib.hid hz53; have HNE5 := Lib.hid hne5
  clear hsort el ef hnd hz53 hne5 own3 hat
  go_upto_region 4 with (go_at_call 49; refine HSORT.out.mono ?_; rintro e w4 ⟨rfl, ks, hperm, hpw, hown4, hb4, hoth4⟩; have HP4 := Lib.hid (And.intro hperm hpw); have HO4 := Lib.hid hown4; have HB4 := Lib.hid hb4; have HT4 := Lib.hid hoth4; clear hperm hpw hown4 hb4 hoth4)
  have hks : ks = insH l h := by
    have hso := HOK.out.sho h.pr
    rw [HLE.out] at hso
    refine sorted_ext_h (HP4.out.2.imp (fun hab => by simpa [hLt] using hab)) (insH_sorted hso HFR.out) (fun x => ?_)
    rw [HP4.out.1.mem_iff, (insH_perm l h).mem_iff]
  subst hks
  have gr4 : w3.grownBy w4 (Value.slice A20 (l.length + 1) c20).ownBlock := ⟨HB4.out.os, HB4.out.tape, HB4.out.output, HB4.out.size, fun b hb hne => HT4.out b hb hne⟩
  have gr14 := grown_then gr10 gr4 hat2
  have gr14d := grown_below gr14 ((Below.refl _ w4).drew)
  obtain ⟨ob, hob, hG5⟩ := HG1.out.setShares hdif (k := h.pr) (show h.f0.size ≤ 1000 by omega) (show h.f1.size ≤ 1000 by omega) (v' := .slice A20 (l.length + 1) c20) (l' := insH l h) (W := w4.drew) (by unfold insH; simp) (by rw [HV.out]; exact gr14d) (pw_own_below HO4.out ((Below.refl _ w4).drew)) (by rw [HV.out]; exact hat2)
  have hsc := HS.out _ gr14d
  have j0 := hsc.1; have j1 := hsc.2.1; have j2 := hsc.2.2.1
  have j3 : w4.drew.cell? ⟨z5, 0, none⟩ = some (.slice A20 (l.length + 1) c20) := by
    have h1 : w4.heap[z5]? = w3.heap[z5]? := HT4.out z5 hz53l HNE5.out
    exact blk_cell (w := w4.drew) (h1.trans HZ53.out) 0
  clear hsc c53
  have hobk : (Instr.mapUpdate 58 (.map (some m1)) (.agg #[.string h.f0, .string h.f1]) (.slice A20 (l.length + 1) c20)).run Tryz.prog w4.drew = .ok () (ChangeMaps.setBlock w4.drew m1 ob) := hob
  have HG5 := Lib.hid hG5
  clear hob hG5
  refine start_ (n := 7) (S := fun w' => w'.cell? ⟨g, 0, none⟩ = some (.map (some m1)) ∧ w'.cell? ⟨z4, 0, none⟩ = some (.string h.f0) ∧ w'.cell? ⟨z4, 1, none⟩ = some (.string h.f1) ∧ w'.cell? ⟨z5, 0, none⟩ = some (.slice A20 (l.length + 1) c20)) (ds := [6]) #[false, false, false, false, false, false, false] (by kernel_rfl) rfl rfl ⟨j0, j1, j2, j3⟩ (fun hHeld => ?_)
  refine pure_ (i := 0) (N := some 25) (v := ?_) (a' := ?_) #[true, false, false, false, false, false, false] rfl rfl (by kernel_rfl) (fun _ _ _ h => h) (Or.inl ⟨by rfl, ?_⟩) ?_ ?_
  rotate_left
  · intro w'
    go_simp
    with_reducible rfl
  rotate_left
  · simp only [Act.put, pkA, pkZ, pkS, i64_w, i32_w]
    rfl
  refine pure_ (i := 1) (N := some 26) (v := ?_) (a' := ?_) #[true, true, false, false, false, false, false] rfl rfl (by kernel_rfl) (fun _ _ _ h => h) (Or.inl ⟨by rfl, ?_⟩) ?_ ?_
  rotate_left
  · intro w'
    go_simp
    with_reducible rfl
  rotate_left
  · simp only [Act.put, pkA, pkZ, pkS, i64_w, i32_w]
    rfl
  refine pure_ (i := 2) (N := some 27) (v := ?_) (a' := ?_) #[true, true, true, false, false, false, false] rfl rfl (by kernel_rfl) (fun _ _ _ h => h) (Or.inl ⟨by rfl, ?_⟩) ?_ ?_
  rotate_left
  · intro w'
    go_simp
    with_reducible rfl
  rotate_left
  · simp only [Act.put, pkA, pkZ, pkS, i64_w, i32_w]
    rfl
  refine take_ (i := 3) (N := some 28) (v := ?_) (a' := ?_) #[true, true, true, true, false, false, false] rfl rfl (by kernel_rfl) (fun _ _ _ h => h) (Or.inl ⟨by rfl, ?_⟩) hHeld ?_ ?_
  rotate_left
  · rintro w' ⟨s0, s1, s2, s3⟩
    go_simp
    with_reducible rfl
  rotate_left
  · simp only [Act.put, pkA, pkZ, pkS, i64_w, i32_w]
    rfl
  refine take_ (i := 4) (N := some 29) (v := ?_) (a' := ?_) #[true, true, true, true, true, false, false] rfl rfl (by kernel_rfl) (fun _ _ _ h => h) (Or.inl ⟨by rfl, ?_⟩) hHeld ?_ ?_
  rotate_left
  · rintro w' ⟨s0, s1, s2, s3⟩
    go_simp
    with_reducible rfl
  rotate_left
  · simp only [Act.put, pkA, pkZ, pkS, i64_w, i32_w]
    rfl
  refine take_ (i := 5) (N := some 30) (v := ?_) (a' := ?_) #[true, true, true, true, true, true, false] rfl rfl (by kernel_rfl) (fun _ _ _ h => h) (Or.inl ⟨by rfl, ?_⟩) hHeld ?_ ?_
  rotate_left
  · rintro w' ⟨s0, s1, s2, s3⟩
    go_simp
    with_reducible rfl
  rotate_left
  · simp only [Act.put, pkA, pkZ, pkS, i64_w, i32_w]
    rfl
  refine last_ (i := 6) (N := none) #[true, true, true, true, true, true, true] rfl rfl (by kernel_rfl) (by decide) (fun K hK => ?_)
  refine skip_ (w1 := ?_) (by rfl) rfl ?_ ?_
  rotate_left
  · go_simp
    rfl
  refine hK.out _ _ ?_
  clear hK K
  refine done_ (by kernel_rfl) ?_
  have hz3l : z3 < w1.heap.size := by have := HZZ.out; omega
  have hx5 : HBox (ChangeMaps.setBlock w4.drew m1 ob) z3 h := by
    unfold HBox
    rw [setBlock_heap _ _ _ _ (fun e => by have h1 := HX1.out; unfold HBox at h1; rw [e, HM1.out] at h1; cases h1)]
    exact (gr14.block z3 hz3l (fun e => by have := ROWLT.out _ e.symm; have := HZZ.out; omega)).trans HX1.out
  have hB5' : Below B w (ChangeMaps.setBlock w4.drew m1 ob) := setBlock_below (pw_below_grown (HB1.out.mono (by have := HB1.out.size; omega : B ≤ w.heap.size)) _ hBw gr14d (fun k hk => own_base HOWN.out k hk)) HG1.out.h1
  obtain ⟨w5, hw5⟩ : ∃ W, ChangeMaps.setBlock w4.drew m1 ob = W := ⟨_, rfl⟩
  rw [hw5] at hx5 hB5' HG5 ⊢
  have HX5 := Lib.hid hx5; have HBB5 := Lib.hid hB5'
  obtain ⟨s5, hs5⟩ : ∃ s5 : Gr, ({ s with sh := fun y => if y = h.pr then some (insH l h) else s.sh y } : Gr) = s5 := ⟨_, rfl⟩
  have HE5 := Lib.hid hs5
  rw [hs5] at HG5
  have how5 : ∀ x, s5.owL x = s.owL x := fun x => by rw [← hs5]; rfl
  have hen5 : s5.en = s.en := by rw [← hs5]
  have hch5 : s5.ch = s.ch := by rw [← hs5]
  have how52 : s5.ow = s.ow := by rw [← hs5]
  have HQ5 := Lib.hid (And.intro how5 (And.intro hen5 hch5))
  have HQ52 := Lib.hid how52
  clear hw5 hx5 hB5' hs5 how5 hen5 hch5 how52 j0 j1 j2 j3 hobk gr14 gr14d gr4 gr10 gr_ ow_ hat2 hz53l hz3l
  obtain ⟨A6, c6, hown6, hlk6⟩ := HG5.out.look_ow h.f1 (by omega)
  rw [HQ5.out.1] at hown6 hlk6
  have ho6 := HOK.out.owo h.f1
  have hl6 := HL2.out h.f1
  obtain ⟨l6, hl6e⟩ : ∃ l6, s.owL h.f1 = l6 := ⟨_, rfl⟩
  rw [hl6e] at hown6 hlk6 ho6 hl6
  have HL6 := Lib.hid hl6e
  have hB5 : B ≤ w5.heap.size := Nat.le_trans HG5.out.hg (Nat.le_of_lt HG5.out.lt)
  have HS5 := Lib.hid (show ∀ w' : World, Below w5.heap.size w5 w' → w'.cell? ⟨g, 1, none⟩ = some (.map (some m2)) ∧ w'.cell? ⟨z3, 0, none⟩ = some (.string h.f0) ∧ w'.cell? ⟨z3, 1, none⟩ = some (.string h.f1) ∧ (Instr.lookup 59 (.map (some m2)) (.string h.f1) false).run Tryz.prog w' = .ok (.slice A6 l6.length c6) w' from fun w' hb => ⟨(HG5.out.below hb).facts.2.1, (HX5.out.below hb).facts.1, (HX5.out.below hb).facts.2.1, hlk6 w' hb⟩)
  have HO6 := Lib.hid hown6
  clear hown6 hlk6 hl6e
  have hBd : Below w5.heap.size w5 w5.drew := (Below.refl _ w5).drew
  go_upto_region 5 with fail
  refine start_ (n := 17) (S := fun w' => w'.cell? ⟨g, 1, none⟩ = some (.map (some m2)) ∧ w'.cell? ⟨z3, 0, none⟩ = some (.string h.f0) ∧ w'.cell? ⟨z3, 1, none⟩ = some (.string h.f1) ∧ (Instr.lookup 59 (.map (some m2)) (.string h.f1) false).run Tryz.prog w' = .ok (.slice A6 l6.length c6) w') (ds := [16]) #[false, false, false, false, false, false, false, false, false, false, false, false, false, false, false, false, false] (by kernel_rfl) rfl rfl ⟨(HS5.out _ hBd).1, (HS5.out _ hBd).2.1, (HS5.out _ hBd).2.2.1, (HS5.out _ hBd).2.2.2⟩ (fun hHeld => ?_)
  refine pure_ (i := 0) (N := some 31) (v := ?_) (a' := ?_) #[true, false, false, false, false, false, false, false, false, false, false, false, false, false, false, false, false] rfl rfl (by kernel_rfl) (fun _ _ _ h => h) (Or.inl ⟨by rfl, ?_⟩) ?_ ?_
  rotate_left
  · intro w'
    go_simp
    with_reducible rfl
  rotate_left
  · simp only [Act.put, pkA, pkZ, pkS, i64_w, i32_w]
    rfl
  refine pure_ (i := 1) (N := some 32) (v := ?_) (a' := ?_) #[true, true, false, false, false, false, false, false, false, false, false, false, false, false, false, false, false] rfl rfl (by kernel_rfl) (fun _ _ _ h => h) (Or.inl ⟨by rfl, ?_⟩) ?_ ?_
  rotate_left
  · intro w'
    go_simp
    with_reducible rfl
  rotate_left
  · simp only [Act.put, pkA, pkZ, pkS, i64_w, i32_w]
    rfl
  refine pure_ (i := 2) (N := some 33) (v := ?_) (a' := ?_) #[true, true, true, false, false, false, false, false, false, false, false, false, false, false, false, false, false] rfl rfl (by kernel_rfl) (fun _ _ _ h => h) (Or.inl ⟨by rfl, ?_⟩) ?_ ?_
  rotate_left
  · intro w'
    go_simp
    with_reducible rfl
  rotate_left
  · simp only [Act.put, pkA, pkZ, pkS, i64_w, i32_w]
    rfl
  refine pure_ (i := 4) (N := some 35) (v := ?_) (a' := ?_) #[true, true, true, false, true, false, false, false, false, false, false, false, false, false, false, false, false] rfl rfl (by kernel_rfl) (fun _ _ _ h => h) (Or.inl ⟨by rfl, ?_⟩) ?_ ?_
  rotate_left
  · intro w'
    go_simp
    with_reducible rfl
  rotate_left
  · simp only [Act.put, pkA, pkZ, pkS, i64_w, i32_w]
    rfl
  refine pure_ (i := 6) (N := some 37) (v := ?_) (a' := ?_) #[true, true, true, false, true, false, true, false, false, false, false, false, false, false, false, false, false] rfl rfl (by kernel_rfl) (fun _ _ _ h => h) (Or.inl ⟨by rfl, ?_⟩) ?_ ?_
  rotate_left
  · intro w'
    go_simp
    with_reducible rfl
  rotate_left
  · simp only [Act.put, pkA, pkZ, pkS, i64_w, i32_w]
    rfl
  refine pure_ (i := 7) (N := some 38) (v := ?_) (a' := ?_) #[true, true, true, false, true, false, true, true, false, false, false, false, false, false, false, false, false] rfl rfl (by kernel_rfl) (fun _ _ _ h => h) (Or.inl ⟨by rfl, ?_⟩) ?_ ?_
  rotate_left
  · intro w'
    go_simp
    with_reducible rfl
  rotate_left
  · simp only [Act.put, pkA, pkZ, pkS, i64_w, i32_w]
    rfl
  refine pure_ (i := 8) (N := some 39) (v := ?_) (a' := ?_) #[true, true, true, false, true, false, true, true, true, false, false, false, false, false, false, false, false] rfl rfl (by kernel_rfl) (fun _ _ _ h => h) (Or.inl ⟨by rfl, ?_⟩) ?_ ?_
  rotate_left
  · intro w'
    go_simp
    with_reducible rfl
  rotate_left
  · simp only [Act.put, pkA, pkZ, pkS, i64_w, i32_w]
    rfl
  refine pure_ (i := 10) (N := some 41) (v := ?_) (a' := ?_) #[true, true, true, false, true, false, true, true, true, false, true, false, false, false, false, false, false] rfl rfl (by kernel_rfl) (fun _ _ _ h => h) (Or.inl ⟨by rfl, ?_⟩) ?_ ?_
  rotate_left
  · intro w'
    go_simp
    with_reducible rfl
  rotate_left
  · simp only [Act.put, pkA, pkZ, pkS, i64_w, i32_w]
    rfl
  refine pure_ (i := 13) (N := some 44) (v := ?_) (a' := ?_) #[true, true, true, false, true, false, true, true, true, false, true, false, false, true, false, false, false] rfl rfl (by kernel_rfl) (fun _ _ _ h => h) (Or.inl ⟨by rfl, ?_⟩) ?_ ?_
  rotate_left
  · intro w'
    go_simp
    with_reducible rfl
  rotate_left
  · simp only [Act.put, pkA, pkZ, pkS, i64_w, i32_w]
    rfl
  refine take_ (i := 3) (N := some 34) (v := ?_) (a' := ?_) #[true, true, true, true, true, false, true, true, true, false, true, false, false, true, false, false, false] rfl rfl (by kernel_rfl) (fun _ _ _ h => h) (Or.inl ⟨by rfl, ?_⟩) hHeld ?_ ?_
  rotate_left
  · rintro w' ⟨s0, s1, s2, s3⟩
    go_simp
    with_reducible rfl
  rotate_left
  · simp only [Act.put, pkA, pkZ, pkS, i64_w, i32_w]
    rfl
  refine take_ (i := 5) (N := some 36) (v := ?_) (a' := ?_) #[true, true, true, true, true, true, true, true, true, false, true, false, false, true, false, false, false] rfl rfl (by kernel_rfl) (fun _ _ _ h => h) (Or.inl ⟨by rfl, ?_⟩) hHeld ?_ ?_
  rotate_left
  · rintro w' ⟨s0, s1, s2, s3⟩
    go_simp
    with_reducible rfl
  rotate_left
  · simp only [Act.put, pkA, pkZ, pkS, i64_w, i32_w]
    rfl
  refine take_ (i := 9) (N := some 40) (v := ?_) (a' := ?_) #[true, true, true, true, true, true, true, true, true, true, true, false, false, true, false, false, false] rfl rfl (by kernel_rfl) (fun _ _ _ h => h) (Or.inl ⟨by rfl, ?_⟩) hHeld ?_ ?_
  rotate_left
  · rintro w' ⟨s0, s1, s2, s3⟩
    go_simp
    with_reducible rfl
  rotate_left
  · simp only [Act.put, pkA, pkZ, pkS, i64_w, i32_w]
    rfl
  refine take_ (i := 11) (N := some 42) (v := ?_) (a' := ?_) #[true, true, true, true, true, true, true, true, true, true, true, true, false, true, false, false, false] rfl rfl (by kernel_rfl) (fun _ _ _ h => h) (Or.inl ⟨by rfl, ?_⟩) hHeld ?_ ?_
  rotate_left
  · rintro w' ⟨s0, s1, s2, s3⟩
    go_simp
    with_reducible rfl
  rotate_left
  · simp only [Act.put, pkA, pkZ, pkS, i64_w, i32_w]
    rfl
  refine take_ (i := 12) (N := some 43) (v := ?_) (a' := ?_) #[true, true, true, true, true, true, true, true, true, true, true, true, true, true, false, false, false] rfl rfl (by kernel_rfl) (fun _ _ _ h => h) (Or.inl ⟨by rfl, ?_⟩) hHeld ?_ ?_
  rotate_left
  · rintro w' ⟨s0, s1, s2, s3⟩
    go_simp
    with_reducible rfl
  rotate_left
  · simp only [Act.put, pkA, pkZ, pkS, i64_w, i32_w]
    rfl
  refine take_ (i := 14) (N := some 45) (v := ?_) (a' := ?_) #[true, true, true, true, true, true, true, true, true, true, true, true, true, true, true, false, false] rfl rfl (by kernel_rfl) (fun _ _ _ h => h) (Or.inl ⟨by rfl, ?_⟩) hHeld ?_ ?_
  rotate_left
  · rintro w' ⟨s0, s1, s2, s3⟩
    go_simp
    with_reducible rfl
  rotate_left
  · simp only [Act.put, pkA, pkZ, pkS, i64_w, i32_w]
    rfl
  refine one_ (i := 15) (N := some 46) #[true, true, true, true, true, true, true, true, true, true, true, true, true, true, true, true, false] rfl rfl (by kernel_rfl) (by decide) (fun K hK => ?_)
  refine goes_ Tryz.func38 (by kernel_rfl) rfl #[.slice A6 l6.length c6, .string h.f0] (by rfl) rfl rfl (by simp only [List.map_toArray, List.map_cons, List.map_nil]; rfl) ?_
  refine (go_with l6 h.f0 _ B _ (pw_own_below HO6.out hBd) hB5 ho6 (by omega)).mono ?_
  rintro e w15 ⟨v15, rfl, own15, hb15⟩
  refine ⟨_, rfl, ?_⟩
  have hB15 := hBd.trans (hb15.mono hBd.size)
  refine hK.out _ _ ⟨(HS5.out _ hB15).1, (HS5.out _ hB15).2.1, (HS5.out _ hB15).2.2.1, (HS5.out _ hB15).2.2.2⟩ (fun hHeld => ?_)
  clear hK K
  refine norm_ (a' := ?_) ?_ ?_
  rotate_left
  · show Act.put _ (some 46) _ = _
    simp only [Act.put, pkA, pkZ, pkS, i64_w, i32_w]
    rfl
  refine last_ (i := 16) (N := none) #[true, true, true, true, true, true, true, true, true, true, true, true, true, true, true, true, true] rfl rfl (by kernel_rfl) (by decide) (fun K hK => ?_)
  obtain ⟨ob2, hob2, hG7⟩ := (HG5.out.below hB15).setOwners hdif (x := h.f1) (by omega) own15
  refine skip_ (w1 := ?_) (by rfl) rfl ?_ ?_
  rotate_left
  · go_simp
    rfl
  refine hK.out _ _ ?_
  clear hK K
  refine done_ (by kernel_rfl) ?_
  have hx7 : HBox (ChangeMaps.setBlock w15 m2 ob2) z3 h := by
    obtain ⟨es2, cl2, hm2⟩ := (HG5.out.below hB15).map2
    unfold HBox
    rw [setBlock_heap _ _ _ _ (fun e => by have h1 := HX5.out.below hB15; unfold HBox at h1; rw [e, hm2] at h1; cases h1)]
    exact HX5.out.below hB15
  have hB7' : Below B w (ChangeMaps.setBlock w15 m2 ob2) := setBlock_below (HBB5.out.trans (hB15.mono hB5)) HG5.out.h2
  obtain ⟨w7, hw7⟩ : ∃ W, ChangeMaps.setBlock w15 m2 ob2 = W := ⟨_, rfl⟩
  rw [hw7] at hx7 hB7' hG7 ⊢
  have HG7 := Lib.hid hG7; have HX7 := Lib.hid hx7; have HBB7 := Lib.hid hB7'
  clear hw7 hG7 hx7 hB7' hob2 own15 hB15 hB5 hBd hb15
  have hE7 := HG7.out.enr
  rw [show ({ s5 with ow := fun y => if y = h.f1 then some (withG sLt l6 h.f0) else s5.ow y } : Gr).en = s.en from HQ5.out.2.1] at hE7
  obtain ⟨A7, c7, hvE, _⟩ := own_form hE7
  subst hvE
  have HE7 := Lib.hid hE7
  have hB7 : B ≤ w7.heap.size := Nat.le_trans HG7.out.hg (Nat.le_of_lt HG7.out.lt)
  have HS6 := Lib.hid (show ∀ w' : World, Below w7.heap.size w7 w' → w'.cell? ⟨g, 2, none⟩ = some (.slice A7 s.en.length c7) ∧ w'.cell? ⟨z3, 0, none⟩ = some (.string h.f0) ∧ w'.cell? ⟨z3, 1, none⟩ = some (.string h.f1) from fun w' hb => ⟨(HG7.out.below hb).facts.2.2.1, (HX7.out.below hb).facts.1, (HX7.out.below hb).facts.2.1⟩)
  clear hE7
  have hBd : Below w7.heap.size w7 w7.drew := (Below.refl _ w7).drew
  have hwl := withG_length (lt := sLt) s.en h.f0
  go_upto_region 6 with fail
  refine start_ (n := 14) (S := fun w' => w'.cell? ⟨g, 2, none⟩ = some (.slice A7 s.en.length c7) ∧ w'.cell? ⟨z3, 0, none⟩ = some (.string h.f0) ∧ w'.cell? ⟨z3, 1, none⟩ = some (.string h.f1)) (ds := [13]) #[false, false, false, false, false, false, false, false, false, false, false, false, false, false] (by kernel_rfl) rfl rfl ⟨(HS6.out _ hBd).1, (HS6.out _ hBd).2.1, (HS6.out _ hBd).2.2⟩ (fun hHeld => ?_)
  refine pure_ (i := 0) (N := some 47) (v := ?_) (a' := ?_) #[true, false, false, false, false, false, false, false, false, false, false, false, false, false] rfl rfl (by kernel_rfl) (fun _ _ _ h => h) (Or.inl ⟨by rfl, ?_⟩) ?_ ?_
  rotate_left
  · intro w'
    go_simp
    with_reducible rfl
  rotate_left
  · simp only [Act.put, pkA, pkZ, pkS, i64_w, i32_w]
    rfl
  refine pure_ (i := 1) (N := some 48) (v := ?_) (a' := ?_) #[true, true, false, false, false, false, false, false, false, false, false, false, false, false] rfl rfl (by kernel_rfl) (fun _ _ _ h => h) (Or.inl ⟨by rfl, ?_⟩) ?_ ?_
  rotate_left
  · intro w'
    go_simp
    with_reducible rfl
  rotate_left
  · simp only [Act.put, pkA, pkZ, pkS, i64_w, i32_w]
    rfl
  refine pure_ (i := 2) (N := some 49) (v := ?_) (a' := ?_) #[true, true, true, false, false, false, false, false, false, false, false, false, false, false] rfl rfl (by kernel_rfl) (fun _ _ _ h => h) (Or.inl ⟨by rfl, ?_⟩) ?_ ?_
  rotate_left
  · intro w'
    go_simp
    with_reducible rfl
  rotate_left
  · simp only [Act.put, pkA, pkZ, pkS, i64_w, i32_w]
    rfl
  refine pure_ (i := 3) (N := some 50) (v := ?_) (a' := ?_) #[true, true, true, true, false, false, false, false, false, false, false, false, false, false] rfl rfl (by kernel_rfl) (fun _ _ _ h => h) (Or.inl ⟨by rfl, ?_⟩) ?_ ?_
  rotate_left
  · intro w'
    go_simp
    with_reducible rfl
  rotate_left
  · simp only [Act.put, pkA, pkZ, pkS, i64_w, i32_w]
    rfl
  refine pure_ (i := 5) (N := some 52) (v := ?_) (a' := ?_) #[true, true, true, true, false, true, false, false, false, false, false, false, false, false] rfl rfl (by kernel_rfl) (fun _ _ _ h => h) (Or.inl ⟨by rfl, ?_⟩) ?_ ?_
  rotate_left
  · intro w'
    go_simp
    with_reducible rfl
  rotate_left
  · simp only [Act.put, pkA, pkZ, pkS, i64_w, i32_w]
    rfl
  refine pure_ (i := 8) (N := some 55) (v := ?_) (a' := ?_) #[true, true, true, true, false, true, false, false, true, false, false, false, false, false] rfl rfl (by kernel_rfl) (fun _ _ _ h => h) (Or.inl ⟨by rfl, ?_⟩) ?_ ?_
  rotate_left
  · intro w'
    go_simp
    with_reducible rfl
  rotate_left
  · simp only [Act.put, pkA, pkZ, pkS, i64_w, i32_w]
    rfl
  refine take_ (i := 4) (N := some 51) (v := ?_) (a' := ?_) #[true, true, true, true, true, true, false, false, true, false, false, false, false, false] rfl rfl (by kernel_rfl) (fun _ _ _ h => h) (Or.inl ⟨by rfl, ?_⟩) hHeld ?_ ?_
  rotate_left
  · rintro w' ⟨s0, s1, s2⟩
    go_simp
    with_reducible rfl
  rotate_left
  · simp only [Act.put, pkA, pkZ, pkS, i64_w, i32_w]
    rfl
  refine take_ (i := 6) (N := some 53) (v := ?_) (a' := ?_) #[true, true, true, true, true, true, true, false, true, false, false, false, false, false] rfl rfl (by kernel_rfl) (fun _ _ _ h => h) (Or.inl ⟨by rfl, ?_⟩) hHeld ?_ ?_
  rotate_left
  · rintro w' ⟨s0, s1, s2⟩
    go_simp
    with_reducible rfl
  rotate_left
  · simp only [Act.put, pkA, pkZ, pkS, i64_w, i32_w]
    rfl
  refine take_ (i := 9) (N := some 56) (v := ?_) (a' := ?_) #[true, true, true, true, true, true, true, false, true, true, false, false, false, false] rfl rfl (by kernel_rfl) (fun _ _ _ h => h) (Or.inl ⟨by rfl, ?_⟩) hHeld ?_ ?_
  rotate_left
  · rintro w' ⟨s0, s1, s2⟩
    go_simp
    with_reducible rfl
  rotate_left
  · simp only [Act.put, pkA, pkZ, pkS, i64_w, i32_w]
    rfl
  refine one_ (i := 7) (N := some 54) #[true, true, true, true, true, true, true, true, true, true, false, false, false, false] rfl rfl (by kernel_rfl) (by decide) (fun K hK => ?_)
  refine goes_ Tryz.func38 (by kernel_rfl) rfl #[.slice A7 s.en.length c7, .string h.f0] (by rfl) rfl rfl (by simp only [List.map_toArray, List.map_cons, List.map_nil]; rfl) ?_
  refine (go_with s.en h.f0 _ B _ (pw_own_below HE7.out hBd) hB7 HOK.out.eno (by omega)).mono ?_
  rintro e w8 ⟨v8, rfl, own8, hb8⟩
  refine ⟨_, rfl, ?_⟩
  have hB8 := hBd.trans (hb8.mono hBd.size)
  refine hK.out _ _ ⟨(HS6.out _ hB8).1, (HS6.out _ hB8).2.1, (HS6.out _ hB8).2.2⟩ (fun hHeld => ?_)
  clear hK K
  refine norm_ (a' := ?_) ?_ ?_
  rotate_left
  · show Act.put _ (some 54) _ = _
    simp only [Act.put, pkA, pkZ, pkS, i64_w, i32_w]
    rfl
  refine one_ (i := 10) (N := some 57) #[true, true, true, true, true, true, true, true, true, true, true, false, false, false] rfl rfl (by kernel_rfl) (by decide) (fun K hK => ?_)
  refine goes_ Tryz.func38 (by kernel_rfl) rfl #[v8, .string h.f1] (by rfl) rfl rfl (by simp only [List.map_toArray, List.map_cons, List.map_nil]; rfl) ?_
  refine (go_with (withG sLt s.en h.f0) h.f1 _ B _ own8 (Nat.le_trans hB7 hB8.size) (withG_sorted sO _ HOK.out.eno) (by omega)).mono ?_
  rintro e w9 ⟨v9, rfl, own9, hb9⟩
  obtain ⟨A9, c9, hv9, _⟩ := own_form own9
  subst hv9
  refine ⟨_, rfl, ?_⟩
  have hB9 := hB8.trans (hb9.mono hB8.size)
  refine hK.out _ _ ⟨(HS6.out _ hB9).1, (HS6.out _ hB9).2.1, (HS6.out _ hB9).2.2⟩ (fun hHeld => ?_)
  clear hK K
  refine norm_ (a' := ?_) ?_ ?_
  rotate_left
  · show Act.put _ (some 57) _ = _
    simp only [Act.put, pkA, pkZ, pkS, i64_w, i32_w]
    rfl
  refine pure_ (i := 11) (N := some 58) (v := ?_) (a' := ?_) #[true, true, true, true, true, true, true, true, true, true, true, true, false, false] rfl rfl (by kernel_rfl) (fun _ _ _ h => h) (Or.inl ⟨by rfl, ?_⟩) ?_ ?_
  rotate_left
  · intro w'
    go_simp
    with_reducible rfl
  rotate_left
  · simp only [Act.put, pkA, pkZ, pkS, i64_w, i32_w]
    rfl
  refine pure_ (i := 12) (N := some 59) (v := ?_) (a' := ?_) #[true, true, true, true, true, true, true, true, true, true, true, true, true, false] rfl rfl (by kernel_rfl) (fun _ _ _ h => h) (Or.inl ⟨by rfl, ?_⟩) ?_ ?_
  rotate_left
  · intro w'
    go_simp
    with_reducible rfl
  rotate_left
  · simp only [Act.put, pkA, pkZ, pkS, i64_w, i32_w]
    rfl
  refine last_ (i := 13) (N := none) #[true, true, true, true, true, true, true, true, true, true, true, true, true, true] rfl rfl (by kernel_rfl) (by decide) (fun K hK => ?_)
  have e2 := (HS6.out _ hB9).1
  have f2 := blk_frozen (HG7.out.below hB9).blk 2
  refine skip_ (w1 := ?_) (by rfl) rfl ?_ ?_
  rotate_left
  · go_simp
    rfl
  refine hK.out _ _ ?_
  clear hK K
  refine done_ (by kernel_rfl) ?_
  have hG10 := (HG7.out.below hB9).setEn own9
  have hx10 : HBox (w9.setCell ⟨g, 2, none⟩ (.slice A9 (withG sLt (withG sLt s.en h.f0) h.f1).length c9)) z3 h := by
    unfold HBox
    rw [Below.heap_setCell _ _ _ _ (fun e => by
      have h1 := HX7.out.below hB9
      have h2 := (HG7.out.below hB9).blk
      unfold HBox at h1
      rw [e] at h1
      rw [h1] at h2
      injection h2 with h2; injection h2 with _ h2
      exact absurd h2 (by decide))]
    exact HX7.out.below hB9
  have hB10' := (HBB7.out.trans (hB9.mono hB7)).setCell (p := ⟨g, 2, none⟩) HG7.out.hg (.slice A9 (withG sLt (withG sLt s.en h.f0) h.f1).length c9)
  obtain ⟨w10, hw10⟩ : ∃ W, w9.setCell ⟨g, 2, none⟩ (.slice A9 (withG sLt (withG sLt s.en h.f0) h.f1).length c9) = W := ⟨_, rfl⟩
  rw [hw10] at hx10 hB10' hG10 ⊢
  have HG10 := Lib.hid hG10; have HX10 := Lib.hid hx10; have HBB10 := Lib.hid hB10'
  clear hw10 hG10 hx10 hB10' own9 own8 hB9 hB8 hB7 hBd hb9 hb8 e2 f2 hwl
  have hC10 := HG10.out.chr
  rw [show ({ ({ s5 with ow := fun y => if y = h.f1 then some (withG sLt l6 h.f0) else s5.ow y } : Gr) with en := withG sLt (withG sLt s.en h.f0) h.f1 } : Gr).ch = s.ch from HQ5.out.2.2] at hC10
  obtain ⟨A10, c10, hvC, hlc10, hnil10, _⟩ := own_form hC10
  subst hvC
  have HC10 := Lib.hid hC10
  have hB10 : B ≤ w10.heap.size := Nat.le_trans HG10.out.hg (Nat.le_of_lt HG10.out.lt)
  have HS7 := Lib.hid (show ∀ w' : World, Below w10.heap.size w10 w' → w'.cell? ⟨g, 3, none⟩ = some (.slice A10 s.ch.length c10) ∧ w'.cell? ⟨z3, 4, none⟩ = some (.int .i64 h.f3) from fun w' hb => ⟨(HG10.out.below hb).facts.2.2.2, (HX10.out.below hb).facts.2.2.2.2⟩)
  have hBd : Below w10.heap.size w10 w10.drew := (Below.refl _ w10).drew
  obtain ⟨P, hP⟩ : ∃ P, posG iLt s.ch h.f3 = P := ⟨_, rfl⟩
  have hPl : P ≤ s.ch.length := by rw [← hP]; exact posG_le _ _
  have HP := Lib.hid hP
  clear hC10 hP
  go_upto_region 7 with fail
  refine start_ (n := 8) (S := fun w' => w'.cell? ⟨g, 3, none⟩ = some (.slice A10 s.ch.length c10) ∧ w'.cell? ⟨z3, 4, none⟩ = some (.int .i64 h.f3)) (ds := []) #[false, false, false, false, false, false, false, false] (by kernel_rfl) rfl rfl ⟨(HS7.out _ hBd).1, (HS7.out _ hBd).2⟩ (fun hHeld => ?_)
  refine pure_ (i := 0) (N := some 60) (v := ?_) (a' := ?_) #[true, false, false, false, false, false, false, false] rfl rfl (by kernel_rfl) (fun _ _ _ h => h) (Or.inl ⟨by rfl, ?_⟩) ?_ ?_
  rotate_left
  · intro w'
    go_simp
    with_reducible rfl
  rotate_left
  · simp only [Act.put, pkA, pkZ, pkS, i64_w, i32_w]
    rfl
  refine pure_ (i := 1) (N := some 61) (v := ?_) (a' := ?_) #[true, true, false, false, false, false, false, false] rfl rfl (by kernel_rfl) (fun _ _ _ h => h) (Or.inl ⟨by rfl, ?_⟩) ?_ ?_
  rotate_left
  · intro w'
    go_simp
    with_reducible rfl
  rotate_left
  · simp only [Act.put, pkA, pkZ, pkS, i64_w, i32_w]
    rfl
  refine pure_ (i := 2) (N := some 62) (v := ?_) (a' := ?_) #[true, true, true, false, false, false, false, false] rfl rfl (by kernel_rfl) (fun _ _ _ h => h) (Or.inl ⟨by rfl, ?_⟩) ?_ ?_
  rotate_left
  · intro w'
    go_simp
    with_reducible rfl
  rotate_left
  · simp only [Act.put, pkA, pkZ, pkS, i64_w, i32_w]
    rfl
  refine pure_ (i := 4) (N := some 64) (v := ?_) (a' := ?_) #[true, true, true, false, true, false, false, false] rfl rfl (by kernel_rfl) (fun _ _ _ h => h) (Or.inl ⟨by rfl, ?_⟩) ?_ ?_
  rotate_left
  · intro w'
    go_simp
    with_reducible rfl
  rotate_left
  · simp only [Act.put, pkA, pkZ, pkS, i64_w, i32_w]
    rfl
  refine take_ (i := 3) (N := some 63) (v := ?_) (a' := ?_) #[true, true, true, true, true, false, false, false] rfl rfl (by kernel_rfl) (fun _ _ _ h => h) (Or.inl ⟨by rfl, ?_⟩) hHeld ?_ ?_
  rotate_left
  · rintro w' ⟨s0, s1⟩
    go_simp
    with_reducible rfl
  rotate_left
  · simp only [Act.put, pkA, pkZ, pkS, i64_w, i32_w]
    rfl
  refine take_ (i := 5) (N := some 65) (v := ?_) (a' := ?_) #[true, true, true, true, true, true, false, false] rfl rfl (by kernel_rfl) (fun _ _ _ h => h) (Or.inl ⟨by rfl, ?_⟩) hHeld ?_ ?_
  rotate_left
  · rintro w' ⟨s0, s1⟩
    go_simp
    with_reducible rfl
  rotate_left
  · simp only [Act.put, pkA, pkZ, pkS, i64_w, i32_w]
    rfl
  refine one_ (i := 6) (N := some 66) #[true, true, true, true, true, true, true, false] rfl rfl (by kernel_rfl) (by decide) (fun K hK => ?_)
  refine goes_ Tryz.func51 (by kernel_rfl) rfl #[.slice A10 s.ch.length c10, .int .i64 h.f3] (by rfl) rfl rfl (by simp only [List.map_toArray, List.map_cons, List.map_nil]; rfl) ?_
  refine (search_ints s.ch h.f3 (pw_own_below HC10.out hBd) HOK.out.cho (by omega)).mono ?_
  rw [HP.out]
  rintro e w11 ⟨rfl, hb11⟩
  refine ⟨_, rfl, ?_⟩
  have hB11 := hBd.trans (hb11.mono hBd.size)
  refine hK.out _ _ ⟨(HS7.out _ hB11).1, (HS7.out _ hB11).2⟩ (fun hHeld => ?_)
  clear hK K
  refine norm_ (a' := ?_) ?_ ?_
  rotate_left
  · show Act.put _ (some 66) _ = _
    simp only [Act.put, pkA, pkZ, pkS, i64_w, i32_w]
    rfl
  refine pure_ (i := 7) (N := some 6) (v := ?_) (a' := ?_) #[true, true, true, true, true, true, true, true] rfl rfl (by kernel_rfl) (fun _ _ _ h => h) (Or.inl ⟨by rfl, ?_⟩) ?_ ?_
  rotate_left
  · intro w'
    go_simp
    with_reducible rfl
  rotate_left
  · simp only [Act.put, pkA, pkZ, pkS, i64_w, i32_w]
    rfl
  refine done_ (by kernel_rfl) ?_
  have HG12 := Lib.hid (HG10.out.below hB11)
  have HS8 := Lib.hid (show ∀ w' : World, Below w11.heap.size w11 w' → w'.cell? ⟨g, 3, none⟩ = some (.slice A10 s.ch.length c10) ∧ w'.cell? ⟨z3, 4, none⟩ = some (.int .i64 h.f3) from fun w' hb => HS7.out w' (hB11.trans (hb.mono hB11.size)))
  have HBB12 := Lib.hid (HBB10.out.trans (hB11.mono hB10))
  have HC12 := Lib.hid (pw_own_below HC10.out hB11)
  have HSUM := Lib.hid (show ∀ ch', ch' = withG iLt s.ch h.f3 → ({ ({ ({ s5 with ow := fun y => if y = h.f1 then some (withG sLt l6 h.f0) else s5.ow y } : Gr) with en := withG sLt (withG sLt s.en h.f0) h.f1 } : Gr) with ch := ch' } : Gr) = addG s h from fun ch' hch => by
    rw [hch, ← HE5.out]
    unfold addG
    rw [HL6.out, HLE.out])
  have HSUM2 := Lib.hid (show ({ ({ s5 with ow := fun y => if y = h.f1 then some (withG sLt l6 h.f0) else s5.ow y } : Gr) with en := withG sLt (withG sLt s.en h.f0) h.f1 } : Gr).ch = s.ch from HQ5.out.2.2)
  obtain ⟨sx, hsx⟩ : ∃ sx : Gr, ({ ({ s5 with ow := fun y => if y = h.f1 then some (withG sLt l6 h.f0) else s5.ow y } : Gr) with en := withG sLt (withG sLt s.en h.f0) h.f1 } : Gr) = sx := ⟨_, rfl⟩
  rw [hsx] at HG12 HSUM HSUM2
  clear hsx
  obtain ⟨w12, hw12⟩ : ∃ W, w11 = W := ⟨_, rfl⟩
  rw [hw12] at HG12 HS8 HBB12 HC12 ⊢
  clear hBd hw12 hb11 hB11
  have hBd : Below w12.heap.size w12 w12.drew := (Below.refl _ w12).drew
  have hB12 : B ≤ w12.heap.size := Nat.le_trans HG12.out.hg (Nat.le_of_lt HG12.out.lt)
  go_upto_region 8 with fail
  by_cases hsame : s.ch[P]? = some h.f3
  · have hlt : P < s.ch.length := (List.getElem?_eq_some_iff.1 hsame).1
    obtain ⟨gc, hAc, hgc, q0⟩ := own_int_at HC12.out P hlt
    subst hAc
    rw [(List.getElem?_eq_some_iff.1 hsame).2] at q0
    have HT := Lib.hid (HSUM.out s.ch (by unfold withG; rw [HP.out, if_pos hsame]))
    have hPi : (P : Int) < (s.ch.length : Int) := by omega
    have hPb : ((P : Int) == (s.ch.length : Int)) = false := by simp; omega
    have hPn : (P == s.ch.length) = false := by simp; omega
    clear hsame
    refine start_ (n := 19) (S := fun w' => w'.cell? ⟨g, 3, none⟩ = some (.slice (some ⟨gc, 0, none⟩) s.ch.length c10) ∧ w'.cell? ⟨z3, 4, none⟩ = some (.int .i64 h.f3) ∧ w'.cell? ⟨gc, P, none⟩ = some (.int .i64 h.f3)) (ds := []) #[false, false, false, false, false, false, false, false, false, false, false, false, false, false, false, false, false, false, false] (by kernel_rfl) rfl rfl ⟨(HS8.out _ hBd).1, (HS8.out _ hBd).2, q0⟩ (fun hHeld => ?_)
    refine pure_ (i := 0) (N := some 67) (v := ?_) (a' := ?_) #[true, false, false, false, false, false, false, false, false, false, false, false, false, false, false, false, false, false, false] rfl rfl (by kernel_rfl) (fun _ _ _ h => h) (Or.inl ⟨by rfl, ?_⟩) ?_ ?_
    rotate_left
    · intro w'
      go_simp
      with_reducible rfl
    rotate_left
    · simp only [Act.put, pkA, pkZ, pkS, i64_w, i32_w]
      rfl
    refine pure_ (i := 1) (N := some 68) (v := ?_) (a' := ?_) #[true, true, false, false, false, false, false, false, false, false, false, false, false, false, false, false, false, false, false] rfl rfl (by kernel_rfl) (fun _ _ _ h => h) (Or.inl ⟨by rfl, ?_⟩) ?_ ?_
    rotate_left
    · intro w'
      go_simp
      with_reducible rfl
    rotate_left
    · simp only [Act.put, pkA, pkZ, pkS, i64_w, i32_w]
      rfl
    refine pure_ (i := 2) (N := some 69) (v := ?_) (a' := ?_) #[true, true, true, false, false, false, false, false, false, false, false, false, false, false, false, false, false, false, false] rfl rfl (by kernel_rfl) (fun _ _ _ h => h) (Or.inl ⟨by rfl, ?_⟩) ?_ ?_
    rotate_left
    · intro w'
      go_simp
      with_reducible rfl
    rotate_left
    · simp only [Act.put, pkA, pkZ, pkS, i64_w, i32_w]
      rfl
    refine pure_ (i := 3) (N := some 70) (v := ?_) (a' := ?_) #[true, true, true, true, false, false, false, false, false, false, false, false, false, false, false, false, false, false, false] rfl rfl (by kernel_rfl) (fun _ _ _ h => h) (Or.inl ⟨by rfl, ?_⟩) ?_ ?_
    rotate_left
    · intro w'
      go_simp
      with_reducible rfl
    rotate_left
    · simp only [Act.put, pkA, pkZ, pkS, i64_w, i32_w]
      rfl
    refine take_ (i := 4) (N := some 71) (v := ?_) (a' := ?_) #[true, true, true, true, true, false, false, false, false, false, false, false, false, false, false, false, false, false, false] rfl rfl (by kernel_rfl) (fun _ _ _ h => h) (Or.inl ⟨by rfl, ?_⟩) hHeld ?_ ?_
    rotate_left
    · rintro w' ⟨s0, s1, s2⟩
      go_simp
      with_reducible rfl
    rotate_left
    · simp only [Act.put, pkA, pkZ, pkS, i64_w, i32_w]
      rfl
    refine pure_ (i := 5) (N := some 72) (v := ?_) (a' := ?_) #[true, true, true, true, true, true, false, false, false, false, false, false, false, false, false, false, false, false, false] rfl rfl (by kernel_rfl) (fun _ _ _ h => h) (Or.inl ⟨by rfl, ?_⟩) ?_ ?_
    rotate_left
    · intro w'
      go_simp
      with_reducible rfl
    rotate_left
    · simp only [Act.put, pkA, pkZ, pkS, i64_w, i32_w]
      rfl
    refine pure_ (i := 6) (N := some 73) (v := ?_) (a' := ?_) #[true, true, true, true, true, true, true, false, false, false, false, false, false, false, false, false, false, false, false] rfl rfl (by kernel_rfl) (fun _ _ _ h => h) (Or.inl ⟨by rfl, ?_⟩) ?_ ?_
    rotate_left
    · intro w'
      go_simp
      with_reducible rfl
    rotate_left
    · simp only [Act.put, pkA, pkZ, pkS, i64_w, i32_w]
      rfl
    refine pure_ (i := 7) (N := some 74) (v := ?_) (a' := ?_) #[true, true, true, true, true, true, true, true, false, false, false, false, false, false, false, false, false, false, false] rfl rfl (by kernel_rfl) (fun _ _ _ h => h) (Or.inl ⟨by rfl, ?_⟩) ?_ ?_
    rotate_left
    · intro w'
      go_simp
      with_reducible rfl
    rotate_left
    · simp only [Act.put, pkA, pkZ, pkS, i64_w, i32_w]
      rfl
    refine pure_ (i := 8) (N := some 75) (v := ?_) (a' := ?_) #[true, true, true, true, true, true, true, true, true, false, false, false, false, false, false, false, false, false, false] rfl rfl (by kernel_rfl) (fun _ _ _ h => h) (Or.inl ⟨by rfl, ?_⟩) ?_ ?_
    rotate_left
    · intro w'
      go_simp
      with_reducible rfl
    rotate_left
    · simp only [Act.put, pkA, pkZ, pkS, i64_w, i32_w]
      rfl
    refine pure_ (i := 9) (N := some 76) (v := ?_) (a' := ?_) #[true, true, true, true, true, true, true, true, true, true, false, false, false, false, false, false, false, false, false] rfl rfl (by kernel_rfl) (fun _ _ _ h => h) (Or.inl ⟨by rfl, ?_⟩) ?_ ?_
    rotate_left
    · intro w'
      go_simp
      with_reducible rfl
    rotate_left
    · simp only [Act.put, pkA, pkZ, pkS, i64_w, i32_w]
      rfl
    refine pure_ (i := 10) (N := some 77) (v := ?_) (a' := ?_) #[true, true, true, true, true, true, true, true, true, true, true, false, false, false, false, false, false, false, false] rfl rfl (by kernel_rfl) (fun _ _ _ h => h) (Or.inl ⟨by rfl, ?_⟩) ?_ ?_
    rotate_left
    · intro w'
      go_simp
      with_reducible rfl
    rotate_left
    · simp only [Act.put, pkA, pkZ, pkS, i64_w, i32_w]
      rfl
    refine pure_ (i := 12) (N := some 79) (v := ?_) (a' := ?_) #[true, true, true, true, true, true, true, true, true, true, true, false, true, false, false, false, false, false, false] rfl rfl (by kernel_rfl) (fun _ _ _ h => h) (Or.inl ⟨by rfl, ?_⟩) ?_ ?_
    rotate_left
    · intro w'
      go_simp
      with_reducible rfl
    rotate_left
    · simp only [Act.put, pkA, pkZ, pkS, i64_w, i32_w]
      rfl
    refine pure_ (i := 15) (N := some 82) (v := ?_) (a' := ?_) #[true, true, true, true, true, true, true, true, true, true, true, false, true, false, false, true, false, false, false] rfl rfl (by kernel_rfl) (fun _ _ _ h => h) (Or.inl ⟨by rfl, ?_⟩) ?_ ?_
    rotate_left
    · intro w'
      go_simp
      with_reducible rfl
    rotate_left
    · simp only [Act.put, pkA, pkZ, pkS, i64_w, i32_w]
      rfl
    refine take_ (i := 11) (N := some 78) (v := ?_) (a' := ?_) #[true, true, true, true, true, true, true, true, true, true, true, true, true, false, false, true, false, false, false] rfl rfl (by kernel_rfl) (fun _ _ _ h => h) (Or.inl ⟨by rfl, ?_⟩) hHeld ?_ ?_
    rotate_left
    · rintro w' ⟨s0, s1, s2⟩
      go_simp
      with_reducible rfl
    rotate_left
    · simp only [Act.put, pkA, pkZ, pkS, i64_w, i32_w]
      rfl
    refine pure_ (i := 13) (N := some 80) (v := ?_) (a' := ?_) #[true, true, true, true, true, true, true, true, true, true, true, true, true, true, false, true, false, false, false] rfl rfl (by kernel_rfl) (fun _ _ _ h => h) (Or.inl ⟨by rfl, ?_⟩) ?_ ?_
    rotate_left
    · intro w'
      go_simp
      with_reducible rfl
    rotate_left
    · simp only [Act.put, pkA, pkZ, pkS, i64_w, i32_w]
      rfl
    refine take_ (i := 14) (N := some 81) (v := ?_) (a' := ?_) #[true, true, true, true, true, true, true, true, true, true, true, true, true, true, true, true, false, false, false] rfl rfl (by kernel_rfl) (fun _ _ _ h => h) (Or.inl ⟨by rfl, ?_⟩) hHeld ?_ ?_
    rotate_left
    · rintro w' ⟨s0, s1, s2⟩
      go_simp
      with_reducible rfl
    rotate_left
    · simp only [Act.put, pkA, pkZ, pkS, i64_w, i32_w]
      rfl
    refine take_ (i := 16) (N := some 83) (v := ?_) (a' := ?_) #[true, true, true, true, true, true, true, true, true, true, true, true, true, true, true, true, true, false, false] rfl rfl (by kernel_rfl) (fun _ _ _ h => h) (Or.inl ⟨by rfl, ?_⟩) hHeld ?_ ?_
    rotate_left
    · rintro w' ⟨s0, s1, s2⟩
      go_simp
      with_reducible rfl
    rotate_left
    · simp only [Act.put, pkA, pkZ, pkS, i64_w, i32_w]
      rfl
    refine pure_ (i := 17) (N := some 84) (v := ?_) (a' := ?_) #[true, true, true, true, true, true, true, true, true, true, true, true, true, true, true, true, true, true, false] rfl rfl (by kernel_rfl) (fun _ _ _ h => h) (Or.inl ⟨by rfl, ?_⟩) ?_ ?_
    rotate_left
    · intro w'
      go_simp
      with_reducible rfl
    rotate_left
    · simp only [Act.put, pkA, pkZ, pkS, i64_w, i32_w]
      rfl
    refine pure_ (i := 18) (N := some 85) (v := ?_) (a' := ?_) #[true, true, true, true, true, true, true, true, true, true, true, true, true, true, true, true, true, true, true] rfl rfl (by kernel_rfl) (fun _ _ _ h => h) (Or.inl ⟨by rfl, ?_⟩) ?_ ?_
    rotate_left
    · intro w'
      go_simp
      with_reducible rfl
    rotate_left
    · simp only [Act.put, pkA, pkZ, pkS, i64_w, i32_w]
      rfl
    refine done_ (by kernel_rfl) ?_
    go_wp2
    have he : sx = addG s h := by rw [← HT.out, ← HSUM2.out]
    refine bodyPost_end (v := .tuple #[]) (by simp [results, Tryz.results30, go_sem]) rfl ⟨rfl, _, _, _, _, he ▸ HG12.out.below hBd, HBB12.out.trans (hBd.mono hB12)⟩
  · obtain ⟨i1, hj0, hj1, hj2, hj3⟩ := info_parts info_int_
    have HL := Lib.hid (show withG iLt s.ch h.f3 = s.ch.take P ++ h.f3 :: s.ch.drop P by unfold withG insG; rw [HP.out, if_neg hsame])
    have hcf := cut_full (P := Tryz.prog) 60 3 Tryz.underlying60 hj0 A10 s.ch.length c10 (P : Int) (by omega) (by omega)
    have hcd := cut_from (P := Tryz.prog) 60 3 .i64 Tryz.underlying60 hj0 1 hj2 A10 s.ch.length c10 (P : Int) (by omega) (by omega)
    rw [Int.toNat_natCast] at hcf hcd
    rw [Nat.mul_one] at hcd
    obtain ⟨D, hD⟩ : ∃ D, (if c10 = P then A10 else A10.map (·.add P)) = D := ⟨_, rfl⟩
    rw [hD] at hcd
    have TAKE := Lib.hid (show ∀ W, Below w12.heap.size w12 W → ∀ j u, (intVs (s.ch.take P))[j]? = some u → ∃ ad, A10 = some ad ∧ W.cell? (ad.add j) = some u from fun W hW => by
      have := own_news_take (W := W) HC12.out hPl (fun g hg => hW.block g (own_lt HC12.out g hg))
      rw [Nat.mul_one] at this
      unfold intVs at this ⊢
      rw [← List.map_take] at this
      exact this)
    have DROP := Lib.hid (show ∀ W, Below w12.heap.size w12 W → ∀ j u, (intVs (s.ch.drop P))[j]? = some u → ∃ ad, D = some ad ∧ W.cell? (ad.add j) = some u from fun W hW => by
      have := own_news_drop (W := W) HC12.out hPl (fun g hg => hW.block g (own_lt HC12.out g hg))
      unfold intVs at this ⊢
      rw [Nat.mul_one, ← List.map_drop, hD] at this
      exact this)
    have hnone : A10 = none → P = 0 := fun h => by have := (hnil10 h).1; omega
    have HEND := Lib.hid (show ∀ (v32 : Value) (w32 : World), w32.ownsRow w12.heap.size 3 1 v32 (P + 1 + (s.ch.length - P)) (intVs (s.ch.take P) ++ [.int .i64 h.f3] ++ intVs (s.ch.drop P)) → w32.ownsRow B 3 1 v32 (withG iLt s.ch h.f3).length (intVs (withG iLt s.ch h.f3)) from fun v32 w32 hw => by
      rw [HL.out]
      have e1 : (s.ch.take P ++ h.f3 :: s.ch.drop P).length = P + 1 + (s.ch.length - P) := by simp; omega
      have e2 : intVs (s.ch.take P ++ h.f3 :: s.ch.drop P) = intVs (s.ch.take P) ++ [.int .i64 h.f3] ++ intVs (s.ch.drop P) := by simp [intVs]
      rw [e1, e2]
      exact own_lower_ hw hB12)
    have HCUT := Lib.hid (show ∀ i (h : i < s.ch.length), ∃ g, A10 = some ⟨g, 0, none⟩ ∧ w12.cell? ⟨g, i, none⟩ = some (.int .i64 s.ch[i]) from fun i hi => by obtain ⟨g, h1, _, h2⟩ := own_int_at HC12.out i hi; exact ⟨g, h1, h2⟩)
    have HT := Lib.hid (HSUM.out _ rfl)
    have HFIN := Lib.hid (show ∀ (A32 : Option Addr) (n32 c32 : Nat) (W : World), Below w12.heap.size w12 W → W.ownsRow w12.heap.size 3 1 (.slice A32 n32 c32) (P + 1 + (s.ch.length - P)) (intVs (s.ch.take P) ++ [.int .i64 h.f3] ++ intVs (s.ch.drop P)) → AddPost B g m1 m2 (addG s h) w (W.setCell ⟨g, 3, none⟩ (.slice A32 n32 c32)) from fun A32 n32 c32 W hW ho => by
      have h1 := (HG12.out.below hW).setCh (HEND.out _ _ ho)
      rw [HT.out] at h1
      exact ⟨_, _, _, _, h1, (HBB12.out.trans (hW.mono hB12)).setCell (p := ⟨g, 3, none⟩) HG12.out.hg _⟩)
    clear hD hnil10
    by_cases hlt : P < s.ch.length
    · obtain ⟨gc, hAc, q0⟩ := HCUT.out P hlt
      subst hAc
      obtain ⟨y, hye⟩ : ∃ y, s.ch[P] = y := ⟨_, rfl⟩
      have hne : y ≠ h.f3 := fun e => hsame (by rw [List.getElem?_eq_getElem hlt, hye, e])
      have hneb : (y == h.f3) = false := by simp [hne]
      have hneb2 : (y != h.f3) = true := by simp [hne]
      rw [hye] at q0
      have hPi : (P : Int) < (s.ch.length : Int) := by omega
      have hPb : ((P : Int) == (s.ch.length : Int)) = false := by simp; omega
      have hPn : (P == s.ch.length) = false := by simp; omega
      clear hsame hne hye
      refine start_ (n := 19) (S := fun w' => w'.cell? ⟨g, 3, none⟩ = some (.slice (some ⟨gc, 0, none⟩) s.ch.length c10) ∧ w'.cell? ⟨z3, 4, none⟩ = some (.int .i64 h.f3) ∧ w'.cell? ⟨gc, P, none⟩ = some (.int .i64 y)) (ds := []) #[false, false, false, false, false, false, false, false, false, false, false, false, false, false, false, false, false, false, false] (by kernel_rfl) rfl rfl ⟨(HS8.out _ hBd).1, (HS8.out _ hBd).2, q0⟩ (fun hHeld => ?_)
      refine pure_ (i := 0) (N := some 67) (v := ?_) (a' := ?_) #[true, false, false, false, false, false, false, false, false, false, false, false, false, false, false, false, false, false, false] rfl rfl (by kernel_rfl) (fun _ _ _ h => h) (Or.inl ⟨by rfl, ?_⟩) ?_ ?_
      rotate_left
      · intro w'
        go_simp
        with_reducible rfl
      rotate_left
      · simp only [Act.put, pkA, pkZ, pkS, i64_w, i32_w]
        rfl
      refine pure_ (i := 1) (N := some 68) (v := ?_) (a' := ?_) #[true, true, false, false, false, false, false, false, false, false, false, false, false, false, false, false, false, false, false] rfl rfl (by kernel_rfl) (fun _ _ _ h => h) (Or.inl ⟨by rfl, ?_⟩) ?_ ?_
      rotate_left
      · intro w'
        go_simp
        with_reducible rfl
      rotate_left
      · simp only [Act.put, pkA, pkZ, pkS, i64_w, i32_w]
        rfl
      refine pure_ (i := 2) (N := some 69) (v := ?_) (a' := ?_) #[true, true, true, false, false, false, false, false, false, false, false, false, false, false, false, false, false, false, false] rfl rfl (by kernel_rfl) (fun _ _ _ h => h) (Or.inl ⟨by rfl, ?_⟩) ?_ ?_
      rotate_left
      · intro w'
        go_simp
        with_reducible rfl
      rotate_left
      · simp only [Act.put, pkA, pkZ, pkS, i64_w, i32_w]
        rfl
      refine pure_ (i := 3) (N := some 70) (v := ?_) (a' := ?_) #[true, true, true, true, false, false, false, false, false, false, false, false, false, false, false, false, false, false, false] rfl rfl (by kernel_rfl) (fun _ _ _ h => h) (Or.inl ⟨by rfl, ?_⟩) ?_ ?_
      rotate_left
      · intro w'
        go_simp
        with_reducible rfl
      rotate_left
      · simp only [Act.put, pkA, pkZ, pkS, i64_w, i32_w]
        rfl
      refine take_ (i := 4) (N := some 71) (v := ?_) (a' := ?_) #[true, true, true, true, true, false, false, false, false, false, false, false, false, false, false, false, false, false, false] rfl rfl (by kernel_rfl) (fun _ _ _ h => h) (Or.inl ⟨by rfl, ?_⟩) hHeld ?_ ?_
      rotate_left
      · rintro w' ⟨s0, s1, s2⟩
        go_simp
        with_reducible rfl
      rotate_left
      · simp only [Act.put, pkA, pkZ, pkS, i64_w, i32_w]
        rfl
      refine pure_ (i := 5) (N := some 72) (v := ?_) (a' := ?_) #[true, true, true, true, true, true, false, false, false, false, false, false, false, false, false, false, false, false, false] rfl rfl (by kernel_rfl) (fun _ _ _ h => h) (Or.inl ⟨by rfl, ?_⟩) ?_ ?_
      rotate_left
      · intro w'
        go_simp
        with_reducible rfl
      rotate_left
      · simp only [Act.put, pkA, pkZ, pkS, i64_w, i32_w]
        rfl
      refine pure_ (i := 6) (N := some 73) (v := ?_) (a' := ?_) #[true, true, true, true, true, true, true, false, false, false, false, false, false, false, false, false, false, false, false] rfl rfl (by kernel_rfl) (fun _ _ _ h => h) (Or.inl ⟨by rfl, ?_⟩) ?_ ?_
      rotate_left
      · intro w'
        go_simp
        with_reducible rfl
      rotate_left
      · simp only [Act.put, pkA, pkZ, pkS, i64_w, i32_w]
        rfl
      refine pure_ (i := 7) (N := some 74) (v := ?_) (a' := ?_) #[true, true, true, true, true, true, true, true, false, false, false, false, false, false, false, false, false, false, false] rfl rfl (by kernel_rfl) (fun _ _ _ h => h) (Or.inl ⟨by rfl, ?_⟩) ?_ ?_
      rotate_left
      · intro w'
        go_simp
        with_reducible rfl
      rotate_left
      · simp only [Act.put, pkA, pkZ, pkS, i64_w, i32_w]
        rfl
      refine pure_ (i := 8) (N := some 75) (v := ?_) (a' := ?_) #[true, true, true, true, true, true, true, true, true, false, false, false, false, false, false, false, false, false, false] rfl rfl (by kernel_rfl) (fun _ _ _ h => h) (Or.inl ⟨by rfl, ?_⟩) ?_ ?_
      rotate_left
      · intro w'
        go_simp
        with_reducible rfl
      rotate_left
      · simp only [Act.put, pkA, pkZ, pkS, i64_w, i32_w]
        rfl
      refine pure_ (i := 9) (N := some 76) (v := ?_) (a' := ?_) #[true, true, true, true, true, true, true, true, true, true, false, false, false, false, false, false, false, false, false] rfl rfl (by kernel_rfl) (fun _ _ _ h => h) (Or.inl ⟨by rfl, ?_⟩) ?_ ?_
      rotate_left
      · intro w'
        go_simp
        with_reducible rfl
      rotate_left
      · simp only [Act.put, pkA, pkZ, pkS, i64_w, i32_w]
        rfl
      refine pure_ (i := 10) (N := some 77) (v := ?_) (a' := ?_) #[true, true, true, true, true, true, true, true, true, true, true, false, false, false, false, false, false, false, false] rfl rfl (by kernel_rfl) (fun _ _ _ h => h) (Or.inl ⟨by rfl, ?_⟩) ?_ ?_
      rotate_left
      · intro w'
        go_simp
        with_reducible rfl
      rotate_left
      · simp only [Act.put, pkA, pkZ, pkS, i64_w, i32_w]
        rfl
      refine pure_ (i := 12) (N := some 79) (v := ?_) (a' := ?_) #[true, true, true, true, true, true, true, true, true, true, true, false, true, false, false, false, false, false, false] rfl rfl (by kernel_rfl) (fun _ _ _ h => h) (Or.inl ⟨by rfl, ?_⟩) ?_ ?_
      rotate_left
      · intro w'
        go_simp
        with_reducible rfl
      rotate_left
      · simp only [Act.put, pkA, pkZ, pkS, i64_w, i32_w]
        rfl
      refine pure_ (i := 15) (N := some 82) (v := ?_) (a' := ?_) #[true, true, true, true, true, true, true, true, true, true, true, false, true, false, false, true, false, false, false] rfl rfl (by kernel_rfl) (fun _ _ _ h => h) (Or.inl ⟨by rfl, ?_⟩) ?_ ?_
      rotate_left
      · intro w'
        go_simp
        with_reducible rfl
      rotate_left
      · simp only [Act.put, pkA, pkZ, pkS, i64_w, i32_w]
        rfl
      refine take_ (i := 11) (N := some 78) (v := ?_) (a' := ?_) #[true, true, true, true, true, true, true, true, true, true, true, true, true, false, false, true, false, false, false] rfl rfl (by kernel_rfl) (fun _ _ _ h => h) (Or.inl ⟨by rfl, ?_⟩) hHeld ?_ ?_
      rotate_left
      · rintro w' ⟨s0, s1, s2⟩
        go_simp
        with_reducible rfl
      rotate_left
      · simp only [Act.put, pkA, pkZ, pkS, i64_w, i32_w]
        rfl
      refine pure_ (i := 13) (N := some 80) (v := ?_) (a' := ?_) #[true, true, true, true, true, true, true, true, true, true, true, true, true, true, false, true, false, false, false] rfl rfl (by kernel_rfl) (fun _ _ _ h => h) (Or.inl ⟨by rfl, ?_⟩) ?_ ?_
      rotate_left
      · intro w'
        go_simp
        with_reducible rfl
      rotate_left
      · simp only [Act.put, pkA, pkZ, pkS, i64_w, i32_w]
        rfl
      refine take_ (i := 14) (N := some 81) (v := ?_) (a' := ?_) #[true, true, true, true, true, true, true, true, true, true, true, true, true, true, true, true, false, false, false] rfl rfl (by kernel_rfl) (fun _ _ _ h => h) (Or.inl ⟨by rfl, ?_⟩) hHeld ?_ ?_
      rotate_left
      · rintro w' ⟨s0, s1, s2⟩
        go_simp
        with_reducible rfl
      rotate_left
      · simp only [Act.put, pkA, pkZ, pkS, i64_w, i32_w]
        rfl
      refine take_ (i := 16) (N := some 83) (v := ?_) (a' := ?_) #[true, true, true, true, true, true, true, true, true, true, true, true, true, true, true, true, true, false, false] rfl rfl (by kernel_rfl) (fun _ _ _ h => h) (Or.inl ⟨by rfl, ?_⟩) hHeld ?_ ?_
      rotate_left
      · rintro w' ⟨s0, s1, s2⟩
        go_simp
        with_reducible rfl
      rotate_left
      · simp only [Act.put, pkA, pkZ, pkS, i64_w, i32_w]
        rfl
      refine pure_ (i := 17) (N := some 84) (v := ?_) (a' := ?_) #[true, true, true, true, true, true, true, true, true, true, true, true, true, true, true, true, true, true, false] rfl rfl (by kernel_rfl) (fun _ _ _ h => h) (Or.inl ⟨by rfl, ?_⟩) ?_ ?_
      rotate_left
      · intro w'
        go_simp
        with_reducible rfl
      rotate_left
      · simp only [Act.put, pkA, pkZ, pkS, i64_w, i32_w]
        rfl
      refine pure_ (i := 18) (N := some 85) (v := ?_) (a' := ?_) #[true, true, true, true, true, true, true, true, true, true, true, true, true, true, true, true, true, true, true] rfl rfl (by kernel_rfl) (fun _ _ _ h => h) (Or.inl ⟨by rfl, ?_⟩) ?_ ?_
      rotate_left
      · intro w'
        go_simp
        with_reducible rfl
      rotate_left
      · simp only [Act.put, pkA, pkZ, pkS, i64_w, i32_w]
        rfl
      refine done_ (by kernel_rfl) ?_
      go_upto_region 9 with fail
      have hBd9 := hBd.trans ((Below.refl _ w12.drew).drew.mono hBd.size)
      refine start_ (n := 22) (S := fun w' => w'.cell? ⟨g, 3, none⟩ = some (.slice (some ⟨gc, 0, none⟩) s.ch.length c10) ∧ w'.cell? ⟨z3, 4, none⟩ = some (.int .i64 h.f3)) (ds := [21]) #[false, false, false, false, false, false, false, false, false, false, false, false, false, false, false, false, false, false, false, false, false, false] (by kernel_rfl) rfl rfl ⟨(HS8.out _ hBd9).1, (HS8.out _ hBd9).2⟩ (fun hHeld => ?_)
      refine pure_ (i := 0) (N := some 86) (v := ?_) (a' := ?_) #[true, false, false, false, false, false, false, false, false, false, false, false, false, false, false, false, false, false, false, false, false, false] rfl rfl (by kernel_rfl) (fun _ _ _ h => h) (Or.inl ⟨by rfl, ?_⟩) ?_ ?_
      rotate_left
      · intro w'
        go_simp
        with_reducible rfl
      rotate_left
      · simp only [Act.put, pkA, pkZ, pkS, i64_w, i32_w]
        rfl
      refine pure_ (i := 1) (N := some 87) (v := ?_) (a' := ?_) #[true, true, false, false, false, false, false, false, false, false, false, false, false, false, false, false, false, false, false, false, false, false] rfl rfl (by kernel_rfl) (fun _ _ _ h => h) (Or.inl ⟨by rfl, ?_⟩) ?_ ?_
      rotate_left
      · intro w'
        go_simp
        with_reducible rfl
      rotate_left
      · simp only [Act.put, pkA, pkZ, pkS, i64_w, i32_w]
        rfl
      refine pure_ (i := 2) (N := some 88) (v := ?_) (a' := ?_) #[true, true, true, false, false, false, false, false, false, false, false, false, false, false, false, false, false, false, false, false, false, false] rfl rfl (by kernel_rfl) (fun _ _ _ h => h) (Or.inl ⟨by rfl, ?_⟩) ?_ ?_
      rotate_left
      · intro w'
        go_simp
        with_reducible rfl
      rotate_left
      · simp only [Act.put, pkA, pkZ, pkS, i64_w, i32_w]
        rfl
      refine pure_ (i := 3) (N := some 89) (v := ?_) (a' := ?_) #[true, true, true, true, false, false, false, false, false, false, false, false, false, false, false, false, false, false, false, false, false, false] rfl rfl (by kernel_rfl) (fun _ _ _ h => h) (Or.inl ⟨by rfl, ?_⟩) ?_ ?_
      rotate_left
      · intro w'
        go_simp
        with_reducible rfl
      rotate_left
      · simp only [Act.put, pkA, pkZ, pkS, i64_w, i32_w]
        rfl
      refine pure_ (i := 5) (N := some 91) (v := ?_) (a' := ?_) #[true, true, true, true, false, true, false, false, false, false, false, false, false, false, false, false, false, false, false, false, false, false] rfl rfl (by kernel_rfl) (fun _ _ _ h => h) (Or.inl ⟨by rfl, ?_⟩) ?_ ?_
      rotate_left
      · intro w'
        go_simp
        with_reducible rfl
      rotate_left
      · simp only [Act.put, pkA, pkZ, pkS, i64_w, i32_w]
        rfl
      refine pure_ (i := 6) (N := some 92) (v := ?_) (a' := ?_) #[true, true, true, true, false, true, true, false, false, false, false, false, false, false, false, false, false, false, false, false, false, false] rfl rfl (by kernel_rfl) (fun _ _ _ h => h) (Or.inl ⟨by rfl, ?_⟩) ?_ ?_
      rotate_left
      · intro w'
        go_simp
        with_reducible rfl
      rotate_left
      · simp only [Act.put, pkA, pkZ, pkS, i64_w, i32_w]
        rfl
      refine pure_ (i := 8) (N := some 94) (v := ?_) (a' := ?_) #[true, true, true, true, false, true, true, false, true, false, false, false, false, false, false, false, false, false, false, false, false, false] rfl rfl (by kernel_rfl) (fun _ _ _ h => h) (Or.inl ⟨by rfl, ?_⟩) ?_ ?_
      rotate_left
      · intro w'
        go_simp
        with_reducible rfl
      rotate_left
      · simp only [Act.put, pkA, pkZ, pkS, i64_w, i32_w]
        rfl
      refine pure_ (i := 12) (N := some 98) (v := ?_) (a' := ?_) #[true, true, true, true, false, true, true, false, true, false, false, false, true, false, false, false, false, false, false, false, false, false] rfl rfl (by kernel_rfl) (fun _ _ _ h => h) (Or.inl ⟨by rfl, ?_⟩) ?_ ?_
      rotate_left
      · intro w'
        go_simp
        with_reducible rfl
      rotate_left
      · simp only [Act.put, pkA, pkZ, pkS, i64_w, i32_w]
        rfl
      refine pure_ (i := 13) (N := some 99) (v := ?_) (a' := ?_) #[true, true, true, true, false, true, true, false, true, false, false, false, true, true, false, false, false, false, false, false, false, false] rfl rfl (by kernel_rfl) (fun _ _ _ h => h) (Or.inl ⟨by rfl, ?_⟩) ?_ ?_
      rotate_left
      · intro w'
        go_simp
        with_reducible rfl
      rotate_left
      · simp only [Act.put, pkA, pkZ, pkS, i64_w, i32_w]
        rfl
      refine pure_ (i := 14) (N := some 100) (v := ?_) (a' := ?_) #[true, true, true, true, false, true, true, false, true, false, false, false, true, true, true, false, false, false, false, false, false, false] rfl rfl (by kernel_rfl) (fun _ _ _ h => h) (Or.inl ⟨by rfl, ?_⟩) ?_ ?_
      rotate_left
      · intro w'
        go_simp
        with_reducible rfl
      rotate_left
      · simp only [Act.put, pkA, pkZ, pkS, i64_w, i32_w]
        rfl
      refine pure_ (i := 16) (N := some 102) (v := ?_) (a' := ?_) #[true, true, true, true, false, true, true, false, true, false, false, false, true, true, true, false, true, false, false, false, false, false] rfl rfl (by kernel_rfl) (fun _ _ _ h => h) (Or.inl ⟨by rfl, ?_⟩) ?_ ?_
      rotate_left
      · intro w'
        go_simp
        with_reducible rfl
      rotate_left
      · simp only [Act.put, pkA, pkZ, pkS, i64_w, i32_w]
        rfl
      refine take_ (i := 4) (N := some 90) (v := ?_) (a' := ?_) #[true, true, true, true, true, true, true, false, true, false, false, false, true, true, true, false, true, false, false, false, false, false] rfl rfl (by kernel_rfl) (fun _ _ _ h => h) (Or.inl ⟨by rfl, ?_⟩) hHeld ?_ ?_
      rotate_left
      · rintro w' ⟨s0, s1⟩
        go_simp
        with_reducible rfl
      rotate_left
      · simp only [Act.put, pkA, pkZ, pkS, i64_w, i32_w]
        rfl
      refine pure_ (i := 7) (N := some 93) (v := ?_) (a' := ?_) #[true, true, true, true, true, true, true, true, true, false, false, false, true, true, true, false, true, false, false, false, false, false] rfl rfl (by kernel_rfl) (fun _ _ _ h => h) (Or.inl ⟨by rfl, ?_⟩) ?_ ?_
      rotate_left
      · intro w'
        go_simp
        with_reducible rfl
      rotate_left
      · simp only [Act.put, pkA, pkZ, pkS, i64_w, i32_w]
        rfl
      refine take_ (i := 9) (N := some 95) (v := ?_) (a' := ?_) #[true, true, true, true, true, true, true, true, true, true, false, false, true, true, true, false, true, false, false, false, false, false] rfl rfl (by kernel_rfl) (fun _ _ _ h => h) (Or.inl ⟨by rfl, ?_⟩) hHeld ?_ ?_
      rotate_left
      · rintro w' ⟨s0, s1⟩
        go_simp
        with_reducible rfl
      rotate_left
      · simp only [Act.put, pkA, pkZ, pkS, i64_w, i32_w]
        rfl
      refine take_ (i := 15) (N := some 101) (v := ?_) (a' := ?_) #[true, true, true, true, true, true, true, true, true, true, false, false, true, true, true, true, true, false, false, false, false, false] rfl rfl (by kernel_rfl) (fun _ _ _ h => h) (Or.inl ⟨by rfl, ?_⟩) hHeld ?_ ?_
      rotate_left
      · rintro w' ⟨s0, s1⟩
        go_simp
        with_reducible rfl
      rotate_left
      · simp only [Act.put, pkA, pkZ, pkS, i64_w, i32_w]
        rfl
      refine pure_ (i := 17) (N := some 103) (v := ?_) (a' := ?_) #[true, true, true, true, true, true, true, true, true, true, false, false, true, true, true, true, true, true, false, false, false, false] rfl rfl (by kernel_rfl) (fun _ _ _ h => h) (Or.inl ⟨by rfl, ?_⟩) ?_ ?_
      rotate_left
      · intro w'
        go_simp
        with_reducible rfl
      rotate_left
      · simp only [Act.put, pkA, pkZ, pkS, i64_w, i32_w]
        rfl
      refine one_ (i := 10) (N := some 96) #[true, true, true, true, true, true, true, true, true, true, true, false, true, true, true, true, true, true, false, false, false, false] rfl rfl (by kernel_rfl) (by decide) (fun K hK => ?_)
      refine value_ (w1 := ?_) (v := ?_) (by rfl) rfl ?_ ?_
      rotate_left 2
      · go_simp
        constructor
        · rfl
        · rfl
      have hB1 := hBd9.alloc hBd9.size (.cells #[.int .i64 h.f3] 3)
      have hone := (Go.MapKept.heap_alloc w12.drew.drew (.cells #[.int .i64 h.f3] 3)).1
      refine hK.out _ _ ⟨(HS8.out _ hB1).1, (HS8.out _ hB1).2⟩ (fun hHeld => ?_)
      clear hK K
      refine norm_ (a' := ?_) ?_ ?_
      rotate_left
      · show Act.put _ (some 96) _ = _
        simp only [Act.put, pkA, pkZ, pkS, i64_w, i32_w]
        rfl
      refine one_ (i := 11) (N := some 97) #[true, true, true, true, true, true, true, true, true, true, true, true, true, true, true, true, true, true, false, false, false, false] rfl rfl (by kernel_rfl) (by decide) (fun K hK => ?_)
      refine step_append_full (by rfl) (.tmp 93) (.tmp 96) 60 (by rfl) 3 i1 _ 1 8 Tryz.underlying60 hj0 hj1 hj2 hj3 rfl _ P (intVs (s.ch.take P)) (by rfl) (by simp [intVs, List.length_take, Nat.min_eq_left hPl]) (fun j u hu => TAKE.out _ hB1 j u hu) hnone _ 1 1 [.int .i64 h.f3] (by rfl) rfl (fun j u hu => World.news_of_block hone j u hu) (by omega) (by unfold maxLen; omega) (by omega) ?_
      intro c28 w28 own28 hb28
      have hB2 := hB1.trans (hb28.mono hB1.size)
      refine hK.out _ _ ⟨(HS8.out _ hB2).1, (HS8.out _ hB2).2⟩ (fun hHeld => ?_)
      clear hK K
      refine norm_ (a' := ?_) ?_ ?_
      rotate_left
      · show Act.put _ (some 97) _ = _
        simp only [Act.put, pkA, pkZ, pkS, i64_w, i32_w]
        rfl
      refine one_ (i := 18) (N := some 104) #[true, true, true, true, true, true, true, true, true, true, true, true, true, true, true, true, true, true, true, false, false, false] rfl rfl (by kernel_rfl) (by decide) (fun K hK => ?_)
      refine step_append_any (by rfl) (.tmp 97) (.tmp 103) 60 (by rfl) w12.heap.size 3 i1 _ 1 8 Tryz.underlying60 hj0 hj1 hj2 hj3 rfl (by omega) _ (P + 1) (intVs (s.ch.take P) ++ [.int .i64 h.f3]) (by rfl) (own_lower_ own28 hB1.size) _ (s.ch.length - P) _ (intVs (s.ch.drop P)) (by rfl) (by simp [intVs]) (fun j u hu => DROP.out _ hB2 j u hu) (ints_one _) (by unfold maxLen; omega) (by omega) hB2.size ?_
      intro v32 w32 own32 gr32 fr32
      have hB3 := pw_below_grown hB2 _ hB2.size gr32 (own_base (own_lower_ own28 hB1.size))
      obtain ⟨A32, c32, hv32, _⟩ := own_form own32
      subst hv32
      refine hK.out _ _ ⟨(HS8.out _ hB3).1, (HS8.out _ hB3).2⟩ (fun hHeld => ?_)
      clear hK K
      refine norm_ (a' := ?_) ?_ ?_
      rotate_left
      · show Act.put _ (some 104) _ = _
        simp only [Act.put, pkA, pkZ, pkS, i64_w, i32_w]
        rfl
      refine pure_ (i := 19) (N := some 105) (v := ?_) (a' := ?_) #[true, true, true, true, true, true, true, true, true, true, true, true, true, true, true, true, true, true, true, true, false, false] rfl rfl (by kernel_rfl) (fun _ _ _ h => h) (Or.inl ⟨by rfl, ?_⟩) ?_ ?_
      rotate_left
      · intro w'
        go_simp
        with_reducible rfl
      rotate_left
      · simp only [Act.put, pkA, pkZ, pkS, i64_w, i32_w]
        rfl
      refine pure_ (i := 20) (N := some 106) (v := ?_) (a' := ?_) #[true, true, true, true, true, true, true, true, true, true, true, true, true, true, true, true, true, true, true, true, true, false] rfl rfl (by kernel_rfl) (fun _ _ _ h => h) (Or.inl ⟨by rfl, ?_⟩) ?_ ?_
      rotate_left
      · intro w'
        go_simp
        with_reducible rfl
      rotate_left
      · simp only [Act.put, pkA, pkZ, pkS, i64_w, i32_w]
        rfl
      refine last_ (i := 21) (N := none) #[true, true, true, true, true, true, true, true, true, true, true, true, true, true, true, true, true, true, true, true, true, true] rfl rfl (by kernel_rfl) (by decide) (fun K hK => ?_)
      have e2 := (HS8.out _ hB3).1
      have f2 := blk_frozen (HG12.out.below hB3).blk 3
      refine skip_ (w1 := ?_) (by rfl) rfl ?_ ?_
      rotate_left
      · go_simp
        rfl
      refine hK.out _ _ ?_
      clear hK K
      refine done_ (by kernel_rfl) ?_
      go_wp2
      refine bodyPost_end (v := .tuple #[]) (by simp [results, Tryz.results30, go_sem]) rfl ⟨rfl, HFIN.out _ _ _ _ hB3 own32⟩
    · have hPl2 : P = s.ch.length := by omega
      have hPb : ((P : Int) == (s.ch.length : Int)) = true := by rw [hPl2]; simp
      have hPn : (P == s.ch.length) = true := by rw [hPl2]; simp
      have HPL := Lib.hid hPl2
      clear hPl2 hlt hsame
      refine start_ (n := 19) (S := fun w' => w'.cell? ⟨g, 3, none⟩ = some (.slice A10 s.ch.length c10) ∧ w'.cell? ⟨z3, 4, none⟩ = some (.int .i64 h.f3)) (ds := []) #[false, false, false, false, false, false, false, false, false, false, false, false, false, false, false, false, false, false, false] (by kernel_rfl) rfl rfl ⟨(HS8.out _ hBd).1, (HS8.out _ hBd).2⟩ (fun hHeld => ?_)
      refine pure_ (i := 0) (N := some 67) (v := ?_) (a' := ?_) #[true, false, false, false, false, false, false, false, false, false, false, false, false, false, false, false, false, false, false] rfl rfl (by kernel_rfl) (fun _ _ _ h => h) (Or.inl ⟨by rfl, ?_⟩) ?_ ?_
      rotate_left
      · intro w'
        go_simp
        with_reducible rfl
      rotate_left
      · simp only [Act.put, pkA, pkZ, pkS, i64_w, i32_w]
        rfl
      refine pure_ (i := 1) (N := some 68) (v := ?_) (a' := ?_) #[true, true, false, false, false, false, false, false, false, false, false, false, false, false, false, false, false, false, false] rfl rfl (by kernel_rfl) (fun _ _ _ h => h) (Or.inl ⟨by rfl, ?_⟩) ?_ ?_
      rotate_left
      · intro w'
        go_simp
        with_reducible rfl
      rotate_left
      · simp only [Act.put, pkA, pkZ, pkS, i64_w, i32_w]
        rfl
      refine pure_ (i := 2) (N := some 69) (v := ?_) (a' := ?_) #[true, true, true, false, false, false, false, false, false, false, false, false, false, false, false, false, false, false, false] rfl rfl (by kernel_rfl) (fun _ _ _ h => h) (Or.inl ⟨by rfl, ?_⟩) ?_ ?_
      rotate_left
      · intro w'
        go_simp
        with_reducible rfl
      rotate_left
      · simp only [Act.put, pkA, pkZ, pkS, i64_w, i32_w]
        rfl
      refine pure_ (i := 3) (N := some 70) (v := ?_) (a' := ?_) #[true, true, true, true, false, false, false, false, false, false, false, false, false, false, false, false, false, false, false] rfl rfl (by kernel_rfl) (fun _ _ _ h => h) (Or.inl ⟨by rfl, ?_⟩) ?_ ?_
      rotate_left
      · intro w'
        go_simp
        with_reducible rfl
      rotate_left
      · simp only [Act.put, pkA, pkZ, pkS, i64_w, i32_w]
        rfl
      refine take_ (i := 4) (N := some 71) (v := ?_) (a' := ?_) #[true, true, true, true, true, false, false, false, false, false, false, false, false, false, false, false, false, false, false] rfl rfl (by kernel_rfl) (fun _ _ _ h => h) (Or.inl ⟨by rfl, ?_⟩) hHeld ?_ ?_
      rotate_left
      · rintro w' ⟨s0, s1⟩
        go_simp
        with_reducible rfl
      rotate_left
      · simp only [Act.put, pkA, pkZ, pkS, i64_w, i32_w]
        rfl
      refine pure_ (i := 5) (N := some 72) (v := ?_) (a' := ?_) #[true, true, true, true, true, true, false, false, false, false, false, false, false, false, false, false, false, false, false] rfl rfl (by kernel_rfl) (fun _ _ _ h => h) (Or.inl ⟨by rfl, ?_⟩) ?_ ?_
      rotate_left
      · intro w'
        go_simp
        with_reducible rfl
      rotate_left
      · simp only [Act.put, pkA, pkZ, pkS, i64_w, i32_w]
        rfl
      refine pure_ (i := 6) (N := some 73) (v := ?_) (a' := ?_) #[true, true, true, true, true, true, true, false, false, false, false, false, false, false, false, false, false, false, false] rfl rfl (by kernel_rfl) (fun _ _ _ h => h) (Or.inl ⟨by rfl, ?_⟩) ?_ ?_
      rotate_left
      · intro w'
        go_simp
        with_reducible rfl
      rotate_left
      · simp only [Act.put, pkA, pkZ, pkS, i64_w, i32_w]
        rfl
      refine pure_ (i := 7) (N := some 74) (v := ?_) (a' := ?_) #[true, true, true, true, true, true, true, true, false, false, false, false, false, false, false, false, false, false, false] rfl rfl (by kernel_rfl) (fun _ _ _ h => h) (Or.inl ⟨by rfl, ?_⟩) ?_ ?_
      rotate_left
      · intro w'
        go_simp
        with_reducible rfl
      rotate_left
      · simp only [Act.put, pkA, pkZ, pkS, i64_w, i32_w]
        rfl
      refine pure_ (i := 8) (N := some 75) (v := undef) (a' := ?_) #[true, true, true, true, true, true, true, true, true, false, false, false, false, false, false, false, false, false, false] rfl rfl (by kernel_rfl) (fun _ _ _ h => h) (Or.inr ⟨by rfl, rfl⟩) ?_ ?_
      rotate_left
      · simp only [Act.put, pkA, pkZ, pkS, i64_w, i32_w]
        rfl
      refine pure_ (i := 9) (N := some 76) (v := undef) (a' := ?_) #[true, true, true, true, true, true, true, true, true, true, false, false, false, false, false, false, false, false, false] rfl rfl (by kernel_rfl) (fun _ _ _ h => h) (Or.inr ⟨by rfl, rfl⟩) ?_ ?_
      rotate_left
      · simp only [Act.put, pkA, pkZ, pkS, i64_w, i32_w]
        rfl
      refine pure_ (i := 10) (N := some 77) (v := undef) (a' := ?_) #[true, true, true, true, true, true, true, true, true, true, true, false, false, false, false, false, false, false, false] rfl rfl (by kernel_rfl) (fun _ _ _ h => h) (Or.inr ⟨by rfl, rfl⟩) ?_ ?_
      rotate_left
      · simp only [Act.put, pkA, pkZ, pkS, i64_w, i32_w]
        rfl
      refine pure_ (i := 11) (N := some 78) (v := undef) (a' := ?_) #[true, true, true, true, true, true, true, true, true, true, true, true, false, false, false, false, false, false, false] rfl rfl (by kernel_rfl) (fun _ _ _ h => h) (Or.inr ⟨by rfl, rfl⟩) ?_ ?_
      rotate_left
      · simp only [Act.put, pkA, pkZ, pkS, i64_w, i32_w]
        rfl
      refine pure_ (i := 12) (N := some 79) (v := undef) (a' := ?_) #[true, true, true, true, true, true, true, true, true, true, true, true, true, false, false, false, false, false, false] rfl rfl (by kernel_rfl) (fun _ _ _ h => h) (Or.inr ⟨by rfl, rfl⟩) ?_ ?_
      rotate_left
      · simp only [Act.put, pkA, pkZ, pkS, i64_w, i32_w]
        rfl
      refine pure_ (i := 13) (N := some 80) (v := undef) (a' := ?_) #[true, true, true, true, true, true, true, true, true, true, true, true, true, true, false, false, false, false, false] rfl rfl (by kernel_rfl) (fun _ _ _ h => h) (Or.inr ⟨by rfl, rfl⟩) ?_ ?_
      rotate_left
      · simp only [Act.put, pkA, pkZ, pkS, i64_w, i32_w]
        rfl
      refine pure_ (i := 14) (N := some 81) (v := undef) (a' := ?_) #[true, true, true, true, true, true, true, true, true, true, true, true, true, true, true, false, false, false, false] rfl rfl (by kernel_rfl) (fun _ _ _ h => h) (Or.inr ⟨by rfl, rfl⟩) ?_ ?_
      rotate_left
      · simp only [Act.put, pkA, pkZ, pkS, i64_w, i32_w]
        rfl
      refine pure_ (i := 15) (N := some 82) (v := undef) (a' := ?_) #[true, true, true, true, true, true, true, true, true, true, true, true, true, true, true, true, false, false, false] rfl rfl (by kernel_rfl) (fun _ _ _ h => h) (Or.inr ⟨by rfl, rfl⟩) ?_ ?_
      rotate_left
      · simp only [Act.put, pkA, pkZ, pkS, i64_w, i32_w]
        rfl
      refine pure_ (i := 16) (N := some 83) (v := undef) (a' := ?_) #[true, true, true, true, true, true, true, true, true, true, true, true, true, true, true, true, true, false, false] rfl rfl (by kernel_rfl) (fun _ _ _ h => h) (Or.inr ⟨by rfl, rfl⟩) ?_ ?_
      rotate_left
      · simp only [Act.put, pkA, pkZ, pkS, i64_w, i32_w]
        rfl
      refine pure_ (i := 17) (N := some 84) (v := undef) (a' := ?_) #[true, true, true, true, true, true, true, true, true, true, true, true, true, true, true, true, true, true, false] rfl rfl (by kernel_rfl) (fun _ _ _ h => h) (Or.inr ⟨by rfl, rfl⟩) ?_ ?_
      rotate_left
      · simp only [Act.put, pkA, pkZ, pkS, i64_w, i32_w]
        rfl
      refine pure_ (i := 18) (N := some 85) (v := ?_) (a' := ?_) #[true, true, true, true, true, true, true, true, true, true, true, true, true, true, true, true, true, true, true] rfl rfl (by kernel_rfl) (fun _ _ _ h => h) (Or.inl ⟨by rfl, ?_⟩) ?_ ?_
      rotate_left
      · intro w'
        go_simp
        with_reducible rfl
      rotate_left
      · simp only [Act.put, pkA, pkZ, pkS, i64_w, i32_w]
        rfl
      refine done_ (by kernel_rfl) ?_
      go_upto_region 9 with fail
      have hBd9 := hBd.trans ((Below.refl _ w12.drew).drew.mono hBd.size)
      refine start_ (n := 22) (S := fun w' => w'.cell? ⟨g, 3, none⟩ = some (.slice A10 s.ch.length c10) ∧ w'.cell? ⟨z3, 4, none⟩ = some (.int .i64 h.f3)) (ds := [21]) #[false, false, false, false, false, false, false, false, false, false, false, false, false, false, false, false, false, false, false, false, false, false] (by kernel_rfl) rfl rfl ⟨(HS8.out _ hBd9).1, (HS8.out _ hBd9).2⟩ (fun hHeld => ?_)
      refine pure_ (i := 0) (N := some 86) (v := ?_) (a' := ?_) #[true, false, false, false, false, false, false, false, false, false, false, false, false, false, false, false, false, false, false, false, false, false] rfl rfl (by kernel_rfl) (fun _ _ _ h => h) (Or.inl ⟨by rfl, ?_⟩) ?_ ?_
      rotate_left
      · intro w'
        go_simp
        with_reducible rfl
      rotate_left
      · simp only [Act.put, pkA, pkZ, pkS, i64_w, i32_w]
        rfl
      refine pure_ (i := 1) (N := some 87) (v := ?_) (a' := ?_) #[true, true, false, false, false, false, false, false, false, false, false, false, false, false, false, false, false, false, false, false, false, false] rfl rfl (by kernel_rfl) (fun _ _ _ h => h) (Or.inl ⟨by rfl, ?_⟩) ?_ ?_
      rotate_left
      · intro w'
        go_simp
        with_reducible rfl
      rotate_left
      · simp only [Act.put, pkA, pkZ, pkS, i64_w, i32_w]
        rfl
      refine pure_ (i := 2) (N := some 88) (v := ?_) (a' := ?_) #[true, true, true, false, false, false, false, false, false, false, false, false, false, false, false, false, false, false, false, false, false, false] rfl rfl (by kernel_rfl) (fun _ _ _ h => h) (Or.inl ⟨by rfl, ?_⟩) ?_ ?_
      rotate_left
      · intro w'
        go_simp
        with_reducible rfl
      rotate_left
      · simp only [Act.put, pkA, pkZ, pkS, i64_w, i32_w]
        rfl
      refine pure_ (i := 3) (N := some 89) (v := ?_) (a' := ?_) #[true, true, true, true, false, false, false, false, false, false, false, false, false, false, false, false, false, false, false, false, false, false] rfl rfl (by kernel_rfl) (fun _ _ _ h => h) (Or.inl ⟨by rfl, ?_⟩) ?_ ?_
      rotate_left
      · intro w'
        go_simp
        with_reducible rfl
      rotate_left
      · simp only [Act.put, pkA, pkZ, pkS, i64_w, i32_w]
        rfl
      refine pure_ (i := 5) (N := some 91) (v := ?_) (a' := ?_) #[true, true, true, true, false, true, false, false, false, false, false, false, false, false, false, false, false, false, false, false, false, false] rfl rfl (by kernel_rfl) (fun _ _ _ h => h) (Or.inl ⟨by rfl, ?_⟩) ?_ ?_
      rotate_left
      · intro w'
        go_simp
        with_reducible rfl
      rotate_left
      · simp only [Act.put, pkA, pkZ, pkS, i64_w, i32_w]
        rfl
      refine pure_ (i := 6) (N := some 92) (v := ?_) (a' := ?_) #[true, true, true, true, false, true, true, false, false, false, false, false, false, false, false, false, false, false, false, false, false, false] rfl rfl (by kernel_rfl) (fun _ _ _ h => h) (Or.inl ⟨by rfl, ?_⟩) ?_ ?_
      rotate_left
      · intro w'
        go_simp
        with_reducible rfl
      rotate_left
      · simp only [Act.put, pkA, pkZ, pkS, i64_w, i32_w]
        rfl
      refine pure_ (i := 8) (N := some 94) (v := ?_) (a' := ?_) #[true, true, true, true, false, true, true, false, true, false, false, false, false, false, false, false, false, false, false, false, false, false] rfl rfl (by kernel_rfl) (fun _ _ _ h => h) (Or.inl ⟨by rfl, ?_⟩) ?_ ?_
      rotate_left
      · intro w'
        go_simp
        with_reducible rfl
      rotate_left
      · simp only [Act.put, pkA, pkZ, pkS, i64_w, i32_w]
        rfl
      refine pure_ (i := 12) (N := some 98) (v := ?_) (a' := ?_) #[true, true, true, true, false, true, true, false, true, false, false, false, true, false, false, false, false, false, false, false, false, false] rfl rfl (by kernel_rfl) (fun _ _ _ h => h) (Or.inl ⟨by rfl, ?_⟩) ?_ ?_
      rotate_left
      · intro w'
        go_simp
        with_reducible rfl
      rotate_left
      · simp only [Act.put, pkA, pkZ, pkS, i64_w, i32_w]
        rfl
      refine pure_ (i := 13) (N := some 99) (v := ?_) (a' := ?_) #[true, true, true, true, false, true, true, false, true, false, false, false, true, true, false, false, false, false, false, false, false, false] rfl rfl (by kernel_rfl) (fun _ _ _ h => h) (Or.inl ⟨by rfl, ?_⟩) ?_ ?_
      rotate_left
      · intro w'
        go_simp
        with_reducible rfl
      rotate_left
      · simp only [Act.put, pkA, pkZ, pkS, i64_w, i32_w]
        rfl
      refine pure_ (i := 14) (N := some 100) (v := ?_) (a' := ?_) #[true, true, true, true, false, true, true, false, true, false, false, false, true, true, true, false, false, false, false, false, false, false] rfl rfl (by kernel_rfl) (fun _ _ _ h => h) (Or.inl ⟨by rfl, ?_⟩) ?_ ?_
      rotate_left
      · intro w'
        go_simp
        with_reducible rfl
      rotate_left
      · simp only [Act.put, pkA, pkZ, pkS, i64_w, i32_w]
        rfl
      refine pure_ (i := 16) (N := some 102) (v := ?_) (a' := ?_) #[true, true, true, true, false, true, true, false, true, false, false, false, true, true, true, false, true, false, false, false, false, false] rfl rfl (by kernel_rfl) (fun _ _ _ h => h) (Or.inl ⟨by rfl, ?_⟩) ?_ ?_
      rotate_left
      · intro w'
        go_simp
        with_reducible rfl
      rotate_left
      · simp only [Act.put, pkA, pkZ, pkS, i64_w, i32_w]
        rfl
      refine take_ (i := 4) (N := some 90) (v := ?_) (a' := ?_) #[true, true, true, true, true, true, true, false, true, false, false, false, true, true, true, false, true, false, false, false, false, false] rfl rfl (by kernel_rfl) (fun _ _ _ h => h) (Or.inl ⟨by rfl, ?_⟩) hHeld ?_ ?_
      rotate_left
      · rintro w' ⟨s0, s1⟩
        go_simp
        with_reducible rfl
      rotate_left
      · simp only [Act.put, pkA, pkZ, pkS, i64_w, i32_w]
        rfl
      refine pure_ (i := 7) (N := some 93) (v := ?_) (a' := ?_) #[true, true, true, true, true, true, true, true, true, false, false, false, true, true, true, false, true, false, false, false, false, false] rfl rfl (by kernel_rfl) (fun _ _ _ h => h) (Or.inl ⟨by rfl, ?_⟩) ?_ ?_
      rotate_left
      · intro w'
        go_simp
        with_reducible rfl
      rotate_left
      · simp only [Act.put, pkA, pkZ, pkS, i64_w, i32_w]
        rfl
      refine take_ (i := 9) (N := some 95) (v := ?_) (a' := ?_) #[true, true, true, true, true, true, true, true, true, true, false, false, true, true, true, false, true, false, false, false, false, false] rfl rfl (by kernel_rfl) (fun _ _ _ h => h) (Or.inl ⟨by rfl, ?_⟩) hHeld ?_ ?_
      rotate_left
      · rintro w' ⟨s0, s1⟩
        go_simp
        with_reducible rfl
      rotate_left
      · simp only [Act.put, pkA, pkZ, pkS, i64_w, i32_w]
        rfl
      refine take_ (i := 15) (N := some 101) (v := ?_) (a' := ?_) #[true, true, true, true, true, true, true, true, true, true, false, false, true, true, true, true, true, false, false, false, false, false] rfl rfl (by kernel_rfl) (fun _ _ _ h => h) (Or.inl ⟨by rfl, ?_⟩) hHeld ?_ ?_
      rotate_left
      · rintro w' ⟨s0, s1⟩
        go_simp
        with_reducible rfl
      rotate_left
      · simp only [Act.put, pkA, pkZ, pkS, i64_w, i32_w]
        rfl
      refine pure_ (i := 17) (N := some 103) (v := ?_) (a' := ?_) #[true, true, true, true, true, true, true, true, true, true, false, false, true, true, true, true, true, true, false, false, false, false] rfl rfl (by kernel_rfl) (fun _ _ _ h => h) (Or.inl ⟨by rfl, ?_⟩) ?_ ?_
      rotate_left
      · intro w'
        go_simp
        with_reducible rfl
      rotate_left
      · simp only [Act.put, pkA, pkZ, pkS, i64_w, i32_w]
        rfl
      refine one_ (i := 10) (N := some 96) #[true, true, true, true, true, true, true, true, true, true, true, false, true, true, true, true, true, true, false, false, false, false] rfl rfl (by kernel_rfl) (by decide) (fun K hK => ?_)
      refine value_ (w1 := ?_) (v := ?_) (by rfl) rfl ?_ ?_
      rotate_left 2
      · go_simp
        constructor
        · rfl
        · rfl
      have hB1 := hBd9.alloc hBd9.size (.cells #[.int .i64 h.f3] 3)
      have hone := (Go.MapKept.heap_alloc w12.drew.drew (.cells #[.int .i64 h.f3] 3)).1
      refine hK.out _ _ ⟨(HS8.out _ hB1).1, (HS8.out _ hB1).2⟩ (fun hHeld => ?_)
      clear hK K
      refine norm_ (a' := ?_) ?_ ?_
      rotate_left
      · show Act.put _ (some 96) _ = _
        simp only [Act.put, pkA, pkZ, pkS, i64_w, i32_w]
        rfl
      refine one_ (i := 11) (N := some 97) #[true, true, true, true, true, true, true, true, true, true, true, true, true, true, true, true, true, true, false, false, false, false] rfl rfl (by kernel_rfl) (by decide) (fun K hK => ?_)
      refine step_append_full (by rfl) (.tmp 93) (.tmp 96) 60 (by rfl) 3 i1 _ 1 8 Tryz.underlying60 hj0 hj1 hj2 hj3 rfl _ P (intVs (s.ch.take P)) (by rfl) (by simp [intVs, List.length_take, Nat.min_eq_left hPl]) (fun j u hu => TAKE.out _ hB1 j u hu) hnone _ 1 1 [.int .i64 h.f3] (by rfl) rfl (fun j u hu => World.news_of_block hone j u hu) (by omega) (by unfold maxLen; omega) (by omega) ?_
      intro c28 w28 own28 hb28
      have hB2 := hB1.trans (hb28.mono hB1.size)
      refine hK.out _ _ ⟨(HS8.out _ hB2).1, (HS8.out _ hB2).2⟩ (fun hHeld => ?_)
      clear hK K
      refine norm_ (a' := ?_) ?_ ?_
      rotate_left
      · show Act.put _ (some 97) _ = _
        simp only [Act.put, pkA, pkZ, pkS, i64_w, i32_w]
        rfl
      refine one_ (i := 18) (N := some 104) #[true, true, true, true, true, true, true, true, true, true, true, true, true, true, true, true, true, true, true, false, false, false] rfl rfl (by kernel_rfl) (by decide) (fun K hK => ?_)
      refine step_append_any (by rfl) (.tmp 97) (.tmp 103) 60 (by rfl) w12.heap.size 3 i1 _ 1 8 Tryz.underlying60 hj0 hj1 hj2 hj3 rfl (by omega) _ (P + 1) (intVs (s.ch.take P) ++ [.int .i64 h.f3]) (by rfl) (own_lower_ own28 hB1.size) _ (s.ch.length - P) _ (intVs (s.ch.drop P)) (by rfl) (by simp [intVs]) (fun j u hu => DROP.out _ hB2 j u hu) (ints_one _) (by unfold maxLen; omega) (by omega) hB2.size ?_
      intro v32 w32 own32 gr32 fr32
      have hB3 := pw_below_grown hB2 _ hB2.size gr32 (own_base (own_lower_ own28 hB1.size))
      obtain ⟨A32, c32, hv32, _⟩ := own_form own32
      subst hv32
      refine hK.out _ _ ⟨(HS8.out _ hB3).1, (HS8.out _ hB3).2⟩ (fun hHeld => ?_)
      clear hK K
      refine norm_ (a' := ?_) ?_ ?_
      rotate_left
      · show Act.put _ (some 104) _ = _
        simp only [Act.put, pkA, pkZ, pkS, i64_w, i32_w]
        rfl
      refine pure_ (i := 19) (N := some 105) (v := ?_) (a' := ?_) #[true, true, true, true, true, true, true, true, true, true, true, true, true, true, true, true, true, true, true, true, false, false] rfl rfl (by kernel_rfl) (fun _ _ _ h => h) (Or.inl ⟨by rfl, ?_⟩) ?_ ?_
      rotate_left
      · intro w'
        go_simp
        with_reducible rfl
      rotate_left
      · simp only [Act.put, pkA, pkZ, pkS, i64_w, i32_w]
        rfl
      refine pure_ (i := 20) (N := some 106) (v := ?_) (a' := ?_) #[true, true, true, true, true, true, true, true, true, true, true, true, true, true, true, true, true, true, true, true, true, false] rfl rfl (by kernel_rfl) (fun _ _ _ h => h) (Or.inl ⟨by rfl, ?_⟩) ?_ ?_
      rotate_left
      · intro w'
        go_simp
        with_reducible rfl
      rotate_left
      · simp only [Act.put, pkA, pkZ, pkS, i64_w, i32_w]
        rfl
      refine last_ (i := 21) (N := none) #[true, true, true, true, true, true, true, true, true, true, true, true, true, true, true, true, true, true, true, true, true, true] rfl rfl (by kernel_rfl) (by decide) (fun K hK => ?_)
      have e2 := (HS8.out _ hB3).1
      have f2 := blk_frozen (HG12.out.below hB3).blk 3
      refine skip_ (w1 := ?_) (by rfl) rfl ?_ ?_
      rotate_left
      · go_simp
        rfl
      refine hK.out _ _ ?_
      clear hK K
      refine done_ (by kernel_rfl) ?_
      go_wp2
      refine bodyPost_end (v := .tuple #[]) (by simp [results, Tryz.results30, go_sem]) rfl ⟨rfl, HFIN.out _ _ _ _ hB3 own32⟩
end
end Go.Proofs.YtikdiepcfdimgaaGreatDoor.POw
namespace Go.Proofs.YtikdiepcfdimgaaGreatDoor.POw
open Go.RowKit Go.Lib Go.Proofs.YtikdiepcfdimgaaGreatDoorW.PrintWords Go.Proofs.YtikdiepcfdimgaaGreatDoorW.PrintLast
structure GrN (n : Nat) (s : Gr) : Prop where
  ows : ∀ x, ∀ o ∈ s.owL x, o.size ≤ 100
  owl : ∀ x, (s.owL x).length ≤ n
  owo : ∀ x, (s.owL x).Pairwise (fun a b => sLt a b = true)
  shl : ∀ k, (s.shL k).length ≤ n
  sho : ∀ k, (s.shL k).Pairwise (fun a b => a.f3 < b.f3)
  ens : ∀ o ∈ s.en, o.size ≤ 100
  enl : s.en.length ≤ 2 * n
  eno : s.en.Pairwise (fun a b => sLt a b = true)
  chl : s.ch.length ≤ n
  cho : s.ch.Pairwise (fun a b => iLt a b = true)
theorem GrN.ok {n : Nat} {s : Gr} (h : GrN n s) (hn : n ≤ 400) : GrOk s where
  ows x o ho := by have := h.ows x o ho; omega
  owl x := by have := h.owl x; omega
  owo := h.owo
  shl k := by have := h.shl k; omega
  sho := h.sho
  ens o ho := by have := h.ens o ho; omega
  enl := by have := h.enl; omega
  eno := h.eno
  chl := by have := h.chl; omega
  cho := h.cho
def gr0 : Gr := ⟨fun _ => none, fun _ => none, [], []⟩
theorem GrN.start : GrN 0 gr0 where
  ows x o ho := by simp [gr0, Gr.owL] at ho
  owl x := by simp [gr0, Gr.owL]
  owo x := by simp [gr0, Gr.owL]
  shl k := by simp [gr0, Gr.shL]
  sho k := by simp [gr0, Gr.shL]
  ens o ho := by simp [gr0] at ho
  enl := by simp [gr0]
  eno := by simp [gr0]
  chl := by simp [gr0]
  cho := by simp [gr0]
theorem insH_length (l : List Hold) (h : Hold) : (insH l h).length = l.length + 1 := by rw [(insH_perm l h).length_eq]; simp
theorem GrN.add {n : Nat} {s : Gr} (g : GrN n s) {h : Hold} (h0 : h.f0.size ≤ 100) (h1 : h.f1.size ≤ 100) (hf : ∀ x ∈ s.shL h.pr, x.f3 ≠ h.f3) : GrN (n + 1) (addG s h) where
  ows x o ho := by
    rw [addG_owL] at ho
    by_cases hx : x = h.f1
    · rw [if_pos hx] at ho
      rcases (withG_mem _ _ _).1 ho with rfl | ho
      · exact h0
      · exact g.ows _ o ho
    · rw [if_neg hx] at ho; exact g.ows _ o ho
  owl x := by
    rw [addG_owL]
    by_cases hx : x = h.f1
    · rw [if_pos hx]; have := withG_length (lt := sLt) (s.owL h.f1) h.f0; have := g.owl h.f1; omega
    · rw [if_neg hx]; have := g.owl x; omega
  owo x := by
    rw [addG_owL]
    by_cases hx : x = h.f1
    · rw [if_pos hx]; exact withG_sorted sO _ (g.owo _)
    · rw [if_neg hx]; exact g.owo x
  shl k := by
    rw [addG_shL]
    by_cases hx : k = h.pr
    · rw [if_pos hx, insH_length]; have := g.shl h.pr; omega
    · rw [if_neg hx]; have := g.shl k; omega
  sho k := by
    rw [addG_shL]
    by_cases hx : k = h.pr
    · rw [if_pos hx]; exact insH_sorted (g.sho _) hf
    · rw [if_neg hx]; exact g.sho k
  ens o ho := by
    rcases (withG_mem _ _ _).1 ho with rfl | ho
    · exact h1
    · rcases (withG_mem _ _ _).1 ho with rfl | ho
      · exact h0
      · exact g.ens o ho
  enl := by
    have a := withG_length (lt := sLt) s.en h.f0
    have b := withG_length (lt := sLt) (withG sLt s.en h.f0) h.f1
    have c := g.enl
    show (withG sLt (withG sLt s.en h.f0) h.f1).length ≤ 2 * (n + 1)
    omega
  eno := withG_sorted sO _ (withG_sorted sO _ g.eno)
  chl := by
    have a := withG_length (lt := iLt) s.ch h.f3
    have c := g.chl
    show (withG iLt s.ch h.f3).length ≤ n + 1
    omega
  cho := withG_sorted iO _ g.cho
theorem refused_zero {k : Nat} {s : Gr} {h : Hold} (hr : refusedF k s h = some 0) : wcodeB h.f0 = true ∧ wcodeB h.f1 = true ∧ fitH h = true ∧ isDay h.f3 = true ∧ (∀ x ∈ s.shL h.pr, x.f3 ≠ h.f3) ∧ h.f0 ≠ h.f1 ∧ ownsF k s h.f1 h.f0 = some false := by
  unfold refusedF at hr
  by_cases c0 : wcodeB h.f0 = true
  · rw [if_pos c0] at hr
    by_cases c1 : wcodeB h.f1 = true
    · rw [if_pos c1] at hr
      by_cases c2 : fitH h = true
      · rw [if_pos c2] at hr
        by_cases c3 : isDay h.f3 = true
        · rw [if_pos c3] at hr
          by_cases c4 : (s.shL (h.f0, h.f1)).any (fun x => decide (x.f3 = h.f3)) = true
          · rw [if_pos c4] at hr; cases hr
          · rw [if_neg c4] at hr
            by_cases c5 : h.f0 = h.f1
            · rw [if_pos c5] at hr; cases hr
            · rw [if_neg c5] at hr
              obtain ⟨b, hb, hr⟩ := Option.bind_eq_some_iff.1 hr
              refine ⟨c0, c1, c2, c3, fun x hx he => c4 (List.any_eq_true.2 ⟨x, hx, by simp [he]⟩), c5, ?_⟩
              cases b with
              | true => simp at hr
              | false => exact hb
        · rw [if_neg c3] at hr; cases hr
      · rw [if_neg c2] at hr; cases hr
    · rw [if_neg c1] at hr; cases hr
  · rw [if_neg c0] at hr; cases hr
theorem wcodeB_size {s : ByteArray} (h : wcodeB s = true) : s.size ≤ 12 := by
  unfold wcodeB at h
  simp at h
  exact h.1.2
theorem addr_of_cell' {w : World} {ad : Addr} {v : Value} (h : w.cell? (ad.add 0) = some v) : ∃ b o, ad = ⟨b, o, none⟩ := by
  obtain ⟨b, o, s⟩ := ad
  cases s with
  | none => exact ⟨b, o, rfl⟩
  | some z =>
    exfalso
    simp [World.cell?, Addr.add] at h
    split at h <;> cases h
theorem holds_at {w : World} {A : Option Addr} {n : Nat} {xs : List Hold} (h : Kd.C k56 w A n xs) : ∀ i (hi : i < xs.length), ∃ b o, A = some ⟨b, o, none⟩ ∧ b < w.heap.size ∧
    w.cell? ⟨b, o + i * 5, none⟩ = some (.string xs[i].f0) ∧ w.cell? ⟨b, o + i * 5 + 1, none⟩ = some (.string xs[i].f1) ∧ w.cell? ⟨b, o + i * 5 + 2, none⟩ = some (.int .i64 xs[i].f2.f0) ∧ w.cell? ⟨b, o + i * 5 + 3, none⟩ = some (.int .i64 xs[i].f2.f1) ∧ w.cell? ⟨b, o + i * 5 + 4, none⟩ = some (.int .i64 xs[i].f3) := by
  intro i hi
  obtain ⟨hl, _, hc⟩ := h
  obtain ⟨ad, rfl, hcell⟩ := hc (by omega)
  obtain ⟨c, hcl, hK, hu⟩ := hcell i xs[i] (List.getElem?_eq_getElem hi)
  have hK' := k56_open hK
  subst hK'
  have hp : 0 < xs.length := by omega
  obtain ⟨x0, hx0⟩ : ∃ x0, xs[0]'hp = x0 := ⟨_, rfl⟩
  obtain ⟨c0, _, hK0, hu0⟩ := hcell 0 x0 (by rw [← hx0]; exact List.getElem?_eq_getElem hp)
  have hK0' := k56_open hK0
  subst hK0'
  have h0 := hu0 0 _ rfl
  rw [Nat.zero_mul, Nat.zero_add] at h0
  obtain ⟨b, o, hbo⟩ := addr_of_cell' h0
  have hadd : ∃ b o, ad = ⟨b, o, none⟩ := by
    obtain ⟨b1, o1, sp⟩ := ad
    cases sp with
    | none => exact ⟨b1, o1, rfl⟩
    | some s => simp [Addr.add] at hbo
  obtain ⟨b, o, rfl⟩ := hadd
  have e : ∀ j, (⟨b, o, none⟩ : Addr).add (i * 5 + j) = ⟨b, o + i * 5 + j, none⟩ := fun j => by rw [Addr.add_lit]; congr 1; omega
  have f : ∀ j u, [Value.string xs[i].f0, .string xs[i].f1, .int .i64 xs[i].f2.f0, .int .i64 xs[i].f2.f1, .int .i64 xs[i].f3][j]? = some u → w.cell? ⟨b, o + i * 5 + j, none⟩ = some u := fun j u hj => by rw [← e]; exact hu j u hj
  have h2 := f 0 _ rfl
  exact ⟨b, o, rfl, World.block_lt_of_cell? w _ h2, h2, f 1 _ rfl, f 2 _ rfl, f 3 _ rfl, f 4 _ rfl⟩
def newL (k : Nat) : List Hold → Nat → Gr → Option (Sum (Nat × Int) Gr)
  | [], _, s => some (.inr s)
  | h :: l, i, s => (refusedF k s h).bind fun e => if e = 0 then newL k l (i + 1) (addG s h) else some (.inl (i, e))
def overE (k : Nat) (s : Gr) (day : Int) : List ByteArray → Option Bool
  | [] => some false
  | x :: xs => (sumF k (fun _ => true) s x day).bind fun st => (owners_sum_exceeds.f k st.1 st.2 1 1).bind fun b => if b = true then some true else overE k s day xs
def overD (k : Nat) (s : Gr) : List Int → Option Bool
  | [] => some false
  | d :: ds => (overE k s d s.en).bind fun b => if b = true then some true else overD k s ds
def newF (k : Nat) (l : List Hold) : Option (Int × Int × Option Gr) :=
  if l.length > 200 then some (0, 9, none) else (newL k l 0 gr0).bind fun r => match r with
    | .inl (i, e) => some ((i : Int), e, none)
    | .inr s => (overD k s s.ch).bind fun b => if b = true then some (0, 4, none) else some (0, 0, some s)
theorem strs_C {w : World} {B : Nat} {v : Value} {l : List ByteArray} (h : w.ownsRow B 9 1 v l.length (strs l)) : ∃ A c, v = .slice A l.length c ∧ l.length ≤ c ∧ Kd.C Kd.string w A l.length l :=
  Kd.R_reads (ok := fun _ => True) (e := 9) (base := B) (Kd.R_of_own (enc := Value.string) h (fun _ _ => trivial))
def entL (l : List Hold) (L : List ByteArray) : List ByteArray := l.foldl (fun L h => withG sLt (withG sLt L h.f0) h.f1) L
theorem entL_sorted : ∀ (l : List Hold) (L : List ByteArray), L.Pairwise (fun a b => sLt a b = true) → (entL l L).Pairwise (fun a b => sLt a b = true)
  | [], _, h => h
  | x :: l, L, h => entL_sorted l _ (withG_sorted sO _ (withG_sorted sO _ h))
theorem entL_length : ∀ (l : List Hold) (L : List ByteArray), (entL l L).length ≤ L.length + 2 * l.length
  | [], _ => Nat.le_refl _
  | x :: l, L => by
    have h1 := entL_length l (withG sLt (withG sLt L x.f0) x.f1)
    have h2 := withG_length (lt := sLt) L x.f0
    have h3 := withG_length (lt := sLt) (withG sLt L x.f0) x.f1
    show (entL l (withG sLt (withG sLt L x.f0) x.f1)).length ≤ _
    simp only [List.length_cons]
    omega
theorem entL_snoc (l : List Hold) (x : Hold) (L : List ByteArray) : entL (l ++ [x]) L = withG sLt (withG sLt (entL l L) x.f0) x.f1 := by unfold entL; rw [List.foldl_append]; rfl
set_option maxRecDepth 100000 in
set_option maxHeartbeats 8000000 in
theorem go_refEntities (A : Option Addr) (c : Nat) (l : List Hold) (w : World) (hC : Kd.C k56 w A l.length l) (hlc : l.length ≤ c) (hl : l.length ≤ 1000) :
    Calls Tryz.prog 25 #[.slice A l.length c] w fun e w' => ∃ v, e = .returned v ∧ w'.ownsRow w.heap.size 9 1 v (entL l []).length (strs (entL l [])) ∧ Below w.heap.size w w' := by
  have HC := Lib.hid hC
  clear hC
  go_enter Tryz.func25, Tryz.ntmps25
  go_wp2
  go_loopg [4, 3] l.length (fun n t4 t3 wr => ∃ (k : Nat) (v : Value), n = l.length - k ∧ k ≤ l.length ∧ t4 = .int .i64 k ∧ v = t3 ∧ Below w.heap.size w wr ∧ Hid (wr.ownsRow w.heap.size 9 1 v (entL (l.take k) []).length (strs (entL (l.take k) []))))
  case atStart => exact ⟨0, _, rfl, Nat.zero_le _, rfl, rfl, Below.refl _ _, Lib.hid (World.ownsRow_nil _ _ _ _)⟩
  case round =>
    obtain ⟨k, v, rfl, hk, rfl, rfl, hbr, HO⟩ := hrel
    by_cases hlt : k < l.length
    · obtain ⟨b, o, hA, hbl, q0, q1, q2, q3, q4⟩ := holds_at (Kd.C_below HC.out hbr) k hlt
      obtain ⟨x, hx⟩ : ∃ x, l[k] = x := ⟨_, rfl⟩
      have HT := Lib.hid (show entL (l.take (k + 1)) [] = withG sLt (withG sLt (entL (l.take k) []) x.f0) x.f1 by rw [List.take_succ_eq_append_getElem hlt, hx, entL_snoc])
      rw [hx] at q0 q1 q2 q3 q4
      clear hx
      have hLs := entL_sorted (l.take k) [] List.Pairwise.nil
      have hLl : (entL (l.take k) []).length ≤ 2000 := by have := entL_length (l.take k) []; simp at this; omega
      obtain ⟨L, hL⟩ : ∃ L, entL (l.take k) [] = L := ⟨_, rfl⟩
      rw [hL] at HO HT hLs hLl
      have HP := Lib.hid hLs
      clear hL hLs
      have hki : (k : Int) < (l.length : Int) := by omega
      subst hA
      go_upto_region 5 with fail
      have hBd : Below wr.heap.size wr wr.drew := (Below.refl _ wr).drew
      have hBw : w.heap.size ≤ wr.drew.heap.size := hbr.size
      refine start_ (n := 14) (S := fun w' => w'.cell? ⟨b, o + k * 5, none⟩ = some (.string x.f0) ∧ w'.cell? ⟨b, o + k * 5 + 1, none⟩ = some (.string x.f1)) (ds := []) #[false, false, false, false, false, false, false, false, false, false, false, false, false, false] (by kernel_rfl) rfl rfl ⟨(hBd.cell (p := ⟨b, o + k * 5, none⟩) hbl).trans q0, (hBd.cell (p := ⟨b, o + k * 5 + 1, none⟩) hbl).trans q1⟩ (fun hHeld => ?_)
      refine pure_ (i := 0) (N := some 11) (v := ?_) (a' := ?_) #[true, false, false, false, false, false, false, false, false, false, false, false, false, false] rfl rfl (by kernel_rfl) (fun _ _ _ h => h) (Or.inl ⟨by rfl, ?_⟩) ?_ ?_
      rotate_left
      · intro w'
        go_simp
        with_reducible rfl
      rotate_left
      · simp only [Act.put, pkA, pkZ, pkS, i64_w, i32_w]
        rfl
      refine pure_ (i := 1) (N := some 12) (v := ?_) (a' := ?_) #[true, true, false, false, false, false, false, false, false, false, false, false, false, false] rfl rfl (by kernel_rfl) (fun _ _ _ h => h) (Or.inl ⟨by rfl, ?_⟩) ?_ ?_
      rotate_left
      · intro w'
        go_simp
        with_reducible rfl
      rotate_left
      · simp only [Act.put, pkA, pkZ, pkS, i64_w, i32_w]
        rfl
      refine pure_ (i := 2) (N := some 13) (v := ?_) (a' := ?_) #[true, true, true, false, false, false, false, false, false, false, false, false, false, false] rfl rfl (by kernel_rfl) (fun _ _ _ h => h) (Or.inl ⟨by rfl, ?_⟩) ?_ ?_
      rotate_left
      · intro w'
        go_simp
        with_reducible rfl
      rotate_left
      · simp only [Act.put, pkA, pkZ, pkS, i64_w, i32_w]
        rfl
      refine pure_ (i := 3) (N := some 14) (v := ?_) (a' := ?_) #[true, true, true, true, false, false, false, false, false, false, false, false, false, false] rfl rfl (by kernel_rfl) (fun _ _ _ h => h) (Or.inl ⟨by rfl, ?_⟩) ?_ ?_
      rotate_left
      · intro w'
        go_simp
        with_reducible rfl
      rotate_left
      · simp only [Act.put, pkA, pkZ, pkS, i64_w, i32_w]
        rfl
      refine pure_ (i := 4) (N := some 15) (v := ?_) (a' := ?_) #[true, true, true, true, true, false, false, false, false, false, false, false, false, false] rfl rfl (by kernel_rfl) (fun _ _ _ h => h) (Or.inl ⟨by rfl, ?_⟩) ?_ ?_
      rotate_left
      · intro w'
        go_simp
        with_reducible rfl
      rotate_left
      · simp only [Act.put, pkA, pkZ, pkS, i64_w, i32_w]
        rfl
      refine pure_ (i := 7) (N := some 18) (v := ?_) (a' := ?_) #[true, true, true, true, true, false, false, true, false, false, false, false, false, false] rfl rfl (by kernel_rfl) (fun _ _ _ h => h) (Or.inl ⟨by rfl, ?_⟩) ?_ ?_
      rotate_left
      · intro w'
        go_simp
        with_reducible rfl
      rotate_left
      · simp only [Act.put, pkA, pkZ, pkS, i64_w, i32_w]
        rfl
      refine pure_ (i := 8) (N := some 19) (v := ?_) (a' := ?_) #[true, true, true, true, true, false, false, true, true, false, false, false, false, false] rfl rfl (by kernel_rfl) (fun _ _ _ h => h) (Or.inl ⟨by rfl, ?_⟩) ?_ ?_
      rotate_left
      · intro w'
        go_simp
        with_reducible rfl
      rotate_left
      · simp only [Act.put, pkA, pkZ, pkS, i64_w, i32_w]
        rfl
      refine pure_ (i := 9) (N := some 20) (v := ?_) (a' := ?_) #[true, true, true, true, true, false, false, true, true, true, false, false, false, false] rfl rfl (by kernel_rfl) (fun _ _ _ h => h) (Or.inl ⟨by rfl, ?_⟩) ?_ ?_
      rotate_left
      · intro w'
        go_simp
        with_reducible rfl
      rotate_left
      · simp only [Act.put, pkA, pkZ, pkS, i64_w, i32_w]
        rfl
      refine pure_ (i := 10) (N := some 21) (v := ?_) (a' := ?_) #[true, true, true, true, true, false, false, true, true, true, true, false, false, false] rfl rfl (by kernel_rfl) (fun _ _ _ h => h) (Or.inl ⟨by rfl, ?_⟩) ?_ ?_
      rotate_left
      · intro w'
        go_simp
        with_reducible rfl
      rotate_left
      · simp only [Act.put, pkA, pkZ, pkS, i64_w, i32_w]
        rfl
      refine take_ (i := 5) (N := some 16) (v := ?_) (a' := ?_) #[true, true, true, true, true, true, false, true, true, true, true, false, false, false] rfl rfl (by kernel_rfl) (fun _ _ _ h => h) (Or.inl ⟨by rfl, ?_⟩) hHeld ?_ ?_
      rotate_left
      · rintro w' ⟨s0, s1⟩
        go_simp
        with_reducible rfl
      rotate_left
      · simp only [Act.put, pkA, pkZ, pkS, i64_w, i32_w]
        rfl
      refine take_ (i := 11) (N := some 22) (v := ?_) (a' := ?_) #[true, true, true, true, true, true, false, true, true, true, true, true, false, false] rfl rfl (by kernel_rfl) (fun _ _ _ h => h) (Or.inl ⟨by rfl, ?_⟩) hHeld ?_ ?_
      rotate_left
      · rintro w' ⟨s0, s1⟩
        go_simp
        with_reducible rfl
      rotate_left
      · simp only [Act.put, pkA, pkZ, pkS, i64_w, i32_w]
        rfl
      refine one_ (i := 6) (N := some 17) #[true, true, true, true, true, true, true, true, true, true, true, true, false, false] rfl rfl (by kernel_rfl) (by decide) (fun K hK => ?_)
      refine goes_ Tryz.func42 (by kernel_rfl) rfl #[v, .string x.f0] (by rfl) rfl rfl (by simp only [List.map_toArray, List.map_cons, List.map_nil]; rfl) ?_
      refine (go_put L x.f0 v w.heap.size _ (pw_own_below HO.out hBd) hBw HP.out (by omega)).mono ?_
      rintro e w6 ⟨v6, rfl, own6, hb6⟩
      refine ⟨_, rfl, ?_⟩
      have hB6 := hBd.trans (hb6.mono hBd.size)
      refine hK.out _ _ ⟨(hB6.cell (p := ⟨b, o + k * 5, none⟩) hbl).trans q0, (hB6.cell (p := ⟨b, o + k * 5 + 1, none⟩) hbl).trans q1⟩ (fun hHeld => ?_)
      clear hK K
      refine norm_ (a' := ?_) ?_ ?_
      rotate_left
      · show Act.put _ (some 17) _ = _
        simp only [Act.put, pkA, pkZ, pkS, i64_w, i32_w]
        rfl
      refine one_ (i := 12) (N := some 23) #[true, true, true, true, true, true, true, true, true, true, true, true, true, false] rfl rfl (by kernel_rfl) (by decide) (fun K hK => ?_)
      refine goes_ Tryz.func42 (by kernel_rfl) rfl #[v6, .string x.f1] (by rfl) rfl rfl (by simp only [List.map_toArray, List.map_cons, List.map_nil]; rfl) ?_
      refine (go_put (withG sLt L x.f0) x.f1 v6 w.heap.size _ own6 (Nat.le_trans hBw (hb6.size)) (withG_sorted sO _ HP.out) (by have := withG_length (lt := sLt) L x.f0; omega)).mono ?_
      rintro e w7 ⟨v7, rfl, own7, hb7⟩
      refine ⟨_, rfl, ?_⟩
      have hB7 := hB6.trans (hb7.mono hB6.size)
      refine hK.out _ _ ⟨(hB7.cell (p := ⟨b, o + k * 5, none⟩) hbl).trans q0, (hB7.cell (p := ⟨b, o + k * 5 + 1, none⟩) hbl).trans q1⟩ (fun hHeld => ?_)
      clear hK K
      refine norm_ (a' := ?_) ?_ ?_
      rotate_left
      · show Act.put _ (some 23) _ = _
        simp only [Act.put, pkA, pkZ, pkS, i64_w, i32_w]
        rfl
      refine pure_ (i := 13) (N := some 3) (v := ?_) (a' := ?_) #[true, true, true, true, true, true, true, true, true, true, true, true, true, true] rfl rfl (by kernel_rfl) (fun _ _ _ h => h) (Or.inl ⟨by rfl, ?_⟩) ?_ ?_
      rotate_left
      · intro w'
        go_simp
        with_reducible rfl
      rotate_left
      · simp only [Act.put, pkA, pkZ, pkS, i64_w, i32_w]
        rfl
      refine done_ (by kernel_rfl) ?_
      go_wp2
      go_roundg (l.length - (k + 1))
      case measure => omega
      case rel => exact ⟨k + 1, v7, rfl, by omega, by go_num, rfl, hbr.trans (hB7.mono hbr.size), Lib.hid (by rw [HT.out]; exact own7)⟩
    · have hke : k = l.length := by omega
      subst hke
      rw [List.take_length] at HO
      go_wp2
      go_ret
      exact ⟨_, rfl, HO.out, hbr⟩
end Go.Proofs.YtikdiepcfdimgaaGreatDoor.POw
namespace Go.Proofs.YtikdiepcfdimgaaGreatDoor.POw
open Go.RowKit Go.Proofs.YtikdiepcfdimgaaGreatDoorW.PrintWords Go.Proofs.YtikdiepcfdimgaaGreatDoorW.PrintLast
def grOf (l : List Hold) (s : Gr) : Gr := l.foldl addG s
theorem newL_fold {k : Nat} : ∀ {l : List Hold} {i : Nat} {s s' : Gr}, newL k l i s = some (.inr s') → s' = grOf l s
  | [], i, s, s', h => by simp [newL] at h; exact h.symm
  | x :: l, i, s, s', h => by
    rw [newL] at h
    obtain ⟨e, _, h⟩ := Option.bind_eq_some_iff.1 h
    by_cases he : e = 0
    · rw [if_pos he] at h; exact (newL_fold h : s' = grOf l (addG s x))
    · rw [if_neg he] at h; cases h
theorem grOf_en : ∀ (l : List Hold) (s : Gr), (grOf l s).en = entL l s.en
  | [], _ => rfl
  | x :: l, s => grOf_en l (addG s x)
theorem mem_entL (x : ByteArray) : ∀ (l : List Hold) (L : List ByteArray), x ∈ entL l L ↔ x ∈ L ∨ ∃ h ∈ l, x = h.f0 ∨ x = h.f1
  | [], L => by simp [entL]
  | y :: l, L => by
    show x ∈ entL l (withG sLt (withG sLt L y.f0) y.f1) ↔ _
    rw [mem_entL x l, withG_mem, withG_mem]
    simp only [List.mem_cons]
    constructor
    · rintro ((h | h | h) | ⟨z, hz, h⟩)
      · exact .inr ⟨y, .inl rfl, .inr h⟩
      · exact .inr ⟨y, .inl rfl, .inl h⟩
      · exact .inl h
      · exact .inr ⟨z, .inr hz, h⟩
    · rintro (h | ⟨z, rfl | hz, h⟩)
      · exact .inl (.inr (.inr h))
      · rcases h with h | h
        · exact .inl (.inr (.inl h))
        · exact .inl (.inl h)
      · exact .inr ⟨z, hz, h⟩
theorem mem_owL (o x : ByteArray) : ∀ (l : List Hold) (s : Gr), o ∈ (grOf l s).owL x ↔ o ∈ s.owL x ∨ ∃ h ∈ l, o = h.f0 ∧ x = h.f1
  | [], s => by simp [grOf]
  | y :: l, s => by
    show o ∈ (grOf l (addG s y)).owL x ↔ _
    rw [mem_owL o x l, addG_owL]
    simp only [List.mem_cons]
    by_cases hx : x = y.f1
    · subst hx
      rw [if_pos rfl, withG_mem]
      constructor
      · rintro ((h | h) | ⟨z, hz, h⟩)
        · exact .inr ⟨y, .inl rfl, h, rfl⟩
        · exact .inl h
        · exact .inr ⟨z, .inr hz, h⟩
      · rintro (h | ⟨z, rfl | hz, h⟩)
        · exact .inl (.inr h)
        · exact .inl (.inl h.1)
        · exact .inr ⟨z, hz, h⟩
    · rw [if_neg hx]
      constructor
      · rintro (h | ⟨z, hz, h⟩)
        · exact .inl h
        · exact .inr ⟨z, .inr hz, h⟩
      · rintro (h | ⟨z, rfl | hz, h⟩)
        · exact .inl h
        · exact absurd h.2 hx
        · exact .inr ⟨z, hz, h⟩
theorem mem_shL (q : Hold) (k : Pr) : ∀ (l : List Hold) (s : Gr), q ∈ (grOf l s).shL k ↔ q ∈ s.shL k ∨ (q ∈ l ∧ q.pr = k)
  | [], s => by simp [grOf]
  | y :: l, s => by
    show q ∈ (grOf l (addG s y)).shL k ↔ _
    rw [mem_shL q k l, addG_shL]
    simp only [List.mem_cons]
    by_cases hx : k = y.pr
    · subst hx
      rw [if_pos rfl, (insH_perm _ _).mem_iff, List.mem_append, List.mem_singleton]
      constructor
      · rintro ((h | h) | h)
        · exact .inl h
        · subst h; exact .inr ⟨.inl rfl, rfl⟩
        · exact .inr ⟨.inr h.1, h.2⟩
      · rintro (h | ⟨h | h, h2⟩)
        · exact .inl (.inl h)
        · exact .inl (.inr h)
        · exact .inr ⟨h, h2⟩
    · rw [if_neg hx]
      constructor
      · rintro (h | h)
        · exact .inl h
        · exact .inr ⟨.inr h.1, h.2⟩
      · rintro (h | ⟨h | h, h2⟩)
        · exact .inl h
        · subst h; exact absurd h2.symm hx
        · exact .inr ⟨h, h2⟩
theorem mem_ch (d : Int) : ∀ (l : List Hold) (s : Gr), d ∈ (grOf l s).ch ↔ d ∈ s.ch ∨ ∃ h ∈ l, d = h.f3
  | [], s => by simp [grOf]
  | y :: l, s => by
    show d ∈ (grOf l (addG s y)).ch ↔ _
    rw [mem_ch d l, show (addG s y).ch = withG iLt s.ch y.f3 from rfl, withG_mem]
    simp only [List.mem_cons]
    constructor
    · rintro ((h | h) | ⟨z, hz, h⟩)
      · exact .inr ⟨y, .inl rfl, h⟩
      · exact .inl h
      · exact .inr ⟨z, .inr hz, h⟩
    · rintro (h | ⟨z, rfl | hz, h⟩)
      · exact .inl (.inr h)
      · exact .inl (.inl h)
      · exact .inr ⟨z, hz, h⟩
def ShareIs (P : Hold → Prop) (day : Int) (f : Frc) : Prop := (f = ⟨0, 1⟩ ∧ ∀ h, P h → day < h.f3) ∨ ∃ h, P h ∧ h.f3 ≤ day ∧ (∀ q, P q → q.f3 ≤ day → q.f3 ≤ h.f3) ∧ f = h.f2
theorem ShareIs.unique {P : Hold → Prop} {day : Int} {f g : Frc} (hP : ∀ a b, P a → P b → a.f3 = b.f3 → a = b) (h1 : ShareIs P day f) (h2 : ShareIs P day g) : f = g := by
  rcases h1 with ⟨rfl, h1⟩ | ⟨a, pa, la, ma, rfl⟩
  · rcases h2 with ⟨rfl, _⟩ | ⟨b, pb, lb, _, _⟩
    · rfl
    · have := h1 b pb; omega
  · rcases h2 with ⟨rfl, h2⟩ | ⟨b, pb, lb, mb, rfl⟩
    · have := h2 a pa; omega
    · have h3 := ma b pb lb
      have h4 := mb a pa la
      rw [hP a b pa pb (by omega)]
theorem shareL_is : ∀ (l : List Hold) (day : Int), l.Pairwise (fun a b => a.f3 < b.f3) → ShareIs (fun h => h ∈ l) day (shareL l day) := by
  intro l day
  suffices H : ∀ r : List Hold, r.reverse.Pairwise (fun a b => a.f3 < b.f3) → ShareIs (fun h => h ∈ r.reverse) day (shareL r.reverse day) by
    intro h
    have := H l.reverse (by rw [List.reverse_reverse]; exact h)
    rw [List.reverse_reverse] at this
    exact this
  intro r
  induction r with
  | nil => intro _; exact .inl ⟨rfl, fun h hh => by simp at hh⟩
  | cons x r ih =>
    intro h
    rw [List.reverse_cons] at h ⊢
    have h' := (List.pairwise_append.1 h)
    rw [shareL_snoc]
    by_cases c : x.f3 ≤ day
    · rw [if_pos c]
      refine .inr ⟨x, by simp, c, fun q hq _ => ?_, rfl⟩
      rcases List.mem_append.1 hq with hq | hq
      · have := h'.2.2 q hq x (by simp); omega
      · rw [List.mem_singleton.1 hq]; omega
    · rw [if_neg c]
      rcases ih h'.1 with ⟨e, h1⟩ | ⟨a, pa, la, ma, e⟩
      · refine .inl ⟨e, fun q hq => ?_⟩
        rcases List.mem_append.1 hq with hq | hq
        · exact h1 q hq
        · rw [List.mem_singleton.1 hq]; omega
      · refine .inr ⟨a, List.mem_append_left _ pa, la, fun q hq hle => ?_, e⟩
        rcases List.mem_append.1 hq with hq | hq
        · exact ma q hq hle
        · rw [List.mem_singleton.1 hq] at hle; omega
set_option linter.unusedVariables false
set_option linter.unusedSimpArgs false
def accountingref43_has.l0 : Nat → List ByteArray → ByteArray → Int → Option (Bool)
  | 0, _, _, _ => none
  | k + 1, x0, x1, x5 => if x5 < (x0.length : Int) then (if 0 ≤ x5 then (if (rdOf ByteArray.empty x0 x5).toList = x1.toList then (some true) else (accountingref43_has.l0 k x0 x1 (wrap64 (x5 + 1)))) else (none)) else (some false)
def accountingref43_has.f (k : Nat) (l0 : List ByteArray) (a1 : ByteArray) : Option (Bool) := accountingref43_has.l0 k l0 a1 0
set_option maxHeartbeats 8000000 in
set_option maxRecDepth 100000 in
theorem accountingref43_has.calls (k : Nat) (A0 : Option Addr) (c0 : Nat) (l0 : List ByteArray) (a1 : ByteArray) (r : Bool) (w : World) (hr0 : Kd.C Kd.string w A0 l0.length l0) (hc0 : l0.length ≤ c0) (h : accountingref43_has.f k l0 a1 = some r) :
    Calls Tryz.prog 41 #[.slice A0 l0.length c0, .string a1] w fun e w' => e = .returned (.bool r) ∧ Drawn0 w w' := by
  have HR0 := Aside0.mk hr0
  have HC0 := Aside0.mk hc0
  clear hr0 hc0
  have H : (accountingref43_has.l0 k l0 a1 0) = some r := h
  clear h
  have H' := Aside0.mk H
  clear H
  go_enter Tryz.func41, Tryz.ntmps41
  go_wp2
  go_loopg [5] k (fun kq v5 w' => ∃ (x5_1 : Int), v5 = .int .i64 x5_1 ∧ Aside0 (accountingref43_has.l0 kq l0 a1 x5_1 = some r) ∧ Aside0 (kq ≤ k) ∧ Drawn0 w w')
  case atStart => exact ⟨(0), (by first | rfl | (simp; done) | (simp [*]; done)), H', ⟨Nat.le_refl _⟩, by repeat (first | exact Drawn0.refl _ | apply Drawn0.step)⟩
  case round =>
    clear H'
    try clear p2
    obtain ⟨x5_1, rfl, HA, HK1, ⟨m1, rfl⟩⟩ := hrel
    cases gk with
    | zero => exact absurd HA.out (by simp [accountingref43_has.l0])
    | succ k1 =>
      have H := HA.out
      clear HA
      simp only [accountingref43_has.l0] at H
      by_cases c3 : x5_1 < (l0.length : Int)
      · rw [if_pos c3] at H
        have c3b0 : decide (x5_1 < (l0.length : Int)) = true := decide_eq_true c3
        clear c3
        by_cases c4 : 0 ≤ x5_1
        · rw [if_pos c4] at H
          have c4b0 : decide (0 ≤ x5_1) = true := decide_eq_true c4
          clear c4
          by_cases c5 : (rdOf ByteArray.empty l0 x5_1).toList = a1.toList
          · rw [if_pos c5] at H
            have c5b0 : ((rdOf ByteArray.empty l0 x5_1).toList == a1.toList) = true := beq_iff_eq.mpr c5
            have c5b1 : ((rdOf ByteArray.empty l0 x5_1).toList != a1.toList) = false := bne_eq_false_iff_eq.mpr c5
            clear c5
            obtain rfl := Option.some.inj H
            have p164 : 0 ≤ (x5_1 : Int) := of_decide_eq_true (by first | (with_reducible assumption) | assumption)
            have q164 : x5_1 < (l0.length : Int) := of_decide_eq_true (by first | (with_reducible assumption) | assumption)
            obtain ⟨ad164, e164, hx164_0⟩ := Kd.at_string HR0.out x5_1 p164 q164
            cases e164
            replace p164 := eq_true p164
            replace q164 := eq_true q164
            go_wp2
            go_ret
            exact ⟨by first | rfl | (simp; done) | (simp [*]; done), by repeat (first | exact Drawn0.refl _ | apply Drawn0.step)⟩
          · rw [if_neg c5] at H
            have c5b0 : ((rdOf ByteArray.empty l0 x5_1).toList == a1.toList) = false := beq_eq_false_iff_ne.mpr c5
            have c5b1 : ((rdOf ByteArray.empty l0 x5_1).toList != a1.toList) = true := bne_iff_ne.mpr c5
            have H' := Aside0.mk H
            clear H
            have p164 : 0 ≤ (x5_1 : Int) := of_decide_eq_true (by first | (with_reducible assumption) | assumption)
            have q164 : x5_1 < (l0.length : Int) := of_decide_eq_true (by first | (with_reducible assumption) | assumption)
            obtain ⟨ad164, e164, hx164_0⟩ := Kd.at_string HR0.out x5_1 p164 q164
            cases e164
            replace p164 := eq_true p164
            replace q164 := eq_true q164
            go_wp2
            go_roundg k1
            case measure => have := HK1.out; omega
            case rel => exact ⟨(wrap64 (x5_1 + 1)), (by first | rfl | (simp; done) | (simp [*]; done)), H', ⟨by have := HK1.out; omega⟩, by repeat (first | exact Drawn0.refl _ | apply Drawn0.step)⟩
        · rw [if_neg c4] at H
          exact absurd H (by simp)
      · rw [if_neg c3] at H
        have c3b0 : decide (x5_1 < (l0.length : Int)) = false := decide_eq_false c3
        clear c3
        obtain rfl := Option.some.inj H
        go_wp2
        go_ret
        exact ⟨by first | rfl | (simp; done) | (simp [*]; done), by repeat (first | exact Drawn0.refl _ | apply Drawn0.step)⟩
mutual
def accountingref43_owns.l0 : Nat → List (S56) → ByteArray → List ByteArray → Int → Option (Bool)
  | 0, _, _, _, _ => none
  | k + 1, x0, x2, x7, x8 => if x8 < (x7.length : Int) then (accountingref43_owns.l1 k x0 x2 x7 x8 0) else (some false)
def accountingref43_owns.l1 : Nat → List (S56) → ByteArray → List ByteArray → Int → Int → Option (Bool)
  | 0, _, _, _, _, _ => none
  | k + 1, x0, x2, x7, x8, x9 => if x9 < (x0.length : Int) then (if 0 ≤ x9 then (if 0 ≤ x8 then (if x8 < (x7.length : Int) then (if ((rd_T56 x0 x9).f0).toList = (rdOf ByteArray.empty x7 x8).toList then (accountingref43_owns.j2 k x0 x2 x7 x8 x9 (((rd_T56 x0 x9).f1).toList == x2.toList)) else (accountingref43_owns.j2 k x0 x2 x7 x8 x9 false)) else (none)) else (none)) else (none)) else (accountingref43_owns.l0 k x0 x2 x7 (wrap64 (x8 + 1)))
def accountingref43_owns.j2 : Nat → List (S56) → ByteArray → List ByteArray → Int → Int → Bool → Option (Bool)
  | 0, _, _, _, _, _, _ => none
  | k + 1, x0, x2, x7, x8, x9, x42 => if x42 = true then (some true) else (if 0 ≤ x9 then (if x9 < (x0.length : Int) then (if 0 ≤ x8 then (if x8 < (x7.length : Int) then (if ((rd_T56 x0 x9).f0).toList = (rdOf ByteArray.empty x7 x8).toList then ((accountingref43_has.f k x7 ((rd_T56 x0 x9).f1)).bind fun t174 => (if t174 = true then (accountingref43_owns.l1 k x0 x2 x7 x8 (wrap64 (x9 + 1))) else (if x7.length < 8796093022208 then (accountingref43_owns.l1 k x0 x2 (x7 ++ [(rd_T56 x0 x9).f1]) x8 (wrap64 (x9 + 1))) else (none)))) else (accountingref43_owns.l1 k x0 x2 x7 x8 (wrap64 (x9 + 1)))) else (none)) else (none)) else (none)) else (none))
end
def accountingref43_owns.f (k : Nat) (l0 : List (S56)) (a1 : ByteArray) (a2 : ByteArray) : Option (Bool) := accountingref43_owns.l0 k l0 a2 (([a1] : List ByteArray)) 0
set_option maxHeartbeats 8000000 in
set_option maxRecDepth 100000 in
theorem accountingref43_owns.calls (k : Nat) (A0 : Option Addr) (c0 : Nat) (l0 : List (S56)) (a1 : ByteArray) (a2 : ByteArray) (r : Bool) (w : World) (hr0 : Kd.C k56 w A0 l0.length l0) (hc0 : l0.length ≤ c0) (h : accountingref43_owns.f k l0 a1 a2 = some r) :
    Calls Tryz.prog 57 #[.slice A0 l0.length c0, .string a1, .string a2] w fun e w' => e = .returned (.bool r) ∧ Below w.heap.size w w' := by
  have HR0 := Aside0.mk hr0
  have HC0 := Aside0.mk hc0
  clear hr0 hc0
  have HB := Aside0.mk (Below.refl w.heap.size w)
  have H : (accountingref43_owns.l0 k l0 a2 (([a1] : List ByteArray)) 0) = some r := h
  clear h
  obtain ⟨y165, hy165⟩ : ∃ y_ : List ByteArray, y_ = (([a1] : List ByteArray)) := ⟨_, rfl⟩
  replace H : (accountingref43_owns.l0 k l0 a2 y165 0) = some r := by first | (rw [hy165]; with_reducible exact H) | (have H2_ := (Option.bind_some _ _).symm.trans H; rw [hy165]; with_reducible exact H2_) | (have H2_ := (Option.bind_some _ _).symm.trans H; with_reducible exact H2_) | with_reducible exact H | (rw [hy165]; exact H) | exact H
  have Ny165 := Aside0.mk hy165
  clear hy165
  have H' := Aside0.mk H
  clear H
  go_enter Tryz.func57, Tryz.ntmps57
  go_wp2_with (first | ((with_reducible refine gate_dst (N := 11) rfl ?_); refine Kd.R_lit Kd.string _ 9 ?hg (N := 11) ?hd (xs := ([a1] : List ByteArray)) (inner := [.string a1]) (ok := fun _ => True) (okp := fun _ => True) ?hr ?hp (fun _ hk => hk) trivial (Below.refl _ _) (Nat.le_refl _) (by simp) ?_; (case hd => rfl); (case hg => rfl); (case hr => first | (go_simp; done) | (go_simp; rfl)); (case hp => exact (Reps.one (show Kd.M Kd.string _ _ _ a1 [.string a1] from rfl) (Reps.none _ _))); intro v166 w4 ho5 hb hg_ hnew_; clear hg_ hnew_; (first | rw [← Ny165.out] at ho5 | (simp only [Int.reduceToNat] at ho5; rw [← Ny165.out] at ho5)); have n0_ := Aside0.mk (Kd.R_lower ho5 (below_size (by repeat (first | (with_reducible first | exact HB.out | apply below_alloc | apply pw_below_drewN | apply below_drew1) | exact HB.out)))); have n1_ := Aside0.mk (below_step (by repeat (first | (with_reducible first | exact HB.out | apply below_alloc | apply pw_below_drewN | apply below_drew1) | exact HB.out)) hb); clear HB; have HO167 := n0_; have HB := n1_; clear n0_ n1_; clear hb ho5))
  repeat (go_quiet (first | ((with_reducible refine gate_dst (N := 11) rfl ?_); refine Kd.R_lit Kd.string _ 9 ?hg (N := 11) ?hd (xs := ([a1] : List ByteArray)) (inner := [.string a1]) (ok := fun _ => True) (okp := fun _ => True) ?hr ?hp (fun _ hk => hk) trivial (Below.refl _ _) (Nat.le_refl _) (by simp) ?_; (case hd => rfl); (case hg => rfl); (case hr => first | (go_simp; done) | (go_simp; rfl)); (case hp => exact (Reps.one (show Kd.M Kd.string _ _ _ a1 [.string a1] from rfl) (Reps.none _ _))); intro v166 w4 ho5 hb hg_ hnew_; clear hg_ hnew_; (first | rw [← Ny165.out] at ho5 | (simp only [Int.reduceToNat] at ho5; rw [← Ny165.out] at ho5)); have n0_ := Aside0.mk (Kd.R_lower ho5 (below_size (by repeat (first | (with_reducible first | exact HB.out | apply below_alloc | apply pw_below_drewN | apply below_drew1) | exact HB.out)))); have n1_ := Aside0.mk (below_step (by repeat (first | (with_reducible first | exact HB.out | apply below_alloc | apply pw_below_drewN | apply below_drew1) | exact HB.out)) hb); clear HB; have HO167 := n0_; have HB := n1_; clear n0_ n1_; clear hb ho5)); try go_wp2_with (first | ((with_reducible refine gate_dst (N := 11) rfl ?_); refine Kd.R_lit Kd.string _ 9 ?hg (N := 11) ?hd (xs := ([a1] : List ByteArray)) (inner := [.string a1]) (ok := fun _ => True) (okp := fun _ => True) ?hr ?hp (fun _ hk => hk) trivial (Below.refl _ _) (Nat.le_refl _) (by simp) ?_; (case hd => rfl); (case hg => rfl); (case hr => first | (go_simp; done) | (go_simp; rfl)); (case hp => exact (Reps.one (show Kd.M Kd.string _ _ _ a1 [.string a1] from rfl) (Reps.none _ _))); intro v166 w4 ho5 hb hg_ hnew_; clear hg_ hnew_; (first | rw [← Ny165.out] at ho5 | (simp only [Int.reduceToNat] at ho5; rw [← Ny165.out] at ho5)); have n0_ := Aside0.mk (Kd.R_lower ho5 (below_size (by repeat (first | (with_reducible first | exact HB.out | apply below_alloc | apply pw_below_drewN | apply below_drew1) | exact HB.out)))); have n1_ := Aside0.mk (below_step (by repeat (first | (with_reducible first | exact HB.out | apply below_alloc | apply pw_below_drewN | apply below_drew1) | exact HB.out)) hb); clear HB; have HO167 := n0_; have HB := n1_; clear n0_ n1_; clear hb ho5)))
  go_loopg [7, 8] k (fun kq v7 v8 w' => ∃ (x7_1 : List ByteArray) (x8_1 : Int), v8 = .int .i64 x8_1 ∧ Aside0 (accountingref43_owns.l0 kq l0 a2 x7_1 x8_1 = some r) ∧ Aside0 (kq ≤ k) ∧ Aside0 (Kd.R Kd.string 9 w' w.heap.size (fun _ => True) v7 x7_1) ∧ Aside0 (Below w.heap.size w w'))
  case atStart => exact ⟨(y165), (0), (by first | rfl | (simp; done) | (simp [*]; done)), H', ⟨Nat.le_refl _⟩, ⟨by (with_reducible repeat (first | apply Kd.R_alloc | apply Kd.R_drewN | apply Kd.R_drew)); exact HO167.out⟩, ⟨by repeat (first | (with_reducible first | exact HB.out | apply below_alloc | apply pw_below_drewN | apply below_drew1) | exact HB.out)⟩⟩
  case round =>
    clear H'
    try clear p2
    try clear c5
    obtain ⟨x7_1, x8_1, rfl, HA, HK1, HO_7, HB⟩ := hrel
    cases gk with
    | zero => exact absurd HA.out (by simp [accountingref43_owns.l0])
    | succ k1 =>
      have H := HA.out
      clear HA
      simp only [accountingref43_owns.l0] at H
      by_cases c6 : x8_1 < (x7_1.length : Int)
      · rw [if_pos c6] at H
        have c6b0 : decide (x8_1 < (x7_1.length : Int)) = true := decide_eq_true c6
        clear c6
        have H' := Aside0.mk H
        clear H
        obtain ⟨Ao7, co7, eo7⟩ := Kd.R_slice HO_7.out
        subst eo7
        go_wp2
        repeat (go_quiet (fail); try go_wp2)
        go_loopg [7, 9] k1 (fun kq v7 v9 w' => ∃ (x7_2 : List ByteArray) (x9_2 : Int), v9 = .int .i64 x9_2 ∧ Aside0 (accountingref43_owns.l1 kq l0 a2 x7_2 x8_1 x9_2 = some r) ∧ Aside0 (kq ≤ k1) ∧ Aside0 (Kd.R Kd.string 9 w' w.heap.size (fun _ => True) v7 x7_2) ∧ Aside0 (Below w.heap.size w w'))
        case atStart => exact ⟨(x7_1), (0), (by first | rfl | (simp; done) | (simp [*]; done)), H', ⟨Nat.le_refl _⟩, ⟨by (with_reducible repeat (first | apply Kd.R_alloc | apply Kd.R_drewN | apply Kd.R_drew)); exact HO_7.out⟩, ⟨by repeat (first | (with_reducible first | exact HB.out | apply below_alloc | apply pw_below_drewN | apply below_drew1) | exact HB.out)⟩⟩
        case round =>
          clear H'
          try clear p2
          try clear c5
          try clear c6
          try clear c6b0
          try clear p2
          obtain ⟨x7_2, x9_2, rfl, HA, HK2, HO_7, HB⟩ := hrel
          cases gk with
          | zero => exact absurd HA.out (by simp [accountingref43_owns.l1])
          | succ k2 =>
            have H := HA.out
            clear HA
            simp only [accountingref43_owns.l1] at H
            by_cases c8 : x9_2 < (l0.length : Int)
            · rw [if_pos c8] at H
              have c8b0 : decide (x9_2 < (l0.length : Int)) = true := decide_eq_true c8
              clear c8
              have HC9 := Aside0.mk H
              clear H
              go_upto_region 8 with (fail)
              repeat (go_quiet (fail); go_upto_region 8 with (fail))
              go_cut [42] (fun v42 wc => ∃ (kq : Nat) (x42_8 : Bool), v42 = .bool x42_8 ∧ Aside0 (accountingref43_owns.j2 kq l0 a2 x7_2 x8_1 x9_2 x42_8 = some r) ∧ Aside0 (kq ≤ k2) ∧ Aside0 (Kd.R Kd.string 9 wc w.heap.size (fun _ => True) u7 x7_2) ∧ Aside0 (Below w.heap.size w wc))
              case first =>
                have H := HC9.out
                clear HC9
                by_cases c10 : 0 ≤ x9_2
                · rw [if_pos c10] at H
                  have c10b0 : decide (0 ≤ x9_2) = true := decide_eq_true c10
                  clear c10
                  (first | rw [c10b0] | (simp only [i64_w, i32_w]; rw [c10b0]) | skip)
                  by_cases c11 : 0 ≤ x8_1
                  · rw [if_pos c11] at H
                    have c11b0 : decide (0 ≤ x8_1) = true := decide_eq_true c11
                    clear c11
                    by_cases c12 : x8_1 < (x7_2.length : Int)
                    · rw [if_pos c12] at H
                      have c12b0 : decide (x8_1 < (x7_2.length : Int)) = true := decide_eq_true c12
                      clear c12
                      by_cases c13 : ((rd_T56 l0 x9_2).f0).toList = (rdOf ByteArray.empty x7_2 x8_1).toList
                      · rw [if_pos c13] at H
                        have c13b0 : (((rd_T56 l0 x9_2).f0).toList == (rdOf ByteArray.empty x7_2 x8_1).toList) = true := beq_iff_eq.mpr c13
                        have c13b1 : (((rd_T56 l0 x9_2).f0).toList != (rdOf ByteArray.empty x7_2 x8_1).toList) = false := bne_eq_false_iff_eq.mpr c13
                        clear c13
                        have H' := Aside0.mk H
                        clear H
                        have p168 : 0 ≤ (x9_2 : Int) := of_decide_eq_true (by first | (with_reducible assumption) | assumption)
                        have q168 : x9_2 < (l0.length : Int) := of_decide_eq_true (by first | (with_reducible assumption) | assumption)
                        obtain ⟨ad168, e168, hx168_0, hx168_1, hx168_2, hx168_3, hx168_4⟩ := at_T56 HR0.out x9_2 p168 q168
                        cases e168
                        replace hx168_0 := (HB.out.cell (World.block_lt_of_cell? w _ hx168_0)).trans hx168_0
                        replace hx168_1 := (HB.out.cell (World.block_lt_of_cell? w _ hx168_1)).trans hx168_1
                        replace hx168_2 := (HB.out.cell (World.block_lt_of_cell? w _ hx168_2)).trans hx168_2
                        replace hx168_3 := (HB.out.cell (World.block_lt_of_cell? w _ hx168_3)).trans hx168_3
                        replace hx168_4 := (HB.out.cell (World.block_lt_of_cell? w _ hx168_4)).trans hx168_4
                        replace p168 := eq_true p168
                        replace q168 := eq_true q168
                        obtain ⟨Ao14, co14, eo14⟩ := Kd.R_slice HO_7.out
                        subst eo14
                        have p169 : 0 ≤ (x8_1 : Int) := of_decide_eq_true (by first | (with_reducible assumption) | assumption)
                        have q169 : x8_1 < (x7_2.length : Int) := of_decide_eq_true (by first | (with_reducible assumption) | assumption)
                        obtain ⟨ad169, e169, hx169_0⟩ := Kd.at_string (Kd.R_reads' HO_7.out).2.2 x8_1 p169 q169
                        cases e169
                        replace p169 := eq_true p169
                        replace q169 := eq_true q169
                        have p170 : 0 ≤ (x9_2 : Int) := of_decide_eq_true (by first | (with_reducible assumption) | assumption)
                        have q170 : x9_2 < (l0.length : Int) := of_decide_eq_true (by first | (with_reducible assumption) | assumption)
                        obtain ⟨ad170, e170, hx170_0, hx170_1, hx170_2, hx170_3, hx170_4⟩ := at_T56 HR0.out x9_2 p170 q170
                        obtain rfl : ad168 = ad170 := (by injection e170)
                        replace hx170_0 := (HB.out.cell (World.block_lt_of_cell? w _ hx170_0)).trans hx170_0
                        replace hx170_1 := (HB.out.cell (World.block_lt_of_cell? w _ hx170_1)).trans hx170_1
                        replace hx170_2 := (HB.out.cell (World.block_lt_of_cell? w _ hx170_2)).trans hx170_2
                        replace hx170_3 := (HB.out.cell (World.block_lt_of_cell? w _ hx170_3)).trans hx170_3
                        replace hx170_4 := (HB.out.cell (World.block_lt_of_cell? w _ hx170_4)).trans hx170_4
                        replace p170 := eq_true p170
                        replace q170 := eq_true q170
                        go_wp2
                        repeat (go_quiet (fail); try go_wp2)
                        go_meet
                        case rel => exact ⟨_, ((((rd_T56 l0 x9_2).f1).toList == a2.toList)), (by first | rfl | (simp; done) | (simp [*]; done)), H', ⟨by have := HK1.out; have := HK2.out; first | omega | exact Nat.le_refl _⟩, ⟨by (with_reducible repeat (first | apply Kd.R_alloc | apply Kd.R_drewN | apply Kd.R_drew)); exact HO_7.out⟩, ⟨by repeat (first | (with_reducible first | exact HB.out | apply below_alloc | apply pw_below_drewN | apply below_drew1) | exact HB.out)⟩⟩
                      · rw [if_neg c13] at H
                        have c13b0 : (((rd_T56 l0 x9_2).f0).toList == (rdOf ByteArray.empty x7_2 x8_1).toList) = false := beq_eq_false_iff_ne.mpr c13
                        have c13b1 : (((rd_T56 l0 x9_2).f0).toList != (rdOf ByteArray.empty x7_2 x8_1).toList) = true := bne_iff_ne.mpr c13
                        have H' := Aside0.mk H
                        clear H
                        have p168 : 0 ≤ (x9_2 : Int) := of_decide_eq_true (by first | (with_reducible assumption) | assumption)
                        have q168 : x9_2 < (l0.length : Int) := of_decide_eq_true (by first | (with_reducible assumption) | assumption)
                        obtain ⟨ad168, e168, hx168_0, hx168_1, hx168_2, hx168_3, hx168_4⟩ := at_T56 HR0.out x9_2 p168 q168
                        cases e168
                        replace hx168_0 := (HB.out.cell (World.block_lt_of_cell? w _ hx168_0)).trans hx168_0
                        replace hx168_1 := (HB.out.cell (World.block_lt_of_cell? w _ hx168_1)).trans hx168_1
                        replace hx168_2 := (HB.out.cell (World.block_lt_of_cell? w _ hx168_2)).trans hx168_2
                        replace hx168_3 := (HB.out.cell (World.block_lt_of_cell? w _ hx168_3)).trans hx168_3
                        replace hx168_4 := (HB.out.cell (World.block_lt_of_cell? w _ hx168_4)).trans hx168_4
                        replace p168 := eq_true p168
                        replace q168 := eq_true q168
                        obtain ⟨Ao15, co15, eo15⟩ := Kd.R_slice HO_7.out
                        subst eo15
                        have p169 : 0 ≤ (x8_1 : Int) := of_decide_eq_true (by first | (with_reducible assumption) | assumption)
                        have q169 : x8_1 < (x7_2.length : Int) := of_decide_eq_true (by first | (with_reducible assumption) | assumption)
                        obtain ⟨ad169, e169, hx169_0⟩ := Kd.at_string (Kd.R_reads' HO_7.out).2.2 x8_1 p169 q169
                        cases e169
                        replace p169 := eq_true p169
                        replace q169 := eq_true q169
                        go_wp2
                        repeat (go_quiet (fail); try go_wp2)
                        go_meet
                        case rel => exact ⟨_, (false), (by first | rfl | (simp; done) | (simp [*]; done)), H', ⟨by have := HK1.out; have := HK2.out; first | omega | exact Nat.le_refl _⟩, ⟨by (with_reducible repeat (first | apply Kd.R_alloc | apply Kd.R_drewN | apply Kd.R_drew)); exact HO_7.out⟩, ⟨by repeat (first | (with_reducible first | exact HB.out | apply below_alloc | apply pw_below_drewN | apply below_drew1) | exact HB.out)⟩⟩
                    · rw [if_neg c12] at H
                      exact absurd H (by simp)
                  · rw [if_neg c11] at H
                    exact absurd H (by simp)
                · rw [if_neg c10] at H
                  exact absurd H (by simp)
              case rest =>
                clear HC9
                try clear c1
                try clear p1
                try clear q1
                try clear hx1
                try clear p2
                try clear c5
                try clear c6
                try clear c6b0
                try clear c8
                try clear c8b0
                try clear c10
                try clear c10b0
                try clear c11
                try clear c11b0
                try clear c12
                try clear c12b0
                try clear c13
                try clear c13b0
                try clear c13b1
                try clear hx168_0
                try clear hx168_1
                try clear hx168_2
                try clear hx168_3
                try clear hx168_4
                try clear hx169_0
                try clear hx170_0
                try clear hx170_1
                try clear hx170_2
                try clear hx170_3
                try clear hx170_4
                try clear p168
                try clear p169
                try clear p170
                try clear p2
                try clear q168
                try clear q169
                try clear q170
                obtain ⟨kq, x42_8, rfl, HA, HJ8, HO_7, HB⟩ := hcut
                cases kq with
                | zero => exact absurd HA.out (by simp [accountingref43_owns.j2])
                | succ kj8 =>
                  have H := HA.out
                  clear HA
                  simp only [accountingref43_owns.j2] at H
                  by_cases c16 : x42_8 = true
                  · subst c16
                    have H1 : (some true) = some r := by rw [if_pos rfl] at H; exact H
                    clear H
                    have H := H1
                    clear H1
                    obtain rfl := Option.some.inj H
                    go_wp2
                    repeat (go_quiet (fail); try go_wp2)
                    go_ret
                    exact ⟨by first | rfl | (simp [errW_none, errW_some] <;> rfl) | (simp [*, errW_none, errW_some] <;> rfl), by repeat (first | (with_reducible first | exact HB.out | apply below_alloc | apply pw_below_drewN | apply below_drew1) | exact HB.out)⟩
                  · replace c16 := Bool.eq_false_iff.mpr c16
                    subst c16
                    have H1 : (if 0 ≤ x9_2 then (if x9_2 < (l0.length : Int) then (if 0 ≤ x8_1 then (if x8_1 < (x7_2.length : Int) then (if ((rd_T56 l0 x9_2).f0).toList = (rdOf ByteArray.empty x7_2 x8_1).toList then ((accountingref43_has.f kj8 x7_2 ((rd_T56 l0 x9_2).f1)).bind fun t174 => (if t174 = true then (accountingref43_owns.l1 kj8 l0 a2 x7_2 x8_1 (wrap64 (x9_2 + 1))) else (if x7_2.length < 8796093022208 then (accountingref43_owns.l1 kj8 l0 a2 (x7_2 ++ [(rd_T56 l0 x9_2).f1]) x8_1 (wrap64 (x9_2 + 1))) else (none)))) else (accountingref43_owns.l1 kj8 l0 a2 x7_2 x8_1 (wrap64 (x9_2 + 1)))) else (none)) else (none)) else (none)) else (none)) = some r := by rw [if_neg (show ¬ (false = true) by decide)] at H; exact H
                    clear H
                    have H := H1
                    clear H1
                    by_cases c17 : 0 ≤ x9_2
                    · rw [if_pos c17] at H
                      have c17b0 : decide (0 ≤ x9_2) = true := decide_eq_true c17
                      clear c17
                      by_cases c18 : x9_2 < (l0.length : Int)
                      · rw [if_pos c18] at H
                        have c18b0 : decide (x9_2 < (l0.length : Int)) = true := decide_eq_true c18
                        clear c18
                        by_cases c19 : 0 ≤ x8_1
                        · rw [if_pos c19] at H
                          have c19b0 : decide (0 ≤ x8_1) = true := decide_eq_true c19
                          clear c19
                          by_cases c20 : x8_1 < (x7_2.length : Int)
                          · rw [if_pos c20] at H
                            have c20b0 : decide (x8_1 < (x7_2.length : Int)) = true := decide_eq_true c20
                            clear c20
                            by_cases c21 : ((rd_T56 l0 x9_2).f0).toList = (rdOf ByteArray.empty x7_2 x8_1).toList
                            · rw [if_pos c21] at H
                              have c21b0 : (((rd_T56 l0 x9_2).f0).toList == (rdOf ByteArray.empty x7_2 x8_1).toList) = true := beq_iff_eq.mpr c21
                              have c21b1 : (((rd_T56 l0 x9_2).f0).toList != (rdOf ByteArray.empty x7_2 x8_1).toList) = false := bne_eq_false_iff_eq.mpr c21
                              clear c21
                              replace H := Option.bind_eq_some_iff.mp H
                              obtain ⟨t174, A220, H⟩ := H
                              replace H : (if t174 = true then (accountingref43_owns.l1 kj8 l0 a2 x7_2 x8_1 (wrap64 (x9_2 + 1))) else (if x7_2.length < 8796093022208 then (accountingref43_owns.l1 kj8 l0 a2 (x7_2 ++ [(rd_T56 l0 x9_2).f1]) x8_1 (wrap64 (x9_2 + 1))) else (none))) = some r := H
                              have A22 := Aside0.mk A220
                              clear A220
                              by_cases c23 : t174 = true
                              · subst c23
                                have H1 : (accountingref43_owns.l1 kj8 l0 a2 x7_2 x8_1 (wrap64 (x9_2 + 1))) = some r := by rw [if_pos rfl] at H; exact H
                                clear H
                                have H := H1
                                clear H1
                                have H' := Aside0.mk H
                                clear H
                                have p171 : 0 ≤ (x9_2 : Int) := of_decide_eq_true (by first | (with_reducible assumption) | assumption)
                                have q171 : x9_2 < (l0.length : Int) := of_decide_eq_true (by first | (with_reducible assumption) | assumption)
                                obtain ⟨ad171, e171, hx171_0, hx171_1, hx171_2, hx171_3, hx171_4⟩ := at_T56 HR0.out x9_2 p171 q171
                                cases e171
                                replace hx171_0 := (HB.out.cell (World.block_lt_of_cell? w _ hx171_0)).trans hx171_0
                                replace hx171_1 := (HB.out.cell (World.block_lt_of_cell? w _ hx171_1)).trans hx171_1
                                replace hx171_2 := (HB.out.cell (World.block_lt_of_cell? w _ hx171_2)).trans hx171_2
                                replace hx171_3 := (HB.out.cell (World.block_lt_of_cell? w _ hx171_3)).trans hx171_3
                                replace hx171_4 := (HB.out.cell (World.block_lt_of_cell? w _ hx171_4)).trans hx171_4
                                replace p171 := eq_true p171
                                replace q171 := eq_true q171
                                obtain ⟨Ao24, co24, eo24⟩ := Kd.R_slice HO_7.out
                                subst eo24
                                have p172 : 0 ≤ (x8_1 : Int) := of_decide_eq_true (by first | (with_reducible assumption) | assumption)
                                have q172 : x8_1 < (x7_2.length : Int) := of_decide_eq_true (by first | (with_reducible assumption) | assumption)
                                obtain ⟨ad172, e172, hx172_0⟩ := Kd.at_string (Kd.R_reads' HO_7.out).2.2 x8_1 p172 q172
                                cases e172
                                replace p172 := eq_true p172
                                replace q172 := eq_true q172
                                have p173 : 0 ≤ (x9_2 : Int) := of_decide_eq_true (by first | (with_reducible assumption) | assumption)
                                have q173 : x9_2 < (l0.length : Int) := of_decide_eq_true (by first | (with_reducible assumption) | assumption)
                                obtain ⟨ad173, e173, hx173_0, hx173_1, hx173_2, hx173_3, hx173_4⟩ := at_T56 HR0.out x9_2 p173 q173
                                obtain rfl : ad171 = ad173 := (by injection e173)
                                replace hx173_0 := (HB.out.cell (World.block_lt_of_cell? w _ hx173_0)).trans hx173_0
                                replace hx173_1 := (HB.out.cell (World.block_lt_of_cell? w _ hx173_1)).trans hx173_1
                                replace hx173_2 := (HB.out.cell (World.block_lt_of_cell? w _ hx173_2)).trans hx173_2
                                replace hx173_3 := (HB.out.cell (World.block_lt_of_cell? w _ hx173_3)).trans hx173_3
                                replace hx173_4 := (HB.out.cell (World.block_lt_of_cell? w _ hx173_4)).trans hx173_4
                                replace p173 := eq_true p173
                                replace q173 := eq_true q173
                                go_wp2_with (first | (go_at_call 41; (with_reducible refine (accountingref43_has.calls kj8 _ _ x7_2 ((rd_T56 l0 x9_2).f1) true _ ?side1 ?side2 A22.out).mono ?_); (case side1 => repeat (first | exact (Kd.R_reads' HO_7.out).2.2 | (with_reducible refine Kd.C_alloc ?_ _) | (with_reducible refine Kd.C_drewN ?_ _) | (with_reducible refine Kd.C_drew ?_))); (case side2 => exact (Kd.R_reads' HO_7.out).2.1); rintro e w' ⟨rfl, ⟨nd, rfl⟩⟩; (try first | exact ⟨rfl, _, World.drewN_drewN _ _ _⟩ | exact ⟨rfl, _, Eq.trans (World.drewN_drewN _ _ _) (congrArg (World.drewN _) (Nat.add_assoc _ _ _))⟩)))
                                repeat (go_quiet (first | (go_at_call 41; (with_reducible refine (accountingref43_has.calls kj8 _ _ x7_2 ((rd_T56 l0 x9_2).f1) true _ ?side1 ?side2 A22.out).mono ?_); (case side1 => repeat (first | exact (Kd.R_reads' HO_7.out).2.2 | (with_reducible refine Kd.C_alloc ?_ _) | (with_reducible refine Kd.C_drewN ?_ _) | (with_reducible refine Kd.C_drew ?_))); (case side2 => exact (Kd.R_reads' HO_7.out).2.1); rintro e w' ⟨rfl, ⟨nd, rfl⟩⟩; (try first | exact ⟨rfl, _, World.drewN_drewN _ _ _⟩ | exact ⟨rfl, _, Eq.trans (World.drewN_drewN _ _ _) (congrArg (World.drewN _) (Nat.add_assoc _ _ _))⟩))); try go_wp2_with (first | (go_at_call 41; (with_reducible refine (accountingref43_has.calls kj8 _ _ x7_2 ((rd_T56 l0 x9_2).f1) true _ ?side1 ?side2 A22.out).mono ?_); (case side1 => repeat (first | exact (Kd.R_reads' HO_7.out).2.2 | (with_reducible refine Kd.C_alloc ?_ _) | (with_reducible refine Kd.C_drewN ?_ _) | (with_reducible refine Kd.C_drew ?_))); (case side2 => exact (Kd.R_reads' HO_7.out).2.1); rintro e w' ⟨rfl, ⟨nd, rfl⟩⟩; (try first | exact ⟨rfl, _, World.drewN_drewN _ _ _⟩ | exact ⟨rfl, _, Eq.trans (World.drewN_drewN _ _ _) (congrArg (World.drewN _) (Nat.add_assoc _ _ _))⟩))))
                                go_roundg kj8
                                case measure => have := HK1.out; have := HK2.out; have := HJ8.out; omega
                                case rel => exact ⟨(x7_2), (wrap64 (x9_2 + 1)), (by first | rfl | (simp; done) | (simp [*]; done)), H', ⟨by have := HK1.out; have := HK2.out; have := HJ8.out; omega⟩, ⟨by (with_reducible repeat (first | apply Kd.R_alloc | apply Kd.R_drewN | apply Kd.R_drew)); exact HO_7.out⟩, ⟨by repeat (first | (with_reducible first | exact HB.out | apply below_alloc | apply pw_below_drewN | apply below_drew1) | exact HB.out)⟩⟩
                              · replace c23 := Bool.eq_false_iff.mpr c23
                                subst c23
                                have H1 : (if x7_2.length < 8796093022208 then (accountingref43_owns.l1 kj8 l0 a2 (x7_2 ++ [(rd_T56 l0 x9_2).f1]) x8_1 (wrap64 (x9_2 + 1))) else (none)) = some r := by rw [if_neg (show ¬ (false = true) by decide)] at H; exact H
                                clear H
                                have H := H1
                                clear H1
                                by_cases c25 : x7_2.length < 8796093022208
                                · rw [if_pos c25] at H
                                  have LMc25 := Aside0.mk c25
                                  clear c25
                                  obtain ⟨y176, hy176⟩ : ∃ y_ : List ByteArray, y_ = (x7_2 ++ [(rd_T56 l0 x9_2).f1]) := ⟨_, rfl⟩
                                  replace H : (accountingref43_owns.l1 kj8 l0 a2 y176 x8_1 (wrap64 (x9_2 + 1))) = some r := by first | (rw [hy176]; with_reducible exact H) | (have H2_ := (Option.bind_some _ _).symm.trans H; rw [hy176]; with_reducible exact H2_) | (have H2_ := (Option.bind_some _ _).symm.trans H; with_reducible exact H2_) | with_reducible exact H | (rw [hy176]; exact H) | exact H
                                  have Ny176 := Aside0.mk hy176
                                  clear hy176
                                  have H' := Aside0.mk H
                                  clear H
                                  have p171 : 0 ≤ (x9_2 : Int) := of_decide_eq_true (by first | (with_reducible assumption) | assumption)
                                  have q171 : x9_2 < (l0.length : Int) := of_decide_eq_true (by first | (with_reducible assumption) | assumption)
                                  obtain ⟨ad171, e171, hx171_0, hx171_1, hx171_2, hx171_3, hx171_4⟩ := at_T56 HR0.out x9_2 p171 q171
                                  cases e171
                                  replace hx171_0 := (HB.out.cell (World.block_lt_of_cell? w _ hx171_0)).trans hx171_0
                                  replace hx171_1 := (HB.out.cell (World.block_lt_of_cell? w _ hx171_1)).trans hx171_1
                                  replace hx171_2 := (HB.out.cell (World.block_lt_of_cell? w _ hx171_2)).trans hx171_2
                                  replace hx171_3 := (HB.out.cell (World.block_lt_of_cell? w _ hx171_3)).trans hx171_3
                                  replace hx171_4 := (HB.out.cell (World.block_lt_of_cell? w _ hx171_4)).trans hx171_4
                                  replace p171 := eq_true p171
                                  replace q171 := eq_true q171
                                  obtain ⟨Ao26, co26, eo26⟩ := Kd.R_slice HO_7.out
                                  subst eo26
                                  have p172 : 0 ≤ (x8_1 : Int) := of_decide_eq_true (by first | (with_reducible assumption) | assumption)
                                  have q172 : x8_1 < (x7_2.length : Int) := of_decide_eq_true (by first | (with_reducible assumption) | assumption)
                                  obtain ⟨ad172, e172, hx172_0⟩ := Kd.at_string (Kd.R_reads' HO_7.out).2.2 x8_1 p172 q172
                                  cases e172
                                  replace p172 := eq_true p172
                                  replace q172 := eq_true q172
                                  have p173 : 0 ≤ (x9_2 : Int) := of_decide_eq_true (by first | (with_reducible assumption) | assumption)
                                  have q173 : x9_2 < (l0.length : Int) := of_decide_eq_true (by first | (with_reducible assumption) | assumption)
                                  obtain ⟨ad173, e173, hx173_0, hx173_1, hx173_2, hx173_3, hx173_4⟩ := at_T56 HR0.out x9_2 p173 q173
                                  obtain rfl : ad171 = ad173 := (by injection e173)
                                  replace hx173_0 := (HB.out.cell (World.block_lt_of_cell? w _ hx173_0)).trans hx173_0
                                  replace hx173_1 := (HB.out.cell (World.block_lt_of_cell? w _ hx173_1)).trans hx173_1
                                  replace hx173_2 := (HB.out.cell (World.block_lt_of_cell? w _ hx173_2)).trans hx173_2
                                  replace hx173_3 := (HB.out.cell (World.block_lt_of_cell? w _ hx173_3)).trans hx173_3
                                  replace hx173_4 := (HB.out.cell (World.block_lt_of_cell? w _ hx173_4)).trans hx173_4
                                  replace p173 := eq_true p173
                                  replace q173 := eq_true q173
                                  go_wp2_with (first | (go_at_call 41; (with_reducible refine (accountingref43_has.calls kj8 _ _ x7_2 ((rd_T56 l0 x9_2).f1) false _ ?side1 ?side2 A22.out).mono ?_); (case side1 => repeat (first | exact (Kd.R_reads' HO_7.out).2.2 | (with_reducible refine Kd.C_alloc ?_ _) | (with_reducible refine Kd.C_drewN ?_ _) | (with_reducible refine Kd.C_drew ?_))); (case side2 => exact (Kd.R_reads' HO_7.out).2.1); rintro e w' ⟨rfl, ⟨nd, rfl⟩⟩; (try first | exact ⟨rfl, _, World.drewN_drewN _ _ _⟩ | exact ⟨rfl, _, Eq.trans (World.drewN_drewN _ _ _) (congrArg (World.drewN _) (Nat.add_assoc _ _ _))⟩); have p175 : 0 ≤ (x9_2 : Int) := of_decide_eq_true (by first | (with_reducible assumption) | assumption); have q175 : x9_2 < (l0.length : Int) := of_decide_eq_true (by first | (with_reducible assumption) | assumption); obtain ⟨ad175, e175, hx175_0, hx175_1, hx175_2, hx175_3, hx175_4⟩ := at_T56 HR0.out x9_2 p175 q175; obtain rfl : ad171 = ad175 := (by injection e175); replace hx175_0 := (HB.out.cell (World.block_lt_of_cell? w _ hx175_0)).trans hx175_0; replace hx175_1 := (HB.out.cell (World.block_lt_of_cell? w _ hx175_1)).trans hx175_1; replace hx175_2 := (HB.out.cell (World.block_lt_of_cell? w _ hx175_2)).trans hx175_2; replace hx175_3 := (HB.out.cell (World.block_lt_of_cell? w _ hx175_3)).trans hx175_3; replace hx175_4 := (HB.out.cell (World.block_lt_of_cell? w _ hx175_4)).trans hx175_4; replace p175 := eq_true p175; replace q175 := eq_true q175) | ((with_reducible refine gate_builtin (b := .append) (xs := #[.tmp 63, .tmp 69]) rfl ?_); at_builtin; refine Kd.R_append Kd.string (w0 := w) w.heap.size rfl (.tmp 63) (.tmp 69) 37 9 (.string ⟨#[]⟩) 16 rfl Tryz.underlying37 info9 rfl (by decide) (by omega) (.slice (some ad172) x7_2.length co26) x7_2 ((rd_T56 l0 x9_2).f1) [.string ((rd_T56 l0 x9_2).f1)] (fun _ => True) (fun _ => False) rfl rfl ?aP (fun _ hk => hk.elim) ?aF ?aO ?aB ?aS ?aL ?_; (case aP => exact rfl); (case aB => exact (by repeat (first | (with_reducible first | exact HB.out | apply below_alloc | apply pw_below_drewN | apply below_drew1) | exact HB.out))); (case aF => exact (fun _ _ => trivial)); (case aO => exact (by (with_reducible repeat (first | apply Kd.R_alloc | apply Kd.R_drewN | apply Kd.R_drew)); exact HO_7.out)); (case aS => exact (below_size (by repeat (first | (with_reducible first | exact HB.out | apply below_alloc | apply pw_below_drewN | apply below_drew1) | exact HB.out)))); (case aL => have := LMc25.out; omega); intro v177 w27 ho hb hg hat; rw [← Ny176.out] at ho; have n0_ := Aside0.mk (hb); have n1_ := Aside0.mk (ho); clear HB; clear HO_7; have HB := n0_; have HO178 := n1_; clear n0_ n1_; clear ho hb hg hat))
                                  repeat (go_quiet (first | (go_at_call 41; (with_reducible refine (accountingref43_has.calls kj8 _ _ x7_2 ((rd_T56 l0 x9_2).f1) false _ ?side1 ?side2 A22.out).mono ?_); (case side1 => repeat (first | exact (Kd.R_reads' HO_7.out).2.2 | (with_reducible refine Kd.C_alloc ?_ _) | (with_reducible refine Kd.C_drewN ?_ _) | (with_reducible refine Kd.C_drew ?_))); (case side2 => exact (Kd.R_reads' HO_7.out).2.1); rintro e w' ⟨rfl, ⟨nd, rfl⟩⟩; (try first | exact ⟨rfl, _, World.drewN_drewN _ _ _⟩ | exact ⟨rfl, _, Eq.trans (World.drewN_drewN _ _ _) (congrArg (World.drewN _) (Nat.add_assoc _ _ _))⟩); have p175 : 0 ≤ (x9_2 : Int) := of_decide_eq_true (by first | (with_reducible assumption) | assumption); have q175 : x9_2 < (l0.length : Int) := of_decide_eq_true (by first | (with_reducible assumption) | assumption); obtain ⟨ad175, e175, hx175_0, hx175_1, hx175_2, hx175_3, hx175_4⟩ := at_T56 HR0.out x9_2 p175 q175; obtain rfl : ad171 = ad175 := (by injection e175); replace hx175_0 := (HB.out.cell (World.block_lt_of_cell? w _ hx175_0)).trans hx175_0; replace hx175_1 := (HB.out.cell (World.block_lt_of_cell? w _ hx175_1)).trans hx175_1; replace hx175_2 := (HB.out.cell (World.block_lt_of_cell? w _ hx175_2)).trans hx175_2; replace hx175_3 := (HB.out.cell (World.block_lt_of_cell? w _ hx175_3)).trans hx175_3; replace hx175_4 := (HB.out.cell (World.block_lt_of_cell? w _ hx175_4)).trans hx175_4; replace p175 := eq_true p175; replace q175 := eq_true q175) | ((with_reducible refine gate_builtin (b := .append) (xs := #[.tmp 63, .tmp 69]) rfl ?_); at_builtin; refine Kd.R_append Kd.string (w0 := w) w.heap.size rfl (.tmp 63) (.tmp 69) 37 9 (.string ⟨#[]⟩) 16 rfl Tryz.underlying37 info9 rfl (by decide) (by omega) (.slice (some ad172) x7_2.length co26) x7_2 ((rd_T56 l0 x9_2).f1) [.string ((rd_T56 l0 x9_2).f1)] (fun _ => True) (fun _ => False) rfl rfl ?aP (fun _ hk => hk.elim) ?aF ?aO ?aB ?aS ?aL ?_; (case aP => exact rfl); (case aB => exact (by repeat (first | (with_reducible first | exact HB.out | apply below_alloc | apply pw_below_drewN | apply below_drew1) | exact HB.out))); (case aF => exact (fun _ _ => trivial)); (case aO => exact (by (with_reducible repeat (first | apply Kd.R_alloc | apply Kd.R_drewN | apply Kd.R_drew)); exact HO_7.out)); (case aS => exact (below_size (by repeat (first | (with_reducible first | exact HB.out | apply below_alloc | apply pw_below_drewN | apply below_drew1) | exact HB.out)))); (case aL => have := LMc25.out; omega); intro v177 w27 ho hb hg hat; rw [← Ny176.out] at ho; have n0_ := Aside0.mk (hb); have n1_ := Aside0.mk (ho); clear HB; clear HO_7; have HB := n0_; have HO178 := n1_; clear n0_ n1_; clear ho hb hg hat)); try go_wp2_with (first | (go_at_call 41; (with_reducible refine (accountingref43_has.calls kj8 _ _ x7_2 ((rd_T56 l0 x9_2).f1) false _ ?side1 ?side2 A22.out).mono ?_); (case side1 => repeat (first | exact (Kd.R_reads' HO_7.out).2.2 | (with_reducible refine Kd.C_alloc ?_ _) | (with_reducible refine Kd.C_drewN ?_ _) | (with_reducible refine Kd.C_drew ?_))); (case side2 => exact (Kd.R_reads' HO_7.out).2.1); rintro e w' ⟨rfl, ⟨nd, rfl⟩⟩; (try first | exact ⟨rfl, _, World.drewN_drewN _ _ _⟩ | exact ⟨rfl, _, Eq.trans (World.drewN_drewN _ _ _) (congrArg (World.drewN _) (Nat.add_assoc _ _ _))⟩); have p175 : 0 ≤ (x9_2 : Int) := of_decide_eq_true (by first | (with_reducible assumption) | assumption); have q175 : x9_2 < (l0.length : Int) := of_decide_eq_true (by first | (with_reducible assumption) | assumption); obtain ⟨ad175, e175, hx175_0, hx175_1, hx175_2, hx175_3, hx175_4⟩ := at_T56 HR0.out x9_2 p175 q175; obtain rfl : ad171 = ad175 := (by injection e175); replace hx175_0 := (HB.out.cell (World.block_lt_of_cell? w _ hx175_0)).trans hx175_0; replace hx175_1 := (HB.out.cell (World.block_lt_of_cell? w _ hx175_1)).trans hx175_1; replace hx175_2 := (HB.out.cell (World.block_lt_of_cell? w _ hx175_2)).trans hx175_2; replace hx175_3 := (HB.out.cell (World.block_lt_of_cell? w _ hx175_3)).trans hx175_3; replace hx175_4 := (HB.out.cell (World.block_lt_of_cell? w _ hx175_4)).trans hx175_4; replace p175 := eq_true p175; replace q175 := eq_true q175) | ((with_reducible refine gate_builtin (b := .append) (xs := #[.tmp 63, .tmp 69]) rfl ?_); at_builtin; refine Kd.R_append Kd.string (w0 := w) w.heap.size rfl (.tmp 63) (.tmp 69) 37 9 (.string ⟨#[]⟩) 16 rfl Tryz.underlying37 info9 rfl (by decide) (by omega) (.slice (some ad172) x7_2.length co26) x7_2 ((rd_T56 l0 x9_2).f1) [.string ((rd_T56 l0 x9_2).f1)] (fun _ => True) (fun _ => False) rfl rfl ?aP (fun _ hk => hk.elim) ?aF ?aO ?aB ?aS ?aL ?_; (case aP => exact rfl); (case aB => exact (by repeat (first | (with_reducible first | exact HB.out | apply below_alloc | apply pw_below_drewN | apply below_drew1) | exact HB.out))); (case aF => exact (fun _ _ => trivial)); (case aO => exact (by (with_reducible repeat (first | apply Kd.R_alloc | apply Kd.R_drewN | apply Kd.R_drew)); exact HO_7.out)); (case aS => exact (below_size (by repeat (first | (with_reducible first | exact HB.out | apply below_alloc | apply pw_below_drewN | apply below_drew1) | exact HB.out)))); (case aL => have := LMc25.out; omega); intro v177 w27 ho hb hg hat; rw [← Ny176.out] at ho; have n0_ := Aside0.mk (hb); have n1_ := Aside0.mk (ho); clear HB; clear HO_7; have HB := n0_; have HO178 := n1_; clear n0_ n1_; clear ho hb hg hat)))
                                  go_roundg kj8
                                  case measure => have := HK1.out; have := HK2.out; have := HJ8.out; omega
                                  case rel => exact ⟨(y176), (wrap64 (x9_2 + 1)), (by first | rfl | (simp; done) | (simp [*]; done)), H', ⟨by have := HK1.out; have := HK2.out; have := HJ8.out; omega⟩, ⟨by (with_reducible repeat (first | apply Kd.R_alloc | apply Kd.R_drewN | apply Kd.R_drew)); exact HO178.out⟩, ⟨by repeat (first | (with_reducible first | exact HB.out | apply below_alloc | apply pw_below_drewN | apply below_drew1) | exact HB.out)⟩⟩
                                · rw [if_neg c25] at H
                                  exact absurd H (by simp)
                            · rw [if_neg c21] at H
                              have c21b0 : (((rd_T56 l0 x9_2).f0).toList == (rdOf ByteArray.empty x7_2 x8_1).toList) = false := beq_eq_false_iff_ne.mpr c21
                              have c21b1 : (((rd_T56 l0 x9_2).f0).toList != (rdOf ByteArray.empty x7_2 x8_1).toList) = true := bne_iff_ne.mpr c21
                              have H' := Aside0.mk H
                              clear H
                              have p171 : 0 ≤ (x9_2 : Int) := of_decide_eq_true (by first | (with_reducible assumption) | assumption)
                              have q171 : x9_2 < (l0.length : Int) := of_decide_eq_true (by first | (with_reducible assumption) | assumption)
                              obtain ⟨ad171, e171, hx171_0, hx171_1, hx171_2, hx171_3, hx171_4⟩ := at_T56 HR0.out x9_2 p171 q171
                              cases e171
                              replace hx171_0 := (HB.out.cell (World.block_lt_of_cell? w _ hx171_0)).trans hx171_0
                              replace hx171_1 := (HB.out.cell (World.block_lt_of_cell? w _ hx171_1)).trans hx171_1
                              replace hx171_2 := (HB.out.cell (World.block_lt_of_cell? w _ hx171_2)).trans hx171_2
                              replace hx171_3 := (HB.out.cell (World.block_lt_of_cell? w _ hx171_3)).trans hx171_3
                              replace hx171_4 := (HB.out.cell (World.block_lt_of_cell? w _ hx171_4)).trans hx171_4
                              replace p171 := eq_true p171
                              replace q171 := eq_true q171
                              obtain ⟨Ao28, co28, eo28⟩ := Kd.R_slice HO_7.out
                              subst eo28
                              have p172 : 0 ≤ (x8_1 : Int) := of_decide_eq_true (by first | (with_reducible assumption) | assumption)
                              have q172 : x8_1 < (x7_2.length : Int) := of_decide_eq_true (by first | (with_reducible assumption) | assumption)
                              obtain ⟨ad172, e172, hx172_0⟩ := Kd.at_string (Kd.R_reads' HO_7.out).2.2 x8_1 p172 q172
                              cases e172
                              replace p172 := eq_true p172
                              replace q172 := eq_true q172
                              go_wp2
                              repeat (go_quiet (fail); try go_wp2)
                              go_roundg kj8
                              case measure => have := HK1.out; have := HK2.out; have := HJ8.out; omega
                              case rel => exact ⟨(x7_2), (wrap64 (x9_2 + 1)), (by first | rfl | (simp; done) | (simp [*]; done)), H', ⟨by have := HK1.out; have := HK2.out; have := HJ8.out; omega⟩, ⟨by (with_reducible repeat (first | apply Kd.R_alloc | apply Kd.R_drewN | apply Kd.R_drew)); exact HO_7.out⟩, ⟨by repeat (first | (with_reducible first | exact HB.out | apply below_alloc | apply pw_below_drewN | apply below_drew1) | exact HB.out)⟩⟩
                          · rw [if_neg c20] at H
                            exact absurd H (by simp)
                        · rw [if_neg c19] at H
                          exact absurd H (by simp)
                      · rw [if_neg c18] at H
                        exact absurd H (by simp)
                    · rw [if_neg c17] at H
                      exact absurd H (by simp)
            · rw [if_neg c8] at H
              have c8b0 : decide (x9_2 < (l0.length : Int)) = false := decide_eq_false c8
              clear c8
              have H' := Aside0.mk H
              clear H
              go_wp2
              repeat (go_quiet (fail); try go_wp2)
              go_roundg k2
              case measure => have := HK1.out; have := HK2.out; omega
              case rel => exact ⟨(x7_2), (wrap64 (x8_1 + 1)), (by first | rfl | (simp; done) | (simp [*]; done)), H', ⟨by have := HK1.out; have := HK2.out; omega⟩, ⟨by (with_reducible repeat (first | apply Kd.R_alloc | apply Kd.R_drewN | apply Kd.R_drew)); exact HO_7.out⟩, ⟨by repeat (first | (with_reducible first | exact HB.out | apply below_alloc | apply pw_below_drewN | apply below_drew1) | exact HB.out)⟩⟩
      · rw [if_neg c6] at H
        have c6b0 : decide (x8_1 < (x7_1.length : Int)) = false := decide_eq_false c6
        clear c6
        obtain rfl := Option.some.inj H
        obtain ⟨Ao29, co29, eo29⟩ := Kd.R_slice HO_7.out
        subst eo29
        go_wp2
        repeat (go_quiet (fail); try go_wp2)
        go_ret
        exact ⟨by first | rfl | (simp [errW_none, errW_some] <;> rfl) | (simp [*, errW_none, errW_some] <;> rfl), by repeat (first | (with_reducible first | exact HB.out | apply below_alloc | apply pw_below_drewN | apply below_drew1) | exact HB.out)⟩
def accountingref43_day.f (a0 : Int) : Option (Bool) := if a0 ≥ 0 then (some (decide (a0 ≤ 109572))) else (some false)
set_option maxHeartbeats 8000000 in
set_option maxRecDepth 100000 in
theorem accountingref43_day.calls (a0 : Int) (r : Bool) (w : World) (h : accountingref43_day.f a0 = some r) :
    Calls Tryz.prog 40 #[.int .i64 a0] w fun e w' => e = .returned (.bool r) ∧ Drawn0 w w' := by
  have H : (if a0 ≥ 0 then (some (decide (a0 ≤ 109572))) else (some false)) = some r := h
  clear h
  by_cases c2 : a0 ≥ 0
  · rw [if_pos c2] at H
    have c2b0 : decide (0 ≤ a0) = true := decide_eq_true c2
    clear c2
    obtain rfl := Option.some.inj H
    go_enter Tryz.func40, Tryz.ntmps40
    go_wp2
    go_ret
    exact ⟨by first | rfl | (simp; done) | (simp [*]; done), by repeat (first | exact Drawn0.refl _ | apply Drawn0.step)⟩
  · rw [if_neg c2] at H
    have c2b0 : decide (0 ≤ a0) = false := decide_eq_false c2
    clear c2
    obtain rfl := Option.some.inj H
    go_enter Tryz.func40, Tryz.ntmps40
    go_wp2
    go_ret
    exact ⟨by first | rfl | (simp; done) | (simp [*]; done), by repeat (first | exact Drawn0.refl _ | apply Drawn0.step)⟩
def accountingref06_letter.f (a0 : Int) : Option (Bool) := if a0 ≥ 97 then (if a0 ≤ 122 then (some true) else (if a0 ≥ 65 then (if a0 ≤ 90 then (some true) else (some (a0 == 95))) else (some (a0 == 95)))) else (if a0 ≥ 65 then (if a0 ≤ 90 then (some true) else (some (a0 == 95))) else (some (a0 == 95)))
set_option maxHeartbeats 8000000 in
set_option maxRecDepth 100000 in
theorem accountingref06_letter.calls (a0 : Int) (r : Bool) (w : World) (h : accountingref06_letter.f a0 = some r) :
    Calls Tryz.prog 63 #[.int .u8 a0] w fun e w' => e = .returned (.bool r) ∧ Drawn0 w w' := by
  have H : (if a0 ≥ 97 then (if a0 ≤ 122 then (some true) else (if a0 ≥ 65 then (if a0 ≤ 90 then (some true) else (some (a0 == 95))) else (some (a0 == 95)))) else (if a0 ≥ 65 then (if a0 ≤ 90 then (some true) else (some (a0 == 95))) else (some (a0 == 95)))) = some r := h
  clear h
  by_cases c2 : a0 ≥ 97
  · rw [if_pos c2] at H
    have c2b0 : decide (97 ≤ a0) = true := decide_eq_true c2
    clear c2
    by_cases c3 : a0 ≤ 122
    · rw [if_pos c3] at H
      have c3b0 : decide (a0 ≤ 122) = true := decide_eq_true c3
      clear c3
      obtain rfl := Option.some.inj H
      go_enter Tryz.func63, Tryz.ntmps63
      go_wp2
      go_ret
      exact ⟨by first | rfl | (simp; done) | (simp [*]; done), by repeat (first | exact Drawn0.refl _ | apply Drawn0.step)⟩
    · rw [if_neg c3] at H
      have c3b0 : decide (a0 ≤ 122) = false := decide_eq_false c3
      clear c3
      by_cases c4 : a0 ≥ 65
      · rw [if_pos c4] at H
        have c4b0 : decide (65 ≤ a0) = true := decide_eq_true c4
        clear c4
        by_cases c5 : a0 ≤ 90
        · rw [if_pos c5] at H
          have c5b0 : decide (a0 ≤ 90) = true := decide_eq_true c5
          clear c5
          obtain rfl := Option.some.inj H
          go_enter Tryz.func63, Tryz.ntmps63
          go_wp2
          go_ret
          exact ⟨by first | rfl | (simp; done) | (simp [*]; done), by repeat (first | exact Drawn0.refl _ | apply Drawn0.step)⟩
        · rw [if_neg c5] at H
          have c5b0 : decide (a0 ≤ 90) = false := decide_eq_false c5
          clear c5
          obtain rfl := Option.some.inj H
          go_enter Tryz.func63, Tryz.ntmps63
          go_wp2
          go_ret
          exact ⟨by first | rfl | (simp; done) | (simp [*]; done), by repeat (first | exact Drawn0.refl _ | apply Drawn0.step)⟩
      · rw [if_neg c4] at H
        have c4b0 : decide (65 ≤ a0) = false := decide_eq_false c4
        clear c4
        obtain rfl := Option.some.inj H
        go_enter Tryz.func63, Tryz.ntmps63
        go_wp2
        go_ret
        exact ⟨by first | rfl | (simp; done) | (simp [*]; done), by repeat (first | exact Drawn0.refl _ | apply Drawn0.step)⟩
  · rw [if_neg c2] at H
    have c2b0 : decide (97 ≤ a0) = false := decide_eq_false c2
    clear c2
    by_cases c6 : a0 ≥ 65
    · rw [if_pos c6] at H
      have c6b0 : decide (65 ≤ a0) = true := decide_eq_true c6
      clear c6
      by_cases c7 : a0 ≤ 90
      · rw [if_pos c7] at H
        have c7b0 : decide (a0 ≤ 90) = true := decide_eq_true c7
        clear c7
        obtain rfl := Option.some.inj H
        go_enter Tryz.func63, Tryz.ntmps63
        go_wp2
        go_ret
        exact ⟨by first | rfl | (simp; done) | (simp [*]; done), by repeat (first | exact Drawn0.refl _ | apply Drawn0.step)⟩
      · rw [if_neg c7] at H
        have c7b0 : decide (a0 ≤ 90) = false := decide_eq_false c7
        clear c7
        obtain rfl := Option.some.inj H
        go_enter Tryz.func63, Tryz.ntmps63
        go_wp2
        go_ret
        exact ⟨by first | rfl | (simp; done) | (simp [*]; done), by repeat (first | exact Drawn0.refl _ | apply Drawn0.step)⟩
    · rw [if_neg c6] at H
      have c6b0 : decide (65 ≤ a0) = false := decide_eq_false c6
      clear c6
      obtain rfl := Option.some.inj H
      go_enter Tryz.func63, Tryz.ntmps63
      go_wp2
      go_ret
      exact ⟨by first | rfl | (simp; done) | (simp [*]; done), by repeat (first | exact Drawn0.refl _ | apply Drawn0.step)⟩
def accountingref06_digit.f (a0 : Int) : Option (Bool) := if a0 ≥ 48 then (some (decide (a0 ≤ 57))) else (some false)
set_option maxHeartbeats 8000000 in
set_option maxRecDepth 100000 in
theorem accountingref06_digit.calls (a0 : Int) (r : Bool) (w : World) (h : accountingref06_digit.f a0 = some r) :
    Calls Tryz.prog 64 #[.int .u8 a0] w fun e w' => e = .returned (.bool r) ∧ Drawn0 w w' := by
  have H : (if a0 ≥ 48 then (some (decide (a0 ≤ 57))) else (some false)) = some r := h
  clear h
  by_cases c2 : a0 ≥ 48
  · rw [if_pos c2] at H
    have c2b0 : decide (48 ≤ a0) = true := decide_eq_true c2
    clear c2
    obtain rfl := Option.some.inj H
    go_enter Tryz.func64, Tryz.ntmps64
    go_wp2
    go_ret
    exact ⟨by first | rfl | (simp; done) | (simp [*]; done), by repeat (first | exact Drawn0.refl _ | apply Drawn0.step)⟩
  · rw [if_neg c2] at H
    have c2b0 : decide (48 ≤ a0) = false := decide_eq_false c2
    clear c2
    obtain rfl := Option.some.inj H
    go_enter Tryz.func64, Tryz.ntmps64
    go_wp2
    go_ret
    exact ⟨by first | rfl | (simp; done) | (simp [*]; done), by repeat (first | exact Drawn0.refl _ | apply Drawn0.step)⟩
def accountingref06_Code.l0 : Nat → ByteArray → Int → Option (Bool)
  | 0, _, _ => none
  | k + 1, x0, x3 => if x3 < (x0.size : Int) then (if 0 ≤ x3 then ((accountingref06_letter.f (bt x0 x3)).bind fun t179 => (if t179 = true then (accountingref06_Code.l0 k x0 (wrap64 (x3 + 1))) else ((accountingref06_digit.f (bt x0 x3)).bind fun t180 => (if t180 = true then (accountingref06_Code.l0 k x0 (wrap64 (x3 + 1))) else (some false))))) else (none)) else (if (x0.size : Int) ≥ 1 then (some (decide ((x0.size : Int) ≤ 12))) else (some false))
def accountingref06_Code.f (k : Nat) (a0 : ByteArray) : Option (Bool) := accountingref06_Code.l0 k a0 0
set_option maxHeartbeats 8000000 in
set_option maxRecDepth 100000 in
theorem accountingref06_Code.calls (k : Nat) (a0 : ByteArray) (r : Bool) (w : World) (h : accountingref06_Code.f k a0 = some r) :
    Calls Tryz.prog 39 #[.string a0] w fun e w' => e = .returned (.bool r) ∧ Drawn0 w w' := by
  have H : (accountingref06_Code.l0 k a0 0) = some r := h
  clear h
  have H' := Aside0.mk H
  clear H
  go_enter Tryz.func39, Tryz.ntmps39
  go_wp2
  go_loopg [3] k (fun kq v3 w' => ∃ (x3_1 : Int), v3 = .int .i64 x3_1 ∧ Aside0 (accountingref06_Code.l0 kq a0 x3_1 = some r) ∧ Aside0 (kq ≤ k) ∧ Drawn0 w w')
  case atStart => exact ⟨(0), (by first | rfl | (simp; done) | (simp [*]; done)), H', ⟨Nat.le_refl _⟩, by repeat (first | exact Drawn0.refl _ | apply Drawn0.step)⟩
  case round =>
    clear H'
    obtain ⟨x3_1, rfl, HA, HK1, ⟨m1, rfl⟩⟩ := hrel
    cases gk with
    | zero => exact absurd HA.out (by simp [accountingref06_Code.l0])
    | succ k1 =>
      have H := HA.out
      clear HA
      simp only [accountingref06_Code.l0] at H
      by_cases c2 : x3_1 < (a0.size : Int)
      · rw [if_pos c2] at H
        have c2b0 : decide (x3_1 < (a0.size : Int)) = true := decide_eq_true c2
        clear c2
        by_cases c3 : 0 ≤ x3_1
        · rw [if_pos c3] at H
          have c3b0 : decide (0 ≤ x3_1) = true := decide_eq_true c3
          clear c3
          replace H := Option.bind_eq_some_iff.mp H
          obtain ⟨t179, A50, H⟩ := H
          replace H : (if t179 = true then (accountingref06_Code.l0 k1 a0 (wrap64 (x3_1 + 1))) else ((accountingref06_digit.f (bt a0 x3_1)).bind fun t180 => (if t180 = true then (accountingref06_Code.l0 k1 a0 (wrap64 (x3_1 + 1))) else (some false)))) = some r := H
          have A5 := Aside0.mk A50
          clear A50
          by_cases c6 : t179 = true
          · subst c6
            have H1 : (accountingref06_Code.l0 k1 a0 (wrap64 (x3_1 + 1))) = some r := by rw [if_pos rfl] at H; exact H
            clear H
            have H := H1
            clear H1
            have H' := Aside0.mk H
            clear H
            have p4 : 0 ≤ (x3_1 : Int) := of_decide_eq_true (by first | (with_reducible assumption) | assumption)
            have q4 : x3_1 < (a0.size : Int) := of_decide_eq_true (by first | (with_reducible assumption) | assumption)
            have hx4 := bt_at a0 x3_1
            replace p4 := eq_true p4
            replace q4 := eq_true q4
            go_wp2_with (first | ((with_reducible refine gate_callee (f := 63) rfl ?_); refine goesL_ (some 13) rfl rfl Tryz.func63 (by kernel_rfl) rfl #[.int .u8 (bt a0 x3_1)] rfl (by (try simp only [List.map_toArray, List.map_cons, List.map_nil]); first | done | rfl | (simp only [List.length_drop, List.length_take]; rfl)) ?_; (with_reducible refine (accountingref06_letter.calls (bt a0 x3_1) true _ A5.out).mono ?_); rintro e w' ⟨rfl, ⟨nd, rfl⟩⟩; refine ⟨_, rfl, ?_⟩))
            go_roundg k1
            case measure => have := HK1.out; omega
            case rel => exact ⟨(wrap64 (x3_1 + 1)), (by first | rfl | (simp; done) | (simp [*]; done)), H', ⟨by have := HK1.out; omega⟩, by repeat (first | exact Drawn0.refl _ | apply Drawn0.step)⟩
          · replace c6 := Bool.eq_false_iff.mpr c6
            subst c6
            have H1 : ((accountingref06_digit.f (bt a0 x3_1)).bind fun t180 => (if t180 = true then (accountingref06_Code.l0 k1 a0 (wrap64 (x3_1 + 1))) else (some false))) = some r := by rw [if_neg (show ¬ (false = true) by decide)] at H; exact H
            clear H
            have H := H1
            clear H1
            replace H := Option.bind_eq_some_iff.mp H
            obtain ⟨t180, A80, H⟩ := H
            replace H : (if t180 = true then (accountingref06_Code.l0 k1 a0 (wrap64 (x3_1 + 1))) else (some false)) = some r := H
            have A8 := Aside0.mk A80
            clear A80
            by_cases c9 : t180 = true
            · subst c9
              have H1 : (accountingref06_Code.l0 k1 a0 (wrap64 (x3_1 + 1))) = some r := by rw [if_pos rfl] at H; exact H
              clear H
              have H := H1
              clear H1
              have H' := Aside0.mk H
              clear H
              have p4 : 0 ≤ (x3_1 : Int) := of_decide_eq_true (by first | (with_reducible assumption) | assumption)
              have q4 : x3_1 < (a0.size : Int) := of_decide_eq_true (by first | (with_reducible assumption) | assumption)
              have hx4 := bt_at a0 x3_1
              replace p4 := eq_true p4
              replace q4 := eq_true q4
              go_wp2_with (first | ((with_reducible refine gate_callee (f := 63) rfl ?_); refine goesL_ (some 13) rfl rfl Tryz.func63 (by kernel_rfl) rfl #[.int .u8 (bt a0 x3_1)] rfl (by (try simp only [List.map_toArray, List.map_cons, List.map_nil]); first | done | rfl | (simp only [List.length_drop, List.length_take]; rfl)) ?_; (with_reducible refine (accountingref06_letter.calls (bt a0 x3_1) false _ A5.out).mono ?_); rintro e w' ⟨rfl, ⟨nd, rfl⟩⟩; refine ⟨_, rfl, ?_⟩; have p7 : 0 ≤ (x3_1 : Int) := of_decide_eq_true (by first | (with_reducible assumption) | assumption); have q7 : x3_1 < (a0.size : Int) := of_decide_eq_true (by first | (with_reducible assumption) | assumption); have hx7 := bt_at a0 x3_1; replace p7 := eq_true p7; replace q7 := eq_true q7) | (go_at_call 64; (with_reducible refine (accountingref06_digit.calls (bt a0 x3_1) true _ A8.out).mono ?_); rintro e w' ⟨rfl, ⟨nd, rfl⟩⟩))
              go_roundg k1
              case measure => have := HK1.out; omega
              case rel => exact ⟨(wrap64 (x3_1 + 1)), (by first | rfl | (simp; done) | (simp [*]; done)), H', ⟨by have := HK1.out; omega⟩, by repeat (first | exact Drawn0.refl _ | apply Drawn0.step)⟩
            · replace c9 := Bool.eq_false_iff.mpr c9
              subst c9
              have H1 : (some false) = some r := by rw [if_neg (show ¬ (false = true) by decide)] at H; exact H
              clear H
              have H := H1
              clear H1
              obtain rfl := Option.some.inj H
              have p4 : 0 ≤ (x3_1 : Int) := of_decide_eq_true (by first | (with_reducible assumption) | assumption)
              have q4 : x3_1 < (a0.size : Int) := of_decide_eq_true (by first | (with_reducible assumption) | assumption)
              have hx4 := bt_at a0 x3_1
              replace p4 := eq_true p4
              replace q4 := eq_true q4
              go_wp2_with (first | ((with_reducible refine gate_callee (f := 63) rfl ?_); refine goesL_ (some 13) rfl rfl Tryz.func63 (by kernel_rfl) rfl #[.int .u8 (bt a0 x3_1)] rfl (by (try simp only [List.map_toArray, List.map_cons, List.map_nil]); first | done | rfl | (simp only [List.length_drop, List.length_take]; rfl)) ?_; (with_reducible refine (accountingref06_letter.calls (bt a0 x3_1) false _ A5.out).mono ?_); rintro e w' ⟨rfl, ⟨nd, rfl⟩⟩; refine ⟨_, rfl, ?_⟩; have p7 : 0 ≤ (x3_1 : Int) := of_decide_eq_true (by first | (with_reducible assumption) | assumption); have q7 : x3_1 < (a0.size : Int) := of_decide_eq_true (by first | (with_reducible assumption) | assumption); have hx7 := bt_at a0 x3_1; replace p7 := eq_true p7; replace q7 := eq_true q7) | (go_at_call 64; (with_reducible refine (accountingref06_digit.calls (bt a0 x3_1) false _ A8.out).mono ?_); rintro e w' ⟨rfl, ⟨nd, rfl⟩⟩))
              go_ret
              exact ⟨by first | rfl | (simp; done) | (simp [*]; done), by repeat (first | exact Drawn0.refl _ | apply Drawn0.step)⟩
        · rw [if_neg c3] at H
          exact absurd H (by simp)
      · rw [if_neg c2] at H
        have c2b0 : decide (x3_1 < (a0.size : Int)) = false := decide_eq_false c2
        clear c2
        by_cases c10 : (a0.size : Int) ≥ 1
        · rw [if_pos c10] at H
          have c10b0 : decide (1 ≤ (a0.size : Int)) = true := decide_eq_true c10
          have c10b1 : decide (1 ≤ a0.size) = true := decide_eq_true (by omega)
          clear c10
          obtain rfl := Option.some.inj H
          go_wp2
          go_ret
          exact ⟨by first | rfl | (simp; done) | (simp [*]; done), by repeat (first | exact Drawn0.refl _ | apply Drawn0.step)⟩
        · rw [if_neg c10] at H
          have c10b0 : decide (1 ≤ (a0.size : Int)) = false := decide_eq_false c10
          have c10b1 : decide (1 ≤ a0.size) = false := decide_eq_false (by omega)
          clear c10
          obtain rfl := Option.some.inj H
          go_wp2
          go_ret
          exact ⟨by first | rfl | (simp; done) | (simp [*]; done), by repeat (first | exact Drawn0.refl _ | apply Drawn0.step)⟩
end Go.Proofs.YtikdiepcfdimgaaGreatDoor.POw
namespace Go.Proofs.YtikdiepcfdimgaaGreatDoor.POw
open Go.RowKit Go.Lib Go.Proofs.YtikdiepcfdimgaaGreatDoorW.PrintWords Go.Proofs.YtikdiepcfdimgaaGreatDoorW.PrintLast
def refEx (kf : Nat) (l : List Hold) (day : Int) (n : Int) (out : List ByteArray) (x : ByteArray) : Option Bool :=
  (accountingref43_shares.f kf l out x day).bind fun fs => accountingref43_Exceeds.f kf fs n
def refMemIn (kf : Nat) (l : List Hold) (day : Int) : List ByteArray → List ByteArray → Option (List ByteArray)
  | [], out => some out
  | x :: xs, out => (accountingref43_has.f kf out x).bind fun h => if h = true then refMemIn kf l day xs out else
    (refEx kf l day 2 out x).bind fun b => if b = true then (if out.length ≤ 8000 then refMemIn kf l day xs (withG sLt out x) else none) else refMemIn kf l day xs out
def refMemOut (kf : Nat) (l : List Hold) (day : Int) (all : List ByteArray) : Nat → List ByteArray → Option (List ByteArray)
  | 0, out => some out
  | n + 1, out => (refMemIn kf l day all out).bind fun out' => refMemOut kf l day all n out'
def refMembers (kf : Nat) (l : List Hold) (top : ByteArray) (day : Int) : Option (List ByteArray) :=
  (accountingref06_Code.f kf top).bind fun c => if c = true then (accountingref43_day.f day).bind fun d => if d = true then refMemOut kf l day (entL l []) (entL l []).length [top] else some [] else some []
theorem one_row {w : World} {base g e : Nat} {u : Value} (hb : base ≤ g) (h : w.heap[g]? = some (.cells #[u] e (0, 0))) : w.ownsRow base e 1 (.slice (some ⟨g, 0, none⟩) 1 1) 1 [u] :=
  ⟨by simp, .inr ⟨g, 1, #[u], rfl, hb, h, Nat.le_refl _, by unfold maxLen; omega, by simp, by simp⟩⟩
set_option maxRecDepth 100000 in
set_option maxHeartbeats 8000000 in
theorem go_refMembers (kf : Nat) (A : Option Addr) (c : Nat) (l : List Hold) (top : ByteArray) (day : Int) (res : List ByteArray) (w : World) (hC : Kd.C k56 w A l.length l) (hlc : l.length ≤ c) (hl : l.length ≤ 1000) (hF : refMembers kf l top day = some res) :
    Calls Tryz.prog 18 #[.slice A l.length c, .string top, .int .i64 day] w fun e w' => ∃ v, e = .returned v ∧ w'.ownsRow w.heap.size 9 1 v res.length (strs res) ∧ Below w.heap.size w w' := by
  have HC := Lib.hid hC
  clear hC
  unfold refMembers at hF
  obtain ⟨bc, hbc, hF⟩ := Option.bind_eq_some_iff.1 hF
  have HCODE := Lib.hid hbc
  clear hbc
  cases bc with
  | false =>
    rw [if_neg (by simp), Option.some.injEq] at hF
    subst hF
    go_enter Tryz.func18, Tryz.ntmps18
    go_wp2_with (go_at_call 39; refine (accountingref06_Code.calls kf top false _ HCODE.out).mono ?_; rintro e w1 ⟨rfl, hd1⟩)
    go_ret
    exact ⟨_, rfl, World.ownsRow_nil _ _ _ _, hd1.below⟩
  | true =>
    rw [if_pos rfl] at hF
    obtain ⟨bd, hbd, hF⟩ := Option.bind_eq_some_iff.1 hF
    have HDAY := Lib.hid hbd
    clear hbd
    cases bd with
    | false =>
      rw [if_neg (by simp), Option.some.injEq] at hF
      subst hF
      go_enter Tryz.func18, Tryz.ntmps18
      go_wp2_with (first
        | (go_at_call 39; refine (accountingref06_Code.calls kf top true _ HCODE.out).mono ?_; rintro e w1 ⟨rfl, hd1⟩)
        | (go_at_call 40; refine (accountingref43_day.calls day false _ HDAY.out).mono ?_; rintro e w2 ⟨rfl, hd2⟩))
      go_ret
      exact ⟨_, rfl, World.ownsRow_nil _ _ _ _, hd1.below.trans (hd2.below.mono hd1.below.size)⟩
    | true =>
      rw [if_pos rfl] at hF
      have HF := Lib.hid hF
      have hals := entL_sorted l [] List.Pairwise.nil
      have hall := entL_length l []
      simp only [List.length_nil, Nat.zero_add] at hall
      clear hF
      go_enter Tryz.func18, Tryz.ntmps18
      go_upto_region 4 with (first
        | (go_at_call 39; refine (accountingref06_Code.calls kf top true _ HCODE.out).mono ?_; rintro e w1 ⟨rfl, hd1⟩)
        | (go_at_call 40; refine (accountingref43_day.calls day true _ HDAY.out).mono ?_; rintro e w2 ⟨rfl, hd2⟩)
        | (go_at_call 25; refine (go_refEntities A c l _ (Kd.C_below HC.out (hd1.below.trans (hd2.below.mono hd1.below.size))) hlc hl).mono ?_; rintro e w3 ⟨va, rfl, hoa, hb3⟩))
      have hb2 := hd1.below.trans (hd2.below.mono hd1.below.size)
      have hb3w := hb2.trans (hb3.mono hb2.size)
      have hoa2 := own_lower_ hoa hb2.size
      obtain ⟨all, hAL⟩ : ∃ all, entL l [] = all := ⟨_, rfl⟩
      rw [hAL] at hoa2 hals hall HF
      clear hAL hoa hd1 hd2 hb2 hb3
      obtain ⟨Aa, ca, hva, hca, _⟩ := strs_C hoa2
      subst hva
      have hba := (Below.refl _ w3).alloc (Nat.le_refl _) (.cells #[.string top] 9)
      have h1 := one_row (base := w.heap.size) hb3w.size (Go.MapKept.heap_alloc w3 (.cells #[.string top] 9)).1
      have hoa3 := pw_own_below hoa2 hba
      have hb4 := hb3w.trans (hba.mono hb3w.size)
      obtain ⟨w4, hw4⟩ : ∃ W, w3.alloc (.cells #[.string top] 9) = W := ⟨_, rfl⟩
      obtain ⟨z8, hz8⟩ : ∃ z, w3.heap.size = z := ⟨_, rfl⟩
      go_upto_region 5 with fail
      rw [hw4] at h1 hoa3 hb4
      rw [hz8] at h1
      clear hw4 hz8 hba hoa2 hb3w
      have HOA := Lib.hid hoa3; have HO8 := Lib.hid h1; have HB4 := Lib.hid hb4
      clear hoa3 h1 hb4
      go_wp2
      go_loopg [24, 9, 8] all.length (fun n t24 t9 t8 wr => ∃ (j : Nat) (out : List ByteArray) (v : Value), n = all.length - j ∧ j ≤ all.length ∧ t24 = .int .i64 j ∧ v = t8 ∧ Below w4.heap.size w4 wr ∧ Hid (wr.ownsRow w.heap.size 9 1 v out.length (strs out)) ∧ Hid (out.Pairwise (fun a b => sLt a b = true)) ∧ Hid (refMemOut kf l day all (all.length - j) out = some res))
      case atStart => exact ⟨0, [top], _, rfl, Nat.zero_le _, rfl, rfl, Below.refl _ _, HO8, Lib.hid (by simp), HF⟩
      case round =>
        obtain ⟨j, out0, v0, rfl, hj, rfl, rfl, hbr, HO, HS, HR⟩ := hrel
        by_cases hjl : j < all.length
        · have hR := HR.out
          rw [show all.length - j = (all.length - (j + 1)) + 1 by omega, refMemOut] at hR
          obtain ⟨out9, h9, hR⟩ := Option.bind_eq_some_iff.1 hR
          have HI := Lib.hid h9; have HR2 := Lib.hid hR
          have hji : (j : Int) < (all.length : Int) := by omega
          clear h9 hR HR
          rename World => wo
          go_wp2
          go_loopg [9, 8] all.length (fun n t9 t8 wq => ∃ (k : Nat) (out : List ByteArray) (v : Value), n = all.length - k ∧ k ≤ all.length ∧ t9 = .int .i64 k ∧ v = t8 ∧ Below w4.heap.size w4 wq ∧ Hid (wq.ownsRow w.heap.size 9 1 v out.length (strs out)) ∧ Hid (out.Pairwise (fun a b => sLt a b = true)) ∧ Hid (refMemIn kf l day (all.drop k) out = some out9))
          case atStart => exact ⟨0, out0, _, rfl, Nat.zero_le _, rfl, rfl, hbr, HO, HS, by rw [List.drop_zero]; exact HI⟩
          case round =>
            clear HO HS HI
            obtain ⟨k, out, v, rfl, hk, rfl, rfl, hbq, HO, HS, HI⟩ := hrel
            by_cases hkl : k < all.length
            · obtain ⟨Ao, co, hv, hco, hCo⟩ := strs_C HO.out
              subst hv
              obtain ⟨ga, hAa, hga, q0⟩ := own_str_at (pw_own_below HOA.out hbq) k hkl
              obtain ⟨x, hx⟩ : ∃ x, all[k] = x := ⟨_, rfl⟩
              have hI := HI.out
              rw [List.drop_eq_getElem_cons hkl, hx] at hI
              rw [hx] at q0
              clear hx
              simp only [refMemIn] at hI
              obtain ⟨bh, hbh, hI⟩ := Option.bind_eq_some_iff.1 hI
              have hki : (k : Int) < (all.length : Int) := by omega
              have hwq := HB4.out.trans (hbq.mono HB4.out.size)
              have HAS := Lib.hid hbh; have HWQ := Lib.hid hwq; have HCO := Lib.hid hCo
              clear hbh hwq HI hCo
              subst hAa
              cases bh with
              | true =>
                rw [if_pos rfl] at hI
                have HI2 := Lib.hid hI
                clear hI
                go_wp2_with (go_at_call 41; refine (accountingref43_has.calls kf Ao co out x true _ HCO.out hco HAS.out).mono ?_; rintro e w5 ⟨rfl, hd5⟩)
                go_roundg (all.length - (k + 1))
                case measure => omega
                case rel => exact ⟨k + 1, out, _, rfl, by omega, by go_num, rfl, hbq.trans (hd5.below.mono hbq.size), Lib.hid (pw_own_below HO.out hd5.below), HS, HI2⟩
              | false =>
                rw [if_neg (by simp)] at hI
                obtain ⟨be, hbe, hI⟩ := Option.bind_eq_some_iff.1 hI
                unfold refEx at hbe
                obtain ⟨fs, hfs, hbe⟩ := Option.bind_eq_some_iff.1 hbe
                have HFS := Lib.hid hfs; have HBE := Lib.hid hbe
                clear hfs hbe
                cases be with
                | true =>
                  rw [if_pos rfl] at hI
                  by_cases hol : out.length ≤ 8000
                  · rw [if_pos hol] at hI
                    have HI2 := Lib.hid hI
                    clear hI
                    go_wp2_with (first
                      | (go_at_call 41; refine (accountingref43_has.calls kf Ao co out x false _ HCO.out hco HAS.out).mono ?_; rintro e w5 ⟨rfl, hd5⟩; have hb5 := hd5.below; have q05 := (hb5.cell (p := ⟨ga, k, none⟩) hga).trans q0)
                      | (go_at_call 36; refine (accountingref43_shares.calls kf A c l Ao co out x day fs _ (Kd.C_below HC.out (HWQ.out.trans (hb5.mono HWQ.out.size))) hlc (Kd.C_below HCO.out hb5) hco HFS.out).mono ?_; rintro e w6 ⟨v6, rfl, hR6, hb6⟩; obtain ⟨Af, cf, hvf, hcf, hCf⟩ := Kd.R_reads hR6; subst hvf; have hb56 := hb5.trans (hb6.mono hb5.size))
                      | (go_at_call 35; refine (accountingref43_Exceeds.calls kf Af cf fs 2 true _ hCf hcf HBE.out).mono ?_; rintro e w7 ⟨rfl, hb7⟩; have hb57 := hb56.trans (hb7.mono hb56.size); have q0' := (hb57.cell (p := ⟨ga, k, none⟩) hga).trans q0)
                      | (go_at_call 42; refine (go_put out x _ w.heap.size _ (pw_own_below HO.out hb57) (Nat.le_trans HWQ.out.size hb57.size) HS.out (by omega)).mono ?_; rintro e w8 ⟨v8, rfl, hO8, hb8⟩))
                    go_roundg (all.length - (k + 1))
                    case measure => omega
                    case rel => exact ⟨k + 1, _, _, rfl, by omega, by go_num, rfl, hbq.trans ((hb57.trans (hb8.mono hb57.size)).mono hbq.size), Lib.hid hO8, Lib.hid (withG_sorted sO _ HS.out), HI2⟩
                  · rw [if_neg hol] at hI; cases hI
                | false =>
                  rw [if_neg (by simp)] at hI
                  have HI2 := Lib.hid hI
                  clear hI
                  go_wp2_with (first
                    | (go_at_call 41; refine (accountingref43_has.calls kf Ao co out x false _ HCO.out hco HAS.out).mono ?_; rintro e w5 ⟨rfl, hd5⟩; have hb5 := hd5.below; have q05 := (hb5.cell (p := ⟨ga, k, none⟩) hga).trans q0)
                    | (go_at_call 36; refine (accountingref43_shares.calls kf A c l Ao co out x day fs _ (Kd.C_below HC.out (HWQ.out.trans (hb5.mono HWQ.out.size))) hlc (Kd.C_below HCO.out hb5) hco HFS.out).mono ?_; rintro e w6 ⟨v6, rfl, hR6, hb6⟩; obtain ⟨Af, cf, hvf, hcf, hCf⟩ := Kd.R_reads hR6; subst hvf; have hb56 := hb5.trans (hb6.mono hb5.size))
                    | (go_at_call 35; refine (accountingref43_Exceeds.calls kf Af cf fs 2 false _ hCf hcf HBE.out).mono ?_; rintro e w7 ⟨rfl, hb7⟩; have hb57 := hb56.trans (hb7.mono hb56.size)))
                  go_roundg (all.length - (k + 1))
                  case measure => omega
                  case rel => exact ⟨k + 1, out, _, rfl, by omega, by go_num, rfl, hbq.trans (hb57.mono hbq.size), Lib.hid (pw_own_below HO.out hb57), HS, HI2⟩
            · have hke : k = all.length := by omega
              subst hke
              have hI := HI.out
              rw [List.drop_length] at hI
              simp only [refMemIn, Option.some.injEq] at hI
              subst hI
              clear HI
              go_wp2
              go_roundg (all.length - (j + 1))
              case measure => omega
              case rel => exact ⟨j + 1, out, _, rfl, by omega, by go_num, rfl, hbq, HO, HS, HR2⟩
        · have hje : j = all.length := by omega
          subst hje
          have hR := HR.out
          rw [Nat.sub_self] at hR
          simp only [refMemOut, Option.some.injEq] at hR
          subst hR
          clear HR
          go_wp2
          go_ret
          exact ⟨_, rfl, HO.out, HB4.out.trans (hbr.mono HB4.out.size)⟩
end Go.Proofs.YtikdiepcfdimgaaGreatDoor.POw
namespace Go.Proofs.YtikdiepcfdimgaaGreatDoor.POw
open Go.RowKit Go.Proofs.YtikdiepcfdimgaaGreatDoorW.PrintWords Go.Proofs.YtikdiepcfdimgaaGreatDoorW.PrintLast
theorem Ev.step {α : Type} {F H : Nat → Option α} {r : α} (e : ∀ k, F (k + 1) = H k) (h : Ev H r) : Ev F r := Ev.succ (h.congr e)
theorem Ev.pure {α : Type} (r : α) : Ev (fun _ => some r) r := Ev.const r
theorem ref_letter_is (c : Int) : accountingref06_letter.f c = some (ltrI c) := by
  unfold accountingref06_letter.f ltrI
  by_cases h1 : c ≥ 97 <;> by_cases h2 : c ≤ 122 <;> by_cases h3 : c ≥ 65 <;> by_cases h4 : c ≤ 90 <;> simp [h1, h2, h3, h4] <;> omega
theorem ref_digit_is (c : Int) : accountingref06_digit.f c = some (digI c) := by
  unfold accountingref06_digit.f digI
  by_cases h1 : c ≥ 48 <;> simp [h1]
theorem bt_is {s : ByteArray} {i : Nat} (h : i < s.size) : bt s (i : Int) = ((s[i]'h).toNat : Int) := (bt_at s (i : Int) h).symm
theorem bad_word {s : ByteArray} {i : Nat} (h : i < s.size) (hb : wordB (s[i]'h) = false) : allW s = false := by
  unfold allW
  rw [List.all_eq_false]
  exact ⟨s[i]'h, by simp [ByteArray.getElem_eq_getElem_data], by simp [hb]⟩
theorem all_word {s : ByteArray} (h : ∀ i, ∀ hi : i < s.size, wordB (s[i]'hi) = true) : allW s = true := by
  unfold allW
  rw [List.all_eq_true]
  intro c hc
  obtain ⟨i, hi, rfl⟩ := List.getElem_of_mem hc
  have hi2 : i < s.size := by simpa using hi
  have := h i hi2
  simpa [ByteArray.getElem_eq_getElem_data] using this
theorem ev_ref6_l (s : ByteArray) (hs : s.size ≤ 100) : ∀ d i, d = s.size - i → i ≤ s.size → (∀ j, j < i → ∀ hj : j < s.size, wordB (s[j]'hj) = true) → Ev (fun k => accountingref06_Code.l0 k s (i : Int)) (wcodeB s) := by
  intro d
  induction d with
  | zero =>
    intro i hd hi hall
    have hi' : i = s.size := by omega
    refine Ev.step (H := fun _ => some (wcodeB s)) (fun k => ?_) (Ev.pure _)
    have hw := all_word (fun j hj => hall j (by omega) hj)
    rw [accountingref06_Code.l0, if_neg (by omega)]
    unfold wcodeB
    by_cases h1 : (s.size : Int) ≥ 1
    · rw [if_pos h1, hw]
      have h2 : s.size ≠ 0 := by omega
      congr 1
      rw [Bool.eq_iff_iff]; simp [h2]; omega
    · rw [if_neg h1, decide_eq_false (by omega)]; rfl
  | succ d ih =>
    intro i hd hi hall
    have hlt : i < s.size := by omega
    have hup : wrap64 ((i : Int) + 1) = ((i + 1 : Nat) : Int) := by rw [IntWalk.wrap64_in _ (by omega)]; omega
    by_cases hw : wordB (s[i]'hlt) = true
    · refine Ev.step (H := fun k => accountingref06_Code.l0 k s ((i + 1 : Nat) : Int)) (fun k => ?_) (ih (i + 1) (by omega) (by omega) (fun j hj hj2 => by
        rcases Nat.lt_or_ge j i with h | h
        · exact hall j h hj2
        · obtain rfl : j = i := by omega
          exact hw))
      rw [accountingref06_Code.l0, if_pos (by omega), if_pos (by omega), bt_is hlt, ref_letter_is, ref_digit_is, Option.bind_some, Option.bind_some, hup]
      rw [wordB_eq] at hw
      by_cases hl : ltrI ((s[i]'hlt).toNat : Int) = true
      · rw [if_pos hl]
      · rw [if_neg hl]
        rw [Bool.not_eq_true] at hl
        rw [hl, Bool.false_or] at hw
        rw [if_pos hw]
    · refine Ev.step (H := fun _ => some (wcodeB s)) (fun k => ?_) (Ev.pure _)
      rw [Bool.not_eq_true] at hw
      have hb := bad_word hlt hw
      rw [accountingref06_Code.l0, if_pos (by omega), if_pos (by omega), bt_is hlt, ref_letter_is, ref_digit_is, Option.bind_some, Option.bind_some]
      rw [wordB_eq, Bool.or_eq_false_iff] at hw
      rw [if_neg (by simp [hw.1]), if_neg (by simp [hw.2])]
      unfold wcodeB; rw [hb, Bool.and_false]
theorem ev_ref6 (s : ByteArray) (hs : s.size ≤ 100) : Ev (fun k => accountingref06_Code.f k s) (wcodeB s) := ev_ref6_l s hs _ 0 rfl (Nat.zero_le _) (fun j hj => by omega)
theorem ref_day_is (d : Int) : accountingref43_day.f d = some (isDay d) := by
  unfold accountingref43_day.f isDay
  by_cases h : d ≥ 0
  · rw [if_pos h, decide_eq_true h, Bool.true_and]
  · rw [if_neg h, decide_eq_false h, Bool.false_and]
end Go.Proofs.YtikdiepcfdimgaaGreatDoor.POw
