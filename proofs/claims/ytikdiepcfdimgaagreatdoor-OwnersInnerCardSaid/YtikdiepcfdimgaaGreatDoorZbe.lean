/- The walk of the program and the plain laws behind the statements of this seat, part 5. -/
import Derived.Test.YtikdiepcfdimgaaGreatDoorZbd
import Derived.WalkMore
import Derived.Deep.LoopGhost
import Derived.IntWalk
set_option linter.all false
namespace Go.Proofs.YtikdiepcfdimgaaGreatDoor.POw
open Go.RowKit Go.Lib Go.Proofs.YtikdiepcfdimgaaGreatDoorW.PrintWords Go.Proofs.YtikdiepcfdimgaaGreatDoorW.PrintLast
def oneL (l : List Hold) (i : Nat) (h : Hold) (own : Bool) : Int :=
  if (l.take i).any (fun x => decide (x.f0 = h.f0 ∧ x.f1 = h.f1 ∧ x.f3 = h.f3)) = true then 8 else if h.f0 = h.f1 then 24 else if own = true then 24 else 0
def oneA (l : List Hold) (i : Nat) (h : Hold) (own : Bool) : Int :=
  if wcodeB h.f0 = true then (if wcodeB h.f1 = true then (if fitH h = true then (if isDay h.f3 = true then oneL l i h own else 11) else 2) else 7) else 7
def oneF (kf : Nat) (l : List Hold) (i : Nat) : Option Int := match l[i]? with
  | none => none
  | some h => (accountingref43_owns.f kf (l.take i) h.f1 h.f0).bind fun own => some (oneA l i h own)
theorem tl_iff (a b : ByteArray) : a.toList = b.toList ↔ a = b := ⟨bytes_ext, fun h => by rw [h]⟩
theorem go_refCode (s : ByteArray) (w : World) (hs : s.size ≤ 100) : Calls Tryz.prog 39 #[.string s] w fun e w' => e = .returned (.bool (wcodeB s)) ∧ Below w.heap.size w w' := by
  obtain ⟨k, E⟩ := ev_ref6 s hs
  refine (accountingref06_Code.calls k s (wcodeB s) w (E k (Nat.le_refl _))).mono ?_
  rintro e w' ⟨rfl, hd⟩
  exact ⟨rfl, hd.below⟩
theorem go_refDay (d : Int) (w : World) : Calls Tryz.prog 40 #[.int .i64 d] w fun e w' => e = .returned (.bool (isDay d)) ∧ Below w.heap.size w w' := by
  refine (accountingref43_day.calls d (isDay d) w (ref_day_is d)).mono ?_
  rintro e w' ⟨rfl, hd⟩
  exact ⟨rfl, hd.below⟩
set_option maxRecDepth 100000 in
set_option maxHeartbeats 8000000 in
theorem go_one (kf : Nat) (A : Option Addr) (c : Nat) (l : List Hold) (i : Nat) (e : Int) (w : World) (hC : Kd.C k56 w A l.length l) (hlc : l.length ≤ c) (hl : l.length ≤ 1000) (hi : i < l.length) (hsz : ∀ h ∈ l, h.f0.size ≤ 100 ∧ h.f1.size ≤ 100 ∧ inI h.f2.f0 ∧ inI h.f2.f1) (hE : oneF kf l i = some e) :
    Calls Tryz.prog 34 #[.slice A l.length c, .int .i64 (i : Int)] w fun r w' => r = .returned (.int .i64 e) ∧ Below w.heap.size w w' := by
  obtain ⟨b, o, hA, hbl, q0, q1, q2, q3, q4⟩ := holds_at hC i hi
  subst hA
  obtain ⟨h, hh⟩ : ∃ h, l[i] = h := ⟨_, rfl⟩
  obtain ⟨z0, z1, z2, z3⟩ := hsz h (hh ▸ List.getElem_mem hi)
  unfold oneF at hE
  rw [List.getElem?_eq_getElem hi, hh] at hE
  rw [hh] at q0 q1 q2 q3 q4
  simp only at hE
  obtain ⟨own, how, hE0⟩ := Option.bind_eq_some_iff.1 hE
  clear hE
  rw [Option.some.injEq] at hE0
  have HC := Lib.hid hC
  have HB := Lib.hid (show Below w.heap.size w (w.alloc (.cells #[.string h.f0, .string h.f1, .int .i64 h.f2.f0, .int .i64 h.f2.f1, .int .i64 h.f3] 56)) from (Below.refl _ _).alloc (Nat.le_refl _) _)
  have HX := Lib.hid (HBox.made w h)
  obtain ⟨k0, k1, k2, k3, k4⟩ := HX.out.facts
  have HC0 := Lib.hid (fun W => go_refCode h.f0 W z0)
  have HC1 := Lib.hid (fun W => go_refCode h.f1 W z1)
  have HR := Lib.hid (fun W => ref03_Right.calls h.f2.f0 h.f2.f1 W z2 z3)
  have HD := Lib.hid (fun W => go_refDay h.f3 W)
  have HOWN := Lib.hid (fun (W : World) (hW : Below w.heap.size w W) => by
    have h1 := Kd.C_take (m := i) (Kd.C_below hC hW) (by omega)
    have h2 := accountingref43_owns.calls kf (some ⟨b, o, none⟩) c (l.take i) h.f1 h.f0 own W h1 (by rw [List.length_take]; omega) how
    rw [show (l.take i).length = i by rw [List.length_take]; omega] at h2
    exact h2)
  have hii : (i : Int) < (l.length : Int) := by omega
  have hic : i ≤ c := by omega
  have hicI : (i : Int) ≤ (c : Int) := by omega
  have HE := Lib.hid hE0
  clear hC hE0 how hsz z0 z1 z2 z3
  by_cases c0 : wcodeB h.f0 = true
  · by_cases c1 : wcodeB h.f1 = true
    · rw [c0] at HC0
      rw [c1] at HC1
      obtain ⟨z, hz⟩ : ∃ z, w.heap.size = z := ⟨_, rfl⟩
      have HZ := Lib.hid hz
      have hE := HE.out
      unfold oneA at hE
      rw [if_pos c0, if_pos c1] at hE
      clear hz c0 c1 HE
      go_enter Tryz.func34, Tryz.ntmps34
      go_upto_region 4 with (first
        | (go_at_call_of 39 (Value.string h.f0); refine (HC0.out _).mono ?_; rintro e w1 ⟨rfl, hb1⟩; replace HX := Lib.hid (HX.out.below hb1); replace HB := Lib.hid (HB.out.trans (hb1.mono HB.out.size)); obtain ⟨p0, p1, p2, p3, p4⟩ := HX.out.facts; clear hb1)
        | (go_at_call_of 39 (Value.string h.f1); refine (HC1.out _).mono ?_; rintro e w1 ⟨rfl, hb1⟩; replace HX := Lib.hid (HX.out.below hb1); replace HB := Lib.hid (HB.out.trans (hb1.mono HB.out.size)); obtain ⟨r0, r1, r2, r3, r4⟩ := HX.out.facts; clear hb1))
      clear q0 q1 q2 q3 q4 k0 k1 k2 k3 k4 p0 p1 p2 p3 p4 r0 r1 r2 r3 r4
      rw [HZ.out] at HX ⊢
      obtain ⟨k0, k1, k2, k3, k4⟩ := HX.out.facts
      by_cases r1 : rightB h.f2.f0 h.f2.f1 = true
      · have hf1 : fitH h = (decide (0 ≤ h.f2.f0) && decide (h.f2.f0 ≤ h.f2.f1)) := by unfold fitH; rw [r1, Bool.true_and]
        rw [r1] at HR
        rw [hf1] at hE
        clear hf1 r1
        by_cases n1 : h.f2.f0 < 0
        · rw [show decide (0 ≤ h.f2.f0) = false from decide_eq_false (by omega)] at hE
          have HT := Lib.hid (show (2 : Int) = e by simpa using hE)
          clear hE
          go_wp2_with (go_at_call 56; refine (HR.out _).mono ?_; rintro e w2 ⟨rfl, hb2⟩; replace HX := Lib.hid (HX.out.below hb2); replace HB := Lib.hid (HB.out.trans (hb2.mono HB.out.size)); obtain ⟨s0, s1, s2, s3, s4⟩ := HX.out.facts; clear hb2)
          go_ret
          exact ⟨by rw [← HT.out]; rfl, HB.out⟩
        · have n1b : decide (h.f2.f0 < 0) = false := decide_eq_false n1
          by_cases n2 : h.f2.f1 < h.f2.f0
          · rw [show decide (h.f2.f0 ≤ h.f2.f1) = false from decide_eq_false (by omega)] at hE
            have HT := Lib.hid (show (2 : Int) = e by simpa using hE)
            clear hE
            go_wp2_with (go_at_call 56; refine (HR.out _).mono ?_; rintro e w2 ⟨rfl, hb2⟩; replace HX := Lib.hid (HX.out.below hb2); replace HB := Lib.hid (HB.out.trans (hb2.mono HB.out.size)); obtain ⟨s0, s1, s2, s3, s4⟩ := HX.out.facts; clear hb2)
            go_ret
            exact ⟨by rw [← HT.out]; rfl, HB.out⟩
          · rw [show decide (0 ≤ h.f2.f0) = true from decide_eq_true (by omega), show decide (h.f2.f0 ≤ h.f2.f1) = true from decide_eq_true (by omega), Bool.and_self, if_pos rfl] at hE
            have n2b : decide (h.f2.f1 < h.f2.f0) = false := decide_eq_false n2
            by_cases dy : isDay h.f3 = true
            · rw [if_pos dy] at hE
              rw [dy] at HD
              have HE := Lib.hid hE
              clear hE dy
              go_upto_region 8 with (first
                | (go_at_call 56; refine (HR.out _).mono ?_; rintro e w2 ⟨rfl, hb2⟩; replace HX := Lib.hid (HX.out.below hb2); replace HB := Lib.hid (HB.out.trans (hb2.mono HB.out.size)); obtain ⟨s0, s1, s2, s3, s4⟩ := HX.out.facts; clear hb2)
                | (go_at_call 40; refine (HD.out _).mono ?_; rintro e w3 ⟨rfl, hb3⟩; replace HX := Lib.hid (HX.out.below hb3); replace HB := Lib.hid (HB.out.trans (hb3.mono HB.out.size)); clear hb3))
              clear k0 k1 k2 k3 k4 s0 s1 s2 s3 s4 n1 n1b n2 n2b
              go_wp2
              go_loopg [6] i (fun n t6 wr => ∃ j : Nat, n = i - j ∧ j ≤ i ∧ t6 = .int .i64 j ∧ Hid (Below w.heap.size w wr) ∧ Hid (HBox wr z h) ∧ Hid ((l.take j).any (fun x => decide (x.f0 = h.f0 ∧ x.f1 = h.f1 ∧ x.f3 = h.f3)) = false))
              case atStart => exact ⟨0, rfl, Nat.zero_le _, rfl, HB, HX, Lib.hid rfl⟩
              case round =>
                clear HB HX
                obtain ⟨j, rfl, hj, rfl, HB, HX, HN⟩ := hrel
                obtain ⟨k0, k1, k2, k3, k4⟩ := HX.out.facts
                by_cases hji : j < i
                · obtain ⟨b', o', hA', _, q0, q1, q2, q3, q4⟩ := holds_at (Kd.C_below HC.out HB.out) j (by omega)
                  cases hA'
                  have hjl : j < l.length := by omega
                  obtain ⟨x, hx⟩ : ∃ x, l[j] = x := ⟨_, rfl⟩
                  rw [hx] at q0 q1 q2 q3 q4
                  have hjI : (j : Int) < (l.length : Int) := by omega
                  have hjI2 : (j : Int) < (i : Int) := by omega
                  have htk : (l.take (j + 1)).any (fun x => decide (x.f0 = h.f0 ∧ x.f1 = h.f1 ∧ x.f3 = h.f3)) = decide (x.f0 = h.f0 ∧ x.f1 = h.f1 ∧ x.f3 = h.f3) := by
                    rw [List.take_succ_eq_append_getElem hjl, List.any_append, HN.out, hx]
                    simp
                  by_cases e0 : x.f0 = h.f0
                  · have e0b : (x.f0.toList == h.f0.toList) = true := by rw [e0]; simp
                    by_cases e1 : x.f1 = h.f1
                    · have e1b : (x.f1.toList == h.f1.toList) = true := by rw [e1]; simp
                      by_cases e3 : x.f3 = h.f3
                      · have e3b : (x.f3 == h.f3) = true := by rw [e3]; simp
                        have hT : (8 : Int) = e := by
                          have h1 : (l.take i).any (fun x => decide (x.f0 = h.f0 ∧ x.f1 = h.f1 ∧ x.f3 = h.f3)) = true := by
                            rw [List.any_eq_true]
                            exact ⟨x, by rw [← hx]; exact List.mem_take_iff_getElem.2 ⟨j, by omega, rfl⟩, by simp [e0, e1, e3]⟩
                          have h2 := HE.out
                          unfold oneL at h2
                          rw [if_pos h1] at h2
                          exact h2
                        have HT := Lib.hid hT
                        clear htk hT e0 e1 e3 hx
                        go_upto_region 11 with fail
                        go_quiet (fail)
                        go_wp2
                        go_ret
                        exact ⟨by rw [← HT.out]; rfl, pw_below_drewN HB.out _⟩
                      · have e3b : (x.f3 == h.f3) = false := by simpa using e3
                        have HN2 := Lib.hid (show (l.take (j + 1)).any (fun x => decide (x.f0 = h.f0 ∧ x.f1 = h.f1 ∧ x.f3 = h.f3)) = false by rw [htk]; simp [e3])
                        clear htk e0 e1 e3 hx
                        go_upto_region 11 with fail
                        go_quiet (fail)
                        go_wp2
                        go_roundg (i - (j + 1))
                        case measure => omega
                        case rel => exact ⟨j + 1, rfl, by omega, by go_num, Lib.hid (pw_below_drewN HB.out _), Lib.hid (HX.out.below (pw_below_drewN (Below.refl _ _) _)), HN2⟩
                    · have e1b : (x.f1.toList == h.f1.toList) = false := by simpa [tl_iff] using e1
                      have HN2 := Lib.hid (show (l.take (j + 1)).any (fun x => decide (x.f0 = h.f0 ∧ x.f1 = h.f1 ∧ x.f3 = h.f3)) = false by rw [htk]; simp [e1])
                      clear htk e0 e1 hx
                      go_upto_region 11 with fail
                      go_quiet (fail)
                      go_wp2
                      go_roundg (i - (j + 1))
                      case measure => omega
                      case rel => exact ⟨j + 1, rfl, by omega, by go_num, Lib.hid (pw_below_drewN HB.out _), Lib.hid (HX.out.below (pw_below_drewN (Below.refl _ _) _)), HN2⟩
                  · have e0b : (x.f0.toList == h.f0.toList) = false := by simpa [tl_iff] using e0
                    have HN2 := Lib.hid (show (l.take (j + 1)).any (fun x => decide (x.f0 = h.f0 ∧ x.f1 = h.f1 ∧ x.f3 = h.f3)) = false by rw [htk]; simp [e0])
                    clear htk e0 hx
                    go_upto_region 11 with fail
                    go_quiet (fail)
                    go_wp2
                    go_roundg (i - (j + 1))
                    case measure => omega
                    case rel => exact ⟨j + 1, rfl, by omega, by go_num, Lib.hid (pw_below_drewN HB.out _), Lib.hid (HX.out.below (pw_below_drewN (Below.refl _ _) _)), HN2⟩
                · obtain rfl : i = j := by omega
                  have hE := HE.out
                  unfold oneL at hE
                  rw [HN.out, if_neg (by simp)] at hE
                  have hij : ((i : Int) < (i : Int)) = False := by simp
                  go_upto_region 13 with fail
                  have hdr := (Below.refl wr.heap.size wr).drew
                  have HXd := Lib.hid (HX.out.below hdr)
                  have HBd := Lib.hid (HB.out.drew)
                  clear hdr hij k0 k1 k2 k3 k4
                  by_cases e0 : h.f0 = h.f1
                  · have e0b : (h.f0.toList == h.f1.toList) = true := by rw [e0]; simp
                    rw [if_pos e0] at hE
                    have HT := Lib.hid hE
                    clear e0 hE
                    refine start_ (n := 15) (S := fun w' => w'.cell? ⟨z, 0, none⟩ = some (.string h.f0) ∧ w'.cell? ⟨z, 1, none⟩ = some (.string h.f1)) (ds := []) #[false, false, false, false, false, false, false, false, false, false, false, false, false, false, false] (by kernel_rfl) rfl rfl ⟨HXd.out.facts.1, HXd.out.facts.2.1⟩ (fun hHeld => ?_)
                    refine pure_ (i := 0) (N := some 80) (v := ?_) (a' := ?_) #[true, false, false, false, false, false, false, false, false, false, false, false, false, false, false] rfl rfl (by kernel_rfl) (fun _ _ _ h => h) (Or.inl ⟨by rfl, ?_⟩) ?_ ?_
                    rotate_left
                    · intro w'
                      go_simp
                      with_reducible rfl
                    rotate_left
                    · simp only [Act.put, pkA, pkZ, pkS, i64_w, i32_w]
                      rfl
                    refine pure_ (i := 2) (N := some 82) (v := ?_) (a' := ?_) #[true, false, true, false, false, false, false, false, false, false, false, false, false, false, false] rfl rfl (by kernel_rfl) (fun _ _ _ h => h) (Or.inl ⟨by rfl, ?_⟩) ?_ ?_
                    rotate_left
                    · intro w'
                      go_simp
                      with_reducible rfl
                    rotate_left
                    · simp only [Act.put, pkA, pkZ, pkS, i64_w, i32_w]
                      rfl
                    refine take_ (i := 1) (N := some 81) (v := ?_) (a' := ?_) #[true, true, true, false, false, false, false, false, false, false, false, false, false, false, false] rfl rfl (by kernel_rfl) (fun _ _ _ h => h) (Or.inl ⟨by rfl, ?_⟩) hHeld ?_ ?_
                    rotate_left
                    · rintro w' ⟨s0, s1⟩
                      go_simp
                      with_reducible rfl
                    rotate_left
                    · simp only [Act.put, pkA, pkZ, pkS, i64_w, i32_w]
                      rfl
                    refine take_ (i := 3) (N := some 83) (v := ?_) (a' := ?_) #[true, true, true, true, false, false, false, false, false, false, false, false, false, false, false] rfl rfl (by kernel_rfl) (fun _ _ _ h => h) (Or.inl ⟨by rfl, ?_⟩) hHeld ?_ ?_
                    rotate_left
                    · rintro w' ⟨s0, s1⟩
                      go_simp
                      with_reducible rfl
                    rotate_left
                    · simp only [Act.put, pkA, pkZ, pkS, i64_w, i32_w]
                      rfl
                    refine pure_ (i := 4) (N := some 84) (v := ?_) (a' := ?_) #[true, true, true, true, true, false, false, false, false, false, false, false, false, false, false] rfl rfl (by kernel_rfl) (fun _ _ _ h => h) (Or.inl ⟨by rfl, ?_⟩) ?_ ?_
                    rotate_left
                    · intro w'
                      go_simp
                      with_reducible rfl
                    rotate_left
                    · simp only [Act.put, pkA, pkZ, pkS, i64_w, i32_w]
                      rfl
                    refine pure_ (i := 5) (N := some 85) (v := ?_) (a' := ?_) #[true, true, true, true, true, true, false, false, false, false, false, false, false, false, false] rfl rfl (by kernel_rfl) (fun _ _ _ h => h) (Or.inl ⟨by rfl, ?_⟩) ?_ ?_
                    rotate_left
                    · intro w'
                      go_simp
                      with_reducible rfl
                    rotate_left
                    · simp only [Act.put, pkA, pkZ, pkS, i64_w, i32_w]
                      rfl
                    refine pure_ (i := 6) (N := some 86) (v := undef) (a' := ?_) #[true, true, true, true, true, true, true, false, false, false, false, false, false, false, false] rfl rfl (by kernel_rfl) (fun _ _ _ h => h) (Or.inr ⟨by rfl, rfl⟩) ?_ ?_
                    rotate_left
                    · simp only [Act.put, pkA, pkZ, pkS, i64_w, i32_w]
                      rfl
                    refine pure_ (i := 7) (N := some 87) (v := undef) (a' := ?_) #[true, true, true, true, true, true, true, true, false, false, false, false, false, false, false] rfl rfl (by kernel_rfl) (fun _ _ _ h => h) (Or.inr ⟨by rfl, rfl⟩) ?_ ?_
                    rotate_left
                    · simp only [Act.put, pkA, pkZ, pkS, i64_w, i32_w]
                      rfl
                    refine pure_ (i := 8) (N := some 88) (v := undef) (a' := ?_) #[true, true, true, true, true, true, true, true, true, false, false, false, false, false, false] rfl rfl (by kernel_rfl) (fun _ _ _ h => h) (Or.inr ⟨by rfl, rfl⟩) ?_ ?_
                    rotate_left
                    · simp only [Act.put, pkA, pkZ, pkS, i64_w, i32_w]
                      rfl
                    refine pure_ (i := 9) (N := some 89) (v := undef) (a' := ?_) #[true, true, true, true, true, true, true, true, true, true, false, false, false, false, false] rfl rfl (by kernel_rfl) (fun _ _ _ h => h) (Or.inr ⟨by rfl, rfl⟩) ?_ ?_
                    rotate_left
                    · simp only [Act.put, pkA, pkZ, pkS, i64_w, i32_w]
                      rfl
                    refine pure_ (i := 10) (N := some 90) (v := undef) (a' := ?_) #[true, true, true, true, true, true, true, true, true, true, true, false, false, false, false] rfl rfl (by kernel_rfl) (fun _ _ _ h => h) (Or.inr ⟨by rfl, rfl⟩) ?_ ?_
                    rotate_left
                    · simp only [Act.put, pkA, pkZ, pkS, i64_w, i32_w]
                      rfl
                    refine pure_ (i := 11) (N := some 91) (v := undef) (a' := ?_) #[true, true, true, true, true, true, true, true, true, true, true, true, false, false, false] rfl rfl (by kernel_rfl) (fun _ _ _ h => h) (Or.inr ⟨by rfl, rfl⟩) ?_ ?_
                    rotate_left
                    · simp only [Act.put, pkA, pkZ, pkS, i64_w, i32_w]
                      rfl
                    refine pure_ (i := 12) (N := some 92) (v := undef) (a' := ?_) #[true, true, true, true, true, true, true, true, true, true, true, true, true, false, false] rfl rfl (by kernel_rfl) (fun _ _ _ h => h) (Or.inr ⟨by rfl, rfl⟩) ?_ ?_
                    rotate_left
                    · simp only [Act.put, pkA, pkZ, pkS, i64_w, i32_w]
                      rfl
                    refine pure_ (i := 13) (N := some 93) (v := undef) (a' := ?_) #[true, true, true, true, true, true, true, true, true, true, true, true, true, true, false] rfl rfl (by kernel_rfl) (fun _ _ _ h => h) (Or.inr ⟨by rfl, rfl⟩) ?_ ?_
                    rotate_left
                    · simp only [Act.put, pkA, pkZ, pkS, i64_w, i32_w]
                      rfl
                    refine pure_ (i := 14) (N := some 94) (v := ?_) (a' := ?_) #[true, true, true, true, true, true, true, true, true, true, true, true, true, true, true] rfl rfl (by kernel_rfl) (fun _ _ _ h => h) (Or.inl ⟨by rfl, ?_⟩) ?_ ?_
                    rotate_left
                    · intro w'
                      go_simp
                      with_reducible rfl
                    rotate_left
                    · simp only [Act.put, pkA, pkZ, pkS, i64_w, i32_w]
                      rfl
                    refine done_ (by kernel_rfl) ?_
                    clear hHeld
                    go_wp2
                    go_ret
                    exact ⟨by rw [← HT.out]; rfl, HBd.out⟩
                  · have e0b : (h.f0.toList == h.f1.toList) = false := by simpa [tl_iff] using e0
                    rw [if_neg e0] at hE
                    have HT := Lib.hid hE
                    clear e0 hE
                    refine start_ (n := 15) (S := fun w' => w'.cell? ⟨z, 0, none⟩ = some (.string h.f0) ∧ w'.cell? ⟨z, 1, none⟩ = some (.string h.f1)) (ds := []) #[false, false, false, false, false, false, false, false, false, false, false, false, false, false, false] (by kernel_rfl) rfl rfl ⟨HXd.out.facts.1, HXd.out.facts.2.1⟩ (fun hHeld => ?_)
                    refine pure_ (i := 0) (N := some 80) (v := ?_) (a' := ?_) #[true, false, false, false, false, false, false, false, false, false, false, false, false, false, false] rfl rfl (by kernel_rfl) (fun _ _ _ h => h) (Or.inl ⟨by rfl, ?_⟩) ?_ ?_
                    rotate_left
                    · intro w'
                      go_simp
                      with_reducible rfl
                    rotate_left
                    · simp only [Act.put, pkA, pkZ, pkS, i64_w, i32_w]
                      rfl
                    refine pure_ (i := 2) (N := some 82) (v := ?_) (a' := ?_) #[true, false, true, false, false, false, false, false, false, false, false, false, false, false, false] rfl rfl (by kernel_rfl) (fun _ _ _ h => h) (Or.inl ⟨by rfl, ?_⟩) ?_ ?_
                    rotate_left
                    · intro w'
                      go_simp
                      with_reducible rfl
                    rotate_left
                    · simp only [Act.put, pkA, pkZ, pkS, i64_w, i32_w]
                      rfl
                    refine take_ (i := 1) (N := some 81) (v := ?_) (a' := ?_) #[true, true, true, false, false, false, false, false, false, false, false, false, false, false, false] rfl rfl (by kernel_rfl) (fun _ _ _ h => h) (Or.inl ⟨by rfl, ?_⟩) hHeld ?_ ?_
                    rotate_left
                    · rintro w' ⟨s0, s1⟩
                      go_simp
                      with_reducible rfl
                    rotate_left
                    · simp only [Act.put, pkA, pkZ, pkS, i64_w, i32_w]
                      rfl
                    refine take_ (i := 3) (N := some 83) (v := ?_) (a' := ?_) #[true, true, true, true, false, false, false, false, false, false, false, false, false, false, false] rfl rfl (by kernel_rfl) (fun _ _ _ h => h) (Or.inl ⟨by rfl, ?_⟩) hHeld ?_ ?_
                    rotate_left
                    · rintro w' ⟨s0, s1⟩
                      go_simp
                      with_reducible rfl
                    rotate_left
                    · simp only [Act.put, pkA, pkZ, pkS, i64_w, i32_w]
                      rfl
                    refine pure_ (i := 4) (N := some 84) (v := ?_) (a' := ?_) #[true, true, true, true, true, false, false, false, false, false, false, false, false, false, false] rfl rfl (by kernel_rfl) (fun _ _ _ h => h) (Or.inl ⟨by rfl, ?_⟩) ?_ ?_
                    rotate_left
                    · intro w'
                      go_simp
                      with_reducible rfl
                    rotate_left
                    · simp only [Act.put, pkA, pkZ, pkS, i64_w, i32_w]
                      rfl
                    refine pure_ (i := 5) (N := some 85) (v := ?_) (a' := ?_) #[true, true, true, true, true, true, false, false, false, false, false, false, false, false, false] rfl rfl (by kernel_rfl) (fun _ _ _ h => h) (Or.inl ⟨by rfl, ?_⟩) ?_ ?_
                    rotate_left
                    · intro w'
                      go_simp
                      with_reducible rfl
                    rotate_left
                    · simp only [Act.put, pkA, pkZ, pkS, i64_w, i32_w]
                      rfl
                    refine pure_ (i := 6) (N := some 86) (v := ?_) (a' := ?_) #[true, true, true, true, true, true, true, false, false, false, false, false, false, false, false] rfl rfl (by kernel_rfl) (fun _ _ _ h => h) (Or.inl ⟨by rfl, ?_⟩) ?_ ?_
                    rotate_left
                    · intro w'
                      go_simp
                      with_reducible rfl
                    rotate_left
                    · simp only [Act.put, pkA, pkZ, pkS, i64_w, i32_w]
                      rfl
                    refine pure_ (i := 7) (N := some 87) (v := ?_) (a' := ?_) #[true, true, true, true, true, true, true, true, false, false, false, false, false, false, false] rfl rfl (by kernel_rfl) (fun _ _ _ h => h) (Or.inl ⟨by rfl, ?_⟩) ?_ ?_
                    rotate_left
                    · intro w'
                      go_simp
                      with_reducible rfl
                    rotate_left
                    · simp only [Act.put, pkA, pkZ, pkS, i64_w, i32_w]
                      rfl
                    refine pure_ (i := 8) (N := some 88) (v := ?_) (a' := ?_) #[true, true, true, true, true, true, true, true, true, false, false, false, false, false, false] rfl rfl (by kernel_rfl) (fun _ _ _ h => h) (Or.inl ⟨by rfl, ?_⟩) ?_ ?_
                    rotate_left
                    · intro w'
                      go_simp
                      with_reducible rfl
                    rotate_left
                    · simp only [Act.put, pkA, pkZ, pkS, i64_w, i32_w]
                      rfl
                    refine pure_ (i := 9) (N := some 89) (v := ?_) (a' := ?_) #[true, true, true, true, true, true, true, true, true, true, false, false, false, false, false] rfl rfl (by kernel_rfl) (fun _ _ _ h => h) (Or.inl ⟨by rfl, ?_⟩) ?_ ?_
                    rotate_left
                    · intro w'
                      go_simp
                      with_reducible rfl
                    rotate_left
                    · simp only [Act.put, pkA, pkZ, pkS, i64_w, i32_w]
                      rfl
                    refine pure_ (i := 11) (N := some 91) (v := ?_) (a' := ?_) #[true, true, true, true, true, true, true, true, true, true, false, true, false, false, false] rfl rfl (by kernel_rfl) (fun _ _ _ h => h) (Or.inl ⟨by rfl, ?_⟩) ?_ ?_
                    rotate_left
                    · intro w'
                      go_simp
                      with_reducible rfl
                    rotate_left
                    · simp only [Act.put, pkA, pkZ, pkS, i64_w, i32_w]
                      rfl
                    refine take_ (i := 10) (N := some 90) (v := ?_) (a' := ?_) #[true, true, true, true, true, true, true, true, true, true, true, true, false, false, false] rfl rfl (by kernel_rfl) (fun _ _ _ h => h) (Or.inl ⟨by rfl, ?_⟩) hHeld ?_ ?_
                    rotate_left
                    · rintro w' ⟨s0, s1⟩
                      go_simp
                      with_reducible rfl
                    rotate_left
                    · simp only [Act.put, pkA, pkZ, pkS, i64_w, i32_w]
                      rfl
                    refine take_ (i := 12) (N := some 92) (v := ?_) (a' := ?_) #[true, true, true, true, true, true, true, true, true, true, true, true, true, false, false] rfl rfl (by kernel_rfl) (fun _ _ _ h => h) (Or.inl ⟨by rfl, ?_⟩) hHeld ?_ ?_
                    rotate_left
                    · rintro w' ⟨s0, s1⟩
                      go_simp
                      with_reducible rfl
                    rotate_left
                    · simp only [Act.put, pkA, pkZ, pkS, i64_w, i32_w]
                      rfl
                    refine one_ (i := 13) (N := some 93) #[true, true, true, true, true, true, true, true, true, true, true, true, true, true, false] rfl rfl (by kernel_rfl) (by decide) (fun K hK => ?_)
                    refine goes_ Tryz.func57 (by kernel_rfl) rfl #[.slice (some ⟨b, o, none⟩) i c, .string h.f1, .string h.f0] (by rfl) rfl rfl (by simp only [List.map_toArray, List.map_cons, List.map_nil] <;> rfl) ?_
                    refine (HOWN.out _ HBd.out).mono ?_
                    rintro e w7 ⟨rfl, hb7⟩
                    refine ⟨_, rfl, ?_⟩
                    have HB7 := Lib.hid (HBd.out.trans (hb7.mono HBd.out.size))
                    have HX7 := Lib.hid (HXd.out.below hb7)
                    refine hK.out _ _ ⟨HX7.out.facts.1, HX7.out.facts.2.1⟩ (fun hHeld => ?_)
                    clear hK K
                    refine norm_ (a' := ?_) ?_ ?_
                    rotate_left
                    · show Act.put _ (some 93) _ = _
                      simp only [Act.put, pkA, pkZ, pkS, i64_w, i32_w]
                      rfl
                    refine pure_ (i := 14) (N := some 94) (v := ?_) (a' := ?_) #[true, true, true, true, true, true, true, true, true, true, true, true, true, true, true] rfl rfl (by kernel_rfl) (fun _ _ _ h => h) (Or.inl ⟨by rfl, ?_⟩) ?_ ?_
                    rotate_left
                    · intro w'
                      go_simp
                      with_reducible rfl
                    rotate_left
                    · simp only [Act.put, pkA, pkZ, pkS, i64_w, i32_w]
                      rfl
                    refine done_ (by kernel_rfl) ?_
                    clear hHeld
                    cases own with
                    | true =>
                      go_wp2
                      go_ret
                      exact ⟨by rw [← HT.out]; rfl, HB7.out⟩
                    | false =>
                      go_wp2
                      go_ret
                      exact ⟨by rw [← HT.out]; rfl, HB7.out⟩
            · have dyb : isDay h.f3 = false := by simpa using dy
              rw [if_neg dy] at hE
              rw [dyb] at HD
              have HT := Lib.hid hE
              clear hE dy dyb
              go_wp2_with (first
                | (go_at_call 56; refine (HR.out _).mono ?_; rintro e w2 ⟨rfl, hb2⟩; replace HX := Lib.hid (HX.out.below hb2); replace HB := Lib.hid (HB.out.trans (hb2.mono HB.out.size)); obtain ⟨s0, s1, s2, s3, s4⟩ := HX.out.facts; clear hb2)
                | (go_at_call 40; refine (HD.out _).mono ?_; rintro e w3 ⟨rfl, hb3⟩; replace HX := Lib.hid (HX.out.below hb3); replace HB := Lib.hid (HB.out.trans (hb3.mono HB.out.size)); clear hb3))
              go_ret
              exact ⟨by rw [← HT.out]; rfl, HB.out⟩
      · have r1b : rightB h.f2.f0 h.f2.f1 = false := by simpa using r1
        have hf1 : fitH h = false := by unfold fitH; rw [r1b]; rfl
        rw [hf1] at hE
        rw [r1b] at HR
        have HT := Lib.hid (show (2 : Int) = e by simpa using hE)
        clear hE r1 r1b hf1
        go_wp2_with (go_at_call 56; refine (HR.out _).mono ?_; rintro e w2 ⟨rfl, hb2⟩; replace HX := Lib.hid (HX.out.below hb2); replace HB := Lib.hid (HB.out.trans (hb2.mono HB.out.size)); obtain ⟨s0, s1, s2, s3, s4⟩ := HX.out.facts; clear hb2)
        go_ret
        exact ⟨by rw [← HT.out]; rfl, HB.out⟩
    · have c1b : wcodeB h.f1 = false := by simpa using c1
      rw [c0] at HC0
      rw [c1b] at HC1
      have hE := HE.out
      unfold oneA at hE
      rw [if_pos c0, if_neg c1] at hE
      have HT := Lib.hid hE
      clear hE HE c0 c1 c1b
      go_enter Tryz.func34, Tryz.ntmps34
      go_wp2_with (first
        | (go_at_call_of 39 (Value.string h.f0); refine (HC0.out _).mono ?_; rintro e w1 ⟨rfl, hb1⟩; replace HX := Lib.hid (HX.out.below hb1); replace HB := Lib.hid (HB.out.trans (hb1.mono HB.out.size)); obtain ⟨p0, p1, p2, p3, p4⟩ := HX.out.facts; clear hb1)
        | (go_at_call_of 39 (Value.string h.f1); refine (HC1.out _).mono ?_; rintro e w1 ⟨rfl, hb1⟩; replace HX := Lib.hid (HX.out.below hb1); replace HB := Lib.hid (HB.out.trans (hb1.mono HB.out.size)); obtain ⟨r0, r1, r2, r3, r4⟩ := HX.out.facts; clear hb1))
      go_ret
      exact ⟨by rw [← HT.out]; rfl, HB.out⟩
  · have c0b : wcodeB h.f0 = false := by simpa using c0
    rw [c0b] at HC0
    have hE := HE.out
    unfold oneA at hE
    rw [if_neg c0] at hE
    have HT := Lib.hid hE
    clear hE HE c0 c0b
    go_enter Tryz.func34, Tryz.ntmps34
    go_wp2_with (go_at_call_of 39 (Value.string h.f0); refine (HC0.out _).mono ?_; rintro e w1 ⟨rfl, hb1⟩; replace HX := Lib.hid (HX.out.below hb1); replace HB := Lib.hid (HB.out.trans (hb1.mono HB.out.size)); obtain ⟨p0, p1, p2, p3, p4⟩ := HX.out.facts; clear hb1)
    go_ret
    exact ⟨by rw [← HT.out]; rfl, HB.out⟩
def refOnes (kf : Nat) (l : List Hold) : Nat → Nat → Option (Option (Int × Int))
  | 0, _ => some none
  | n + 1, i => (oneF kf l i).bind fun e => if e = 0 then refOnes kf l n (i + 1) else some (some ((i : Int), e))
def refOver (kf : Nat) (l : List Hold) (all : List ByteArray) : List Hold → Option Bool
  | [] => some false
  | h :: hs => (refEx kf l h.f3 1 all h.f1).bind fun b => if b = true then some true else refOver kf l all hs
def refCheck (kf : Nat) (l : List Hold) : Option (Int × Int) :=
  if 200 < l.length then some (0, 9) else (refOnes kf l l.length 0).bind fun r => match r with
    | some p => some p
    | none => (refOver kf l (entL l []) l).bind fun b => if b = true then some (0, 4) else some (0, 0)
set_option maxRecDepth 100000 in
set_option maxHeartbeats 8000000 in
theorem go_refCheck (kf : Nat) (A : Option Addr) (c : Nat) (l : List Hold) (res : Int × Int) (w : World) (hC : Kd.C k56 w A l.length l) (hlc : l.length ≤ c) (hl : l.length ≤ 1000) (hsz : l.length ≤ 200 → ∀ h ∈ l, h.f0.size ≤ 100 ∧ h.f1.size ≤ 100 ∧ inI h.f2.f0 ∧ inI h.f2.f1) (hF : refCheck kf l = some res) :
    Calls Tryz.prog 13 #[.slice A l.length c] w fun e w' => e = .returned (.tuple #[.int .i64 res.1, .int .i64 res.2]) ∧ Below w.heap.size w w' := by
  have HC := Lib.hid hC
  clear hC
  unfold refCheck at hF
  by_cases hm : 200 < l.length
  · rw [if_pos hm, Option.some.injEq] at hF
    subst hF
    have hmi : (200 : Int) < (l.length : Int) := by omega
    go_enter Tryz.func13, Tryz.ntmps13
    go_wp2
    go_ret2
    exact ⟨rfl, Below.refl _ _⟩
  · rw [if_neg hm] at hF
    obtain ⟨ro, hro, hF⟩ := Option.bind_eq_some_iff.1 hF
    have hmi : ¬ ((200 : Int) < (l.length : Int)) := by omega
    have HRO := Lib.hid hro; have HF := Lib.hid hF; have HSZ := Lib.hid (hsz (by omega))
    clear hro hF hm hsz
    go_enter Tryz.func13, Tryz.ntmps13
    go_wp2
    clear hmi
    go_loopg [4, 5, 2, 3] l.length (fun n t4 t5 t2 t3 wr => ∃ k : Nat, n = l.length - k ∧ k ≤ l.length ∧ t4 = .int .i64 k ∧ Below w.heap.size w wr ∧ Hid (refOnes kf l (l.length - k) k = some ro))
    case atStart => exact ⟨0, rfl, Nat.zero_le _, rfl, Below.refl _ _, HRO⟩
    case round =>
      obtain ⟨k, rfl, hk, rfl, hbr, HR⟩ := hrel
      by_cases hlt : k < l.length
      · have hR := HR.out
        rw [show l.length - k = (l.length - (k + 1)) + 1 by omega, refOnes] at hR
        obtain ⟨e, he, hR⟩ := Option.bind_eq_some_iff.1 hR
        have hki : (k : Int) < (l.length : Int) := by omega
        have HE := Lib.hid he
        clear he HR
        by_cases he0 : e = 0
        · subst he0
          rw [if_pos rfl] at hR
          have HR2 := Lib.hid hR
          clear hR
          go_wp2_with (go_at_call 34; refine (go_one kf A c l k 0 _ (Kd.C_below HC.out hbr) hlc hl hlt HSZ.out HE.out).mono ?_; rintro e_ w5 ⟨rfl, hb5⟩)
          go_roundg (l.length - (k + 1))
          case measure => omega
          case rel => exact ⟨k + 1, rfl, by omega, by go_num, hbr.trans (hb5.mono hbr.size), HR2⟩
        · rw [if_neg he0, Option.some.injEq] at hR
          have he0b : (e == 0) = false := by simpa using he0
          subst hR
          have hF := HF.out
          simp only [Option.some.injEq] at hF
          subst hF
          clear HF HRO he0
          go_wp2_with (go_at_call 34; refine (go_one kf A c l k e _ (Kd.C_below HC.out hbr) hlc hl hlt HSZ.out HE.out).mono ?_; rintro e_ w5 ⟨rfl, hb5⟩)
          go_ret2
          exact ⟨rfl, hbr.trans (hb5.mono hbr.size)⟩
      · have hke : k = l.length := by omega
        subst hke
        have hR := HR.out
        rw [Nat.sub_self] at hR
        simp only [refOnes, Option.some.injEq] at hR
        subst hR
        have hF := HF.out
        simp only at hF
        obtain ⟨bo, hbo, hF⟩ := Option.bind_eq_some_iff.1 hF
        obtain ⟨r1, r2⟩ := res
        have HBO := Lib.hid hbo; have HF2 := Lib.hid hF
        have hall := entL_length l []
        simp only [List.length_nil, Nat.zero_add] at hall
        clear hbo hF HF HRO HR
        go_wp2_with (go_at_call 25; refine (go_refEntities A c l _ (Kd.C_below HC.out hbr) hlc hl).mono ?_; rintro e_ w3 ⟨va, rfl, hoa, hb3⟩)
        obtain ⟨all, hAL⟩ : ∃ all, entL l [] = all := ⟨_, rfl⟩
        rw [hAL] at hoa hall HBO
        obtain ⟨Aa, ca, hva, hca, hCa⟩ := strs_C hoa
        subst hva
        have HCa3 := Lib.hid hCa
        have hb3w := hbr.trans (hb3.mono hbr.size)
        have HB3 := Lib.hid hb3w
        clear hAL hoa hCa hb3w hb3
        go_loopg [7, 2, 3] l.length (fun n t7 t2 t3 wr => ∃ k : Nat, n = l.length - k ∧ k ≤ l.length ∧ t7 = .int .i64 k ∧ Below w3.heap.size w3 wr ∧ Hid (refOver kf l all (l.drop k) = some bo))
        case atStart => exact ⟨0, rfl, Nat.zero_le _, rfl, Below.refl _ _, by rw [List.drop_zero]; exact HBO⟩
        case round =>
          clear hbr hlt hk
          obtain ⟨k, rfl, hk, rfl, hbr, HR⟩ := hrel
          have hwr := HB3.out.trans (hbr.mono HB3.out.size)
          have HCr := Lib.hid (Kd.C_below HC.out hwr); have HCa := Lib.hid (Kd.C_below HCa3.out hbr)
          have HWR := Lib.hid hwr
          clear hwr
          by_cases hlt : k < l.length
          · obtain ⟨b, o, hA, hbl, q0, q1, q2, q3, q4⟩ := holds_at HCr.out k hlt
            obtain ⟨x, hx⟩ : ∃ x, l[k] = x := ⟨_, rfl⟩
            have hR := HR.out
            rw [List.drop_eq_getElem_cons hlt, hx] at hR
            rw [hx] at q0 q1 q2 q3 q4
            clear hx HR q0 q2 q3
            simp only [refOver] at hR
            obtain ⟨be, hbe, hR⟩ := Option.bind_eq_some_iff.1 hR
            unfold refEx at hbe
            obtain ⟨fs, hfs, hbe⟩ := Option.bind_eq_some_iff.1 hbe
            have HFS := Lib.hid hfs; have HBE := Lib.hid hbe
            clear hfs hbe
            have hki : (k : Int) < (l.length : Int) := by omega
            subst hA
            go_upto_region 13 with fail
            have hBd : Below wr.heap.size wr wr.drew := (Below.refl _ wr).drew
            cases be with
            | true =>
              rw [if_pos rfl, Option.some.injEq] at hR
              subst hR
              have hF := HF2.out
              rw [if_pos rfl, Option.some.injEq, Prod.mk.injEq] at hF
              obtain ⟨rfl, rfl⟩ := hF
              clear HF2 HBO
              refine start_ (n := 14) (S := fun w' => w'.cell? ⟨b, o + k * 5 + 1, none⟩ = some (.string x.f1) ∧ w'.cell? ⟨b, o + k * 5 + 4, none⟩ = some (.int .i64 x.f3)) (ds := []) #[false, false, false, false, false, false, false, false, false, false, false, false, false, false] (by kernel_rfl) rfl rfl ⟨(hBd.cell (p := ⟨b, o + k * 5 + 1, none⟩) hbl).trans q1, (hBd.cell (p := ⟨b, o + k * 5 + 4, none⟩) hbl).trans q4⟩ (fun hHeld => ?_)
              refine pure_ (i := 0) (N := some 32) (v := ?_) (a' := ?_) #[true, false, false, false, false, false, false, false, false, false, false, false, false, false] rfl rfl (by kernel_rfl) (fun _ _ _ h => h) (Or.inl ⟨by rfl, ?_⟩) ?_ ?_
              rotate_left
              · intro w'
                go_simp
                with_reducible rfl
              rotate_left
              · simp only [Act.put, pkA, pkZ, pkS, i64_w, i32_w]
                rfl
              refine pure_ (i := 1) (N := some 33) (v := ?_) (a' := ?_) #[true, true, false, false, false, false, false, false, false, false, false, false, false, false] rfl rfl (by kernel_rfl) (fun _ _ _ h => h) (Or.inl ⟨by rfl, ?_⟩) ?_ ?_
              rotate_left
              · intro w'
                go_simp
                with_reducible rfl
              rotate_left
              · simp only [Act.put, pkA, pkZ, pkS, i64_w, i32_w]
                rfl
              refine pure_ (i := 2) (N := some 34) (v := ?_) (a' := ?_) #[true, true, true, false, false, false, false, false, false, false, false, false, false, false] rfl rfl (by kernel_rfl) (fun _ _ _ h => h) (Or.inl ⟨by rfl, ?_⟩) ?_ ?_
              rotate_left
              · intro w'
                go_simp
                with_reducible rfl
              rotate_left
              · simp only [Act.put, pkA, pkZ, pkS, i64_w, i32_w]
                rfl
              refine pure_ (i := 3) (N := some 35) (v := ?_) (a' := ?_) #[true, true, true, true, false, false, false, false, false, false, false, false, false, false] rfl rfl (by kernel_rfl) (fun _ _ _ h => h) (Or.inl ⟨by rfl, ?_⟩) ?_ ?_
              rotate_left
              · intro w'
                go_simp
                with_reducible rfl
              rotate_left
              · simp only [Act.put, pkA, pkZ, pkS, i64_w, i32_w]
                rfl
              refine pure_ (i := 4) (N := some 36) (v := ?_) (a' := ?_) #[true, true, true, true, true, false, false, false, false, false, false, false, false, false] rfl rfl (by kernel_rfl) (fun _ _ _ h => h) (Or.inl ⟨by rfl, ?_⟩) ?_ ?_
              rotate_left
              · intro w'
                go_simp
                with_reducible rfl
              rotate_left
              · simp only [Act.put, pkA, pkZ, pkS, i64_w, i32_w]
                rfl
              refine pure_ (i := 5) (N := some 37) (v := ?_) (a' := ?_) #[true, true, true, true, true, true, false, false, false, false, false, false, false, false] rfl rfl (by kernel_rfl) (fun _ _ _ h => h) (Or.inl ⟨by rfl, ?_⟩) ?_ ?_
              rotate_left
              · intro w'
                go_simp
                with_reducible rfl
              rotate_left
              · simp only [Act.put, pkA, pkZ, pkS, i64_w, i32_w]
                rfl
              refine pure_ (i := 7) (N := some 39) (v := ?_) (a' := ?_) #[true, true, true, true, true, true, false, true, false, false, false, false, false, false] rfl rfl (by kernel_rfl) (fun _ _ _ h => h) (Or.inl ⟨by rfl, ?_⟩) ?_ ?_
              rotate_left
              · intro w'
                go_simp
                with_reducible rfl
              rotate_left
              · simp only [Act.put, pkA, pkZ, pkS, i64_w, i32_w]
                rfl
              refine pure_ (i := 8) (N := some 40) (v := ?_) (a' := ?_) #[true, true, true, true, true, true, false, true, true, false, false, false, false, false] rfl rfl (by kernel_rfl) (fun _ _ _ h => h) (Or.inl ⟨by rfl, ?_⟩) ?_ ?_
              rotate_left
              · intro w'
                go_simp
                with_reducible rfl
              rotate_left
              · simp only [Act.put, pkA, pkZ, pkS, i64_w, i32_w]
                rfl
              refine pure_ (i := 9) (N := some 41) (v := ?_) (a' := ?_) #[true, true, true, true, true, true, false, true, true, true, false, false, false, false] rfl rfl (by kernel_rfl) (fun _ _ _ h => h) (Or.inl ⟨by rfl, ?_⟩) ?_ ?_
              rotate_left
              · intro w'
                go_simp
                with_reducible rfl
              rotate_left
              · simp only [Act.put, pkA, pkZ, pkS, i64_w, i32_w]
                rfl
              refine pure_ (i := 10) (N := some 42) (v := ?_) (a' := ?_) #[true, true, true, true, true, true, false, true, true, true, true, false, false, false] rfl rfl (by kernel_rfl) (fun _ _ _ h => h) (Or.inl ⟨by rfl, ?_⟩) ?_ ?_
              rotate_left
              · intro w'
                go_simp
                with_reducible rfl
              rotate_left
              · simp only [Act.put, pkA, pkZ, pkS, i64_w, i32_w]
                rfl
              refine take_ (i := 6) (N := some 38) (v := ?_) (a' := ?_) #[true, true, true, true, true, true, true, true, true, true, true, false, false, false] rfl rfl (by kernel_rfl) (fun _ _ _ h => h) (Or.inl ⟨by rfl, ?_⟩) hHeld ?_ ?_
              rotate_left
              · rintro w' ⟨s0, s1⟩
                go_simp
                with_reducible rfl
              rotate_left
              · simp only [Act.put, pkA, pkZ, pkS, i64_w, i32_w]
                rfl
              refine take_ (i := 11) (N := some 43) (v := ?_) (a' := ?_) #[true, true, true, true, true, true, true, true, true, true, true, true, false, false] rfl rfl (by kernel_rfl) (fun _ _ _ h => h) (Or.inl ⟨by rfl, ?_⟩) hHeld ?_ ?_
              rotate_left
              · rintro w' ⟨s0, s1⟩
                go_simp
                with_reducible rfl
              rotate_left
              · simp only [Act.put, pkA, pkZ, pkS, i64_w, i32_w]
                rfl
              refine one_ (i := 12) (N := some 44) #[true, true, true, true, true, true, true, true, true, true, true, true, true, false] rfl rfl (by kernel_rfl) (by decide) (fun K hK => ?_)
              refine goes_ Tryz.func36 (by kernel_rfl) rfl #[.slice (some ⟨b, o, none⟩) l.length c, .slice Aa all.length ca, .string x.f1, .int .i64 x.f3] (by rfl) rfl rfl (by simp only [List.map_toArray, List.map_cons, List.map_nil]; rfl) ?_
              refine (accountingref43_shares.calls kf (some ⟨b, o, none⟩) c l Aa ca all x.f1 x.f3 fs _ (Kd.C_below HCr.out hBd) hlc (Kd.C_below HCa.out hBd) hca HFS.out).mono ?_
              rintro e w6 ⟨v6, rfl, hR6, hb6⟩
              obtain ⟨Af, cf, hvf, hcf, hCf⟩ := Kd.R_reads hR6
              subst hvf
              refine ⟨_, rfl, ?_⟩
              have hB6 := hBd.trans (hb6.mono hBd.size)
              refine hK.out _ _ ⟨(hB6.cell (p := ⟨b, o + k * 5 + 1, none⟩) hbl).trans q1, (hB6.cell (p := ⟨b, o + k * 5 + 4, none⟩) hbl).trans q4⟩ (fun hHeld => ?_)
              clear hK K
              refine norm_ (a' := ?_) ?_ ?_
              rotate_left
              · show Act.put _ (some 44) _ = _
                simp only [Act.put, pkA, pkZ, pkS, i64_w, i32_w]
                rfl
              refine one_ (i := 13) (N := some 45) #[true, true, true, true, true, true, true, true, true, true, true, true, true, true] rfl rfl (by kernel_rfl) (by decide) (fun K hK => ?_)
              refine goes_ Tryz.func35 (by kernel_rfl) rfl #[.slice Af fs.length cf, .int .i64 1] (by rfl) rfl rfl (by simp only [List.map_toArray, List.map_cons, List.map_nil]; rfl) ?_
              refine (accountingref43_Exceeds.calls kf Af cf fs 1 true _ hCf hcf HBE.out).mono ?_
              rintro e w7 ⟨rfl, hb7⟩
              refine ⟨_, rfl, ?_⟩
              have hB7 := hB6.trans (hb7.mono hB6.size)
              refine hK.out _ _ ⟨(hB7.cell (p := ⟨b, o + k * 5 + 1, none⟩) hbl).trans q1, (hB7.cell (p := ⟨b, o + k * 5 + 4, none⟩) hbl).trans q4⟩ (fun hHeld => ?_)
              clear hK K
              refine norm_ (a' := ?_) ?_ ?_
              rotate_left
              · show Act.put _ (some 45) _ = _
                simp only [Act.put, pkA, pkZ, pkS, i64_w, i32_w]
                rfl
              refine done_ (by kernel_rfl) ?_
              go_wp2
              go_ret2
              exact ⟨rfl, HWR.out.trans (hB7.mono HWR.out.size)⟩
            | false =>
              rw [if_neg (by simp)] at hR
              have HR2 := Lib.hid hR
              clear hR
              refine start_ (n := 14) (S := fun w' => w'.cell? ⟨b, o + k * 5 + 1, none⟩ = some (.string x.f1) ∧ w'.cell? ⟨b, o + k * 5 + 4, none⟩ = some (.int .i64 x.f3)) (ds := []) #[false, false, false, false, false, false, false, false, false, false, false, false, false, false] (by kernel_rfl) rfl rfl ⟨(hBd.cell (p := ⟨b, o + k * 5 + 1, none⟩) hbl).trans q1, (hBd.cell (p := ⟨b, o + k * 5 + 4, none⟩) hbl).trans q4⟩ (fun hHeld => ?_)
              refine pure_ (i := 0) (N := some 32) (v := ?_) (a' := ?_) #[true, false, false, false, false, false, false, false, false, false, false, false, false, false] rfl rfl (by kernel_rfl) (fun _ _ _ h => h) (Or.inl ⟨by rfl, ?_⟩) ?_ ?_
              rotate_left
              · intro w'
                go_simp
                with_reducible rfl
              rotate_left
              · simp only [Act.put, pkA, pkZ, pkS, i64_w, i32_w]
                rfl
              refine pure_ (i := 1) (N := some 33) (v := ?_) (a' := ?_) #[true, true, false, false, false, false, false, false, false, false, false, false, false, false] rfl rfl (by kernel_rfl) (fun _ _ _ h => h) (Or.inl ⟨by rfl, ?_⟩) ?_ ?_
              rotate_left
              · intro w'
                go_simp
                with_reducible rfl
              rotate_left
              · simp only [Act.put, pkA, pkZ, pkS, i64_w, i32_w]
                rfl
              refine pure_ (i := 2) (N := some 34) (v := ?_) (a' := ?_) #[true, true, true, false, false, false, false, false, false, false, false, false, false, false] rfl rfl (by kernel_rfl) (fun _ _ _ h => h) (Or.inl ⟨by rfl, ?_⟩) ?_ ?_
              rotate_left
              · intro w'
                go_simp
                with_reducible rfl
              rotate_left
              · simp only [Act.put, pkA, pkZ, pkS, i64_w, i32_w]
                rfl
              refine pure_ (i := 3) (N := some 35) (v := ?_) (a' := ?_) #[true, true, true, true, false, false, false, false, false, false, false, false, false, false] rfl rfl (by kernel_rfl) (fun _ _ _ h => h) (Or.inl ⟨by rfl, ?_⟩) ?_ ?_
              rotate_left
              · intro w'
                go_simp
                with_reducible rfl
              rotate_left
              · simp only [Act.put, pkA, pkZ, pkS, i64_w, i32_w]
                rfl
              refine pure_ (i := 4) (N := some 36) (v := ?_) (a' := ?_) #[true, true, true, true, true, false, false, false, false, false, false, false, false, false] rfl rfl (by kernel_rfl) (fun _ _ _ h => h) (Or.inl ⟨by rfl, ?_⟩) ?_ ?_
              rotate_left
              · intro w'
                go_simp
                with_reducible rfl
              rotate_left
              · simp only [Act.put, pkA, pkZ, pkS, i64_w, i32_w]
                rfl
              refine pure_ (i := 5) (N := some 37) (v := ?_) (a' := ?_) #[true, true, true, true, true, true, false, false, false, false, false, false, false, false] rfl rfl (by kernel_rfl) (fun _ _ _ h => h) (Or.inl ⟨by rfl, ?_⟩) ?_ ?_
              rotate_left
              · intro w'
                go_simp
                with_reducible rfl
              rotate_left
              · simp only [Act.put, pkA, pkZ, pkS, i64_w, i32_w]
                rfl
              refine pure_ (i := 7) (N := some 39) (v := ?_) (a' := ?_) #[true, true, true, true, true, true, false, true, false, false, false, false, false, false] rfl rfl (by kernel_rfl) (fun _ _ _ h => h) (Or.inl ⟨by rfl, ?_⟩) ?_ ?_
              rotate_left
              · intro w'
                go_simp
                with_reducible rfl
              rotate_left
              · simp only [Act.put, pkA, pkZ, pkS, i64_w, i32_w]
                rfl
              refine pure_ (i := 8) (N := some 40) (v := ?_) (a' := ?_) #[true, true, true, true, true, true, false, true, true, false, false, false, false, false] rfl rfl (by kernel_rfl) (fun _ _ _ h => h) (Or.inl ⟨by rfl, ?_⟩) ?_ ?_
              rotate_left
              · intro w'
                go_simp
                with_reducible rfl
              rotate_left
              · simp only [Act.put, pkA, pkZ, pkS, i64_w, i32_w]
                rfl
              refine pure_ (i := 9) (N := some 41) (v := ?_) (a' := ?_) #[true, true, true, true, true, true, false, true, true, true, false, false, false, false] rfl rfl (by kernel_rfl) (fun _ _ _ h => h) (Or.inl ⟨by rfl, ?_⟩) ?_ ?_
              rotate_left
              · intro w'
                go_simp
                with_reducible rfl
              rotate_left
              · simp only [Act.put, pkA, pkZ, pkS, i64_w, i32_w]
                rfl
              refine pure_ (i := 10) (N := some 42) (v := ?_) (a' := ?_) #[true, true, true, true, true, true, false, true, true, true, true, false, false, false] rfl rfl (by kernel_rfl) (fun _ _ _ h => h) (Or.inl ⟨by rfl, ?_⟩) ?_ ?_
              rotate_left
              · intro w'
                go_simp
                with_reducible rfl
              rotate_left
              · simp only [Act.put, pkA, pkZ, pkS, i64_w, i32_w]
                rfl
              refine take_ (i := 6) (N := some 38) (v := ?_) (a' := ?_) #[true, true, true, true, true, true, true, true, true, true, true, false, false, false] rfl rfl (by kernel_rfl) (fun _ _ _ h => h) (Or.inl ⟨by rfl, ?_⟩) hHeld ?_ ?_
              rotate_left
              · rintro w' ⟨s0, s1⟩
                go_simp
                with_reducible rfl
              rotate_left
              · simp only [Act.put, pkA, pkZ, pkS, i64_w, i32_w]
                rfl
              refine take_ (i := 11) (N := some 43) (v := ?_) (a' := ?_) #[true, true, true, true, true, true, true, true, true, true, true, true, false, false] rfl rfl (by kernel_rfl) (fun _ _ _ h => h) (Or.inl ⟨by rfl, ?_⟩) hHeld ?_ ?_
              rotate_left
              · rintro w' ⟨s0, s1⟩
                go_simp
                with_reducible rfl
              rotate_left
              · simp only [Act.put, pkA, pkZ, pkS, i64_w, i32_w]
                rfl
              refine one_ (i := 12) (N := some 44) #[true, true, true, true, true, true, true, true, true, true, true, true, true, false] rfl rfl (by kernel_rfl) (by decide) (fun K hK => ?_)
              refine goes_ Tryz.func36 (by kernel_rfl) rfl #[.slice (some ⟨b, o, none⟩) l.length c, .slice Aa all.length ca, .string x.f1, .int .i64 x.f3] (by rfl) rfl rfl (by simp only [List.map_toArray, List.map_cons, List.map_nil]; rfl) ?_
              refine (accountingref43_shares.calls kf (some ⟨b, o, none⟩) c l Aa ca all x.f1 x.f3 fs _ (Kd.C_below HCr.out hBd) hlc (Kd.C_below HCa.out hBd) hca HFS.out).mono ?_
              rintro e w6 ⟨v6, rfl, hR6, hb6⟩
              obtain ⟨Af, cf, hvf, hcf, hCf⟩ := Kd.R_reads hR6
              subst hvf
              refine ⟨_, rfl, ?_⟩
              have hB6 := hBd.trans (hb6.mono hBd.size)
              refine hK.out _ _ ⟨(hB6.cell (p := ⟨b, o + k * 5 + 1, none⟩) hbl).trans q1, (hB6.cell (p := ⟨b, o + k * 5 + 4, none⟩) hbl).trans q4⟩ (fun hHeld => ?_)
              clear hK K
              refine norm_ (a' := ?_) ?_ ?_
              rotate_left
              · show Act.put _ (some 44) _ = _
                simp only [Act.put, pkA, pkZ, pkS, i64_w, i32_w]
                rfl
              refine one_ (i := 13) (N := some 45) #[true, true, true, true, true, true, true, true, true, true, true, true, true, true] rfl rfl (by kernel_rfl) (by decide) (fun K hK => ?_)
              refine goes_ Tryz.func35 (by kernel_rfl) rfl #[.slice Af fs.length cf, .int .i64 1] (by rfl) rfl rfl (by simp only [List.map_toArray, List.map_cons, List.map_nil]; rfl) ?_
              refine (accountingref43_Exceeds.calls kf Af cf fs 1 false _ hCf hcf HBE.out).mono ?_
              rintro e w7 ⟨rfl, hb7⟩
              refine ⟨_, rfl, ?_⟩
              have hB7 := hB6.trans (hb7.mono hB6.size)
              refine hK.out _ _ ⟨(hB7.cell (p := ⟨b, o + k * 5 + 1, none⟩) hbl).trans q1, (hB7.cell (p := ⟨b, o + k * 5 + 4, none⟩) hbl).trans q4⟩ (fun hHeld => ?_)
              clear hK K
              refine norm_ (a' := ?_) ?_ ?_
              rotate_left
              · show Act.put _ (some 45) _ = _
                simp only [Act.put, pkA, pkZ, pkS, i64_w, i32_w]
                rfl
              refine done_ (by kernel_rfl) ?_
              go_wp2
              go_roundg (l.length - (k + 1))
              case measure => omega
              case rel => exact ⟨k + 1, rfl, by omega, by go_num, hbr.trans (hB7.mono hbr.size), HR2⟩
          · have hke : k = l.length := by omega
            subst hke
            have hR := HR.out
            rw [List.drop_length] at hR
            simp only [refOver, Option.some.injEq] at hR
            subst hR
            have hF := HF2.out
            rw [if_neg (by simp), Option.some.injEq, Prod.mk.injEq] at hF
            obtain ⟨rfl, rfl⟩ := hF
            clear HF2 HBO HR
            go_wp2
            go_ret2
            exact ⟨rfl, HWR.out⟩
theorem GrAt.start (w : World) : GrAt (((w.alloc (.map #[] 0)).alloc (.map #[] 0)).alloc (.cells #[.map (some w.heap.size), .map (some (w.heap.size + 1)), .slice none 0 0, .slice none 0 0] 62)) w.heap.size (w.heap.size + 1 + 1) w.heap.size (w.heap.size + 1) (fun _ => .slice none 0 0) (fun _ => .slice none 0 0) (.slice none 0 0) (.slice none 0 0) gr0 := by
  have hm1 := MapAt.made Tryz.prog 86 encP w
  have hm2 := MapAt.made Tryz.prog 9 encS (w.alloc (.map #[] 0))
  rw [World.size_alloc] at hm2
  have hb2 := (Below.refl _ (w.alloc (.map #[] 0))).alloc (Nat.le_refl _) (.map #[] 0)
  have hb3 := (Below.refl _ ((w.alloc (.map #[] 0)).alloc (.map #[] 0))).alloc (Nat.le_refl _) (.cells #[.map (some w.heap.size), .map (some (w.heap.size + 1)), .slice none 0 0, .slice none 0 0] 62)
  refine ⟨?_, by omega, Nat.le_refl _, by omega, (hm1.below hb2).below hb3, hm2.below hb3, (fun k l h => by cases h), (fun k k' l l' h => by cases h), (fun x l h => by cases h), World.ownsRow_nil _ _ _ _, World.ownsRow_nil _ _ _ _⟩
  have := (Go.MapKept.heap_alloc ((w.alloc (.map #[] 0)).alloc (.map #[] 0)) (.cells #[.map (some w.heap.size), .map (some (w.heap.size + 1)), .slice none 0 0, .slice none 0 0] 62)).1
  rw [World.size_alloc, World.size_alloc] at this
  exact this
def NewPost (w w' : World) (p : Value) (og : Option Gr) : Prop := match og with
  | none => p = .pointer none
  | some s => ∃ g m1 m2 V U vE vC, p = .pointer (some ⟨g, 0, none⟩) ∧ m1 ≠ m2 ∧ GrAt w' w.heap.size g m1 m2 V U vE vC s
theorem newL_ok {k : Nat} : ∀ {l : List Hold} {i : Nat} {s s' : Gr}, (∀ h ∈ l, h.f0.size ≤ 100 ∧ h.f1.size ≤ 100) → newL k l i s = some (.inr s') → GrN i s → GrN (i + l.length) s'
  | [], i, s, s', _, h, g => by
    simp only [newL, Option.some.injEq, Sum.inr.injEq] at h
    subst h
    simpa using g
  | a :: l, i, s, s', hs, h, g => by
    simp only [newL] at h
    obtain ⟨e, he, h⟩ := Option.bind_eq_some_iff.1 h
    by_cases h0 : e = 0
    · subst h0
      rw [if_pos rfl] at h
      obtain ⟨_, _, _, _, hf, _⟩ := refused_zero he
      have ha := hs a (List.mem_cons_self ..)
      have := newL_ok (fun b hb => hs b (List.mem_cons_of_mem _ hb)) h (g.add ha.1 ha.2 hf)
      rw [List.length_cons]
      have e1 : i + (l.length + 1) = i + 1 + l.length := by omega
      rw [e1]; exact this
    · rw [if_neg h0] at h; cases h
set_option maxRecDepth 100000 in
set_option maxHeartbeats 8000000 in
theorem go_New (kf : Nat) (A0 : Option Addr) (c0 : Nat) (l : List Hold) (a e : Int) (og : Option Gr) (w : World) (hC : Kd.C k56 w A0 l.length l) (hsz : l.length ≤ 200 → ∀ h ∈ l, h.f0.size ≤ 100 ∧ h.f1.size ≤ 100 ∧ inI h.f2.f0 ∧ inI h.f2.f1) (hL : DaysLaid w) (hF : newF kf l = some (a, e, og)) :
    Calls Tryz.prog 12 #[.slice A0 l.length c0] w fun r w' => ∃ p, r = .returned (.tuple #[p, .int .i64 a, .int .i64 e]) ∧ NewPost w w' p og ∧ Below w.heap.size w w' := by
  have HC := Lib.hid hC; have HL := Lib.hid hL
  clear hC hL
  unfold newF at hF
  by_cases hbig : l.length > 200
  · rw [if_pos hbig] at hF
    cases hF
    have hb : (200 : Int) < (l.length : Int) := by omega
    clear hsz
    go_enter Tryz.func12, Tryz.ntmps12
    go_wp2
    go_ret3
    exact ⟨_, rfl, rfl, Below.refl _ _⟩
  · rw [if_neg hbig] at hF
    have hb : ¬ (200 : Int) < (l.length : Int) := by omega
    have hbb : decide ((200 : Int) < (l.length : Int)) = false := decide_eq_false hb
    have hln : l.length ≤ 200 := by omega
    have HSZ := Lib.hid (hsz hln)
    obtain ⟨F1, hF1⟩ : ∃ F1 : Sum (Nat × Int) Gr → Option (Int × Int × Option Gr), (fun r => match r with
      | .inl (i, e) => some ((i : Int), e, none)
      | .inr s => (overD kf s s.ch).bind fun b => if b = true then some (0, 4, none) else some (0, 0, some s)) = F1 := ⟨_, rfl⟩
    have HF0 := Lib.hid (show (newL kf l 0 gr0).bind F1 = some (a, e, og) by rw [← hF1]; exact hF)
    have HFL := Lib.hid (show ∀ i e, F1 (.inl (i, e)) = some ((i : Int), e, none) by intro i e; rw [← hF1])
    have HFR := Lib.hid (show ∀ s, F1 (.inr s) = (overD kf s s.ch).bind fun b => if b = true then some (0, 4, none) else some (0, 0, some s) by intro s; rw [← hF1])
    have hg0 := GrAt.start w
    have hb0 : Below w.heap.size w (((w.alloc (.map #[] 0)).alloc (.map #[] 0)).alloc (.cells #[.map (some w.heap.size), .map (some (w.heap.size + 1)), .slice none 0 0, .slice none 0 0] 62)) := (((Below.refl _ w).alloc (Nat.le_refl _) _).alloc (by simp) _).alloc (by simp; omega) _
    have HG0 := Lib.hid hg0; have HB0 := Lib.hid hb0
    have hmm := @run_makeMap Tryz.prog
    clear hF hF1 hsz hbig hg0 hb0 hb
    go_enter Tryz.func12, Tryz.ntmps12
    go_upto_region 4 with fail
    obtain ⟨w1, hw1⟩ : ∃ W, ((w.alloc (.map #[] 0)).alloc (.map #[] 0)).alloc (.cells #[.map (some w.heap.size), .map (some (w.heap.size + 1)), .slice none 0 0, .slice none 0 0] 62) = W := ⟨_, rfl⟩
    obtain ⟨g, hg⟩ : ∃ g, w.heap.size + 1 + 1 = g := ⟨_, rfl⟩
    obtain ⟨m1, hm1⟩ : ∃ m, w.heap.size = m := ⟨_, rfl⟩
    obtain ⟨m2, hm2⟩ : ∃ m, w.heap.size + 1 = m := ⟨_, rfl⟩
    have hdif : m1 ≠ m2 := by omega
    obtain ⟨B, hB⟩ : ∃ B, w.heap.size = B := ⟨_, rfl⟩
    have HG1 := Lib.hid (show GrAt w1 B g m1 m2 (fun _ => .slice none 0 0) (fun _ => .slice none 0 0) (.slice none 0 0) (.slice none 0 0) gr0 by have := HG0.out; rw [hw1, hg, hm2] at this; rw [← hm1, ← hB]; exact this)
    have HB1 := Lib.hid (show Below B w w1 by rw [← hw1, ← hB]; exact HB0.out)
    have HBB := Lib.hid hB
    rw [hw1, hg]
    have e1 : ∀ (P : Nat → Prop), P w.heap.size → P m1 := fun P h => hm1 ▸ h
    clear hw1 hg hm1 hm2 hmm HG0 HB0 e1 hB
    go_wp2
    go_loopg [2, 22] l.length (fun n t2 t wr => t2 = .pointer (some ⟨g, 0, none⟩) ∧ ∃ (i : Nat) (s : Gr) (V : Pr → Value) (U : ByteArray → Value) (vE vC : Value), n = l.length - i ∧ i ≤ l.length ∧ t = .int .i64 i ∧ Below B w wr ∧ Hid (GrAt wr B g m1 m2 V U vE vC s) ∧ Hid (GrN i s) ∧ Hid ((newL kf (l.drop i) i s).bind F1 = some (a, e, og)))
    case atStart => exact ⟨rfl, 0, gr0, _, _, _, _, rfl, Nat.zero_le _, rfl, HB1.out, HG1, Lib.hid GrN.start, by rw [List.drop_zero]; exact HF0⟩
    case round =>
      obtain ⟨rfl, i, s, V, U, vE, vC, rfl, hi, rfl, hbr, HG, HN, HR⟩ := hrel
      have hbw : Below w.heap.size w wr := by rw [HBB.out]; exact hbr
      by_cases hlt : i < l.length
      · obtain ⟨b, o, rfl, hbl, q0, q1, q2, q3, q4⟩ := holds_at (Kd.C_below HC.out hbw) i hlt
        obtain ⟨h, hh⟩ : ∃ h, l[i] = h := ⟨_, rfl⟩
        have hsz := HSZ.out h (hh ▸ List.getElem_mem hlt)
        have hR := HR.out
        rw [List.drop_eq_getElem_cons hlt, hh] at hR
        rw [hh] at q0 q1 q2 q3 q4
        simp only [newL] at hR
        clear hh HR
        obtain ⟨x, hx, hR⟩ := Option.bind_eq_some_iff.1 hR
        obtain ⟨er, her, hx⟩ := Option.bind_eq_some_iff.1 hx
        have hba : Below wr.heap.size wr (wr.alloc (.cells #[.string h.f0, .string h.f1, .int .i64 h.f2.f0, .int .i64 h.f2.f1, .int .i64 h.f3] 56)) := (Below.refl _ _).alloc (Nat.le_refl _) _
        have hbx := HBox.made wr h
        have HRF := Lib.hid (go_refused (HG.out.below hba) (HN.out.ok (by omega)) kf h er hsz.1 hsz.2.1 hsz.2.2.1 hsz.2.2.2 (HL.out.below (hbw.trans (hba.mono hbw.size))) her)
        have hbB : B ≤ wr.heap.size := Nat.le_trans HG.out.hg (Nat.le_of_lt HG.out.lt)
        have hii : (i : Int) < (l.length : Int) := by omega
        by_cases he : er = 0
        · subst he
          obtain ⟨_, _, _, _, hfr, _⟩ := refused_zero her
          have HFR2 := Lib.hid hfr
          rw [if_pos rfl] at hx
          have HR2 := Lib.hid (show (newL kf (l.drop (i + 1)) (i + 1) (addG s h)).bind F1 = some (a, e, og) by rw [hx]; exact hR)
          have HBX := Lib.hid hbx; have HBA := Lib.hid hba; have HQZ := Lib.hid hsz
          have HQ9 := Lib.hid (show (∀ k, (s.shL k).length ≤ 900) ∧ (∀ x, (s.owL x).length ≤ 900) ∧ s.en.length ≤ 900 ∧ s.ch.length ≤ 900 from ⟨fun k => by have := HN.out.shl k; omega, fun x => by have := HN.out.owl x; omega, by have := HN.out.enl; omega, by have := HN.out.chl; omega⟩)
          clear hx hR her hfr hbx hba hsz
          go_wp2_with (first
            | (go_at_call 29; refine HRF.out.mono ?_; rintro e_ w3 ⟨rfl, hb3⟩; have HBX3 := Lib.hid (HBX.out.below hb3); obtain ⟨k0, k1, k2, k3, k4⟩ := HBX3.out.facts; have HG3 := Lib.hid ((HG.out.below HBA.out).below hb3); have HB3 := Lib.hid (hbr.trans ((HBA.out.trans (hb3.mono HBA.out.size)).mono hbB)); have HADD := Lib.hid (go_add HG3.out (HN.out.ok (by omega)) hdif (Nat.le_trans HG3.out.hg (Nat.le_of_lt HG3.out.lt)) h HQZ.out.1 HQZ.out.2.1 HQ9.out.1 HQ9.out.2.1 HQ9.out.2.2.1 HQ9.out.2.2.2 HFR2.out); clear hb3)
            | (go_at_call 30; refine HADD.out.mono ?_; rintro e_ w4 ⟨rfl, hP4⟩; have HP4 := Lib.hid hP4; clear hP4))
          go_roundg (l.length - (i + 1))
          case measure => omega
          case rel =>
            obtain ⟨V', U', vE', vC', hG4, hB4⟩ := HP4.out
            exact ⟨rfl, i + 1, addG s h, V', U', vE', vC', rfl, by omega, by go_num, HB3.out.trans hB4, Lib.hid hG4, Lib.hid (HN.out.add HQZ.out.1 HQZ.out.2.1 HFR2.out), HR2⟩
        · rw [if_neg he] at hx
          have hneb : (er == 0) = false := by simp [he]
          have hneb2 : (er != 0) = true := by simp [he]
          cases hx
          rw [HFL.out] at hR
          injection hR with hR; injection hR with hR1 hR2; injection hR2 with hR2 hR3
          have HT := Lib.hid (And.intro hR1 (And.intro hR2 hR3))
          have HBA := Lib.hid hba
          clear hR1 hR2 hR3 her hbx hba hsz he
          go_wp2_with (go_at_call 29; refine HRF.out.mono ?_; rintro e_ w3 ⟨rfl, hb3⟩)
          go_ret3
          obtain ⟨t1, t2, t3⟩ := HT.out
          refine ⟨.pointer none, by rw [← t1, ← t2]; rfl, ?_, by rw [HBB.out]; exact hbr.trans ((HBA.out.trans (hb3.mono HBA.out.size)).mono hbB)⟩
          rw [← t3]; rfl
      · have hie : i = l.length := by omega
        subst hie
        have hR := HR.out
        rw [List.drop_length] at hR
        simp only [newL, Option.bind_some] at hR
        rw [HFR.out] at hR
        have HR2 := Lib.hid hR
        clear hR HR HF0 HFL HFR HC
        obtain ⟨F2, hF2⟩ : ∃ F2 : Bool → Option (Int × Int × Option Gr), (fun b => if b = true then some (0, 4, none) else some (0, 0, some s)) = F2 := ⟨_, rfl⟩
        have HR3 := Lib.hid (show (overD kf s s.ch).bind F2 = some (a, e, og) by rw [← hF2]; exact HR2.out)
        have HFT := Lib.hid (show F2 true = some (0, 4, none) by rw [← hF2]; rfl)
        have HFF := Lib.hid (show F2 false = some (0, 0, some s) by rw [← hF2]; rfl)
        have hchr := HG.out.chr
        obtain ⟨AC, cC, hvC, hlC, _, _⟩ := own_form hchr
        subst hvC
        have henr := HG.out.enr
        obtain ⟨AE, cE, hvE, hlE, _, _⟩ := own_form henr
        subst hvE
        have f3 := HG.out.facts.2.2.2
        have hchl : s.ch.length ≤ 200 := by have := HN.out.chl; omega
        have henl : s.en.length ≤ 400 := by have := HN.out.enl; omega
        have HCHR := Lib.hid hchr; have HENR := Lib.hid henr
        have HBR := Lib.hid hbr
        clear hF2 HR2 hchr henr hbr
        rename World => wg
        go_wp2
        clear f3
        go_loopg [2, 43] s.ch.length (fun n t2 t wq => t2 = .pointer (some ⟨g, 0, none⟩) ∧ ∃ j : Nat, n = s.ch.length - j ∧ j ≤ s.ch.length ∧ t = .int .i64 j ∧ Below wg.heap.size wg wq ∧ Hid ((overD kf s (s.ch.drop j)).bind F2 = some (a, e, og)))
        case atStart => exact ⟨rfl, 0, rfl, Nat.zero_le _, rfl, Below.refl _ _, by rw [List.drop_zero]; exact HR3⟩
        case round =>
          obtain ⟨rfl, j, rfl, hj, rfl, hbq, HRj⟩ := hrel
          by_cases hjl : j < s.ch.length
          · obtain ⟨gc, hAC, hgc, q0⟩ := own_int_at (pw_own_below HCHR.out hbq) j hjl
            subst hAC
            obtain ⟨d, hd⟩ : ∃ d, s.ch[j] = d := ⟨_, rfl⟩
            have hR := HRj.out
            rw [List.drop_eq_getElem_cons hjl, hd] at hR
            rw [hd] at q0
            simp only [overD] at hR
            rw [Option.bind_assoc] at hR
            obtain ⟨G, hGe⟩ : ∃ G : Bool → Option (Int × Int × Option Gr), (fun x => (if x = true then some true else overD kf s (s.ch.drop (j + 1))).bind F2) = G := ⟨_, rfl⟩
            rw [hGe] at hR
            have HGT := Lib.hid (show G true = some (0, 4, none) by rw [← hGe]; simp [HFT.out])
            have HGF := Lib.hid (show G false = (overD kf s (s.ch.drop (j + 1))).bind F2 by rw [← hGe]; rfl)
            have HRG := Lib.hid hR
            have f2 := (HG.out.below hbq).facts.2.2.1
            have hji : (j : Int) < (s.ch.length : Int) := by omega
            have HBQ := Lib.hid hbq
            clear hR hGe hd HRj hbq
            rename World => wj
            go_wp2
            clear f2 q0
            go_loopg [2, 52] s.en.length (fun n t2 t wq => t2 = .pointer (some ⟨g, 0, none⟩) ∧ ∃ m : Nat, n = s.en.length - m ∧ m ≤ s.en.length ∧ t = .int .i64 m ∧ Below wj.heap.size wj wq ∧ Hid ((overE kf s d (s.en.drop m)).bind G = some (a, e, og)))
            case atStart => exact ⟨rfl, 0, rfl, Nat.zero_le _, rfl, Below.refl _ _, by rw [List.drop_zero]; exact HRG⟩
            case round =>
              obtain ⟨rfl, m, rfl, hm, rfl, hbq, HRm⟩ := hrel
              have hbq2 := HBQ.out.trans (hbq.mono HBQ.out.size)
              have HBQ2 := Lib.hid (HBR.out.trans (hbq2.mono (Nat.le_trans HG.out.hg (Nat.le_of_lt HG.out.lt))))
              by_cases hml : m < s.en.length
              · obtain ⟨ge, hAE, hge, q0⟩ := own_str_at (pw_own_below HENR.out hbq2) m hml
                subst hAE
                obtain ⟨x, hxe⟩ : ∃ x, s.en[m] = x := ⟨_, rfl⟩
                have hxz := HN.out.ens x (hxe ▸ List.getElem_mem hml)
                have hR := HRm.out
                rw [List.drop_eq_getElem_cons hml, hxe] at hR
                rw [hxe] at q0
                simp only [overE] at hR
                obtain ⟨y, hy, hR⟩ := Option.bind_eq_some_iff.1 hR
                obtain ⟨st, hst, hy⟩ := Option.bind_eq_some_iff.1 hy
                obtain ⟨ex, hex, hy⟩ := Option.bind_eq_some_iff.1 hy
                have hsum := go_sumAll (HG.out.below hbq2) kf x d (fun _ => true) st (by omega) (fun o ho => ⟨by have := HN.out.ows x o ho; omega, by have := HN.out.shl (o, x); omega⟩) (by have := HN.out.owl x; omega) (fun W _ o _ => by
                  go_enter Tryz.func32, Tryz.ntmps32
                  go_wp2
                  go_ret
                  exact ⟨rfl, rfl⟩) hst
                have HSUM := Lib.hid hsum; have HEX := Lib.hid hex
                have hmi : (m : Int) < (s.en.length : Int) := by omega
                have HGm := Lib.hid (HG.out.below hbq2)
                clear hxe hsum hst hex hxz hbq2
                cases ex with
                | true =>
                  rw [if_pos rfl] at hy
                  cases hy
                  rw [HGT.out] at hR
                  injection hR with hR; injection hR with hR1 hR2; injection hR2 with hR2 hR3
                  have HT := Lib.hid (And.intro hR1 (And.intro hR2 hR3))
                  clear hR1 hR2 hR3
                  go_wp2_with (first
                    | (go_at_call 31; refine HSUM.out.mono ?_; rintro e_ w3 ⟨v3, rfl, hS3, hb3⟩; obtain ⟨A3, c3, A4, c4, hv3, hC3, hc3, hC4, hc4⟩ := hS3; subst hv3; have HB3 := Lib.hid hb3; have hba := (Below.refl _ w3).alloc (Nat.le_refl _) (.cells #[.slice A3 st.1.length c3, .slice A4 st.2.length c4] 67); have HX4 := Lib.hid (owners_sum_exceeds.calls kf A3 c3 st.1 A4 c4 st.2 1 1 true _ (Kd.C_below hC3 hba) hc3 (Kd.C_below hC4 hba) hc4 HEX.out); clear hb3 hba hC3 hc3 hC4 hc4)
                    | (go_at_call 33; refine HX4.out.mono ?_; rintro e_ w5 ⟨rfl, hb5⟩))
                  go_ret3
                  obtain ⟨t1, t2, t3⟩ := HT.out
                  have hbe : Below wr.heap.size wr w5 := (HB3.out.trans (((Below.refl _ w3).alloc (Nat.le_refl _) _).mono HB3.out.size)).trans (hb5.mono (by have h2 := HB3.out.size; simp; omega))
                  have hlt2 := Nat.le_of_lt HGm.out.lt
                  refine ⟨.pointer none, by rw [← t1, ← t2]; rfl, ?_, by rw [HBB.out]; exact HBQ2.out.trans (hbe.mono (Nat.le_trans HGm.out.hg hlt2))⟩
                  rw [← t3]; rfl
                | false =>
                  rw [if_neg (by simp)] at hy
                  have HR2 := Lib.hid (show (overE kf s d (s.en.drop (m + 1))).bind G = some (a, e, og) by rw [hy]; exact hR)
                  clear hy hR
                  go_wp2_with (first
                    | (go_at_call 31; refine HSUM.out.mono ?_; rintro e_ w3 ⟨v3, rfl, hS3, hb3⟩; obtain ⟨A3, c3, A4, c4, hv3, hC3, hc3, hC4, hc4⟩ := hS3; subst hv3; have HB3 := Lib.hid hb3; have hba := (Below.refl _ w3).alloc (Nat.le_refl _) (.cells #[.slice A3 st.1.length c3, .slice A4 st.2.length c4] 67); have HX4 := Lib.hid (owners_sum_exceeds.calls kf A3 c3 st.1 A4 c4 st.2 1 1 false _ (Kd.C_below hC3 hba) hc3 (Kd.C_below hC4 hba) hc4 HEX.out); clear hb3 hba hC3 hc3 hC4 hc4)
                    | (go_at_call 33; refine HX4.out.mono ?_; rintro e_ w5 ⟨rfl, hb5⟩))
                  go_roundg (s.en.length - (m + 1))
                  case measure => omega
                  case rel =>
                    have hbe := (hbq.trans ((HB3.out.trans (((Below.refl _ w3).alloc (Nat.le_refl _) (.cells #[.slice A3 st.1.length c3, .slice A4 st.2.length c4] 67)).mono HB3.out.size)).mono hbq.size)).trans (hb5.mono (by have h1 := hbq.size; have h2 := HB3.out.size; simp; omega))
                    exact ⟨rfl, m + 1, rfl, by omega, by go_num, hbe, HR2⟩
              · have hme : m = s.en.length := by omega
                subst hme
                have hR := HRm.out
                rw [List.drop_length] at hR
                simp only [overE, Option.bind_some] at hR
                rw [HGF.out] at hR
                have HR2 := Lib.hid hR
                clear hR HRm
                go_wp2
                go_roundg (s.ch.length - (j + 1))
                case measure => omega
                case rel => exact ⟨rfl, j + 1, rfl, by omega, by go_num, hbq2, HR2⟩
          · have hje : j = s.ch.length := by omega
            subst hje
            have hR := HRj.out
            rw [List.drop_length] at hR
            simp only [overD, Option.bind_some] at hR
            rw [HFF.out] at hR
            injection hR with hR; injection hR with hR1 hR2; injection hR2 with hR2 hR3
            have HT := Lib.hid (And.intro hR1 (And.intro hR2 hR3))
            clear hR1 hR2 hR3
            go_wp2
            go_ret3
            obtain ⟨t1, t2, t3⟩ := HT.out
            have hBl : B ≤ wg.heap.size := Nat.le_trans HG.out.hg (Nat.le_of_lt HG.out.lt)
            refine ⟨.pointer (some ⟨g, 0, none⟩), by rw [← t1, ← t2]; rfl, ?_, by rw [HBB.out]; exact HBR.out.trans (hbq.mono hBl)⟩
            rw [← t3]
            exact ⟨g, m1, m2, _, _, _, _, rfl, hdif, by rw [HBB.out]; exact HG.out.below hbq⟩
def membE (kf : Nat) (s : Gr) (day : Int) (p : ByteArray → Bool) : List ByteArray → Option (Option ByteArray)
  | [] => some none
  | x :: xs => if p x = true then membE kf s day p xs else (sumF kf p s x day).bind fun st => (owners_sum_exceeds.f kf st.1 st.2 1 2).bind fun b => if b = true then some (some x) else membE kf s day p xs
def membL (kf : Nat) (s : Gr) (day : Int) : Nat → (ByteArray → Bool) → Option (ByteArray → Bool)
  | 0, _ => none
  | n + 1, p => (membE kf s day p s.en).bind fun r => match r with
    | none => some p
    | some x => membL kf s day n (putB p x)
def membF (kf : Nat) (s : Gr) (top : ByteArray) (day : Int) : Option (Option (ByteArray → Bool)) :=
  if wcodeB top = true then (if isDay day = true then (membL kf s day kf (putB (fun _ => false) top)).map some else some none) else some none
def MembPost (B : Nat) (w' : World) (mv : Value) (r : Option (ByteArray → Bool)) : Prop := match r with
  | none => mv = .map none
  | some p => ∃ mb, mv = .map (some mb) ∧ SetAt w' mb p ∧ B ≤ mb
set_option maxHeartbeats 8000000 in
theorem go_members1 (o : ByteArray) (z mb : Nat) (p : ByteArray → Bool) (W : World) (hz : W.cell? ⟨z, 0, none⟩ = some (.map (some mb))) (hs : SetAt W mb p) (ho : o.size ≤ 1000) :
    Calls Tryz.prog 61 #[.string o, .pointer (some ⟨z, 0, none⟩)] W fun e w' => e = .returned (.bool (p o)) ∧ W = w' := by
  have hl := hs.look o ho
  clear hs
  go_enter Tryz.func61, Tryz.ntmps61
  go_wp2
  go_ret
  exact ⟨rfl, rfl⟩
section
variable {w : World} {B g m1 m2 : Nat} {V : Pr → Value} {U : ByteArray → Value} {vE vC : Value} {s : Gr}
set_option maxRecDepth 100000 in
set_option maxHeartbeats 8000000 in
theorem go_members (hG : GrAt w B g m1 m2 V U vE vC s) (ok : GrOk s) (kf : Nat) (top : ByteArray) (day : Int) (r : Option (ByteArray → Bool)) (ht : top.size ≤ 1000) (hL : DaysLaid w) (hF : membF kf s top day = some r) :
    Calls Tryz.prog 37 #[.pointer (some ⟨g, 0, none⟩), .string top, .int .i64 day] w fun e w' => ∃ mv, e = .returned mv ∧ MembPost w.heap.size w' mv r ∧ Below w.heap.size w w' := by
  have HG := Lib.hid hG; have HOK := Lib.hid ok
  have hg := hG.lt
  have HC := Lib.hid (fun W => go_words_Code top W (by omega))
  have HD := Lib.hid (fun (W : World) (hW : Below w.heap.size w W) => go_aging_isDay day W (hL.below hW))
  clear hG ok hL
  unfold membF at hF
  by_cases c0 : wcodeB top = true
  · rw [if_pos c0] at hF
    rw [c0] at HC
    by_cases c1 : isDay day = true
    · rw [if_pos c1] at hF
      rw [c1] at HD
      obtain ⟨P, hP, hr⟩ := Option.map_eq_some_iff.1 hF
      subst hr
      have HF := Lib.hid hP
      have hmm := @run_makeMap Tryz.prog
      clear hP hF c0 c1
      go_enter Tryz.func37, Tryz.ntmps37
      go_wp2
      go_step3
      go_upto_region 3 with (first
        | (go_at_call 45; refine (HC.out _).mono ?_; rintro e w1 ⟨rfl, rfl⟩)
        | (go_at_call 47; refine (HD.out _ (Below.refl _ _)).mono ?_; rintro e w1 ⟨rfl, hb1⟩))
      have hm0 := SetAt.made w1
      obtain ⟨ob, hput, hm1⟩ := hm0.put top ht
      have hB0 : Below w1.heap.size w1 (w1.alloc (.map #[] 0)) := (Below.refl _ _).alloc (Nat.le_refl _) _
      have hB1 := setBlock_below (o := ob) hB0 (Nat.le_refl _)
      have hm1z := hm1.lt
      have hbd := hb1.trans (hB1.mono hb1.size)
      obtain ⟨w2, hw2⟩ : ∃ W, ChangeMaps.setBlock (w1.alloc (.map #[] 0)) w1.heap.size ob = W := ⟨_, rfl⟩
      obtain ⟨mb, hmb⟩ : ∃ m, w1.heap.size = m := ⟨_, rfl⟩
      have hmbz : w.heap.size ≤ mb := by rw [← hmb]; exact hb1.size
      have hmz2 : mb + 1 = w2.heap.size := by rw [← hw2, setBlock_size, ← hmb]; simp
      rw [hw2, hmb] at hm1
      rw [hw2] at hbd
      have hba := (Below.refl _ w2).alloc (Nat.le_refl _) (.cells #[.map (some mb)] 75)
      have hz7 := (Go.MapKept.heap_alloc w2 (.cells #[.map (some mb)] 75)).1
      have HS0 := Lib.hid (hm1.below hba); have HB0 := Lib.hid (hbd.trans (hba.mono hbd.size)); have HZ0 := Lib.hid hz7
      have HMZ := Lib.hid hmz2; have HW2 := Lib.hid hw2; have HMB := Lib.hid hmb; have HMBZ := Lib.hid hmbz
      clear hm0 hm1 hB0 hB1 hm1z hbd hba hz7 hmz2 hw2 hmb hmbz
      go_wp2
      rw [HW2.out, HMB.out]
      obtain ⟨w3, hw3⟩ : ∃ W, w2.alloc (.cells #[.map (some mb)] 75) = W := ⟨_, rfl⟩
      obtain ⟨z7, hz7⟩ : ∃ z, w2.heap.size = z := ⟨_, rfl⟩
      have hzl : w.heap.size ≤ z7 := by rw [← hz7]; have := HMZ.out; have := HMBZ.out; omega
      have hzm : mb ≠ z7 := by rw [← hz7]; have := HMZ.out; omega
      rw [hw3] at HS0 HB0 HZ0
      rw [hz7] at HZ0
      rw [hw3, hz7]
      have HZL := Lib.hid hzl; have HZM := Lib.hid hzm
      clear hw3 hz7 HW2 HMB HMZ hmm hput hb1 hzl hzm
      go_step3
      have henr := HG.out.enr
      obtain ⟨AE, cE, hvE, hlE, _, _⟩ := own_form henr
      subst hvE
      have HENR := Lib.hid henr
      have henl : s.en.length ≤ 1000 := HOK.out.enl
      clear henr
      go_wp2
      go_loopg [9] kf (fun n t9 wr => ∃ p : ByteArray → Bool, Below w.heap.size w wr ∧ Hid (wr.heap[z7]? = some (.cells #[.map (some mb)] 75 (0, 0))) ∧ Hid (SetAt wr mb p) ∧ Hid (membL kf s day n p = some P))
      case atStart => exact ⟨_, HB0.out, HZ0, HS0, HF⟩
      case round =>
        obtain ⟨p, hbr, HZ, HS, HR⟩ := hrel
        cases gk with
        | zero => exact absurd HR.out (by simp [membL])
        | succ n =>
        have hR := HR.out
        simp only [membL] at hR
        obtain ⟨F, hF⟩ : ∃ F : Option ByteArray → Option (ByteArray → Bool), (fun r => match r with | none => some p | some x => membL kf s day n (putB p x)) = F := ⟨_, rfl⟩
        have HR0 := Lib.hid (show (membE kf s day p s.en).bind F = some P by rw [← hF]; exact hR)
        have HFN := Lib.hid (show F none = some p by rw [← hF])
        have HFS := Lib.hid (show ∀ x, F (some x) = membL kf s day n (putB p x) by intro x; rw [← hF])
        have f2 := (HG.out.below hbr).facts.2.2.1
        have HBR := Lib.hid hbr
        clear hR hF HR hbr
        rename World => wo
        go_wp2
        clear f2
        go_loopg [9, 31] s.en.length (fun n t9 t31 wq => ∃ m : Nat, n = s.en.length - m ∧ m ≤ s.en.length ∧ t31 = .int .i64 m ∧ Below wo.heap.size wo wq ∧ Hid ((membE kf s day p (s.en.drop m)).bind F = some P))
        case atStart => exact ⟨0, rfl, Nat.zero_le _, rfl, Below.refl _ _, by rw [List.drop_zero]; exact HR0⟩
        case round =>
          obtain ⟨m, rfl, hm, rfl, hbq, HRm⟩ := hrel
          have hbq2 := HBR.out.trans (hbq.mono HBR.out.size)
          have hSq := HS.out.below hbq
          have hzq : wr.heap[z7]? = some (.cells #[.map (some mb)] 75 (0, 0)) := (hbq.block z7 (Array.getElem?_eq_some_iff.1 HZ.out).1).trans HZ.out
          have k7 := blk_cell hzq 0
          by_cases hml : m < s.en.length
          · obtain ⟨ge, hAE, hge, q0⟩ := own_str_at (pw_own_below HENR.out hbq2) m hml
            subst hAE
            obtain ⟨x, hxe⟩ : ∃ x, s.en[m] = x := ⟨_, rfl⟩
            have hxz := HOK.out.ens x (hxe ▸ List.getElem_mem hml)
            have hR := HRm.out
            rw [List.drop_eq_getElem_cons hml, hxe] at hR
            rw [hxe] at q0
            simp only [membE] at hR
            have hmi : (m : Int) < (s.en.length : Int) := by omega
            have hlk := hSq.look x hxz
            have HSQ := Lib.hid hSq; have HZQ := Lib.hid hzq; have HBQ2 := Lib.hid hbq2
            clear hxe HRm hSq hzq hbq2
            by_cases hp : p x = true
            · rw [if_pos hp] at hR
              rw [hp] at hlk
              have HR2 := Lib.hid hR
              clear hR hp
              go_wp2
              go_roundg (s.en.length - (m + 1))
              case measure => omega
              case rel => exact ⟨m + 1, rfl, by omega, by go_num, hbq, HR2⟩
            · rw [if_neg hp] at hR
              have hp2 : p x = false := by simpa using hp
              rw [hp2] at hlk
              obtain ⟨y, hy, hR⟩ := Option.bind_eq_some_iff.1 hR
              obtain ⟨st, hst, hy⟩ := Option.bind_eq_some_iff.1 hy
              obtain ⟨ex, hex, hy⟩ := Option.bind_eq_some_iff.1 hy
              have hsum := go_sumIn (HG.out.below HBQ2.out) kf x day p st z7 hxz (fun o ho => ⟨HOK.out.ows x o ho, by have := HOK.out.shl (o, x); omega⟩) (by have := HOK.out.owl x; omega) (fun W hW o ho => go_members1 o z7 mb p W (blk_cell ((hW.block z7 (Array.getElem?_eq_some_iff.1 HZQ.out).1).trans HZQ.out) 0) (HSQ.out.below hW) (HOK.out.ows x o ho)) hst
              have HSUM := Lib.hid hsum; have HEX := Lib.hid hex
              clear hsum hst hex hp hp2
              cases ex with
              | true =>
                rw [if_pos rfl] at hy
                cases hy
                rw [HFS.out] at hR
                have HR2 := Lib.hid hR
                clear hR
                go_upto_region 10 with (first
                  | (go_at_call 31; refine HSUM.out.mono ?_; rintro e_ w3_ ⟨v3, rfl, hS3, hb3⟩; obtain ⟨A3, c3, A4, c4, hv3, hC3, hc3, hC4, hc4⟩ := hS3; subst hv3; have HB3 := Lib.hid hb3; have hba := (Below.refl _ w3_).alloc (Nat.le_refl _) (.cells #[.slice A3 st.1.length c3, .slice A4 st.2.length c4] 67); have HX4 := Lib.hid (owners_sum_exceeds.calls kf A3 c3 st.1 A4 c4 st.2 1 2 true _ (Kd.C_below hC3 hba) hc3 (Kd.C_below hC4 hba) hc4 HEX.out); clear hb3 hba hC3 hc3 hC4 hc4)
                  | (go_at_call 33; refine HX4.out.mono ?_; rintro e_ w5 ⟨rfl, hb5⟩))
                have hbe := (HB3.out.trans (((Below.refl _ w3_).alloc (Nat.le_refl _) (.cells #[.slice A3 st.1.length c3, .slice A4 st.2.length c4] 67)).mono HB3.out.size)).trans (hb5.mono (by have h2 := HB3.out.size; simp; omega))
                have hS5 := HSQ.out.below hbe
                have hz5 : w5.heap[z7]? = some (.cells #[.map (some mb)] 75 (0, 0)) := (hbe.block z7 (Array.getElem?_eq_some_iff.1 HZQ.out).1).trans HZQ.out
                have k5 := blk_cell hz5 0
                obtain ⟨ob5, hput5, hm5⟩ := hS5.put x hxz
                have HS5 := Lib.hid hm5; have HZ5 := Lib.hid hz5
                have HB5 := Lib.hid (HBQ2.out.trans (hbe.mono HBQ2.out.size))
                clear hS5 hz5 hm5 hlk k7 q0
                go_wp2
                go_roundg n
                case measure => omega
                case rel => exact ⟨putB p x, setBlock_below HB5.out HMBZ.out, Lib.hid (by rw [setBlock_heap _ _ _ _ (fun e => HZM.out e.symm)]; exact HZ5.out), HS5, HR2⟩
              | false =>
                rw [if_neg (by simp)] at hy
                have HR2 := Lib.hid (show (membE kf s day p (s.en.drop (m + 1))).bind F = some P by rw [hy]; exact hR)
                clear hy hR
                go_wp2_with (first
                  | (go_at_call 31; refine HSUM.out.mono ?_; rintro e_ w3_ ⟨v3, rfl, hS3, hb3⟩; obtain ⟨A3, c3, A4, c4, hv3, hC3, hc3, hC4, hc4⟩ := hS3; subst hv3; have HB3 := Lib.hid hb3; have hba := (Below.refl _ w3_).alloc (Nat.le_refl _) (.cells #[.slice A3 st.1.length c3, .slice A4 st.2.length c4] 67); have HX4 := Lib.hid (owners_sum_exceeds.calls kf A3 c3 st.1 A4 c4 st.2 1 2 false _ (Kd.C_below hC3 hba) hc3 (Kd.C_below hC4 hba) hc4 HEX.out); clear hb3 hba hC3 hc3 hC4 hc4)
                  | (go_at_call 33; refine HX4.out.mono ?_; rintro e_ w5 ⟨rfl, hb5⟩))
                go_roundg (s.en.length - (m + 1))
                case measure => omega
                case rel =>
                  have hbe := (hbq.trans ((HB3.out.trans (((Below.refl _ w3_).alloc (Nat.le_refl _) (.cells #[.slice A3 st.1.length c3, .slice A4 st.2.length c4] 67)).mono HB3.out.size)).mono hbq.size)).trans (hb5.mono (by have h1 := hbq.size; have h2 := HB3.out.size; simp; omega))
                  exact ⟨m + 1, rfl, by omega, by go_num, hbe, HR2⟩
          · have hme : m = s.en.length := by omega
            subst hme
            have hR := HRm.out
            rw [List.drop_length] at hR
            simp only [membE, Option.bind_some] at hR
            rw [HFN.out] at hR
            have HT := Lib.hid (Option.some.inj hR)
            have HSQ := Lib.hid hSq
            clear hR HRm hSq
            go_wp2
            try rw [Exit.noGoto_ret]
            go_ret
            exact ⟨_, rfl, ⟨mb, rfl, by rw [← HT.out]; exact HSQ.out, HMBZ.out⟩, hbq2⟩
    · rw [if_neg c1] at hF
      have c1b : isDay day = false := by simpa using c1
      rw [c1b] at HD
      cases hF
      clear c0 c1
      go_enter Tryz.func37, Tryz.ntmps37
      go_wp2
      go_step3
      go_wp2_with (first
        | (go_at_call 45; refine (HC.out _).mono ?_; rintro e w1 ⟨rfl, rfl⟩)
        | (go_at_call 47; refine (HD.out _ (Below.refl _ _)).mono ?_; rintro e w1 ⟨rfl, hb1⟩))
      try rw [Exit.noGoto_ret]
      go_ret
      exact ⟨_, rfl, rfl, hb1⟩
  · rw [if_neg c0] at hF
    have c0b : wcodeB top = false := by simpa using c0
    rw [c0b] at HC
    cases hF
    clear c0
    go_enter Tryz.func37, Tryz.ntmps37
    go_wp2
    go_step3
    go_wp2_with (go_at_call 45; refine (HC.out _).mono ?_; rintro e w1 ⟨rfl, rfl⟩)
    try rw [Exit.noGoto_ret]
    go_ret
    exact ⟨_, rfl, rfl, Below.refl _ _⟩
end
end Go.Proofs.YtikdiepcfdimgaaGreatDoor.POw
namespace Go.Proofs.YtikdiepcfdimgaaGreatDoor.POw
open Go.RowKit Go.Lib Go.Proofs.YtikdiepcfdimgaaGreatDoorW.PrintWords Go.Proofs.YtikdiepcfdimgaaGreatDoorW.PrintLast
theorem membE_mem {kf : Nat} {s : Gr} {day : Int} {p : ByteArray → Bool} {x : ByteArray} : ∀ {l : List ByteArray}, membE kf s day p l = some (some x) → x ∈ l
  | [], h => by simp [membE] at h
  | a :: l, h => by
    rw [membE] at h
    by_cases c : p a = true
    · rw [if_pos c] at h; exact List.mem_cons_of_mem _ (membE_mem h)
    · rw [if_neg c] at h
      obtain ⟨st, _, h⟩ := Option.bind_eq_some_iff.1 h
      obtain ⟨b, _, h⟩ := Option.bind_eq_some_iff.1 h
      cases b with
      | true => rw [if_pos rfl] at h; cases h; exact List.mem_cons_self ..
      | false => rw [if_neg (by simp)] at h; exact List.mem_cons_of_mem _ (membE_mem h)
theorem membL_sub {kf : Nat} {s : Gr} {day : Int} {Q : ByteArray → Prop} (hQ : ∀ x ∈ s.en, Q x) {P : ByteArray → Bool} : ∀ {n : Nat} {p : ByteArray → Bool}, membL kf s day n p = some P → (∀ x, p x = true → Q x) → ∀ x, P x = true → Q x
  | 0, p, h, _ => by simp [membL] at h
  | n + 1, p, h, hp => by
    rw [membL] at h
    obtain ⟨r, hr, h⟩ := Option.bind_eq_some_iff.1 h
    cases r with
    | none => cases h; exact hp
    | some x =>
      refine membL_sub hQ h (fun y hy => ?_)
      unfold putB at hy
      by_cases e : y = x
      · rw [e]; exact hQ x (membE_mem hr)
      · exact hp y (by simpa [e] using hy)
theorem membF_sub {kf : Nat} {s : Gr} {top : ByteArray} {day : Int} {P : ByteArray → Bool} (h : membF kf s top day = some (some P)) : ∀ x, P x = true → x ∈ top :: s.en := by
  unfold membF at h
  by_cases c0 : wcodeB top = true
  · rw [if_pos c0] at h
    by_cases c1 : isDay day = true
    · rw [if_pos c1] at h
      obtain ⟨P', hP, hr⟩ := Option.map_eq_some_iff.1 h
      cases hr
      refine membL_sub (Q := fun x => x ∈ top :: s.en) (fun x hx => List.mem_cons_of_mem _ hx) hP (fun x hx => ?_)
      unfold putB at hx
      have : x = top := by simpa using hx
      rw [this]; exact List.mem_cons_self ..
    · rw [if_neg c1] at h; cases h
  · rw [if_neg c0] at h; cases h
theorem below_grown {B : Nat} {a w W : World} {row : Option Nat} (h : Below B a w) (hg : w.grownBy W row) (hr : ∀ g, row = some g → B ≤ g) (hs : B ≤ w.heap.size) : Below B a W :=
  ⟨hg.os.trans h.os, hg.tape.trans h.tape, hg.output.trans h.output, Nat.le_trans h.size hg.size, fun k hk => (hg.block k (by omega) (fun e => by have := hr k e.symm; omega)).trans (h.block k hk)⟩
def ListP (L : List ByteArray) (r : Option (ByteArray → Bool)) : Prop := L.Pairwise (fun a b => sLt a b = true) ∧ ∀ x, x ∈ L ↔ ∃ p, r = some p ∧ p x = true
section
variable {w : World} {B g m1 m2 : Nat} {V : Pr → Value} {U : ByteArray → Value} {vE vC : Value} {s : Gr}
set_option maxRecDepth 100000 in
set_option maxHeartbeats 8000000 in
theorem go_Members_at (gv : Value) (top : ByteArray) (day : Int) (r : Option (ByteArray → Bool)) (hz : ∀ P, r = some P → ∃ l : List ByteArray, l.length ≤ 1001 ∧ ∀ x, P x = true → x ∈ l ∧ x.size ≤ 1000)
    (hm : Calls Tryz.prog 37 #[gv, .string top, .int .i64 day] w fun e w' => ∃ mv, e = .returned mv ∧ MembPost w.heap.size w' mv r ∧ Below w.heap.size w w') :
    Calls Tryz.prog 17 #[gv, .string top, .int .i64 day] w fun e w' => ∃ v L, e = .returned v ∧ w'.ownsRow w.heap.size 9 1 v L.length (strs L) ∧ ListP L r ∧ Below w.heap.size w w' := by
  have HM := Lib.hid hm
  clear hm
  cases r with
  | none =>
    clear hz
    go_enter Tryz.func17, Tryz.ntmps17
    have hrg := fun W : World => run_range_nilMap (P := Tryz.prog) W 75 9 4 Tryz.underlying75
    go_wp2_with (go_at_call 37; refine HM.out.mono ?_; rintro e w1 ⟨mv, rfl, hmv, hb1⟩; unfold MembPost at hmv; simp only at hmv; subst hmv)
    have hnx := fun ty : TypeId => run_next_nilMap (P := Tryz.prog) w1 ty 0 0 #[]
    obtain ⟨w2, hw2⟩ : ∃ W, w1.alloc (.mapIter none 0 #[] 0) = W := ⟨_, rfl⟩
    have hb2 : Below w.heap.size w w2 := by rw [← hw2]; exact hb1.alloc hb1.size _
    rw [hw2] at hnx ⊢
    obtain ⟨z, hz⟩ : ∃ z, w1.heap.size = z := ⟨_, rfl⟩
    rw [hz] at hnx ⊢
    clear hw2 hz hrg hb1
    go_loopg [6] 0 (fun n t6 wr => n = 0 ∧ t6 = .slice none 0 0 ∧ wr = w2)
    case atStart => exact ⟨rfl, rfl, rfl⟩
    case round =>
      obtain ⟨rfl, rfl, rfl⟩ := hrel
      go_wp2
      go_ret
      exact ⟨_, [], rfl, World.ownsRow_nil _ _ _ _, ⟨List.Pairwise.nil, fun x => by simp⟩, hb2⟩
  | some P =>
    obtain ⟨l0, hl0, hl1⟩ := hz P rfl
    have HZ := Lib.hid hl1
    clear hz hl1
    go_enter Tryz.func17, Tryz.ntmps17
    go_wp2_with (go_at_call 37; refine HM.out.mono ?_; rintro e w1 ⟨mv, rfl, hmv, hb1⟩; obtain ⟨mb, hmv, hs1, hmb⟩ := hmv; subst hmv; obtain ⟨todo0, ito, hrun0, hR0, hnd0, hmem0⟩ := MapAt.start hs1 encS_inj Tryz.underlying75; have HS1 := Lib.hid hs1; have HR0 := Lib.hid hR0; have HND := Lib.hid hnd0; have HMEM := Lib.hid hmem0; clear hs1 hR0 hnd0 hmem0)
    have hmt : ∀ x, x ∈ todo0 ↔ P x = true := fun x => by
      rw [HMEM.out x]
      cases P x <;> simp
    have hlen0 : todo0.length ≤ 1001 := Nat.le_trans (List.Nodup.length_le_of_subset HND.out (fun x hx => (HZ.out x ((hmt x).1 hx)).1)) hl0
    have HMT := Lib.hid hmt
    have hb2 : Below w.heap.size w (w1.alloc ito) := hb1.alloc hb1.size _
    have hz2 : (w1.alloc ito).heap.size = w1.heap.size + 1 := by simp
    obtain ⟨w2, hw2⟩ : ∃ W, w1.alloc ito = W := ⟨_, rfl⟩
    rw [hw2] at HR0 hb2 hz2 ⊢
    have hwz := hb1.size
    obtain ⟨rb, hrb⟩ : ∃ z, w1.heap.size = z := ⟨_, rfl⟩
    rw [hrb] at HR0 hz2 hwz ⊢
    have HZ2 := Lib.hid hz2
    clear hw2 hrb hrun0 hmt HND HMEM hb1 hz2 HS1
    go_loopg [6] todo0.length (fun n t6 wq => ∃ (todo L : List ByteArray) (v : Value), n = todo.length ∧ v = t6 ∧ Below w.heap.size w wq ∧ Hid (rb < wq.heap.size) ∧ Hid (RangeAt Tryz.prog 9 encS wq mb rb (fun x => if P x = true then some (.bool true) else none) todo) ∧
      Hid (wq.ownsRow w.heap.size 9 1 v L.length (strs L)) ∧ Hid (wq.ownsRow (rb + 1) 9 1 v L.length (strs L)) ∧ Hid (L.Pairwise (fun a b => sLt a b = true)) ∧ Hid (L.length + todo.length ≤ 1001) ∧ Hid (∀ x, P x = true ↔ x ∈ L ∨ x ∈ todo))
    case atStart => exact ⟨todo0, [], _, rfl, rfl, hb2, Lib.hid (by have := HZ2.out; omega), HR0, Lib.hid (World.ownsRow_nil _ _ _ _), Lib.hid (World.ownsRow_nil _ _ _ _), Lib.hid List.Pairwise.nil, Lib.hid (by simpa using hlen0), Lib.hid (fun x => by rw [← HMT.out x]; simp)⟩
    case round =>
      obtain ⟨todo, L, v, rfl, rfl, hbq, HQ, HR, HO, HO2, HP, HL, HX⟩ := hrel
      rcases HR.out.next encS_inj 0 with ⟨rfl, hrun⟩ | ⟨l1, x, l2, vx, wn, rfl, hMx, hrun, hRn, hgr, hszn, hent⟩
      · go_wp2
        go_ret
        refine ⟨_, L, rfl, HO.out, ⟨HP.out, fun x => ?_⟩, hbq⟩
        have := HX.out x
        simp at this
        rw [← this]; simp
      · have hpx : P x = true := (HX.out x).2 (Or.inr (by simp))
        rw [if_pos hpx] at hMx
        obtain rfl := Option.some.inj hMx
        rw [show encS x = .string x from rfl] at hrun hent
        have hbn : Below w.heap.size w wn := below_grown hbq hgr (fun g e => by cases e; exact hwz) hbq.size
        have hown : wn.ownsRow (rb + 1) 9 1 v L.length (strs L) := HO2.out.kept hgr (by rcases HO2.out.2 with ⟨rfl, _⟩ | ⟨g, cap, cur, rfl, hg, _⟩ <;> simp [Value.ownBlock]; omega)
        have hrbn : rb + 1 ≤ wn.heap.size := by have := HQ.out; omega
        have hLl := HL.out
        have hW := go_with L x v (rb + 1) wn hown hrbn HP.out (by simp at hLl; omega)
        have HW := Lib.hid hW; have HRN := Lib.hid hRn
        have HRB := Lib.hid hrbn
        clear hW hRn hown hpx hgr hszn hbq hrbn hLl
        go_wp2_with (go_at_call 38; refine HW.out.mono ?_; rintro e w3 ⟨v', rfl, hO3, hb3⟩)
        go_roundg (l1 ++ l2).length
        case measure => simp
        case rel =>
          have hO3' : w3.ownsRow w.heap.size 9 1 v' (withG sLt L x).length (strs (withG sLt L x)) := own_lower_ hO3 (by omega)
          refine ⟨l1 ++ l2, withG sLt L x, v', rfl, rfl, hbn.trans (hb3.mono hbn.size), Lib.hid (by have := HRB.out; have := hb3.size; omega), Lib.hid (HRN.out.below hb3), Lib.hid hO3', Lib.hid hO3, Lib.hid (withG_sorted sO _ HP.out), Lib.hid ?_, Lib.hid (fun y => ?_)⟩
          · have h1 := withG_length (lt := sLt) L x
            have h2 := HL.out
            simp at h2 ⊢
            omega
          · rw [HX.out y, withG_mem]
            simp only [List.mem_append, List.mem_cons]
            constructor
            · rintro (h | h | h | h)
              · exact Or.inl (Or.inr h)
              · exact Or.inr (Or.inl h)
              · exact Or.inl (Or.inl h)
              · exact Or.inr (Or.inr h)
            · rintro ((h | h) | (h | h))
              · exact Or.inr (Or.inr (Or.inl h))
              · exact Or.inl h
              · exact Or.inr (Or.inl h)
              · exact Or.inr (Or.inr (Or.inr h))
theorem membF_few (ok : GrOk s) {kf : Nat} {top : ByteArray} {day : Int} {r : Option (ByteArray → Bool)} (ht : top.size ≤ 1000) (hF : membF kf s top day = some r) : ∀ P, r = some P → ∃ l : List ByteArray, l.length ≤ 1001 ∧ ∀ x, P x = true → x ∈ l ∧ x.size ≤ 1000 := by
  rintro P rfl
  refine ⟨top :: s.en, by have := ok.enl; simp; omega, fun x hx => ?_⟩
  have hm := membF_sub hF x hx
  refine ⟨hm, ?_⟩
  rcases List.mem_cons.1 hm with rfl | hm
  · exact ht
  · exact ok.ens x hm
theorem go_Members (hG : GrAt w B g m1 m2 V U vE vC s) (ok : GrOk s) (kf : Nat) (top : ByteArray) (day : Int) (r : Option (ByteArray → Bool)) (ht : top.size ≤ 1000) (hL : DaysLaid w) (hF : membF kf s top day = some r) :
    Calls Tryz.prog 17 #[.pointer (some ⟨g, 0, none⟩), .string top, .int .i64 day] w fun e w' => ∃ v L, e = .returned v ∧ w'.ownsRow w.heap.size 9 1 v L.length (strs L) ∧ ListP L r ∧ Below w.heap.size w w' :=
  go_Members_at _ top day r (membF_few ok ht hF) (go_members hG ok kf top day r ht hL hF)
end
end Go.Proofs.YtikdiepcfdimgaaGreatDoor.POw
namespace Go.Proofs.YtikdiepcfdimgaaGreatDoor
open Go.RowKit Go.Lib Go.Proofs.YtikdiepcfdimgaaGreatDoorW.PrintWords
def quoI (n d : Int) : Int := absI n / gcdI (absI n) (absI d)
def makeQ (n d : Int) : Int × Int × Int :=
  if d = 0 then (0, 0, 2) else if 1000000 < quoI n d then (0, 0, 4) else if 1000000 < absI d / gcdI (absI n) (absI d) then (0, 0, 4)
  else ((if (decide (n < 0) != decide (d < 0)) = true then -(quoI n d) else quoI n d), absI d / gcdI (absI n) (absI d), 0)
def addQ (a b c d : Int) : Int × Int × Int := if rightB a b = true then (if rightB c d = true then makeQ (a * d + c * b) (b * d) else (0, 0, 2)) else (0, 0, 2)
def mulQ (a b c d : Int) : Int × Int × Int := if rightB a b = true then (if rightB c d = true then makeQ (a * c) (b * d) else (0, 0, 2)) else (0, 0, 2)
theorem rightB_bounds {n d : Int} (h : rightB n d = true) : -1000000 ≤ n ∧ n ≤ 1000000 ∧ 1 ≤ d ∧ d ≤ 1000000 := by
  unfold rightB at h
  simp only [Bool.and_eq_true, decide_eq_true_eq] at h
  obtain ⟨⟨⟨h1, h2⟩, h3⟩, _⟩ := h
  have := (absI_mil n).1 h3
  omega
theorem below_drewN_ {B : Nat} {w W : World} (h : Below B w W) (n : Nat) : Below B w (W.drewN n) := ⟨h.os, h.tape, h.output, h.size, h.block⟩
set_option maxRecDepth 100000 in
set_option maxHeartbeats 4000000 in
theorem frac_Make.calls (n d : Int) (w : World) (hn : inI n) (hd : inI d) :
    Calls Tryz.prog 114 #[.int .i64 n, .int .i64 d] w fun e w' => e = .returned (.tuple #[.agg #[.int .i64 (makeQ n d).1, .int .i64 (makeQ n d).2.1], .int .i64 (makeQ n d).2.2]) ∧ Below w.heap.size w w' := by
  by_cases h0 : d = 0
  · have HF := Lib.hid (show makeQ n d = (0, 0, 2) by unfold makeQ; rw [if_pos h0])
    rw [HF.out]
    subst h0
    go_enter Tryz.func114, Tryz.ntmps114
    go_wp2
    refine bodyPost_ret (v := .tuple #[.agg #[.int .i64 0, .int .i64 0], .int .i64 2]) (by simp [results, Tryz.results114, go_sem]) rfl ⟨rfl, ?_⟩
    repeat (first | exact Below.refl _ _ | refine Below.setCell ?_ (by simp) _ | refine Below.alloc ?_ (by simp) _)
  · have g0 := gcdI_pos (absI n) (absI d) (by unfold absI; split <;> omega)
    have bn : absI n ≤ 9223372036854775808 := absI_le n hn.1 hn.2
    have bd : absI d ≤ 9223372036854775808 := absI_le d hd.1 hd.2
    have nn := absI_nn n
    have nd := absI_nn d
    have h0b : (d == 0) = false := by simp [h0]
    obtain ⟨G, hG⟩ : ∃ G, gcdI (absI n) (absI d) = G := ⟨_, rfl⟩
    have hq1 := fun (W : World) => frac_gcd.calls (absI n) (absI d) W nn nd
    rw [hG] at g0 hq1
    obtain ⟨X, hX⟩ : ∃ X, absI n = X := ⟨_, rfl⟩
    obtain ⟨Y, hY⟩ : ∃ Y, absI d = Y := ⟨_, rfl⟩
    rw [hX] at nn bn hq1
    rw [hY] at nd bd hq1
    obtain ⟨q, hq⟩ : ∃ q, X / G = q := ⟨_, rfl⟩
    obtain ⟨r, hr⟩ : ∃ r, Y / G = r := ⟨_, rfl⟩
    have q0 : 0 ≤ q := by rw [← hq]; exact Int.ediv_nonneg nn (by omega)
    have r0 : 0 ≤ r := by rw [← hr]; exact Int.ediv_nonneg nd (by omega)
    have q1 : q ≤ 9223372036854775808 := by rw [← hq]; exact Int.le_trans (Int.ediv_le_self _ nn) bn
    have r1 : r ≤ 9223372036854775808 := by rw [← hr]; exact Int.le_trans (Int.ediv_le_self _ nd) bd
    have e1 : IntKind.u64.wrap (X.tdiv G) = q := by rw [Int.tdiv_eq_ediv_of_nonneg nn, hq]; rw [IntKind.wrap_u64]; omega
    have e2 : IntKind.u64.wrap (Y.tdiv G) = r := by rw [Int.tdiv_eq_ediv_of_nonneg nd, hr]; rw [IntKind.wrap_u64]; omega
    have hGb : (G == 0) = false := by simp; omega
    have HF := Lib.hid (show makeQ n d = if 1000000 < q then (0, 0, 4) else if 1000000 < r then (0, 0, 4) else ((if (decide (n < 0) != decide (d < 0)) = true then -q else q), r, 0) by unfold makeQ quoI; rw [if_neg h0, hG, hX, hY, hq, hr])
    have HX := Lib.hid hX; have HY := Lib.hid hY
    have HG := Lib.hid hq1
    obtain ⟨T, hT⟩ : ∃ T, makeQ n d = T := ⟨_, rfl⟩
    rw [hT] at HF ⊢
    clear hX hY hG hq hr hq1 h0 hT
    go_enter Tryz.func114, Tryz.ntmps114
    go_upto_region 5 with (first
      | (go_at_call_of 73 (Value.int IntKind.i64 n); refine (frac_size.calls _ _ hn).mono ?_; rintro e w' ⟨rfl, rfl⟩; rw [HX.out])
      | (go_at_call_of 73 (Value.int IntKind.i64 d); refine (frac_size.calls _ _ hd).mono ?_; rintro e w' ⟨rfl, rfl⟩; rw [HY.out])
      | (go_at_call 74; refine (HG.out _).mono ?_; rintro e w2 ⟨rfl, hb2⟩; obtain ⟨hcc, hff⟩ := bcell hb2))
    have hrow : w2.heap[w.heap.size]? = some (.cells #[.int .i64 0, .int .i64 0] 42 (0, 0)) := by rw [hb2.block _ (by simp)]; exact (Go.MapKept.heap_alloc w _).1
    have c0 : w2.cell? ⟨w.heap.size, 0, none⟩ = some (.int .i64 0) := by rw [hcc _ _ (by simp)]; simp
    have c1 : w2.cell? ⟨w.heap.size, 1, none⟩ = some (.int .i64 0) := by rw [hcc _ _ (by simp)]; simp
    have f0 : w2.frozen? ⟨w.heap.size, 0, none⟩ = false := by rw [hff _ _ (by simp)]; simp
    have f1 : w2.frozen? ⟨w.heap.size, 1, none⟩ = false := by rw [hff _ _ (by simp)]; simp
    have hz2 : w.heap.size < w2.heap.size := by have := hb2.size; simp at this; omega
    have hB : Below w.heap.size w w2 := ((Below.refl _ _).alloc (Nat.le_refl _) _).trans (hb2.mono (by simp))
    clear hcc hff hb2
    go_quiet (fail)
    have hrow2 : (w2.drewN nq).heap[w.heap.size]? = some (.cells #[.int .i64 0, .int .i64 0] 42 (0, 0)) := hrow
    have HR := Lib.hid hrow2; clear hrow hrow2
    by_cases t1 : 1000000 < q
    · go_wp2
      refine bodyPost_ret (v := .tuple #[.agg #[.int .i64 (0), .int .i64 (0)], .int .i64 4]) (by simp [results, Tryz.results114, go_sem, c0, c1]) rfl ⟨by rw [HF.out, if_pos t1], ?_⟩
      repeat (first | exact hB | refine Below.setCell ?_ (by simp) _ | refine below_drewN_ ?_ _ | refine Below.alloc ?_ (by simp; omega) _)
    · have t1b : decide (1000000 < q) = false := decide_eq_false t1
      by_cases t2 : 1000000 < r
      · go_wp2
        refine bodyPost_ret (v := .tuple #[.agg #[.int .i64 (0), .int .i64 (0)], .int .i64 4]) (by simp [results, Tryz.results114, go_sem, c0, c1]) rfl ⟨by rw [HF.out, if_neg (show ¬ 1000000 < q by omega), if_pos t2], ?_⟩
        repeat (first | exact hB | refine Below.setCell ?_ (by simp) _ | refine below_drewN_ ?_ _ | refine Below.alloc ?_ (by simp; omega) _)
      · have t2b : decide (1000000 < r) = false := decide_eq_false t2
        have wq : IntKind.i64.wrap q = q := IntWalk.i64_in _ (by omega)
        have wr : IntKind.i64.wrap r = r := IntWalk.i64_in _ (by omega)
        have wn : IntKind.i64.wrap (-q) = -q := IntWalk.i64_in _ (by omega)
        by_cases u1 : n < 0 <;> by_cases u2 : d < 0
        · have b1 : decide (n < 0) = true := decide_eq_true u1
          have b2 : decide (d < 0) = true := decide_eq_true u2
          go_wp2
          have hF := (blk_set (blk_set (blk_set (blk_set HR.out 0 (.int .i64 q)) 1 (.int .i64 r)) 0 (.int .i64 (q))) 1 (.int .i64 r))
          refine bodyPost_ret (v := .tuple #[.agg #[.int .i64 (q), .int .i64 (r)], .int .i64 0]) (by simp [results, Tryz.results114, go_sem, blk_cell hF 0, blk_cell hF 1]) rfl ⟨by rw [HF.out, if_neg (show ¬ 1000000 < q by omega), if_neg (show ¬ 1000000 < r by omega), b1, b2]; rfl, ?_⟩
          repeat (first | exact hB | refine Below.setCell ?_ (by simp) _ | refine below_drewN_ ?_ _ | refine Below.alloc ?_ (by simp; omega) _)
        · have b1 : decide (n < 0) = true := decide_eq_true u1
          have b2 : decide (d < 0) = false := decide_eq_false u2
          go_wp2
          have hF := (blk_set (blk_set (blk_set (blk_set (blk_set HR.out 0 (.int .i64 q)) 1 (.int .i64 r)) 0 (.int .i64 (-q))) 0 (.int .i64 (-q))) 1 (.int .i64 r))
          refine bodyPost_ret (v := .tuple #[.agg #[.int .i64 (-q), .int .i64 (r)], .int .i64 0]) (by simp [results, Tryz.results114, go_sem, blk_cell hF 0, blk_cell hF 1]) rfl ⟨by rw [HF.out, if_neg (show ¬ 1000000 < q by omega), if_neg (show ¬ 1000000 < r by omega), b1, b2]; rfl, ?_⟩
          repeat (first | exact hB | refine Below.setCell ?_ (by simp) _ | refine below_drewN_ ?_ _ | refine Below.alloc ?_ (by simp; omega) _)
        · have b1 : decide (n < 0) = false := decide_eq_false u1
          have b2 : decide (d < 0) = true := decide_eq_true u2
          go_wp2
          have hF := (blk_set (blk_set (blk_set (blk_set (blk_set HR.out 0 (.int .i64 q)) 1 (.int .i64 r)) 0 (.int .i64 (-q))) 0 (.int .i64 (-q))) 1 (.int .i64 r))
          refine bodyPost_ret (v := .tuple #[.agg #[.int .i64 (-q), .int .i64 (r)], .int .i64 0]) (by simp [results, Tryz.results114, go_sem, blk_cell hF 0, blk_cell hF 1]) rfl ⟨by rw [HF.out, if_neg (show ¬ 1000000 < q by omega), if_neg (show ¬ 1000000 < r by omega), b1, b2]; rfl, ?_⟩
          repeat (first | exact hB | refine Below.setCell ?_ (by simp) _ | refine below_drewN_ ?_ _ | refine Below.alloc ?_ (by simp; omega) _)
        · have b1 : decide (n < 0) = false := decide_eq_false u1
          have b2 : decide (d < 0) = false := decide_eq_false u2
          go_wp2
          have hF := (blk_set (blk_set (blk_set (blk_set HR.out 0 (.int .i64 q)) 1 (.int .i64 r)) 0 (.int .i64 (q))) 1 (.int .i64 r))
          refine bodyPost_ret (v := .tuple #[.agg #[.int .i64 (q), .int .i64 (r)], .int .i64 0]) (by simp [results, Tryz.results114, go_sem, blk_cell hF 0, blk_cell hF 1]) rfl ⟨by rw [HF.out, if_neg (show ¬ 1000000 < q by omega), if_neg (show ¬ 1000000 < r by omega), b1, b2]; rfl, ?_⟩
          repeat (first | exact hB | refine Below.setCell ?_ (by simp) _ | refine below_drewN_ ?_ _ | refine Below.alloc ?_ (by simp; omega) _)
end Go.Proofs.YtikdiepcfdimgaaGreatDoor
namespace Go.Proofs.YtikdiepcfdimgaaGreatDoor
open Go.RowKit Go.Lib Go.Proofs.YtikdiepcfdimgaaGreatDoorW.PrintWords Go.Proofs.YtikdiepcfdimgaaGreatDoorW.PrintLast
set_option maxRecDepth 100000 in
set_option maxHeartbeats 4000000 in
theorem ref03_Make.calls (n d : Int) (w : World) (hn : inI n) (hd : inI d) :
    Calls Tryz.prog 91 #[.int .i64 n, .int .i64 d] w fun e w' => e = .returned (.tuple #[.agg #[.int .i64 (makeQ n d).1, .int .i64 (makeQ n d).2.1], .int .i64 (makeQ n d).2.2]) ∧ Below w.heap.size w w' := by
  by_cases h0 : d = 0
  · have HF := Lib.hid (show makeQ n d = (0, 0, 2) by unfold makeQ; rw [if_pos h0])
    rw [HF.out]
    subst h0
    go_enter Tryz.func91, Tryz.ntmps91
    go_wp2
    refine bodyPost_ret (v := .tuple #[.agg #[.int .i64 0, .int .i64 0], .int .i64 2]) (by simp [results, Tryz.results91, go_sem]) rfl ⟨rfl, ?_⟩
    repeat (first | exact Below.refl _ _ | refine Below.setCell ?_ (by simp) _ | refine Below.alloc ?_ (by simp) _)
  · have g0 := gcdI_pos (absI n) (absI d) (by unfold absI; split <;> omega)
    have bn : absI n ≤ 9223372036854775808 := absI_le n hn.1 hn.2
    have bd : absI d ≤ 9223372036854775808 := absI_le d hd.1 hd.2
    have nn := absI_nn n
    have nd := absI_nn d
    have h0b : (d == 0) = false := by simp [h0]
    obtain ⟨G, hG⟩ : ∃ G, gcdI (absI n) (absI d) = G := ⟨_, rfl⟩
    have hq1 := fun (W : World) => ref03_divisor.calls (absI n) (absI d) W nn nd
    rw [hG] at g0 hq1
    obtain ⟨X, hX⟩ : ∃ X, absI n = X := ⟨_, rfl⟩
    obtain ⟨Y, hY⟩ : ∃ Y, absI d = Y := ⟨_, rfl⟩
    rw [hX] at nn bn hq1
    rw [hY] at nd bd hq1
    obtain ⟨q, hq⟩ : ∃ q, X / G = q := ⟨_, rfl⟩
    obtain ⟨r, hr⟩ : ∃ r, Y / G = r := ⟨_, rfl⟩
    have q0 : 0 ≤ q := by rw [← hq]; exact Int.ediv_nonneg nn (by omega)
    have r0 : 0 ≤ r := by rw [← hr]; exact Int.ediv_nonneg nd (by omega)
    have q1 : q ≤ 9223372036854775808 := by rw [← hq]; exact Int.le_trans (Int.ediv_le_self _ nn) bn
    have r1 : r ≤ 9223372036854775808 := by rw [← hr]; exact Int.le_trans (Int.ediv_le_self _ nd) bd
    have e1 : IntKind.u64.wrap (X.tdiv G) = q := by rw [Int.tdiv_eq_ediv_of_nonneg nn, hq]; rw [IntKind.wrap_u64]; omega
    have e2 : IntKind.u64.wrap (Y.tdiv G) = r := by rw [Int.tdiv_eq_ediv_of_nonneg nd, hr]; rw [IntKind.wrap_u64]; omega
    have hGb : (G == 0) = false := by simp; omega
    have HF := Lib.hid (show makeQ n d = if 1000000 < q then (0, 0, 4) else if 1000000 < r then (0, 0, 4) else ((if (decide (n < 0) != decide (d < 0)) = true then -q else q), r, 0) by unfold makeQ quoI; rw [if_neg h0, hG, hX, hY, hq, hr])
    have HX := Lib.hid hX; have HY := Lib.hid hY
    have HG := Lib.hid hq1
    obtain ⟨T, hT⟩ : ∃ T, makeQ n d = T := ⟨_, rfl⟩
    rw [hT] at HF ⊢
    clear hX hY hG hq hr hq1 h0 hT
    go_enter Tryz.func91, Tryz.ntmps91
    go_upto_region 4 with (first
      | (go_at_call_of 86 (Value.int IntKind.i64 n); refine (ref03_size.calls _ _ hn).mono ?_; rintro e w' ⟨rfl, rfl⟩; rw [HX.out])
      | (go_at_call_of 86 (Value.int IntKind.i64 d); refine (ref03_size.calls _ _ hd).mono ?_; rintro e w' ⟨rfl, rfl⟩; rw [HY.out])
      | (go_at_call 85; refine (HG.out _).mono ?_; rintro e w2 ⟨rfl, hb2⟩; obtain ⟨hcc, hff⟩ := bcell hb2))
    have hrow : w2.heap[w.heap.size]? = some (.cells #[.int .i64 0, .int .i64 0] 42 (0, 0)) := by rw [hb2.block _ (by simp)]; exact (Go.MapKept.heap_alloc w _).1
    have c0 : w2.cell? ⟨w.heap.size, 0, none⟩ = some (.int .i64 0) := by rw [hcc _ _ (by simp)]; simp
    have c1 : w2.cell? ⟨w.heap.size, 1, none⟩ = some (.int .i64 0) := by rw [hcc _ _ (by simp)]; simp
    have f0 : w2.frozen? ⟨w.heap.size, 0, none⟩ = false := by rw [hff _ _ (by simp)]; simp
    have f1 : w2.frozen? ⟨w.heap.size, 1, none⟩ = false := by rw [hff _ _ (by simp)]; simp
    have hz2 : w.heap.size < w2.heap.size := by have := hb2.size; simp at this; omega
    have hB : Below w.heap.size w w2 := ((Below.refl _ _).alloc (Nat.le_refl _) _).trans (hb2.mono (by simp))
    clear hcc hff hb2
    have hGn : ¬ (G = 0) := by omega
    refine start_ (n := 10) (S := fun w' => True) (ds := []) #[false, false, false, false, false, false, false, false, false, false] (by kernel_rfl) rfl rfl trivial (fun hHeld => ?_)
    refine pure_ (i := 0) (N := some 18) (v := ?_) (a' := ?_) #[true, false, false, false, false, false, false, false, false, false] rfl rfl (by kernel_rfl) (fun _ _ _ h => h) (Or.inl ⟨by rfl, ?_⟩) ?_ ?_
    rotate_left
    · intro w'
      go_simp
      with_reducible rfl
    rotate_left
    · simp only [Act.put, pkA, pkZ, pkS, i64_w, i32_w]
      rfl
    refine pure_ (i := 2) (N := some 20) (v := ?_) (a' := ?_) #[true, false, true, false, false, false, false, false, false, false] rfl rfl (by kernel_rfl) (fun _ _ _ h => h) (Or.inl ⟨by rfl, ?_⟩) ?_ ?_
    rotate_left
    · intro w'
      go_simp
      with_reducible rfl
    rotate_left
    · simp only [Act.put, pkA, pkZ, pkS, i64_w, i32_w]
      rfl
    refine pure_ (i := 4) (N := some 22) (v := ?_) (a' := ?_) #[true, false, true, false, true, false, false, false, false, false] rfl rfl (by kernel_rfl) (fun _ _ _ h => h) (Or.inl ⟨by rfl, ?_⟩) ?_ ?_
    rotate_left
    · intro w'
      go_simp
      with_reducible rfl
    rotate_left
    · simp only [Act.put, pkA, pkZ, pkS, i64_w, i32_w]
      rfl
    refine pure_ (i := 6) (N := some 24) (v := ?_) (a' := ?_) #[true, false, true, false, true, false, true, false, false, false] rfl rfl (by kernel_rfl) (fun _ _ _ h => h) (Or.inl ⟨by rfl, ?_⟩) ?_ ?_
    rotate_left
    · intro w'
      go_simp
      with_reducible rfl
    rotate_left
    · simp only [Act.put, pkA, pkZ, pkS, i64_w, i32_w]
      rfl
    refine one_ (i := 1) (N := some 19) #[true, true, true, false, true, false, true, false, false, false] rfl rfl (by kernel_rfl) (by decide) (fun K hK => ?_)
    refine goes_ Tryz.func86 (by kernel_rfl) rfl #[.int .i64 n] (by rfl) rfl rfl (by simp only [List.map_toArray, List.map_cons, List.map_nil] <;> rfl) ?_
    refine (ref03_size.calls n _ hn).mono ?_
    rintro e w3 ⟨rfl, rfl⟩
    refine ⟨_, rfl, ?_⟩
    rw [HX.out]
    refine hK.out _ _ trivial (fun hHeld => ?_)
    clear hK K
    refine norm_ (a' := ?_) ?_ ?_
    rotate_left
    · show Act.put _ (some 19) _ = _
      simp only [Act.put, pkA, pkZ, pkS, i64_w, i32_w]
      rfl
    refine pure_ (i := 3) (N := some 21) (v := ?_) (a' := ?_) #[true, true, true, true, true, false, true, false, false, false] rfl rfl (by kernel_rfl) (fun _ _ _ h => h) (Or.inl ⟨by rfl, ?_⟩) ?_ ?_
    rotate_left
    · intro w'
      go_simp
      with_reducible rfl
    rotate_left
    · simp only [Act.put, pkA, pkZ, pkS, i64_w, i32_w]
      rfl
    refine one_ (i := 5) (N := some 23) #[true, true, true, true, true, true, true, false, false, false] rfl rfl (by kernel_rfl) (by decide) (fun K hK => ?_)
    refine goes_ Tryz.func86 (by kernel_rfl) rfl #[.int .i64 d] (by rfl) rfl rfl (by simp only [List.map_toArray, List.map_cons, List.map_nil] <;> rfl) ?_
    refine (ref03_size.calls d _ hd).mono ?_
    rintro e w3 ⟨rfl, rfl⟩
    refine ⟨_, rfl, ?_⟩
    rw [HY.out]
    refine hK.out _ _ trivial (fun hHeld => ?_)
    clear hK K
    refine norm_ (a' := ?_) ?_ ?_
    rotate_left
    · show Act.put _ (some 23) _ = _
      simp only [Act.put, pkA, pkZ, pkS, i64_w, i32_w]
      rfl
    refine pure_ (i := 7) (N := some 25) (v := ?_) (a' := ?_) #[true, true, true, true, true, true, true, true, false, false] rfl rfl (by kernel_rfl) (fun _ _ _ h => h) (Or.inl ⟨by rfl, ?_⟩) ?_ ?_
    rotate_left
    · intro w'
      go_simp
      with_reducible rfl
    rotate_left
    · simp only [Act.put, pkA, pkZ, pkS, i64_w, i32_w]
      rfl
    refine pure_ (i := 8) (N := some 7) (v := ?_) (a' := ?_) #[true, true, true, true, true, true, true, true, true, false] rfl rfl (by kernel_rfl) (fun _ _ _ h => h) (Or.inl ⟨by rfl, ?_⟩) ?_ ?_
    rotate_left
    · intro w'
      go_simp
      with_reducible rfl
    rotate_left
    · simp only [Act.put, pkA, pkZ, pkS, i64_w, i32_w]
      rfl
    refine pure_ (i := 9) (N := some 8) (v := ?_) (a' := ?_) #[true, true, true, true, true, true, true, true, true, true] rfl rfl (by kernel_rfl) (fun _ _ _ h => h) (Or.inl ⟨by rfl, ?_⟩) ?_ ?_
    rotate_left
    · intro w'
      go_simp
      with_reducible rfl
    rotate_left
    · simp only [Act.put, pkA, pkZ, pkS, i64_w, i32_w]
      rfl
    refine done_ (by kernel_rfl) ?_
    clear hHeld hGn
    obtain ⟨w3, hw3⟩ : ∃ W, w2.drew = W := ⟨_, rfl⟩
    rw [hw3]
    replace hrow : w3.heap[w.heap.size]? = some (.cells #[.int .i64 0, .int .i64 0] 42 (0, 0)) := by rw [← hw3]; exact hrow
    replace c0 : w3.cell? ⟨w.heap.size, 0, none⟩ = some (.int .i64 0) := by rw [← hw3]; exact c0
    replace c1 : w3.cell? ⟨w.heap.size, 1, none⟩ = some (.int .i64 0) := by rw [← hw3]; exact c1
    replace f0 : w3.frozen? ⟨w.heap.size, 0, none⟩ = false := by rw [← hw3]; exact f0
    replace f1 : w3.frozen? ⟨w.heap.size, 1, none⟩ = false := by rw [← hw3]; exact f1
    replace hz2 : w.heap.size < w3.heap.size := by rw [← hw3]; exact hz2
    replace hB : Below w.heap.size w w3 := by rw [← hw3]; exact hB.drew
    clear hw3
    all_goals
      have HR := Lib.hid hrow; clear hrow
      by_cases t1 : 1000000 < q
      · go_wp2
        refine bodyPost_ret (v := .tuple #[.agg #[.int .i64 (0), .int .i64 (0)], .int .i64 4]) (by simp [results, Tryz.results91, go_sem, c0, c1]) rfl ⟨by rw [HF.out, if_pos t1], ?_⟩
        repeat (first | exact hB | refine Below.setCell ?_ (by simp) _ | refine below_drewN_ ?_ _ | refine Below.alloc ?_ (by simp; omega) _)
      · have t1b : decide (1000000 < q) = false := decide_eq_false t1
        by_cases t2 : 1000000 < r
        · go_wp2
          refine bodyPost_ret (v := .tuple #[.agg #[.int .i64 (0), .int .i64 (0)], .int .i64 4]) (by simp [results, Tryz.results91, go_sem, c0, c1]) rfl ⟨by rw [HF.out, if_neg (show ¬ 1000000 < q by omega), if_pos t2], ?_⟩
          repeat (first | exact hB | refine Below.setCell ?_ (by simp) _ | refine below_drewN_ ?_ _ | refine Below.alloc ?_ (by simp; omega) _)
        · have t2b : decide (1000000 < r) = false := decide_eq_false t2
          have wq : IntKind.i64.wrap q = q := IntWalk.i64_in _ (by omega)
          have wr : IntKind.i64.wrap r = r := IntWalk.i64_in _ (by omega)
          have wn : IntKind.i64.wrap (-q) = -q := IntWalk.i64_in _ (by omega)
          by_cases u1 : n < 0 <;> by_cases u2 : d < 0
          · have b1 : decide (n < 0) = true := decide_eq_true u1
            have b2 : decide (d < 0) = true := decide_eq_true u2
            go_wp2
            have hF : (((w3.setCell ⟨w.heap.size, 0, none⟩ (.int .i64 (q))).setCell ⟨w.heap.size, 1, none⟩ (.int .i64 r)).alloc (.cells #[.int .i64 (q), .int .i64 r] 42)).heap[w.heap.size]? = some (.cells #[.int .i64 (q), .int .i64 r] 42 (0, 0)) := (heap_alloc_old _ _ (by simp; omega)).trans (blk_set (blk_set HR.out 0 (.int .i64 (q))) 1 (.int .i64 r))
            refine bodyPost_ret (v := .tuple #[.agg #[.int .i64 (q), .int .i64 (r)], .int .i64 0]) (by simp [results, Tryz.results91, go_sem, blk_cell hF 0, blk_cell hF 1]) rfl ⟨by rw [HF.out, if_neg (show ¬ 1000000 < q by omega), if_neg (show ¬ 1000000 < r by omega), b1, b2]; rfl, ?_⟩
            repeat (first | exact hB | refine Below.setCell ?_ (by simp) _ | refine below_drewN_ ?_ _ | refine Below.alloc ?_ (by simp; omega) _)
          · have b1 : decide (n < 0) = true := decide_eq_true u1
            have b2 : decide (d < 0) = false := decide_eq_false u2
            go_wp2
            have hF : (((w3.setCell ⟨w.heap.size, 0, none⟩ (.int .i64 (-q))).setCell ⟨w.heap.size, 1, none⟩ (.int .i64 r)).alloc (.cells #[.int .i64 (-q), .int .i64 r] 42)).heap[w.heap.size]? = some (.cells #[.int .i64 (-q), .int .i64 r] 42 (0, 0)) := (heap_alloc_old _ _ (by simp; omega)).trans (blk_set (blk_set HR.out 0 (.int .i64 (-q))) 1 (.int .i64 r))
            refine bodyPost_ret (v := .tuple #[.agg #[.int .i64 (-q), .int .i64 (r)], .int .i64 0]) (by simp [results, Tryz.results91, go_sem, blk_cell hF 0, blk_cell hF 1]) rfl ⟨by rw [HF.out, if_neg (show ¬ 1000000 < q by omega), if_neg (show ¬ 1000000 < r by omega), b1, b2]; rfl, ?_⟩
            repeat (first | exact hB | refine Below.setCell ?_ (by simp) _ | refine below_drewN_ ?_ _ | refine Below.alloc ?_ (by simp; omega) _)
          · have b1 : decide (n < 0) = false := decide_eq_false u1
            have b2 : decide (d < 0) = true := decide_eq_true u2
            go_wp2
            have hF : (((w3.setCell ⟨w.heap.size, 0, none⟩ (.int .i64 (-q))).setCell ⟨w.heap.size, 1, none⟩ (.int .i64 r)).alloc (.cells #[.int .i64 (-q), .int .i64 r] 42)).heap[w.heap.size]? = some (.cells #[.int .i64 (-q), .int .i64 r] 42 (0, 0)) := (heap_alloc_old _ _ (by simp; omega)).trans (blk_set (blk_set HR.out 0 (.int .i64 (-q))) 1 (.int .i64 r))
            refine bodyPost_ret (v := .tuple #[.agg #[.int .i64 (-q), .int .i64 (r)], .int .i64 0]) (by simp [results, Tryz.results91, go_sem, blk_cell hF 0, blk_cell hF 1]) rfl ⟨by rw [HF.out, if_neg (show ¬ 1000000 < q by omega), if_neg (show ¬ 1000000 < r by omega), b1, b2]; rfl, ?_⟩
            repeat (first | exact hB | refine Below.setCell ?_ (by simp) _ | refine below_drewN_ ?_ _ | refine Below.alloc ?_ (by simp; omega) _)
          · have b1 : decide (n < 0) = false := decide_eq_false u1
            have b2 : decide (d < 0) = false := decide_eq_false u2
            go_wp2
            have hF : (((w3.setCell ⟨w.heap.size, 0, none⟩ (.int .i64 (q))).setCell ⟨w.heap.size, 1, none⟩ (.int .i64 r)).alloc (.cells #[.int .i64 (q), .int .i64 r] 42)).heap[w.heap.size]? = some (.cells #[.int .i64 (q), .int .i64 r] 42 (0, 0)) := (heap_alloc_old _ _ (by simp; omega)).trans (blk_set (blk_set HR.out 0 (.int .i64 (q))) 1 (.int .i64 r))
            refine bodyPost_ret (v := .tuple #[.agg #[.int .i64 (q), .int .i64 (r)], .int .i64 0]) (by simp [results, Tryz.results91, go_sem, blk_cell hF 0, blk_cell hF 1]) rfl ⟨by rw [HF.out, if_neg (show ¬ 1000000 < q by omega), if_neg (show ¬ 1000000 < r by omega), b1, b2]; rfl, ?_⟩
            repeat (first | exact hB | refine Below.setCell ?_ (by simp) _ | refine below_drewN_ ?_ _ | refine Below.alloc ?_ (by simp; omega) _)
end Go.Proofs.YtikdiepcfdimgaaGreatDoor
namespace Go.Proofs.YtikdiepcfdimgaaGreatDoor
open Go.RowKit Go.Lib Go.Proofs.YtikdiepcfdimgaaGreatDoorW.PrintWords
theorem mil_mul {a b : Int} (h1 : -1000000 ≤ a) (h2 : a ≤ 1000000) (h3 : -1000000 ≤ b) (h4 : b ≤ 1000000) : -1000000000000 ≤ a * b ∧ a * b ≤ 1000000000000 := by
  have k : (a * b).natAbs ≤ 1000000 * 1000000 := by
    rw [Int.natAbs_mul]
    exact Nat.mul_le_mul (by omega) (by omega)
  omega
set_option maxRecDepth 100000 in
set_option maxHeartbeats 4000000 in
theorem frac_Mul1.calls (a b c d : Int) (w : World) (ha : -1000000 ≤ a ∧ a ≤ 1000000) (hb : -1000000 ≤ b ∧ b ≤ 1000000) (hc : -1000000 ≤ c ∧ c ≤ 1000000) (hd : -1000000 ≤ d ∧ d ≤ 1000000) :
    Calls Tryz.prog 89 #[.agg #[.int .i64 a, .int .i64 b], .agg #[.int .i64 c, .int .i64 d]] w fun e w' => e = .returned (.agg #[.int .i64 (a * c), .int .i64 (b * d)]) ∧ Below w.heap.size w w' := by
  have m1 := mil_mul ha.1 ha.2 hc.1 hc.2
  have m2 := mil_mul hb.1 hb.2 hd.1 hd.2
  obtain ⟨p, hp⟩ : ∃ p, a * c = p := ⟨_, rfl⟩
  obtain ⟨q, hq⟩ : ∃ q, b * d = q := ⟨_, rfl⟩
  have e1 : IntKind.i64.wrap (a * c) = p := by rw [hp]; exact IntWalk.i64_in _ (by omega)
  have e2 : IntKind.i64.wrap (b * d) = q := by rw [hq]; exact IntWalk.i64_in _ (by omega)
  rw [hp, hq]
  rw [hp] at m1; rw [hq] at m2
  clear hp hq
  go_enter Tryz.func89, Tryz.ntmps89
  go_wp2
  refine bodyPost_ret (v := .agg #[.int .i64 p, .int .i64 q]) (by simp [results, Tryz.results89, go_sem]) rfl ⟨rfl, ?_⟩
  repeat (first | exact Below.refl _ _ | refine Below.setCell ?_ (by simp; try omega) _ | refine Below.alloc ?_ (by simp; try omega) _ | refine below_drewN_ ?_ _)
set_option maxRecDepth 100000 in
set_option maxHeartbeats 4000000 in
theorem frac_Add1.calls (a b c d : Int) (w : World) (ha : -1000000 ≤ a ∧ a ≤ 1000000) (hb : -1000000 ≤ b ∧ b ≤ 1000000) (hc : -1000000 ≤ c ∧ c ≤ 1000000) (hd : -1000000 ≤ d ∧ d ≤ 1000000) :
    Calls Tryz.prog 90 #[.agg #[.int .i64 a, .int .i64 b], .agg #[.int .i64 c, .int .i64 d]] w fun e w' => e = .returned (.agg #[.int .i64 (a * d + c * b), .int .i64 (b * d)]) ∧ Below w.heap.size w w' := by
  have m1 := mil_mul ha.1 ha.2 hd.1 hd.2
  have m3 := mil_mul hc.1 hc.2 hb.1 hb.2
  have m2 := mil_mul hb.1 hb.2 hd.1 hd.2
  obtain ⟨x, hx⟩ : ∃ x, a * d = x := ⟨_, rfl⟩
  obtain ⟨y, hy⟩ : ∃ y, c * b = y := ⟨_, rfl⟩
  obtain ⟨q, hq⟩ : ∃ q, b * d = q := ⟨_, rfl⟩
  have e0 : IntKind.i64.wrap (a * d) = x := by rw [hx]; exact IntWalk.i64_in _ (by omega)
  have e1 : IntKind.i64.wrap (c * b) = y := by rw [hy]; exact IntWalk.i64_in _ (by omega)
  have e2 : IntKind.i64.wrap (b * d) = q := by rw [hq]; exact IntWalk.i64_in _ (by omega)
  rw [hx, hy, hq]
  rw [hx] at m1; rw [hy] at m3; rw [hq] at m2
  obtain ⟨p, hp⟩ : ∃ p, x + y = p := ⟨_, rfl⟩
  have e3 : IntKind.i64.wrap (x + y) = p := by rw [hp]; exact IntWalk.i64_in _ (by omega)
  have e4 : wrap64 (x + y) = p := by rw [hp]; exact IntWalk.wrap64_in _ (by omega)
  rw [hp]
  clear hx hy hq m1 m3 hp
  go_enter Tryz.func90, Tryz.ntmps90
  go_wp2
  refine bodyPost_ret (v := .agg #[.int .i64 p, .int .i64 q]) (by simp [results, Tryz.results90, go_sem]) rfl ⟨rfl, ?_⟩
  repeat (first | exact Below.refl _ _ | refine Below.setCell ?_ (by simp; try omega) _ | refine Below.alloc ?_ (by simp; try omega) _ | refine below_drewN_ ?_ _)
def Boxes (W : World) (z : Nat) (a b c d : Int) : Prop :=
  W.heap[z]? = some (.cells #[.int .i64 a, .int .i64 b] 42 (0, 0)) ∧ W.heap[z + 1]? = some (.cells #[.int .i64 c, .int .i64 d] 42 (0, 0)) ∧ W.heap[z + 1 + 1]? = some (.cells #[.int .i64 0, .int .i64 0] 42 (0, 0))
theorem Boxes.start (w : World) (a b c d : Int) : Boxes (((w.alloc (.cells #[.int .i64 a, .int .i64 b] 42)).alloc (.cells #[.int .i64 c, .int .i64 d] 42)).alloc (.cells #[.int .i64 0, .int .i64 0] 42)) w.heap.size a b c d := by
  refine ⟨?_, ?_, ?_⟩
  · rw [heap_alloc_old _ _ (by simp; omega), heap_alloc_old _ _ (by simp)]; exact (Go.MapKept.heap_alloc w _).1
  · rw [heap_alloc_old _ _ (by simp)]
    have := (Go.MapKept.heap_alloc (w.alloc (.cells #[.int .i64 a, .int .i64 b] 42)) (.cells #[.int .i64 c, .int .i64 d] 42)).1
    simpa using this
  · have := (Go.MapKept.heap_alloc ((w.alloc (.cells #[.int .i64 a, .int .i64 b] 42)).alloc (.cells #[.int .i64 c, .int .i64 d] 42)) (.cells #[.int .i64 0, .int .i64 0] 42)).1
    simpa using this
theorem Boxes.below {W W' : World} {z : Nat} {a b c d : Int} (h : Boxes W z a b c d) (hb : Below W.heap.size W W') : Boxes W' z a b c d :=
  ⟨(hb.block _ (Array.getElem?_eq_some_iff.1 h.1).1).trans h.1, (hb.block _ (Array.getElem?_eq_some_iff.1 h.2.1).1).trans h.2.1, (hb.block _ (Array.getElem?_eq_some_iff.1 h.2.2).1).trans h.2.2⟩
theorem Boxes.facts {W : World} {z : Nat} {a b c d : Int} (h : Boxes W z a b c d) : W.cell? ⟨z, 0, none⟩ = some (.int .i64 a) ∧ W.cell? ⟨z, 1, none⟩ = some (.int .i64 b) ∧ W.cell? ⟨z + 1, 0, none⟩ = some (.int .i64 c) ∧ W.cell? ⟨z + 1, 1, none⟩ = some (.int .i64 d) ∧
    W.cell? ⟨z + 1 + 1, 0, none⟩ = some (.int .i64 0) ∧ W.cell? ⟨z + 1 + 1, 1, none⟩ = some (.int .i64 0) ∧ W.frozen? ⟨z + 1 + 1, 0, none⟩ = false ∧ W.frozen? ⟨z + 1 + 1, 1, none⟩ = false ∧ z + 1 + 1 < W.heap.size :=
  ⟨blk_cell h.1 0, blk_cell h.1 1, blk_cell h.2.1 0, blk_cell h.2.1 1, blk_cell h.2.2 0, blk_cell h.2.2 1, blk_frozen h.2.2 0, blk_frozen h.2.2 1, (Array.getElem?_eq_some_iff.1 h.2.2).1⟩
set_option maxRecDepth 100000 in
set_option maxHeartbeats 4000000 in
theorem frac_joinMul.calls (a b c d : Int) (w : World) (ha : inI a) (hb : inI b) (hc : inI c) (hd : inI d) :
    Calls Tryz.prog 88 #[.agg #[.int .i64 a, .int .i64 b], .agg #[.int .i64 c, .int .i64 d], .func (.func 89) #[] #[]] w fun e w' => e = .returned (.tuple #[.agg #[.int .i64 (mulQ a b c d).1, .int .i64 (mulQ a b c d).2.1], .int .i64 (mulQ a b c d).2.2]) ∧ Below w.heap.size w w' := by
  obtain ⟨T, hT⟩ : ∃ T, mulQ a b c d = T := ⟨_, rfl⟩
  rw [hT]
  by_cases r1 : rightB a b = true
  · by_cases r2 : rightB c d = true
    · have B1 := rightB_bounds r1
      have B2 := rightB_bounds r2
      have m1 := mil_mul B1.1 B1.2.1 B2.1 B2.2.1
      have m2 := mil_mul (a := b) (b := d) (by omega) B1.2.2.2 (by omega) B2.2.2.2
      have HT := Lib.hid (show T = makeQ (a * c) (b * d) by rw [← hT]; unfold mulQ; rw [if_pos r1, if_pos r2])
      obtain ⟨p, hp⟩ : ∃ p, a * c = p := ⟨_, rfl⟩
      obtain ⟨q, hq⟩ : ∃ q, b * d = q := ⟨_, rfl⟩
      have e1 : IntKind.i64.wrap (a * c) = p := by rw [hp]; exact IntWalk.i64_in _ (by omega)
      have e2 : IntKind.i64.wrap (b * d) = q := by rw [hq]; exact IntWalk.i64_in _ (by omega)
      have HM := Lib.hid (fun W => frac_Make.calls p q W (by unfold inI; omega) (by unfold inI; omega))
      have HO := Lib.hid (fun W => frac_Mul1.calls a b c d W ⟨B1.1, B1.2.1⟩ ⟨by omega, B1.2.2.2⟩ ⟨B2.1, B2.2.1⟩ ⟨by omega, B2.2.2.2⟩)
      rw [hp, hq] at HO
      rw [hp, hq] at HT
      clear hT hp hq m1 m2
      try clear e0
      try clear e1
      try clear e2
      try clear e3
      try clear e4
      obtain ⟨t1, t2, t3⟩ := T
      have HSw0 := Lib.hid (Boxes.start w a b c d)
      have HBw0 := Lib.hid (show Below w.heap.size w (((w.alloc (.cells #[.int .i64 a, .int .i64 b] 42)).alloc (.cells #[.int .i64 c, .int .i64 d] 42)).alloc (.cells #[.int .i64 0, .int .i64 0] 42)) from (((Below.refl _ w).alloc (Nat.le_refl _) _).alloc (by simp) _).alloc (by simp; omega) _)
      go_enter Tryz.func88, Tryz.ntmps88
      go_wp2_with (first
        | (go_at_call_of 46 (Value.agg #[Value.int IntKind.i64 a, Value.int IntKind.i64 b]); refine (frac_Right.calls a b _ ha hb).mono ?_; rintro e w1 ⟨rfl, hb1⟩; have HSw1 := Lib.hid (HSw0.out.below hb1); have HBw1 := Lib.hid (HBw0.out.trans (hb1.mono HBw0.out.size)); obtain ⟨k0w1, k1w1, k2w1, k3w1, k4w1, k5w1, k6w1, k7w1, k8w1⟩ := HSw1.out.facts)
        | (go_at_call_of 46 (Value.agg #[Value.int IntKind.i64 c, Value.int IntKind.i64 d]); refine (frac_Right.calls c d _ hc hd).mono ?_; rintro e w2 ⟨rfl, hb2⟩; have HSw2 := Lib.hid (HSw1.out.below hb2); have HBw2 := Lib.hid (HBw1.out.trans (hb2.mono HBw1.out.size)); obtain ⟨k0w2, k1w2, k2w2, k3w2, k4w2, k5w2, k6w2, k7w2, k8w2⟩ := HSw2.out.facts)
        | (go_at_call 89; refine (HO.out _).mono ?_; rintro e w3 ⟨rfl, hb3⟩; have HSw3 := Lib.hid (HSw2.out.below hb3); have HBw3 := Lib.hid (HBw2.out.trans (hb3.mono HBw2.out.size)); obtain ⟨k0w3, k1w3, k2w3, k3w3, k4w3, k5w3, k6w3, k7w3, k8w3⟩ := HSw3.out.facts)
        | (go_at_call 114; refine (HM.out _).mono ?_; rintro e w4 ⟨rfl, hb4⟩; rw [← HT.out]; have HSw4 := Lib.hid ((HSw3.out.below ((Below.refl _ w3).alloc (Nat.le_refl _) _)).below hb4); have HBw4 := Lib.hid (HBw3.out.trans ((((Below.refl _ w3).alloc (Nat.le_refl _) _).trans (hb4.mono (by simp))).mono HBw3.out.size)); obtain ⟨k0w4, k1w4, k2w4, k3w4, k4w4, k5w4, k6w4, k7w4, k8w4⟩ := HSw4.out.facts))
      have hF := blk_set (blk_set HSw4.out.2.2 0 (.int .i64 t1)) 1 (.int .i64 t2)
      refine bodyPost_ret (v := .tuple #[.agg #[.int .i64 t1, .int .i64 t2], .int .i64 t3]) (by simp [results, Tryz.results88, go_sem, blk_cell hF 0, blk_cell hF 1]) rfl ⟨rfl, (HBw4.out.setCell (by simp; omega) _).setCell (by simp; omega) _⟩
    · have r2b : rightB c d = false := by simpa using r2
      have HT := Lib.hid (show T = (0, 0, 2) by rw [← hT]; unfold mulQ; rw [if_pos r1, if_neg r2])
      rw [HT.out]
      clear hT HT r2
      have HSw0 := Lib.hid (Boxes.start w a b c d)
      have HBw0 := Lib.hid (show Below w.heap.size w (((w.alloc (.cells #[.int .i64 a, .int .i64 b] 42)).alloc (.cells #[.int .i64 c, .int .i64 d] 42)).alloc (.cells #[.int .i64 0, .int .i64 0] 42)) from (((Below.refl _ w).alloc (Nat.le_refl _) _).alloc (by simp) _).alloc (by simp; omega) _)
      go_enter Tryz.func88, Tryz.ntmps88
      go_wp2_with (first
        | (go_at_call_of 46 (Value.agg #[Value.int IntKind.i64 a, Value.int IntKind.i64 b]); refine (frac_Right.calls a b _ ha hb).mono ?_; rintro e w1 ⟨rfl, hb1⟩; have HSw1 := Lib.hid (HSw0.out.below hb1); have HBw1 := Lib.hid (HBw0.out.trans (hb1.mono HBw0.out.size)); obtain ⟨k0w1, k1w1, k2w1, k3w1, k4w1, k5w1, k6w1, k7w1, k8w1⟩ := HSw1.out.facts)
        | (go_at_call_of 46 (Value.agg #[Value.int IntKind.i64 c, Value.int IntKind.i64 d]); refine (frac_Right.calls c d _ hc hd).mono ?_; rintro e w2 ⟨rfl, hb2⟩; have HSw2 := Lib.hid (HSw1.out.below hb2); have HBw2 := Lib.hid (HBw1.out.trans (hb2.mono HBw1.out.size)); obtain ⟨k0w2, k1w2, k2w2, k3w2, k4w2, k5w2, k6w2, k7w2, k8w2⟩ := HSw2.out.facts))
      have hF := blk_set (blk_set HSw2.out.2.2 0 (.int .i64 0)) 1 (.int .i64 0)
      refine bodyPost_ret (v := .tuple #[.agg #[.int .i64 0, .int .i64 0], .int .i64 2]) (by simp [results, Tryz.results88, go_sem, blk_cell hF 0, blk_cell hF 1]) rfl ⟨rfl, (HBw2.out.setCell (by simp; omega) _).setCell (by simp; omega) _⟩
  · have r1b : rightB a b = false := by simpa using r1
    have HT := Lib.hid (show T = (0, 0, 2) by rw [← hT]; unfold mulQ; rw [if_neg r1])
    rw [HT.out]
    clear hT HT r1
    have HSw0 := Lib.hid (Boxes.start w a b c d)
    have HBw0 := Lib.hid (show Below w.heap.size w (((w.alloc (.cells #[.int .i64 a, .int .i64 b] 42)).alloc (.cells #[.int .i64 c, .int .i64 d] 42)).alloc (.cells #[.int .i64 0, .int .i64 0] 42)) from (((Below.refl _ w).alloc (Nat.le_refl _) _).alloc (by simp) _).alloc (by simp; omega) _)
    go_enter Tryz.func88, Tryz.ntmps88
    go_wp2_with (first
      | (go_at_call_of 46 (Value.agg #[Value.int IntKind.i64 a, Value.int IntKind.i64 b]); refine (frac_Right.calls a b _ ha hb).mono ?_; rintro e w1 ⟨rfl, hb1⟩; have HSw1 := Lib.hid (HSw0.out.below hb1); have HBw1 := Lib.hid (HBw0.out.trans (hb1.mono HBw0.out.size)); obtain ⟨k0w1, k1w1, k2w1, k3w1, k4w1, k5w1, k6w1, k7w1, k8w1⟩ := HSw1.out.facts))
    have hF := blk_set (blk_set HSw1.out.2.2 0 (.int .i64 0)) 1 (.int .i64 0)
    refine bodyPost_ret (v := .tuple #[.agg #[.int .i64 0, .int .i64 0], .int .i64 2]) (by simp [results, Tryz.results88, go_sem, blk_cell hF 0, blk_cell hF 1]) rfl ⟨rfl, (HBw1.out.setCell (by simp; omega) _).setCell (by simp; omega) _⟩
set_option maxRecDepth 100000 in
set_option maxHeartbeats 4000000 in
theorem frac_Mul.calls (a b c d : Int) (w : World) (ha : inI a) (hb : inI b) (hc : inI c) (hd : inI d) :
    Calls Tryz.prog 65 #[.agg #[.int .i64 a, .int .i64 b], .agg #[.int .i64 c, .int .i64 d]] w fun e w' => e = .returned (.tuple #[.agg #[.int .i64 (mulQ a b c d).1, .int .i64 (mulQ a b c d).2.1], .int .i64 (mulQ a b c d).2.2]) ∧ Below w.heap.size w w' := by
  have HJ := Lib.hid (fun W => frac_joinMul.calls a b c d W ha hb hc hd)
  obtain ⟨T, hT⟩ : ∃ T, mulQ a b c d = T := ⟨_, rfl⟩
  rw [hT] at HJ ⊢
  clear hT
  obtain ⟨t1, t2, t3⟩ := T
  have HSw0 := Lib.hid (Boxes.start w a b c d)
  have HBw0 := Lib.hid (show Below w.heap.size w (((w.alloc (.cells #[.int .i64 a, .int .i64 b] 42)).alloc (.cells #[.int .i64 c, .int .i64 d] 42)).alloc (.cells #[.int .i64 0, .int .i64 0] 42)) from (((Below.refl _ w).alloc (Nat.le_refl _) _).alloc (by simp) _).alloc (by simp; omega) _)
  go_enter Tryz.func65, Tryz.ntmps65
  go_wp2_with (go_at_call 88; refine (HJ.out _).mono ?_; rintro e w1 ⟨rfl, hb1⟩; have HSw1 := Lib.hid (HSw0.out.below hb1); have HBw1 := Lib.hid (HBw0.out.trans (hb1.mono HBw0.out.size)); obtain ⟨k0w1, k1w1, k2w1, k3w1, k4w1, k5w1, k6w1, k7w1, k8w1⟩ := HSw1.out.facts)
  have hF := blk_set (blk_set HSw1.out.2.2 0 (.int .i64 t1)) 1 (.int .i64 t2)
  refine bodyPost_ret (v := .tuple #[.agg #[.int .i64 t1, .int .i64 t2], .int .i64 t3]) (by simp [results, Tryz.results65, go_sem, blk_cell hF 0, blk_cell hF 1]) rfl ⟨rfl, (HBw1.out.setCell (by simp; omega) _).setCell (by simp; omega) _⟩
set_option maxRecDepth 100000 in
set_option maxHeartbeats 4000000 in
theorem ref03_Mul.calls (a b c d : Int) (w : World) (ha : inI a) (hb : inI b) (hc : inI c) (hd : inI d) :
    Calls Tryz.prog 67 #[.agg #[.int .i64 a, .int .i64 b], .agg #[.int .i64 c, .int .i64 d]] w fun e w' => e = .returned (.tuple #[.agg #[.int .i64 (mulQ a b c d).1, .int .i64 (mulQ a b c d).2.1], .int .i64 (mulQ a b c d).2.2]) ∧ Below w.heap.size w w' := by
  obtain ⟨T, hT⟩ : ∃ T, mulQ a b c d = T := ⟨_, rfl⟩
  rw [hT]
  by_cases r1 : rightB a b = true
  · by_cases r2 : rightB c d = true
    · have B1 := rightB_bounds r1
      have B2 := rightB_bounds r2
      have m1 := mil_mul B1.1 B1.2.1 B2.1 B2.2.1
      have m2 := mil_mul (a := b) (b := d) (by omega) B1.2.2.2 (by omega) B2.2.2.2
      have HT := Lib.hid (show T = makeQ (a * c) (b * d) by rw [← hT]; unfold mulQ; rw [if_pos r1, if_pos r2])
      obtain ⟨p, hp⟩ : ∃ p, a * c = p := ⟨_, rfl⟩
      obtain ⟨q, hq⟩ : ∃ q, b * d = q := ⟨_, rfl⟩
      have e1 : IntKind.i64.wrap (a * c) = p := by rw [hp]; exact IntWalk.i64_in _ (by omega)
      have e2 : IntKind.i64.wrap (b * d) = q := by rw [hq]; exact IntWalk.i64_in _ (by omega)
      have HM := Lib.hid (fun W => ref03_Make.calls p q W (by unfold inI; omega) (by unfold inI; omega))
      rw [hp, hq] at HT
      clear hT hp hq m1 m2
      obtain ⟨t1, t2, t3⟩ := T
      have HSw0 := Lib.hid (Boxes.start w a b c d)
      have HBw0 := Lib.hid (show Below w.heap.size w (((w.alloc (.cells #[.int .i64 a, .int .i64 b] 42)).alloc (.cells #[.int .i64 c, .int .i64 d] 42)).alloc (.cells #[.int .i64 0, .int .i64 0] 42)) from (((Below.refl _ w).alloc (Nat.le_refl _) _).alloc (by simp) _).alloc (by simp; omega) _)
      go_enter Tryz.func67, Tryz.ntmps67
      go_wp2_with (first
        | (go_at_call_of 56 (Value.agg #[Value.int IntKind.i64 a, Value.int IntKind.i64 b]); refine (ref03_Right.calls a b _ ha hb).mono ?_; rintro e w1 ⟨rfl, hb1⟩; have HSw1 := Lib.hid (HSw0.out.below hb1); have HBw1 := Lib.hid (HBw0.out.trans (hb1.mono HBw0.out.size)); obtain ⟨k0w1, k1w1, k2w1, k3w1, k4w1, k5w1, k6w1, k7w1, k8w1⟩ := HSw1.out.facts)
        | (go_at_call_of 56 (Value.agg #[Value.int IntKind.i64 c, Value.int IntKind.i64 d]); refine (ref03_Right.calls c d _ hc hd).mono ?_; rintro e w2 ⟨rfl, hb2⟩; have HSw2 := Lib.hid (HSw1.out.below hb2); have HBw2 := Lib.hid (HBw1.out.trans (hb2.mono HBw1.out.size)); obtain ⟨k0w2, k1w2, k2w2, k3w2, k4w2, k5w2, k6w2, k7w2, k8w2⟩ := HSw2.out.facts)
        | (go_at_call 91; refine (HM.out _).mono ?_; rintro e w4 ⟨rfl, hb4⟩; rw [← HT.out]; have HSw4 := Lib.hid (HSw2.out.below hb4); have HBw4 := Lib.hid (HBw2.out.trans (hb4.mono HBw2.out.size)); obtain ⟨k0w4, k1w4, k2w4, k3w4, k4w4, k5w4, k6w4, k7w4, k8w4⟩ := HSw4.out.facts))
      have hF := blk_set (blk_set HSw4.out.2.2 0 (.int .i64 t1)) 1 (.int .i64 t2)
      refine bodyPost_ret (v := .tuple #[.agg #[.int .i64 t1, .int .i64 t2], .int .i64 t3]) (by simp [results, Tryz.results67, go_sem, blk_cell hF 0, blk_cell hF 1]) rfl ⟨rfl, (HBw4.out.setCell (by simp; omega) _).setCell (by simp; omega) _⟩
    · have r2b : rightB c d = false := by simpa using r2
      have HT := Lib.hid (show T = (0, 0, 2) by rw [← hT]; unfold mulQ; rw [if_pos r1, if_neg r2])
      rw [HT.out]
      clear hT HT r2
      have HSw0 := Lib.hid (Boxes.start w a b c d)
      have HBw0 := Lib.hid (show Below w.heap.size w (((w.alloc (.cells #[.int .i64 a, .int .i64 b] 42)).alloc (.cells #[.int .i64 c, .int .i64 d] 42)).alloc (.cells #[.int .i64 0, .int .i64 0] 42)) from (((Below.refl _ w).alloc (Nat.le_refl _) _).alloc (by simp) _).alloc (by simp; omega) _)
      go_enter Tryz.func67, Tryz.ntmps67
      go_wp2_with (first
        | (go_at_call_of 56 (Value.agg #[Value.int IntKind.i64 a, Value.int IntKind.i64 b]); refine (ref03_Right.calls a b _ ha hb).mono ?_; rintro e w1 ⟨rfl, hb1⟩; have HSw1 := Lib.hid (HSw0.out.below hb1); have HBw1 := Lib.hid (HBw0.out.trans (hb1.mono HBw0.out.size)); obtain ⟨k0w1, k1w1, k2w1, k3w1, k4w1, k5w1, k6w1, k7w1, k8w1⟩ := HSw1.out.facts)
        | (go_at_call_of 56 (Value.agg #[Value.int IntKind.i64 c, Value.int IntKind.i64 d]); refine (ref03_Right.calls c d _ hc hd).mono ?_; rintro e w2 ⟨rfl, hb2⟩; have HSw2 := Lib.hid (HSw1.out.below hb2); have HBw2 := Lib.hid (HBw1.out.trans (hb2.mono HBw1.out.size)); obtain ⟨k0w2, k1w2, k2w2, k3w2, k4w2, k5w2, k6w2, k7w2, k8w2⟩ := HSw2.out.facts))
      have hF := blk_set (blk_set HSw2.out.2.2 0 (.int .i64 0)) 1 (.int .i64 0)
      refine bodyPost_ret (v := .tuple #[.agg #[.int .i64 0, .int .i64 0], .int .i64 2]) (by simp [results, Tryz.results67, go_sem, blk_cell hF 0, blk_cell hF 1]) rfl ⟨rfl, (HBw2.out.setCell (by simp; omega) _).setCell (by simp; omega) _⟩
  · have r1b : rightB a b = false := by simpa using r1
    have HT := Lib.hid (show T = (0, 0, 2) by rw [← hT]; unfold mulQ; rw [if_neg r1])
    rw [HT.out]
    clear hT HT r1
    have HSw0 := Lib.hid (Boxes.start w a b c d)
    have HBw0 := Lib.hid (show Below w.heap.size w (((w.alloc (.cells #[.int .i64 a, .int .i64 b] 42)).alloc (.cells #[.int .i64 c, .int .i64 d] 42)).alloc (.cells #[.int .i64 0, .int .i64 0] 42)) from (((Below.refl _ w).alloc (Nat.le_refl _) _).alloc (by simp) _).alloc (by simp; omega) _)
    go_enter Tryz.func67, Tryz.ntmps67
    go_wp2_with (first
      | (go_at_call_of 56 (Value.agg #[Value.int IntKind.i64 a, Value.int IntKind.i64 b]); refine (ref03_Right.calls a b _ ha hb).mono ?_; rintro e w1 ⟨rfl, hb1⟩; have HSw1 := Lib.hid (HSw0.out.below hb1); have HBw1 := Lib.hid (HBw0.out.trans (hb1.mono HBw0.out.size)); obtain ⟨k0w1, k1w1, k2w1, k3w1, k4w1, k5w1, k6w1, k7w1, k8w1⟩ := HSw1.out.facts))
    have hF := blk_set (blk_set HSw1.out.2.2 0 (.int .i64 0)) 1 (.int .i64 0)
    refine bodyPost_ret (v := .tuple #[.agg #[.int .i64 0, .int .i64 0], .int .i64 2]) (by simp [results, Tryz.results67, go_sem, blk_cell hF 0, blk_cell hF 1]) rfl ⟨rfl, (HBw1.out.setCell (by simp; omega) _).setCell (by simp; omega) _⟩
set_option maxRecDepth 100000 in
set_option maxHeartbeats 4000000 in
theorem frac_joinAdd.calls (a b c d : Int) (w : World) (ha : inI a) (hb : inI b) (hc : inI c) (hd : inI d) :
    Calls Tryz.prog 88 #[.agg #[.int .i64 a, .int .i64 b], .agg #[.int .i64 c, .int .i64 d], .func (.func 90) #[] #[]] w fun e w' => e = .returned (.tuple #[.agg #[.int .i64 (addQ a b c d).1, .int .i64 (addQ a b c d).2.1], .int .i64 (addQ a b c d).2.2]) ∧ Below w.heap.size w w' := by
  obtain ⟨T, hT⟩ : ∃ T, addQ a b c d = T := ⟨_, rfl⟩
  rw [hT]
  by_cases r1 : rightB a b = true
  · by_cases r2 : rightB c d = true
    · have B1 := rightB_bounds r1
      have B2 := rightB_bounds r2
      have m1 := mil_mul B1.1 B1.2.1 (by omega) B2.2.2.2
      have m3 := mil_mul B2.1 B2.2.1 (by omega) B1.2.2.2
      have m2 := mil_mul (a := b) (b := d) (by omega) B1.2.2.2 (by omega) B2.2.2.2
      have HT := Lib.hid (show T = makeQ (a * d + c * b) (b * d) by rw [← hT]; unfold addQ; rw [if_pos r1, if_pos r2])
      obtain ⟨x, hx⟩ : ∃ x, a * d = x := ⟨_, rfl⟩
      obtain ⟨y, hy⟩ : ∃ y, c * b = y := ⟨_, rfl⟩
      obtain ⟨p, hp⟩ : ∃ p, x + y = p := ⟨_, rfl⟩
      obtain ⟨q, hq⟩ : ∃ q, b * d = q := ⟨_, rfl⟩
      have e0 : IntKind.i64.wrap (a * d) = x := by rw [hx]; exact IntWalk.i64_in _ (by omega)
      have e1 : IntKind.i64.wrap (c * b) = y := by rw [hy]; exact IntWalk.i64_in _ (by omega)
      rw [hx] at m1; rw [hy] at m3
      have e3 : IntKind.i64.wrap (x + y) = p := by rw [hp]; exact IntWalk.i64_in _ (by omega)
      have e4 : wrap64 (x + y) = p := by rw [hp]; exact IntWalk.wrap64_in _ (by omega)
      have e2 : IntKind.i64.wrap (b * d) = q := by rw [hq]; exact IntWalk.i64_in _ (by omega)
      have HM := Lib.hid (fun W => frac_Make.calls p q W (by unfold inI; omega) (by unfold inI; omega))
      have HO := Lib.hid (fun W => frac_Add1.calls a b c d W ⟨B1.1, B1.2.1⟩ ⟨by omega, B1.2.2.2⟩ ⟨B2.1, B2.2.1⟩ ⟨by omega, B2.2.2.2⟩)
      rw [hx, hy, hp, hq] at HO
      rw [hx, hy, hp, hq] at HT
      clear hT hp hq m1 m2 hx hy m3
      try clear e0
      try clear e1
      try clear e2
      try clear e3
      try clear e4
      obtain ⟨t1, t2, t3⟩ := T
      have HSw0 := Lib.hid (Boxes.start w a b c d)
      have HBw0 := Lib.hid (show Below w.heap.size w (((w.alloc (.cells #[.int .i64 a, .int .i64 b] 42)).alloc (.cells #[.int .i64 c, .int .i64 d] 42)).alloc (.cells #[.int .i64 0, .int .i64 0] 42)) from (((Below.refl _ w).alloc (Nat.le_refl _) _).alloc (by simp) _).alloc (by simp; omega) _)
      go_enter Tryz.func88, Tryz.ntmps88
      go_wp2_with (first
        | (go_at_call_of 46 (Value.agg #[Value.int IntKind.i64 a, Value.int IntKind.i64 b]); refine (frac_Right.calls a b _ ha hb).mono ?_; rintro e w1 ⟨rfl, hb1⟩; have HSw1 := Lib.hid (HSw0.out.below hb1); have HBw1 := Lib.hid (HBw0.out.trans (hb1.mono HBw0.out.size)); obtain ⟨k0w1, k1w1, k2w1, k3w1, k4w1, k5w1, k6w1, k7w1, k8w1⟩ := HSw1.out.facts)
        | (go_at_call_of 46 (Value.agg #[Value.int IntKind.i64 c, Value.int IntKind.i64 d]); refine (frac_Right.calls c d _ hc hd).mono ?_; rintro e w2 ⟨rfl, hb2⟩; have HSw2 := Lib.hid (HSw1.out.below hb2); have HBw2 := Lib.hid (HBw1.out.trans (hb2.mono HBw1.out.size)); obtain ⟨k0w2, k1w2, k2w2, k3w2, k4w2, k5w2, k6w2, k7w2, k8w2⟩ := HSw2.out.facts)
        | (go_at_call 90; refine (HO.out _).mono ?_; rintro e w3 ⟨rfl, hb3⟩; have HSw3 := Lib.hid (HSw2.out.below hb3); have HBw3 := Lib.hid (HBw2.out.trans (hb3.mono HBw2.out.size)); obtain ⟨k0w3, k1w3, k2w3, k3w3, k4w3, k5w3, k6w3, k7w3, k8w3⟩ := HSw3.out.facts)
        | (go_at_call 114; refine (HM.out _).mono ?_; rintro e w4 ⟨rfl, hb4⟩; rw [← HT.out]; have HSw4 := Lib.hid ((HSw3.out.below ((Below.refl _ w3).alloc (Nat.le_refl _) _)).below hb4); have HBw4 := Lib.hid (HBw3.out.trans ((((Below.refl _ w3).alloc (Nat.le_refl _) _).trans (hb4.mono (by simp))).mono HBw3.out.size)); obtain ⟨k0w4, k1w4, k2w4, k3w4, k4w4, k5w4, k6w4, k7w4, k8w4⟩ := HSw4.out.facts))
      have hF := blk_set (blk_set HSw4.out.2.2 0 (.int .i64 t1)) 1 (.int .i64 t2)
      refine bodyPost_ret (v := .tuple #[.agg #[.int .i64 t1, .int .i64 t2], .int .i64 t3]) (by simp [results, Tryz.results88, go_sem, blk_cell hF 0, blk_cell hF 1]) rfl ⟨rfl, (HBw4.out.setCell (by simp; omega) _).setCell (by simp; omega) _⟩
    · have r2b : rightB c d = false := by simpa using r2
      have HT := Lib.hid (show T = (0, 0, 2) by rw [← hT]; unfold addQ; rw [if_pos r1, if_neg r2])
      rw [HT.out]
      clear hT HT r2
      have HSw0 := Lib.hid (Boxes.start w a b c d)
      have HBw0 := Lib.hid (show Below w.heap.size w (((w.alloc (.cells #[.int .i64 a, .int .i64 b] 42)).alloc (.cells #[.int .i64 c, .int .i64 d] 42)).alloc (.cells #[.int .i64 0, .int .i64 0] 42)) from (((Below.refl _ w).alloc (Nat.le_refl _) _).alloc (by simp) _).alloc (by simp; omega) _)
      go_enter Tryz.func88, Tryz.ntmps88
      go_wp2_with (first
        | (go_at_call_of 46 (Value.agg #[Value.int IntKind.i64 a, Value.int IntKind.i64 b]); refine (frac_Right.calls a b _ ha hb).mono ?_; rintro e w1 ⟨rfl, hb1⟩; have HSw1 := Lib.hid (HSw0.out.below hb1); have HBw1 := Lib.hid (HBw0.out.trans (hb1.mono HBw0.out.size)); obtain ⟨k0w1, k1w1, k2w1, k3w1, k4w1, k5w1, k6w1, k7w1, k8w1⟩ := HSw1.out.facts)
        | (go_at_call_of 46 (Value.agg #[Value.int IntKind.i64 c, Value.int IntKind.i64 d]); refine (frac_Right.calls c d _ hc hd).mono ?_; rintro e w2 ⟨rfl, hb2⟩; have HSw2 := Lib.hid (HSw1.out.below hb2); have HBw2 := Lib.hid (HBw1.out.trans (hb2.mono HBw1.out.size)); obtain ⟨k0w2, k1w2, k2w2, k3w2, k4w2, k5w2, k6w2, k7w2, k8w2⟩ := HSw2.out.facts))
      have hF := blk_set (blk_set HSw2.out.2.2 0 (.int .i64 0)) 1 (.int .i64 0)
      refine bodyPost_ret (v := .tuple #[.agg #[.int .i64 0, .int .i64 0], .int .i64 2]) (by simp [results, Tryz.results88, go_sem, blk_cell hF 0, blk_cell hF 1]) rfl ⟨rfl, (HBw2.out.setCell (by simp; omega) _).setCell (by simp; omega) _⟩
  · have r1b : rightB a b = false := by simpa using r1
    have HT := Lib.hid (show T = (0, 0, 2) by rw [← hT]; unfold addQ; rw [if_neg r1])
    rw [HT.out]
    clear hT HT r1
    have HSw0 := Lib.hid (Boxes.start w a b c d)
    have HBw0 := Lib.hid (show Below w.heap.size w (((w.alloc (.cells #[.int .i64 a, .int .i64 b] 42)).alloc (.cells #[.int .i64 c, .int .i64 d] 42)).alloc (.cells #[.int .i64 0, .int .i64 0] 42)) from (((Below.refl _ w).alloc (Nat.le_refl _) _).alloc (by simp) _).alloc (by simp; omega) _)
    go_enter Tryz.func88, Tryz.ntmps88
    go_wp2_with (first
      | (go_at_call_of 46 (Value.agg #[Value.int IntKind.i64 a, Value.int IntKind.i64 b]); refine (frac_Right.calls a b _ ha hb).mono ?_; rintro e w1 ⟨rfl, hb1⟩; have HSw1 := Lib.hid (HSw0.out.below hb1); have HBw1 := Lib.hid (HBw0.out.trans (hb1.mono HBw0.out.size)); obtain ⟨k0w1, k1w1, k2w1, k3w1, k4w1, k5w1, k6w1, k7w1, k8w1⟩ := HSw1.out.facts))
    have hF := blk_set (blk_set HSw1.out.2.2 0 (.int .i64 0)) 1 (.int .i64 0)
    refine bodyPost_ret (v := .tuple #[.agg #[.int .i64 0, .int .i64 0], .int .i64 2]) (by simp [results, Tryz.results88, go_sem, blk_cell hF 0, blk_cell hF 1]) rfl ⟨rfl, (HBw1.out.setCell (by simp; omega) _).setCell (by simp; omega) _⟩
set_option maxRecDepth 100000 in
set_option maxHeartbeats 4000000 in
theorem frac_Add.calls (a b c d : Int) (w : World) (ha : inI a) (hb : inI b) (hc : inI c) (hd : inI d) :
    Calls Tryz.prog 66 #[.agg #[.int .i64 a, .int .i64 b], .agg #[.int .i64 c, .int .i64 d]] w fun e w' => e = .returned (.tuple #[.agg #[.int .i64 (addQ a b c d).1, .int .i64 (addQ a b c d).2.1], .int .i64 (addQ a b c d).2.2]) ∧ Below w.heap.size w w' := by
  have HJ := Lib.hid (fun W => frac_joinAdd.calls a b c d W ha hb hc hd)
  obtain ⟨T, hT⟩ : ∃ T, addQ a b c d = T := ⟨_, rfl⟩
  rw [hT] at HJ ⊢
  clear hT
  obtain ⟨t1, t2, t3⟩ := T
  have HSw0 := Lib.hid (Boxes.start w a b c d)
  have HBw0 := Lib.hid (show Below w.heap.size w (((w.alloc (.cells #[.int .i64 a, .int .i64 b] 42)).alloc (.cells #[.int .i64 c, .int .i64 d] 42)).alloc (.cells #[.int .i64 0, .int .i64 0] 42)) from (((Below.refl _ w).alloc (Nat.le_refl _) _).alloc (by simp) _).alloc (by simp; omega) _)
  go_enter Tryz.func66, Tryz.ntmps66
  go_wp2_with (go_at_call 88; refine (HJ.out _).mono ?_; rintro e w1 ⟨rfl, hb1⟩; have HSw1 := Lib.hid (HSw0.out.below hb1); have HBw1 := Lib.hid (HBw0.out.trans (hb1.mono HBw0.out.size)); obtain ⟨k0w1, k1w1, k2w1, k3w1, k4w1, k5w1, k6w1, k7w1, k8w1⟩ := HSw1.out.facts)
  have hF := blk_set (blk_set HSw1.out.2.2 0 (.int .i64 t1)) 1 (.int .i64 t2)
  refine bodyPost_ret (v := .tuple #[.agg #[.int .i64 t1, .int .i64 t2], .int .i64 t3]) (by simp [results, Tryz.results66, go_sem, blk_cell hF 0, blk_cell hF 1]) rfl ⟨rfl, (HBw1.out.setCell (by simp; omega) _).setCell (by simp; omega) _⟩
set_option maxRecDepth 100000 in
set_option maxHeartbeats 4000000 in
theorem ref03_Add.calls (a b c d : Int) (w : World) (ha : inI a) (hb : inI b) (hc : inI c) (hd : inI d) :
    Calls Tryz.prog 68 #[.agg #[.int .i64 a, .int .i64 b], .agg #[.int .i64 c, .int .i64 d]] w fun e w' => e = .returned (.tuple #[.agg #[.int .i64 (addQ a b c d).1, .int .i64 (addQ a b c d).2.1], .int .i64 (addQ a b c d).2.2]) ∧ Below w.heap.size w w' := by
  obtain ⟨T, hT⟩ : ∃ T, addQ a b c d = T := ⟨_, rfl⟩
  rw [hT]
  by_cases r1 : rightB a b = true
  · by_cases r2 : rightB c d = true
    · have B1 := rightB_bounds r1
      have B2 := rightB_bounds r2
      have m1 := mil_mul B1.1 B1.2.1 (by omega) B2.2.2.2
      have m3 := mil_mul B2.1 B2.2.1 (by omega) B1.2.2.2
      have m2 := mil_mul (a := b) (b := d) (by omega) B1.2.2.2 (by omega) B2.2.2.2
      have HT := Lib.hid (show T = makeQ (a * d + c * b) (b * d) by rw [← hT]; unfold addQ; rw [if_pos r1, if_pos r2])
      obtain ⟨x, hx⟩ : ∃ x, a * d = x := ⟨_, rfl⟩
      obtain ⟨y, hy⟩ : ∃ y, c * b = y := ⟨_, rfl⟩
      obtain ⟨p, hp⟩ : ∃ p, x + y = p := ⟨_, rfl⟩
      obtain ⟨q, hq⟩ : ∃ q, b * d = q := ⟨_, rfl⟩
      have e0 : IntKind.i64.wrap (a * d) = x := by rw [hx]; exact IntWalk.i64_in _ (by omega)
      have e1 : IntKind.i64.wrap (c * b) = y := by rw [hy]; exact IntWalk.i64_in _ (by omega)
      rw [hx] at m1; rw [hy] at m3
      have e3 : IntKind.i64.wrap (x + y) = p := by rw [hp]; exact IntWalk.i64_in _ (by omega)
      have e4 : wrap64 (x + y) = p := by rw [hp]; exact IntWalk.wrap64_in _ (by omega)
      have e2 : IntKind.i64.wrap (b * d) = q := by rw [hq]; exact IntWalk.i64_in _ (by omega)
      have HM := Lib.hid (fun W => ref03_Make.calls p q W (by unfold inI; omega) (by unfold inI; omega))
      rw [hx, hy, hp, hq] at HT
      clear hT hp hq m1 m2 hx hy m3
      obtain ⟨t1, t2, t3⟩ := T
      have HSw0 := Lib.hid (Boxes.start w a b c d)
      have HBw0 := Lib.hid (show Below w.heap.size w (((w.alloc (.cells #[.int .i64 a, .int .i64 b] 42)).alloc (.cells #[.int .i64 c, .int .i64 d] 42)).alloc (.cells #[.int .i64 0, .int .i64 0] 42)) from (((Below.refl _ w).alloc (Nat.le_refl _) _).alloc (by simp) _).alloc (by simp; omega) _)
      go_enter Tryz.func68, Tryz.ntmps68
      go_wp2_with (first
        | (go_at_call_of 56 (Value.agg #[Value.int IntKind.i64 a, Value.int IntKind.i64 b]); refine (ref03_Right.calls a b _ ha hb).mono ?_; rintro e w1 ⟨rfl, hb1⟩; have HSw1 := Lib.hid (HSw0.out.below hb1); have HBw1 := Lib.hid (HBw0.out.trans (hb1.mono HBw0.out.size)); obtain ⟨k0w1, k1w1, k2w1, k3w1, k4w1, k5w1, k6w1, k7w1, k8w1⟩ := HSw1.out.facts)
        | (go_at_call_of 56 (Value.agg #[Value.int IntKind.i64 c, Value.int IntKind.i64 d]); refine (ref03_Right.calls c d _ hc hd).mono ?_; rintro e w2 ⟨rfl, hb2⟩; have HSw2 := Lib.hid (HSw1.out.below hb2); have HBw2 := Lib.hid (HBw1.out.trans (hb2.mono HBw1.out.size)); obtain ⟨k0w2, k1w2, k2w2, k3w2, k4w2, k5w2, k6w2, k7w2, k8w2⟩ := HSw2.out.facts)
        | (go_at_call 91; refine (HM.out _).mono ?_; rintro e w4 ⟨rfl, hb4⟩; rw [← HT.out]; have HSw4 := Lib.hid (HSw2.out.below hb4); have HBw4 := Lib.hid (HBw2.out.trans (hb4.mono HBw2.out.size)); obtain ⟨k0w4, k1w4, k2w4, k3w4, k4w4, k5w4, k6w4, k7w4, k8w4⟩ := HSw4.out.facts))
      have hF := blk_set (blk_set HSw4.out.2.2 0 (.int .i64 t1)) 1 (.int .i64 t2)
      refine bodyPost_ret (v := .tuple #[.agg #[.int .i64 t1, .int .i64 t2], .int .i64 t3]) (by simp [results, Tryz.results68, go_sem, blk_cell hF 0, blk_cell hF 1]) rfl ⟨rfl, (HBw4.out.setCell (by simp; omega) _).setCell (by simp; omega) _⟩
    · have r2b : rightB c d = false := by simpa using r2
      have HT := Lib.hid (show T = (0, 0, 2) by rw [← hT]; unfold addQ; rw [if_pos r1, if_neg r2])
      rw [HT.out]
      clear hT HT r2
      have HSw0 := Lib.hid (Boxes.start w a b c d)
      have HBw0 := Lib.hid (show Below w.heap.size w (((w.alloc (.cells #[.int .i64 a, .int .i64 b] 42)).alloc (.cells #[.int .i64 c, .int .i64 d] 42)).alloc (.cells #[.int .i64 0, .int .i64 0] 42)) from (((Below.refl _ w).alloc (Nat.le_refl _) _).alloc (by simp) _).alloc (by simp; omega) _)
      go_enter Tryz.func68, Tryz.ntmps68
      go_wp2_with (first
        | (go_at_call_of 56 (Value.agg #[Value.int IntKind.i64 a, Value.int IntKind.i64 b]); refine (ref03_Right.calls a b _ ha hb).mono ?_; rintro e w1 ⟨rfl, hb1⟩; have HSw1 := Lib.hid (HSw0.out.below hb1); have HBw1 := Lib.hid (HBw0.out.trans (hb1.mono HBw0.out.size)); obtain ⟨k0w1, k1w1, k2w1, k3w1, k4w1, k5w1, k6w1, k7w1, k8w1⟩ := HSw1.out.facts)
        | (go_at_call_of 56 (Value.agg #[Value.int IntKind.i64 c, Value.int IntKind.i64 d]); refine (ref03_Right.calls c d _ hc hd).mono ?_; rintro e w2 ⟨rfl, hb2⟩; have HSw2 := Lib.hid (HSw1.out.below hb2); have HBw2 := Lib.hid (HBw1.out.trans (hb2.mono HBw1.out.size)); obtain ⟨k0w2, k1w2, k2w2, k3w2, k4w2, k5w2, k6w2, k7w2, k8w2⟩ := HSw2.out.facts))
      have hF := blk_set (blk_set HSw2.out.2.2 0 (.int .i64 0)) 1 (.int .i64 0)
      refine bodyPost_ret (v := .tuple #[.agg #[.int .i64 0, .int .i64 0], .int .i64 2]) (by simp [results, Tryz.results68, go_sem, blk_cell hF 0, blk_cell hF 1]) rfl ⟨rfl, (HBw2.out.setCell (by simp; omega) _).setCell (by simp; omega) _⟩
  · have r1b : rightB a b = false := by simpa using r1
    have HT := Lib.hid (show T = (0, 0, 2) by rw [← hT]; unfold addQ; rw [if_neg r1])
    rw [HT.out]
    clear hT HT r1
    have HSw0 := Lib.hid (Boxes.start w a b c d)
    have HBw0 := Lib.hid (show Below w.heap.size w (((w.alloc (.cells #[.int .i64 a, .int .i64 b] 42)).alloc (.cells #[.int .i64 c, .int .i64 d] 42)).alloc (.cells #[.int .i64 0, .int .i64 0] 42)) from (((Below.refl _ w).alloc (Nat.le_refl _) _).alloc (by simp) _).alloc (by simp; omega) _)
    go_enter Tryz.func68, Tryz.ntmps68
    go_wp2_with (first
      | (go_at_call_of 56 (Value.agg #[Value.int IntKind.i64 a, Value.int IntKind.i64 b]); refine (ref03_Right.calls a b _ ha hb).mono ?_; rintro e w1 ⟨rfl, hb1⟩; have HSw1 := Lib.hid (HSw0.out.below hb1); have HBw1 := Lib.hid (HBw0.out.trans (hb1.mono HBw0.out.size)); obtain ⟨k0w1, k1w1, k2w1, k3w1, k4w1, k5w1, k6w1, k7w1, k8w1⟩ := HSw1.out.facts))
    have hF := blk_set (blk_set HSw1.out.2.2 0 (.int .i64 0)) 1 (.int .i64 0)
    refine bodyPost_ret (v := .tuple #[.agg #[.int .i64 0, .int .i64 0], .int .i64 2]) (by simp [results, Tryz.results68, go_sem, blk_cell hF 0, blk_cell hF 1]) rfl ⟨rfl, (HBw1.out.setCell (by simp; omega) _).setCell (by simp; omega) _⟩
end Go.Proofs.YtikdiepcfdimgaaGreatDoor
namespace Go.Proofs.YtikdiepcfdimgaaGreatDoor.POw
open Go.RowKit Go.Lib Go.Proofs.YtikdiepcfdimgaaGreatDoorW.PrintWords Go.Proofs.YtikdiepcfdimgaaGreatDoorW.PrintLast
theorem gcdI_nn_ (a b : Int) : 0 ≤ gcdI a b := by unfold gcdI; omega
theorem inI_of_mil {n : Int} (h : -1000000 ≤ n ∧ n ≤ 1000000) : inI n := by unfold inI; omega
theorem inI0 : inI 0 := by unfold inI; omega
theorem makeQ_inI (n d : Int) : inI (makeQ n d).1 ∧ inI (makeQ n d).2.1 := by
  have z := inI0
  have hq0 : 0 ≤ quoI n d := Int.ediv_nonneg (absI_nn n) (gcdI_nn_ _ _)
  have hq1 : 0 ≤ absI d / gcdI (absI n) (absI d) := Int.ediv_nonneg (absI_nn d) (gcdI_nn_ _ _)
  unfold makeQ
  obtain ⟨Q, hQ⟩ : ∃ Q, quoI n d = Q := ⟨_, rfl⟩
  obtain ⟨D, hD⟩ : ∃ D, absI d / gcdI (absI n) (absI d) = D := ⟨_, rfl⟩
  rw [hQ] at hq0 ⊢
  rw [hD] at hq1 ⊢
  by_cases h0 : d = 0
  · rw [if_pos h0]; exact ⟨z, z⟩
  · rw [if_neg h0]
    by_cases h1 : 1000000 < Q
    · rw [if_pos h1]; exact ⟨z, z⟩
    · rw [if_neg h1]
      by_cases h2 : 1000000 < D
      · rw [if_pos h2]; exact ⟨z, z⟩
      · rw [if_neg h2]
        refine ⟨?_, show inI D from inI_of_mil ⟨by omega, by omega⟩⟩
        simp only
        split
        · exact inI_of_mil ⟨by omega, by omega⟩
        · exact inI_of_mil ⟨by omega, by omega⟩
theorem mulQ_inI (a b c d : Int) : inI (mulQ a b c d).1 ∧ inI (mulQ a b c d).2.1 := by
  have z : inI 0 := by unfold inI; omega
  unfold mulQ
  split
  · split
    · exact makeQ_inI _ _
    · exact ⟨z, z⟩
  · exact ⟨z, z⟩
theorem addQ_inI (a b c d : Int) : inI (addQ a b c d).1 ∧ inI (addQ a b c d).2.1 := by
  have z : inI 0 := by unfold inI; omega
  unfold addQ
  split
  · split
    · exact makeQ_inI _ _
    · exact ⟨z, z⟩
  · exact ⟨z, z⟩
abbrev Dn := ByteArray → Option Frc
def putD (d : Dn) (x : ByteArray) (f : Frc) : Dn := fun y => if y = x then some f else d y
def effE (s : Gr) (day : Int) (p : ByteArray → Bool) (rec : ByteArray → Dn → Option ((Int × Int × Int) × Dn)) (x : ByteArray) : List ByteArray → Frc → Dn → Option ((Int × Int × Int) × Dn)
  | [], f, d => some ((f.f0, f.f1, 0), putD d x f)
  | o :: os, f, d => if p o = true then (if (shareL (s.shL (o, x)) day).f0 = 0 then effE s day p rec x os f d else (rec o d).bind fun r => if r.1.2.2 = 0 then
      (if (mulQ (shareL (s.shL (o, x)) day).f0 (shareL (s.shL (o, x)) day).f1 r.1.1 r.1.2.1).2.2 = 0 then
        (if (addQ f.f0 f.f1 (mulQ (shareL (s.shL (o, x)) day).f0 (shareL (s.shL (o, x)) day).f1 r.1.1 r.1.2.1).1 (mulQ (shareL (s.shL (o, x)) day).f0 (shareL (s.shL (o, x)) day).f1 r.1.1 r.1.2.1).2.1).2.2 = 0 then
          effE s day p rec x os ⟨(addQ f.f0 f.f1 (mulQ (shareL (s.shL (o, x)) day).f0 (shareL (s.shL (o, x)) day).f1 r.1.1 r.1.2.1).1 (mulQ (shareL (s.shL (o, x)) day).f0 (shareL (s.shL (o, x)) day).f1 r.1.1 r.1.2.1).2.1).1, (addQ f.f0 f.f1 (mulQ (shareL (s.shL (o, x)) day).f0 (shareL (s.shL (o, x)) day).f1 r.1.1 r.1.2.1).1 (mulQ (shareL (s.shL (o, x)) day).f0 (shareL (s.shL (o, x)) day).f1 r.1.1 r.1.2.1).2.1).2.1⟩ r.2
        else some ((0, 0, (addQ f.f0 f.f1 (mulQ (shareL (s.shL (o, x)) day).f0 (shareL (s.shL (o, x)) day).f1 r.1.1 r.1.2.1).1 (mulQ (shareL (s.shL (o, x)) day).f0 (shareL (s.shL (o, x)) day).f1 r.1.1 r.1.2.1).2.1).2.2), r.2))
      else some ((0, 0, (mulQ (shareL (s.shL (o, x)) day).f0 (shareL (s.shL (o, x)) day).f1 r.1.1 r.1.2.1).2.2), r.2))
      else some ((0, 0, r.1.2.2), r.2)) else effE s day p rec x os f d
def effF (s : Gr) (day : Int) (p : ByteArray → Bool) : Nat → ByteArray → Dn → Option ((Int × Int × Int) × Dn)
  | 0, _, _ => none
  | n + 1, x, d => match d x with
    | some f => some ((f.f0, f.f1, 0), d)
    | none => effE s day p (effF s day p n) x (s.owL x) ⟨0, 1⟩ d
def frcV (f : Frc) : Value := .agg #[.int .i64 f.f0, .int .i64 f.f1]
def DoneAt (w : World) (md : Nat) (d : Dn) : Prop := MapAt Tryz.prog 9 encS w md (fun x => (d x).map frcV) ∧ ∀ y f, d y = some f → inI f.f0 ∧ inI f.f1
structure EffAt (w : World) (ze g mb md : Nat) (day : Int) (p : ByteArray → Bool) (d : Dn) : Prop where
  blk : w.heap[ze]? = some (.cells #[.pointer (some ⟨g, 0, none⟩), .int .i64 day, .map (some mb), .map (some md)] 82 (0, 0))
  set : SetAt w mb p
  don : DoneAt w md d
  n1 : mb ≠ md
  n2 : ze ≠ md
section
variable {w W : World} {ze g mb md : Nat} {day : Int} {p : ByteArray → Bool} {d d' : Dn}
theorem EffAt.lt (h : EffAt w ze g mb md day p d) : ze < w.heap.size ∧ mb < w.heap.size ∧ md < w.heap.size := ⟨(Array.getElem?_eq_some_iff.1 h.blk).1, h.set.lt, h.don.1.lt⟩
theorem EffAt.of_blocks (h : EffAt w ze g mb md day p d) (h1 : W.heap[ze]? = w.heap[ze]?) (h2 : W.heap[mb]? = w.heap[mb]?) (h3 : W.heap[md]? = w.heap[md]?) : EffAt W ze g mb md day p d :=
  ⟨h1.trans h.blk, h.set.of_block h2, ⟨h.don.1.of_block h3, h.don.2⟩, h.n1, h.n2⟩
theorem EffAt.below (h : EffAt w ze g mb md day p d) (hb : Below w.heap.size w W) : EffAt W ze g mb md day p d :=
  h.of_blocks (hb.block _ h.lt.1) (hb.block _ h.lt.2.1) (hb.block _ h.lt.2.2)
theorem EffAt.grown (h : EffAt w ze g mb md day p d) (hg : w.grownBy W (some md)) (hd : DoneAt W md d') : EffAt W ze g mb md day p d' :=
  ⟨(hg.block _ h.lt.1 (by simpa using h.n2)).trans h.blk, h.set.of_block (hg.block _ h.lt.2.1 (by simpa using h.n1)), hd, h.n1, h.n2⟩
theorem EffAt.facts (h : EffAt w ze g mb md day p d) : w.cell? ⟨ze, 0, none⟩ = some (.pointer (some ⟨g, 0, none⟩)) ∧ w.cell? ⟨ze, 1, none⟩ = some (.int .i64 day) ∧ w.cell? ⟨ze, 2, none⟩ = some (.map (some mb)) ∧ w.cell? ⟨ze, 3, none⟩ = some (.map (some md)) :=
  ⟨blk_cell h.blk 0, blk_cell h.blk 1, blk_cell h.blk 2, blk_cell h.blk 3⟩
theorem DoneAt.look (h : DoneAt w md d) (x : ByteArray) (hx : x.size ≤ 1000) : (Instr.lookup 80 (.map (some md)) (.string x) true).run Tryz.prog w = .ok (.tuple #[((d x).map frcV).getD (.agg #[.int .i64 0, .int .i64 0]), .bool (d x).isSome]) w := by
  obtain ⟨kl, hkl⟩ := key_s hx
  have := h.1.lookup str_keyed encS_inj Tryz.underlying80 (z := .agg #[.int .i64 0, .int .i64 0]) (by kernel_rfl) true x hkl
  rw [if_pos rfl] at this
  have e1 : encS x = .string x := rfl
  rw [e1] at this
  rw [this]
  cases d x <;> rfl
theorem DoneAt.put (h : DoneAt w md d) (x : ByteArray) (hx : x.size ≤ 1000) (f : Frc) (h0 : inI f.f0) (h1 : inI f.f1) :
    ∃ o, (Instr.mapUpdate 80 (.map (some md)) (.string x) (.agg #[.int .i64 f.f0, .int .i64 f.f1])).run Tryz.prog w = .ok () (ChangeMaps.setBlock w md o) ∧ DoneAt (ChangeMaps.setBlock w md o) md (putD d x f) := by
  obtain ⟨kl, hkl⟩ := key_s hx
  obtain ⟨o, ho, hm⟩ := h.1.store str_keyed encS_inj Tryz.underlying80 x (.agg #[.int .i64 f.f0, .int .i64 f.f1]) hkl
  refine ⟨o, ho, ?_, ?_⟩
  · have e : (fun y => (putD d x f y).map frcV) = putM (fun y => (d y).map frcV) x (.agg #[.int .i64 f.f0, .int .i64 f.f1]) := by
      funext y
      unfold putD putM
      by_cases hy : y = x
      · simp [hy, frcV]
      · simp [hy]
    rw [e]; exact hm
  · intro y f' hy
    unfold putD at hy
    by_cases e : y = x
    · rw [if_pos e] at hy; cases hy; exact ⟨h0, h1⟩
    · rw [if_neg e] at hy; exact h.2 y f' hy
theorem grown_below_ {B : Nat} (h : Below B w W) (hB : w.heap.size ≤ B) (row : Option Nat) : w.grownBy W row := ⟨h.os, h.tape, h.output, h.size, fun k hk _ => h.block k (by omega)⟩
theorem grown_trans_ {a b c : World} {row : Option Nat} (h1 : a.grownBy b row) (h2 : b.grownBy c row) : a.grownBy c row :=
  ⟨h2.os.trans h1.os, h2.tape.trans h1.tape, h2.output.trans h1.output, Nat.le_trans h1.size h2.size, fun k hk hne => (h2.block k (Nat.lt_of_lt_of_le hk h1.size) hne).trans (h1.block k hk hne)⟩
theorem FrcAt.grown {z : Nat} {f : Frc} (h : FrcAt w z f) (hg : w.grownBy W (some md)) (hne : z ≠ md) : FrcAt W z f := (hg.block z (Array.getElem?_eq_some_iff.1 h).1 (by simpa using hne)).trans h
theorem EffAt.setAt {z i : Nat} (h : EffAt w ze g mb md day p d) (hz1 : ze ≠ z) (hz2 : mb ≠ z) (hz3 : md ≠ z) (v : Value) : EffAt (w.setCell ⟨z, i, none⟩ v) ze g mb md day p d :=
  h.of_blocks (Below.heap_setCell _ _ _ _ (by simpa using hz1)) (Below.heap_setCell _ _ _ _ (by simpa using hz2)) (Below.heap_setCell _ _ _ _ (by simpa using hz3))
theorem grown_at_ {a b : World} {row : Option Nat} (h : a.grownBy b row) {z i : Nat} (hz : a.heap.size ≤ z) (v : Value) : a.grownBy (b.setCell ⟨z, i, none⟩ v) row :=
  ⟨h.os, h.tape, h.output, by simpa [World.setCell] using h.size, fun k hk hne => (Below.heap_setCell _ _ _ _ (by simp; omega)).trans (h.block k hk hne)⟩
end
section
variable {w0 : World} {B g m1 m2 : Nat} {V : Pr → Value} {U : ByteArray → Value} {vE vC : Value} {s : Gr}
set_option maxRecDepth 100000 in
set_option maxHeartbeats 8000000 in
theorem go_of (hG : GrAt w0 B g m1 m2 V U vE vC s) (ok : GrOk s) (hsI : ∀ k (day : Int), inI (shareL (s.shL k) day).f0 ∧ inI (shareL (s.shL k) day).f1) (day : Int) (p : ByteArray → Bool) (ze mb md : Nat) (hmd : w0.heap.size ≤ md) :
    ∀ (n : Nat) (x : ByteArray) (d : Dn) (w : World) (r : Int × Int × Int) (d' : Dn), Below w0.heap.size w0 w → EffAt w ze g mb md day p d → x.size ≤ 1000 → effF s day p n x d = some (r, d') →
    Calls Tryz.prog 43 #[.pointer (some ⟨ze, 0, none⟩), .string x] w fun e w' => e = .returned (.tuple #[.agg #[.int .i64 r.1, .int .i64 r.2.1], .int .i64 r.2.2]) ∧ (DoneAt w' md d' ∧ inI r.1 ∧ inI r.2.1) ∧ w.grownBy w' (some md) := by
  intro n
  induction n with
  | zero => intro x d w r d' _ _ _ h; simp [effF] at h
  | succ nf ih =>
    intro x d w r d' hw0 hE hx hF
    obtain ⟨A, c, hown, hlook⟩ := hG.look_ow x hx
    obtain ⟨l, hle⟩ : ∃ l, s.owL x = l := ⟨_, rfl⟩
    have hlc := slice_room (hle ▸ hown)
    have hll : l.length ≤ 1000 := hle ▸ ok.owl x
    have hshare : ∀ W, Below w0.heap.size w0 W → ∀ o ∈ l, Calls Tryz.prog 26 #[.pointer (some ⟨g, 0, none⟩), .string o, .string x, .int .i64 day] W fun e w' => e = .returned (.agg #[.int .i64 (shareL (s.shL (o, x)) day).f0, .int .i64 (shareL (s.shL (o, x)) day).f1]) ∧ Below W.heap.size W w' :=
      fun W hW o ho => go_Share (hG.below hW) o x day (ok.ows x o (hle ▸ ho)) hx (by have := ok.shl (o, x); omega)
    obtain ⟨sh, hsh⟩ : ∃ sh, (fun o => shareL (s.shL (o, x)) day) = sh := ⟨_, rfl⟩
    have hsh1 : ∀ o, shareL (s.shL (o, x)) day = sh o := fun o => by rw [← hsh]
    simp only [hsh1] at hshare
    have hshI : ∀ o, inI (sh o).f0 ∧ inI (sh o).f1 := fun o => by rw [← hsh1]; exact hsI _ _
    have hos : ∀ o ∈ l, o.size ≤ 1000 := fun o ho => ok.ows x o (hle ▸ ho)
    have hg := Nat.lt_of_lt_of_le hG.lt hw0.size
    have hgc := fun (W : World) (hW : Below w0.heap.size w0 W) => (hG.below hW).facts.2.1
    simp only [effF] at hF
    rw [hle] at hF hown hlook
    have HOWN := Lib.hid hown; have HLOOK := Lib.hid hlook; have HSHARE := Lib.hid hshare; have HOS := Lib.hid hos; have HGC := Lib.hid hgc
    have HSI := Lib.hid hshI; have HSH := Lib.hid hsh1; have HW0 := Lib.hid hw0; have HE := Lib.hid hE; have IH := Lib.hid ih; have HX := Lib.hid hx
    clear hown hlook hshare hos hgc hw0 hE ih ok hG hle hsI hsh hsh1 hshI
    obtain ⟨ke0, ke1, ke2, ke3⟩ := HE.out.facts
    have hlk := HE.out.don.look x hx
    obtain ⟨hz1, hz2, hz3⟩ := HE.out.lt
    have hb1 : Below w.heap.size w (w.alloc (.cells #[.int .i64 0, .int .i64 0] 42)) := (Below.refl _ _).alloc (Nat.le_refl _) _
    have hlk1 := (HE.out.below hb1).don.look x hx
    cases hdx : d x with
    | some f =>
      rw [hdx] at hF hlk hlk1
      simp only [Option.some.injEq, Prod.mk.injEq] at hF
      obtain ⟨rfl, rfl⟩ := hF
      have hfi := HE.out.don.2 x f hdx
      simp only [Option.map_some, Option.getD_some, Option.isSome_some, frcV] at hlk hlk1
      clear hdx hx
      go_enter Tryz.func43, Tryz.ntmps43
      go_wp2
      have hF := (Go.MapKept.heap_alloc w (.cells #[.int .i64 f.f0, .int .i64 f.f1] 42)).1
      have hF2 := ((Below.refl _ (w.alloc (.cells #[.int .i64 f.f0, .int .i64 f.f1] 42))).alloc (Nat.le_refl _) (.cells #[.int .i64 f.f0, .int .i64 f.f1] 42)).block w.heap.size (by simp) |>.trans hF
      have hbe : Below w.heap.size w ((w.alloc (.cells #[.int .i64 f.f0, .int .i64 f.f1] 42)).alloc (.cells #[.int .i64 f.f0, .int .i64 f.f1] 42)) := ((Below.refl _ _).alloc (Nat.le_refl _) _).alloc (by simp) _
      refine bodyPost_ret (v := .tuple #[.agg #[.int .i64 f.f0, .int .i64 f.f1], .int .i64 0]) (by simp [results, Tryz.results43, go_sem, blk_cell hF2 0, blk_cell hF2 1]) rfl ⟨rfl, ⟨(HE.out.below hbe).don, hfi⟩, grown_below_ hbe (Nat.le_refl _) _⟩
    | none =>
      rw [hdx] at hF hlk hlk1
      simp only at hF
      have HF := Lib.hid hF
      simp only [Option.map_none, Option.getD_none, Option.isSome_none] at hlk hlk1
      clear hdx hx hF
      go_enter Tryz.func43, Tryz.ntmps43
      go_upto_region 4 with fail
      have hfr1 := (FrcAt.made w ⟨0, 0⟩).below ((Below.refl _ _).alloc (Nat.le_refl _) (.cells #[.int .i64 0, .int .i64 0] 42))
      have hbw1 : Below w.heap.size w ((w.alloc (.cells #[.int .i64 0, .int .i64 0] 42)).alloc (.cells #[.int .i64 0, .int .i64 0] 42)) := hb1.alloc (by simp) _
      obtain ⟨w1, hw1⟩ : ∃ W, (w.alloc (.cells #[.int .i64 0, .int .i64 0] 42)).alloc (.cells #[.int .i64 0, .int .i64 0] 42) = W := ⟨_, rfl⟩
      obtain ⟨z4, hz4⟩ : ∃ z, w.heap.size = z := ⟨_, rfl⟩
      simp only at hfr1
      rw [hw1, hz4] at hfr1
      rw [hw1] at hbw1 ⊢
      have HZ4 := Lib.hid hz4
      rw [hz4]
      clear hw1 hlk hlk1 hb1 ke0 ke1 ke2 ke3
      obtain ⟨q4a, q4b, q4c, q4d, q4l⟩ := hfr1.facts
      go_upto_region 5 with fail
      have hfr2 := hfr1.set 0 1
      have hbw2 : Below w.heap.size w ((w1.setCell ⟨z4, 0, none⟩ (.int .i64 0)).setCell ⟨z4, 1, none⟩ (.int .i64 1)) := (hbw1.setCell (by simp; omega) _).setCell (by simp; omega) _
      obtain ⟨w2, hw2⟩ : ∃ W, (w1.setCell ⟨z4, 0, none⟩ (.int .i64 0)).setCell ⟨z4, 1, none⟩ (.int .i64 1) = W := ⟨_, rfl⟩
      rw [hw2] at hfr2 hbw2 ⊢
      clear hw2 q4a q4b q4c q4d q4l hfr1 hbw1 hz4
      have hB02 : Below w0.heap.size w0 w2 := HW0.out.trans (hbw2.mono HW0.out.size)
      have hl1 := HLOOK.out w2 hB02
      have hg1 := HGC.out w2 hB02
      have hE2 := HE.out.below hbw2
      obtain ⟨ke0, ke1, ke2, ke3⟩ := hE2.facts
      have hg2 := Nat.lt_of_lt_of_le hg hbw2.size
      have HE2 := Lib.hid hE2; have HFR2 := Lib.hid hfr2; have HBW2 := Lib.hid hbw2
      clear hE2 hfr2 hbw2 hB02
      go_wp2
      clear hl1 hg1 ke0 ke1 ke2 ke3
      go_loopg [36, 5, 9, 10, 11, 12, 13] l.length (fun n t36 t5 t9 t10 t11 t12 t13 wr => ∃ (k : Nat) (f : Frc) (d1 : Dn), n = l.length - k ∧ k ≤ l.length ∧ t36 = .int .i64 k ∧ Hid (w.grownBy wr (some md)) ∧ Hid (EffAt wr ze g mb md day p d1) ∧ Hid (FrcAt wr z4 f) ∧ Hid (inI f.f0 ∧ inI f.f1) ∧
        Hid (effE s day p (effF s day p nf) x (l.drop k) f d1 = some (r, d')))
      case atStart => exact ⟨0, ⟨0, 1⟩, d, rfl, Nat.zero_le _, rfl, Lib.hid (grown_below_ HBW2.out (Nat.le_refl _) _), HE2, HFR2, Lib.hid ⟨by unfold inI; simp, by unfold inI; simp⟩, by rw [List.drop_zero]; exact HF⟩
      case round =>
        obtain ⟨k, f, d1, rfl, hk, rfl, HGR, HEr, HFR, HFI, HR⟩ := hrel
        have hB0r : Below w0.heap.size w0 wr := below_grown HW0.out HGR.out (fun g e => by cases e; exact hmd) HW0.out.size
        obtain ⟨ke0, ke1, ke2, ke3⟩ := HEr.out.facts
        have hzl := HEr.out.lt
        by_cases hlt : k < l.length
        · obtain ⟨gb, rfl, hgb, q0⟩ := own_str_at (pw_own_below HOWN.out hB0r) k hlt
          obtain ⟨o, ho⟩ : ∃ o, l[k] = o := ⟨_, rfl⟩
          have hom : o ∈ l := ho ▸ List.getElem_mem hlt
          have hR := HR.out
          rw [List.drop_eq_getElem_cons hlt, ho] at hR
          rw [ho] at q0
          clear ho
          have hki : (k : Int) < (l.length : Int) := by omega
          simp only [effE, HSH.out] at hR
          have HR0 := Lib.hid hR
          have HW0R := Lib.hid hB0r
          clear hR hB0r HR
          have hoz := HOS.out o hom
          go_upto_region 8 with fail
          have k0 := ke0
          have k1 := ke1
          have hzeW := hzl.1
          have bl_ : Below wr.heap.size wr wr.drew := (Below.refl _ wr).drew
          clear ke0 ke1 ke2 ke3 q0
          refine start_ (n := 13) (S := fun w' => w'.cell? ⟨ze, 0, none⟩ = some (.pointer (some ⟨g, 0, none⟩)) ∧ w'.cell? ⟨ze, 1, none⟩ = some (.int .i64 day)) (ds := [12]) #[false, false, false, false, false, false, false, false, false, false, false, false, false] (by kernel_rfl) rfl rfl ⟨(bl_.cell (p := ⟨ze, 0, none⟩) hzeW).trans k0, (bl_.cell (p := ⟨ze, 1, none⟩) hzeW).trans k1⟩ (fun hHeld => ?_)
          refine pure_ (i := 0) (N := some 40) (v := ?_) (a' := ?_) #[true, false, false, false, false, false, false, false, false, false, false, false, false] rfl rfl (by kernel_rfl) (fun _ _ _ h => h) (Or.inl ⟨by rfl, ?_⟩) ?_ ?_
          rotate_left
          · intro w'
            go_simp
            with_reducible rfl
          rotate_left
          · simp only [Act.put, pkA, pkZ, pkS, i64_w, i32_w]
            rfl
          refine pure_ (i := 1) (N := some 41) (v := ?_) (a' := ?_) #[true, true, false, false, false, false, false, false, false, false, false, false, false] rfl rfl (by kernel_rfl) (fun _ _ _ h => h) (Or.inl ⟨by rfl, ?_⟩) ?_ ?_
          rotate_left
          · intro w'
            go_simp
            with_reducible rfl
          rotate_left
          · simp only [Act.put, pkA, pkZ, pkS, i64_w, i32_w]
            rfl
          refine pure_ (i := 2) (N := some 42) (v := ?_) (a' := ?_) #[true, true, true, false, false, false, false, false, false, false, false, false, false] rfl rfl (by kernel_rfl) (fun _ _ _ h => h) (Or.inl ⟨by rfl, ?_⟩) ?_ ?_
          rotate_left
          · intro w'
            go_simp
            with_reducible rfl
          rotate_left
          · simp only [Act.put, pkA, pkZ, pkS, i64_w, i32_w]
            rfl
          refine pure_ (i := 4) (N := some 44) (v := ?_) (a' := ?_) #[true, true, true, false, true, false, false, false, false, false, false, false, false] rfl rfl (by kernel_rfl) (fun _ _ _ h => h) (Or.inl ⟨by rfl, ?_⟩) ?_ ?_
          rotate_left
          · intro w'
            go_simp
            with_reducible rfl
          rotate_left
          · simp only [Act.put, pkA, pkZ, pkS, i64_w, i32_w]
            rfl
          refine pure_ (i := 5) (N := some 45) (v := ?_) (a' := ?_) #[true, true, true, false, true, true, false, false, false, false, false, false, false] rfl rfl (by kernel_rfl) (fun _ _ _ h => h) (Or.inl ⟨by rfl, ?_⟩) ?_ ?_
          rotate_left
          · intro w'
            go_simp
            with_reducible rfl
          rotate_left
          · simp only [Act.put, pkA, pkZ, pkS, i64_w, i32_w]
            rfl
          refine pure_ (i := 6) (N := some 46) (v := ?_) (a' := ?_) #[true, true, true, false, true, true, true, false, false, false, false, false, false] rfl rfl (by kernel_rfl) (fun _ _ _ h => h) (Or.inl ⟨by rfl, ?_⟩) ?_ ?_
          rotate_left
          · intro w'
            go_simp
            with_reducible rfl
          rotate_left
          · simp only [Act.put, pkA, pkZ, pkS, i64_w, i32_w]
            rfl
          refine pure_ (i := 7) (N := some 47) (v := ?_) (a' := ?_) #[true, true, true, false, true, true, true, true, false, false, false, false, false] rfl rfl (by kernel_rfl) (fun _ _ _ h => h) (Or.inl ⟨by rfl, ?_⟩) ?_ ?_
          rotate_left
          · intro w'
            go_simp
            with_reducible rfl
          rotate_left
          · simp only [Act.put, pkA, pkZ, pkS, i64_w, i32_w]
            rfl
          refine pure_ (i := 8) (N := some 48) (v := ?_) (a' := ?_) #[true, true, true, false, true, true, true, true, true, false, false, false, false] rfl rfl (by kernel_rfl) (fun _ _ _ h => h) (Or.inl ⟨by rfl, ?_⟩) ?_ ?_
          rotate_left
          · intro w'
            go_simp
            with_reducible rfl
          rotate_left
          · simp only [Act.put, pkA, pkZ, pkS, i64_w, i32_w]
            rfl
          refine take_ (i := 3) (N := some 43) (v := ?_) (a' := ?_) #[true, true, true, true, true, true, true, true, true, false, false, false, false] rfl rfl (by kernel_rfl) (fun _ _ _ h => h) (Or.inl ⟨by rfl, ?_⟩) hHeld ?_ ?_
          rotate_left
          · rintro w' ⟨s0, s1⟩
            go_simp
            with_reducible rfl
          rotate_left
          · simp only [Act.put, pkA, pkZ, pkS, i64_w, i32_w]
            rfl
          refine take_ (i := 9) (N := some 49) (v := ?_) (a' := ?_) #[true, true, true, true, true, true, true, true, true, true, false, false, false] rfl rfl (by kernel_rfl) (fun _ _ _ h => h) (Or.inl ⟨by rfl, ?_⟩) hHeld ?_ ?_
          rotate_left
          · rintro w' ⟨s0, s1⟩
            go_simp
            with_reducible rfl
          rotate_left
          · simp only [Act.put, pkA, pkZ, pkS, i64_w, i32_w]
            rfl
          refine join_ (σ := Nat) 1 #[true, true, true, true, true, true, true, true, true, true, true, true, false] (fun q => [(50, .agg #[.int .i64 (sh o).f0, .int .i64 (sh o).f1]), (10, .pointer (some ⟨q, 0, none⟩))]) (fun q w' => Below wr.heap.size wr w' ∧ FrcAt w' q ⟨0, 0⟩ ∧ wr.heap.size ≤ q) ?_ ?_
          rotate_left
          · intro hCont
            refine two_ (i := 10) (j := 11) (Ni := some 50) (Nj := some 10) #[true, true, true, true, true, true, true, true, true, true, true, false, false] #[true, true, true, true, true, true, true, true, true, true, false, true, false] rfl rfl rfl rfl (by kernel_rfl) (by decide) (by decide) (fun K hK => ?_) (fun K hK => ?_)
            · skip
              refine goes_ Tryz.func26 (by kernel_rfl) rfl #[.pointer (some ⟨g, 0, none⟩), .string o, .string x, .int .i64 day] (by rfl) rfl rfl (by simp only [List.map_toArray, List.map_cons, List.map_nil]; rfl) ?_
              refine (HSHARE.out _ (HW0R.out.trans (bl_.mono HW0R.out.size)) o hom).mono ?_
              rintro e w5 ⟨rfl, hb5⟩
              refine ⟨_, rfl, ?_⟩
              have bl10_ := bl_.trans (hb5.mono bl_.size)
              refine hK.out _ _ ⟨(bl10_.cell (p := ⟨ze, 0, none⟩) hzeW).trans k0, (bl10_.cell (p := ⟨ze, 1, none⟩) hzeW).trans k1⟩ (fun hHeld => ?_)
              clear hK K
              refine norm_ (a' := ?_) ?_ ?_
              rotate_left
              · show Act.put _ (some 50) _ = _
                simp only [Act.put, pkA, pkZ, pkS, i64_w, i32_w]
                rfl
              refine one_ (i := 11) (N := some 10) #[true, true, true, true, true, true, true, true, true, true, true, true, false] rfl rfl (by kernel_rfl) (by decide) (fun K hK => ?_)
              refine value_ (w1 := ?_) (v := ?_) (by rfl) rfl ?_ ?_
              rotate_left 2
              · go_simp
                constructor
                · rfl
                · rfl
              have bl10_11_ := bl10_.alloc bl10_.size (.cells #[.int .i64 0, .int .i64 0] 42)
              refine hK.out _ _ ⟨(bl10_11_.cell (p := ⟨ze, 0, none⟩) hzeW).trans k0, (bl10_11_.cell (p := ⟨ze, 1, none⟩) hzeW).trans k1⟩ (fun hHeld => ?_)
              clear hK K
              refine norm_ (a' := ?_) ?_ ?_
              rotate_left
              · show Act.put _ (some 10) _ = _
                simp only [Act.put, pkA, pkZ, pkS, i64_w, i32_w]
                rfl
              exact norm_ (by simp only [putAll, Act.put, pkA, pkZ, pkS]) (hCont w5.heap.size _ ⟨bl10_11_, FrcAt.made w5 ⟨0, 0⟩, bl10_.size⟩)
            · skip
              refine value_ (w1 := ?_) (v := ?_) (by rfl) rfl ?_ ?_
              rotate_left 2
              · go_simp
                constructor
                · rfl
                · rfl
              have bl11_ := bl_.alloc bl_.size (.cells #[.int .i64 0, .int .i64 0] 42)
              refine hK.out _ _ ⟨(bl11_.cell (p := ⟨ze, 0, none⟩) hzeW).trans k0, (bl11_.cell (p := ⟨ze, 1, none⟩) hzeW).trans k1⟩ (fun hHeld => ?_)
              clear hK K
              refine norm_ (a' := ?_) ?_ ?_
              rotate_left
              · show Act.put _ (some 10) _ = _
                simp only [Act.put, pkA, pkZ, pkS, i64_w, i32_w]
                rfl
              refine one_ (i := 10) (N := some 50) #[true, true, true, true, true, true, true, true, true, true, true, true, false] rfl rfl (by kernel_rfl) (by decide) (fun K hK => ?_)
              refine goes_ Tryz.func26 (by kernel_rfl) rfl #[.pointer (some ⟨g, 0, none⟩), .string o, .string x, .int .i64 day] (by rfl) rfl rfl (by simp only [List.map_toArray, List.map_cons, List.map_nil]; rfl) ?_
              refine (HSHARE.out _ (HW0R.out.trans (bl11_.mono HW0R.out.size)) o hom).mono ?_
              rintro e w5 ⟨rfl, hb5⟩
              refine ⟨_, rfl, ?_⟩
              have bl11_10_ := bl11_.trans (hb5.mono bl11_.size)
              refine hK.out _ _ ⟨(bl11_10_.cell (p := ⟨ze, 0, none⟩) hzeW).trans k0, (bl11_10_.cell (p := ⟨ze, 1, none⟩) hzeW).trans k1⟩ (fun hHeld => ?_)
              clear hK K
              refine norm_ (a' := ?_) ?_ ?_
              rotate_left
              · show Act.put _ (some 50) _ = _
                simp only [Act.put, pkA, pkZ, pkS, i64_w, i32_w]
                rfl
              exact norm_ (by simp only [putAll, Act.put, pkA, pkZ, pkS]) (hCont wr.heap.size _ ⟨bl11_10_, (FrcAt.made wr.drew ⟨0, 0⟩).below hb5, Nat.le_refl _⟩)
          rintro z10 wj ⟨blj, frj, hzj⟩
          have hHeld := And.intro ((blj.cell (p := ⟨ze, 0, none⟩) hzeW).trans k0) ((blj.cell (p := ⟨ze, 1, none⟩) hzeW).trans k1)
          obtain ⟨k10a, k10b, k10c, k10d, k10l⟩ := frj.facts
          refine norm_ (a' := ?_) ?_ ?_
          rotate_left
          · simp only [putAll, Act.put, pkA, pkZ, pkS]
            rfl
          refine last_ (i := 12) (N := none) #[true, true, true, true, true, true, true, true, true, true, true, true, true] rfl rfl (by kernel_rfl) (by decide) (fun K hK => ?_)
          refine skip_ (w1 := ?_) (by rfl) rfl ?_ ?_
          rotate_left
          · go_simp
            rfl
          refine hK.out _ _ ?_
          clear hK K
          refine done_ (by kernel_rfl) ?_
          have fr7 := frj.set (sh o).f0 (sh o).f1
          have bl7 : Below wr.heap.size wr ((wj.setCell ⟨z10, 0, none⟩ (.int .i64 (sh o).f0)).setCell ⟨z10, 1, none⟩ (.int .i64 (sh o).f1)) := (blj.setCell (by simp; omega) _).setCell (by simp; omega) _
          obtain ⟨w7, hw7⟩ : ∃ W, (wj.setCell ⟨z10, 0, none⟩ (.int .i64 (sh o).f0)).setCell ⟨z10, 1, none⟩ (.int .i64 (sh o).f1) = W := ⟨_, rfl⟩
          rw [hw7] at fr7 bl7 ⊢
          clear hw7 k10a k10b k10c k10d k10l hHeld frj blj k0 k1 bl_ hzeW
          have hE7 := HEr.out.below bl7
          have hF7 := HFR.out.below bl7
          have hg7 : w.grownBy w7 (some md) := grown_trans_ HGR.out (grown_below_ bl7 (Nat.le_refl _) _)
          have hW7 := HW0R.out.trans (bl7.mono HW0R.out.size)
          obtain ⟨ke0, ke1, ke2, ke3⟩ := hE7.facts
          have hlk7 := hE7.set.look o hoz
          have hz10m : z10 ≠ md := by omega
          obtain ⟨k10a, k10b, k10c, k10d, k10l⟩ := fr7.facts
          have hz7 := hE7.lt
          have HE7 := Lib.hid hE7; have HF7 := Lib.hid hF7; have HG7 := Lib.hid hg7; have HW7 := Lib.hid hW7; have HFR10 := Lib.hid fr7
          clear hE7 hF7 hg7 hW7 fr7 bl7 hzj
          by_cases hp : p o = true
          · have hR := HR0.out
            rw [if_pos hp] at hR
            rw [hp] at hlk7
            clear hp
            by_cases hs0 : (sh o).f0 = 0
            · rw [if_pos hs0] at hR
              have HR2 := Lib.hid hR
              rw [hs0] at k10a
              clear hR hs0
              go_wp2
              go_roundg (l.length - (k + 1))
              case measure => omega
              case rel => exact ⟨k + 1, f, d1, rfl, by omega, by go_num, HG7, HE7, HF7, HFI, HR2⟩
            · rw [if_neg hs0] at hR
              have hs0b : ((sh o).f0 == 0) = false := by simpa using hs0
              obtain ⟨⟨⟨a, b, e⟩, d2⟩, hr1, hR⟩ := Option.bind_eq_some_iff.1 hR
              simp only at hR
              have hcall := IH.out o d1 w7 (a, b, e) d2 HW7.out HE7.out hoz hr1
              simp only at hcall
              have HCALL := Lib.hid hcall
              have HR1 := Lib.hid hR
              clear hr1 hcall hR hs0
              go_upto_region 11 with (go_at_call 43; refine HCALL.out.mono ?_; rintro e_ w8 ⟨rfl, ⟨hd8, ha, hb⟩, hg8⟩)
              have hE8 := HE7.out.grown hg8 hd8
              have hz4m : z4 ≠ md := by have := HZ4.out; omega
              have hF8 := HF7.out.grown hg8 hz4m
              have hT8 := HFR10.out.grown hg8 hz10m
              have hg8w := grown_trans_ HG7.out hg8
              have hba := (Below.refl _ w8).alloc (Nat.le_refl _) (.cells #[.int .i64 a, .int .i64 b] 42)
              have hA9 := FrcAt.made w8 ⟨a, b⟩
              have hE9 := hE8.below hba
              have hF9 := hF8.below hba
              have hT9 := hT8.below hba
              have hg9 := grown_trans_ hg8w (grown_below_ hba (Nat.le_refl _) (some md))
              obtain ⟨w9, hw9⟩ : ∃ W, w8.alloc (.cells #[.int .i64 a, .int .i64 b] 42) = W := ⟨_, rfl⟩
              obtain ⟨z11, hz11⟩ : ∃ z, w8.heap.size = z := ⟨_, rfl⟩
              simp only at hA9
              rw [hw9] at hA9 hE9 hF9 hT9 hg9 ⊢
              rw [hz11] at hA9 ⊢
              clear hw9 hz11 hba hE8 hF8 hT8 hg8w hg8 hd8 k10a k10b k10c k10d k10l ke0 ke1 ke2 ke3 hlk7
              have hne : ze ≠ z4 ∧ mb ≠ z4 ∧ md ≠ z4 := by have := HZ4.out; omega
              obtain ⟨k4a, k4b, k4c, k4d, k4l⟩ := hF9.facts
              by_cases he0 : e = 0
              · subst he0
                have hR := HR1.out
                rw [if_pos rfl] at hR
                obtain ⟨k10a, k10b, k10c, k10d, k10l⟩ := hT9.facts
                obtain ⟨k11a, k11b, k11c, k11d, k11l⟩ := hA9.facts
                have hmul := fun W => frac_Mul.calls (sh o).f0 (sh o).f1 a b W (HSI.out o).1 (HSI.out o).2 ha hb
                have hmi := mulQ_inI (sh o).f0 (sh o).f1 a b
                obtain ⟨Q, hQ⟩ : ∃ Q, mulQ (sh o).f0 (sh o).f1 a b = Q := ⟨_, rfl⟩
                obtain ⟨qa, qb, qe⟩ := Q
                simp only [hQ] at hR hmul hmi
                have HMUL := Lib.hid hmul; have HR3 := Lib.hid hR
                have HE9 := Lib.hid hE9; have HF9 := Lib.hid hF9; have HG9 := Lib.hid hg9
                clear hmul hQ hR HR1 hE9 hF9 hg9 hT9 hA9
                go_upto_region 14 with (go_at_call 65; refine (HMUL.out _).mono ?_; rintro e_ w10 ⟨rfl, hb10⟩)
                have hE10 := HE9.out.below hb10
                have hF10 := HF9.out.below hb10
                have hg10 := grown_trans_ HG9.out (grown_below_ hb10 (Nat.le_refl _) (some md))
                have hba := (Below.refl _ w10).alloc (Nat.le_refl _) (.cells #[.int .i64 qa, .int .i64 qb] 42)
                have hA11 := FrcAt.made w10 ⟨qa, qb⟩
                have hE11 := hE10.below hba
                have hF11 := hF10.below hba
                have hg11 := grown_trans_ hg10 (grown_below_ hba (Nat.le_refl _) (some md))
                obtain ⟨w11, hw11⟩ : ∃ W, w10.alloc (.cells #[.int .i64 qa, .int .i64 qb] 42) = W := ⟨_, rfl⟩
                obtain ⟨z13, hz13⟩ : ∃ z, w10.heap.size = z := ⟨_, rfl⟩
                simp only at hA11
                rw [hw11] at hA11 hE11 hF11 hg11 ⊢
                rw [hz13] at hA11 ⊢
                clear hw11 hz13 hba hE10 hF10 hg10 k10a k10b k10c k10d k10l k11a k11b k11c k11d k11l k4a k4b k4c k4d k4l
                obtain ⟨k4a, k4b, k4c, k4d, k4l⟩ := hF11.facts
                by_cases hq0 : qe = 0
                · subst hq0
                  have hR := HR3.out
                  rw [if_pos rfl] at hR
                  obtain ⟨k13a, k13b, k13c, k13d, k13l⟩ := hA11.facts
                  have hadd := fun W => frac_Add.calls f.f0 f.f1 qa qb W HFI.out.1 HFI.out.2 hmi.1 hmi.2
                  have hai := addQ_inI f.f0 f.f1 qa qb
                  obtain ⟨T, hT⟩ : ∃ T, addQ f.f0 f.f1 qa qb = T := ⟨_, rfl⟩
                  obtain ⟨ta, tb, te⟩ := T
                  simp only [hT] at hR hadd hai
                  have HADD := Lib.hid hadd; have HR5 := Lib.hid hR; have HAI := Lib.hid hai
                  have HE11 := Lib.hid hE11; have HF11 := Lib.hid hF11; have HG11 := Lib.hid hg11
                  clear hadd hT hR HR3 hE11 hF11 hg11 hA11 hai
                  go_upto_region 17 with (go_at_call 66; refine (HADD.out _).mono ?_; rintro e_ w12 ⟨rfl, hb12⟩; have hE12 := HE11.out.below hb12; have hF12 := HF11.out.below hb12; have hg12 := grown_trans_ HG11.out (grown_below_ hb12 (Nat.le_refl _) (some md)); obtain ⟨j4a, j4b, j4c, j4d, j4l⟩ := hF12.facts; have HE12 := Lib.hid hE12; have HF12 := Lib.hid hF12; have HG12 := Lib.hid hg12; clear hE12 hF12 hg12)
                  have hE13 := (HE12.out.setAt (i := 0) hne.1 hne.2.1 hne.2.2 (.int .i64 ta)).setAt (i := 1) hne.1 hne.2.1 hne.2.2 (.int .i64 tb)
                  have hF13 := HF12.out.set ta tb
                  have hg13 := grown_at_ (grown_at_ HG12.out (z := z4) (i := 0) (by have := HZ4.out; omega) (.int .i64 ta)) (z := z4) (i := 1) (by have := HZ4.out; omega) (.int .i64 tb)
                  obtain ⟨w13, hw13⟩ : ∃ W, (w12.setCell ⟨z4, 0, none⟩ (.int .i64 ta)).setCell ⟨z4, 1, none⟩ (.int .i64 tb) = W := ⟨_, rfl⟩
                  rw [hw13] at hE13 hF13 hg13 ⊢
                  clear hw13 k4a k4b k4c k4d k4l j4a j4b j4c j4d j4l k13a k13b k13c k13d k13l
                  by_cases ht0 : te = 0
                  · subst ht0
                    have hR := HR5.out
                    rw [if_pos rfl] at hR
                    have HR6 := Lib.hid hR
                    have HE13 := Lib.hid hE13; have HF13 := Lib.hid hF13; have HG13 := Lib.hid hg13
                    clear hR HR5 hE13 hF13 hg13
                    go_wp2
                    go_roundg (l.length - (k + 1))
                    case measure => omega
                    case rel => exact ⟨k + 1, ⟨ta, tb⟩, d2, rfl, by omega, by go_num, HG13, HE13, HF13, HAI, HR6⟩
                  · have hR := HR5.out
                    rw [if_neg ht0] at hR
                    have ht0b : (te == 0) = false := by simpa using ht0
                    simp only [Option.some.injEq, Prod.mk.injEq] at hR
                    obtain ⟨rfl, rfl⟩ := hR
                    obtain ⟨j4a, j4b, j4c, j4d, j4l⟩ := hF13.facts
                    have HE13 := Lib.hid hE13; have HF13 := Lib.hid hF13; have HG13 := Lib.hid hg13
                    clear hE13 hF13 hg13
                    clear HR5 ht0
                    go_wp2
                    have hFF := HF13.out.set 0 0
                    refine bodyPost_ret (v := .tuple #[.agg #[.int .i64 0, .int .i64 0], .int .i64 te]) (by simp [results, Tryz.results43, go_sem, hFF.facts.1, hFF.facts.2.1]) rfl ⟨rfl, ⟨((HE13.out.setAt (i := 0) hne.1 hne.2.1 hne.2.2 _).setAt (i := 1) hne.1 hne.2.1 hne.2.2 _).don, inI0⟩, grown_at_ (grown_at_ HG13.out (by have := HZ4.out; omega) _) (by have := HZ4.out; omega) _⟩
                · have hR := HR3.out
                  rw [if_neg hq0] at hR
                  have hq0b : (qe == 0) = false := by simpa using hq0
                  simp only [Option.some.injEq, Prod.mk.injEq] at hR
                  obtain ⟨rfl, rfl⟩ := hR
                  have HE11 := Lib.hid hE11; have HF11 := Lib.hid hF11; have HG11 := Lib.hid hg11
                  clear hE11 hF11 hg11 hA11
                  clear HR3 hq0
                  go_wp2
                  have hFF := HF11.out.set 0 0
                  refine bodyPost_ret (v := .tuple #[.agg #[.int .i64 0, .int .i64 0], .int .i64 qe]) (by simp [results, Tryz.results43, go_sem, hFF.facts.1, hFF.facts.2.1]) rfl ⟨rfl, ⟨((HE11.out.setAt (i := 0) hne.1 hne.2.1 hne.2.2 _).setAt (i := 1) hne.1 hne.2.1 hne.2.2 _).don, inI0⟩, grown_at_ (grown_at_ HG11.out (by have := HZ4.out; omega) _) (by have := HZ4.out; omega) _⟩
              · have hR := HR1.out
                rw [if_neg he0] at hR
                have he0b : (e == 0) = false := by simpa using he0
                simp only [Option.some.injEq, Prod.mk.injEq] at hR
                obtain ⟨rfl, rfl⟩ := hR
                have HE9 := Lib.hid hE9; have HF9 := Lib.hid hF9; have HG9 := Lib.hid hg9
                clear hE9 hF9 hg9 hT9 hA9 HR1 he0
                go_wp2
                have hFF := HF9.out.set 0 0
                refine bodyPost_ret (v := .tuple #[.agg #[.int .i64 0, .int .i64 0], .int .i64 e]) (by simp [results, Tryz.results43, go_sem, hFF.facts.1, hFF.facts.2.1]) rfl ⟨rfl, ⟨((HE9.out.setAt (i := 0) hne.1 hne.2.1 hne.2.2 _).setAt (i := 1) hne.1 hne.2.1 hne.2.2 _).don, inI0⟩, grown_at_ (grown_at_ HG9.out (by have := HZ4.out; omega) _) (by have := HZ4.out; omega) _⟩
          · have hR := HR0.out
            have hpf : p o = false := by simpa using hp
            rw [if_neg hp] at hR
            rw [hpf] at hlk7
            have HR2 := Lib.hid hR
            clear hR hp hpf
            go_wp2
            go_roundg (l.length - (k + 1))
            case measure => omega
            case rel => exact ⟨k + 1, f, d1, rfl, by omega, by go_num, HG7, HE7, HF7, HFI, HR2⟩
        · have hkl : k = l.length := by omega
          subst hkl
          have hR := HR.out
          rw [List.drop_length] at hR
          simp only [effE, Option.some.injEq, Prod.mk.injEq] at hR
          obtain ⟨rfl, rfl⟩ := hR
          obtain ⟨k4a, k4b, k4c, k4d, k4l⟩ := HFR.out.facts
          clear HR
          go_upto_region 20 with fail
          have hEd := HEr.out.below (Below.refl _ wr).drew
          obtain ⟨ob, hob, hd2⟩ := hEd.don.put x HX.out f HFI.out.1 HFI.out.2
          have j0 : wr.drew.cell? ⟨ze, 3, none⟩ = some (.map (some md)) := hEd.facts.2.2.2
          have j1 : wr.drew.cell? ⟨z4, 0, none⟩ = some (.int .i64 f.f0) := k4a
          have j2 : wr.drew.cell? ⟨z4, 1, none⟩ = some (.int .i64 f.f1) := k4b
          have hfr := HFR.out.below (Below.refl _ wr).drew
          have hgd : w.grownBy wr.drew (some md) := grown_trans_ HGR.out (grown_below_ (Below.refl _ wr).drew (Nat.le_refl _) _)
          have hgs : w.grownBy (ChangeMaps.setBlock wr.drew md ob) (some md) := ⟨hgd.os, hgd.tape, hgd.output, by rw [setBlock_size]; exact hgd.size, fun k hk hne => (setBlock_heap _ _ _ _ (fun e => hne (by rw [e]))).trans (hgd.block k hk hne)⟩
          have hz4m : z4 ≠ md := by have := HZ4.out; omega
          have hfs : FrcAt (ChangeMaps.setBlock wr.drew md ob) z4 f := (setBlock_heap _ _ _ _ hz4m).trans hfr
          have HEND := Lib.hid (And.intro hd2 hgs); have HFS := Lib.hid hfs; have HFI2 := Lib.hid HFI.out
          clear hEd hd2 hfr hgd hgs hfs k4a k4b k4c k4d ke0 ke1 ke2 ke3
          refine start_ (n := 7) (S := fun w' => w'.cell? ⟨ze, 3, none⟩ = some (.map (some md)) ∧ w'.cell? ⟨z4, 0, none⟩ = some (.int .i64 f.f0) ∧ w'.cell? ⟨z4, 1, none⟩ = some (.int .i64 f.f1)) (ds := [6]) #[false, false, false, false, false, false, false] (by kernel_rfl) rfl rfl ⟨j0, j1, j2⟩ (fun hHeld => ?_)
          refine pure_ (i := 0) (N := some 94) (v := ?_) (a' := ?_) #[true, false, false, false, false, false, false] rfl rfl (by kernel_rfl) (fun _ _ _ h => h) (Or.inl ⟨by rfl, ?_⟩) ?_ ?_
          rotate_left
          · intro w'
            go_simp
            with_reducible rfl
          rotate_left
          · simp only [Act.put, pkA, pkZ, pkS, i64_w, i32_w]
            rfl
          refine pure_ (i := 1) (N := some 95) (v := ?_) (a' := ?_) #[true, true, false, false, false, false, false] rfl rfl (by kernel_rfl) (fun _ _ _ h => h) (Or.inl ⟨by rfl, ?_⟩) ?_ ?_
          rotate_left
          · intro w'
            go_simp
            with_reducible rfl
          rotate_left
          · simp only [Act.put, pkA, pkZ, pkS, i64_w, i32_w]
            rfl
          refine pure_ (i := 2) (N := some 96) (v := ?_) (a' := ?_) #[true, true, true, false, false, false, false] rfl rfl (by kernel_rfl) (fun _ _ _ h => h) (Or.inl ⟨by rfl, ?_⟩) ?_ ?_
          rotate_left
          · intro w'
            go_simp
            with_reducible rfl
          rotate_left
          · simp only [Act.put, pkA, pkZ, pkS, i64_w, i32_w]
            rfl
          refine pure_ (i := 4) (N := some 98) (v := ?_) (a' := ?_) #[true, true, true, false, true, false, false] rfl rfl (by kernel_rfl) (fun _ _ _ h => h) (Or.inl ⟨by rfl, ?_⟩) ?_ ?_
          rotate_left
          · intro w'
            go_simp
            with_reducible rfl
          rotate_left
          · simp only [Act.put, pkA, pkZ, pkS, i64_w, i32_w]
            rfl
          refine take_ (i := 3) (N := some 97) (v := ?_) (a' := ?_) #[true, true, true, true, true, false, false] rfl rfl (by kernel_rfl) (fun _ _ _ h => h) (Or.inl ⟨by rfl, ?_⟩) hHeld ?_ ?_
          rotate_left
          · rintro w' ⟨s0, s1, s2⟩
            go_simp
            with_reducible rfl
          rotate_left
          · simp only [Act.put, pkA, pkZ, pkS, i64_w, i32_w]
            rfl
          refine take_ (i := 5) (N := some 99) (v := ?_) (a' := ?_) #[true, true, true, true, true, true, false] rfl rfl (by kernel_rfl) (fun _ _ _ h => h) (Or.inl ⟨by rfl, ?_⟩) hHeld ?_ ?_
          rotate_left
          · rintro w' ⟨s0, s1, s2⟩
            go_simp
            with_reducible rfl
          rotate_left
          · simp only [Act.put, pkA, pkZ, pkS, i64_w, i32_w]
            rfl
          refine last_ (i := 6) (N := none) #[true, true, true, true, true, true, true] rfl rfl (by kernel_rfl) (by decide) (fun K hK => ?_)
          refine skip_ (w1 := ?_) (by rfl) rfl ?_ ?_
          rotate_left
          · go_simp
            rfl
          refine hK.out _ _ ?_
          clear hK K
          refine done_ (by kernel_rfl) ?_
          obtain ⟨k4a, k4b, k4c, k4d, k4l⟩ := HFS.out.facts
          obtain ⟨w5, hw5⟩ : ∃ W, ChangeMaps.setBlock wr.drew md ob = W := ⟨_, rfl⟩
          rw [hw5] at HEND HFS k4a k4b k4c k4d ⊢
          clear hw5 hob j0 j1 j2
          go_wp2
          have hFF := HFS.out.set f.f0 f.f1
          refine bodyPost_ret (v := .tuple #[.agg #[.int .i64 f.f0, .int .i64 f.f1], .int .i64 0]) (by simp [results, Tryz.results43, go_sem, hFF.facts.1, hFF.facts.2.1]) rfl ⟨rfl, ⟨?_, HFI2.out.1, HFI2.out.2⟩, grown_at_ (grown_at_ HEND.out.2 (by have := HZ4.out; omega) _) (by have := HZ4.out; omega) _⟩
          have hd3 := HEND.out.1
          exact ⟨hd3.1.of_block ((Below.heap_setCell _ _ _ _ (by simpa using hz4m.symm)).trans (Below.heap_setCell _ _ _ _ (by simpa using hz4m.symm))), hd3.2⟩
end
end Go.Proofs.YtikdiepcfdimgaaGreatDoor.POw
namespace Go.Proofs.YtikdiepcfdimgaaGreatDoor.POw
open Go.RowKit Go.Lib Go.Proofs.YtikdiepcfdimgaaGreatDoorW.PrintWords Go.Proofs.YtikdiepcfdimgaaGreatDoorW.PrintLast
theorem set_nil_look (x : ByteArray) (hx : x.size ≤ 1000) (w : World) : (Instr.lookup 75 (.map none) (.string x) false).run Tryz.prog w = .ok (.bool false) w := by
  obtain ⟨kl, hkl⟩ := key_s hx
  have e1 : encS x = .string x := rfl
  rw [e1] at hkl
  have hz : (zeroValue 4).run Tryz.prog w = .ok (.bool false) w := by kernel_rfl
  rcases str_keyed.find w hkl [] (by simp) with ⟨f1, f2⟩ | ⟨j, e0, f1, f2, f3⟩
  · simp [Instr.lookup, run_underlying Tryz.underlying75, str_keyed.check w _ hkl, Result.andThen, hz, f1]
  · simp at f2
theorem DoneAt.made (w : World) : DoneAt (w.alloc (.map #[] 0)) w.heap.size (fun _ => none) := by
  refine ⟨?_, fun y f h => by cases h⟩
  have := MapAt.made Tryz.prog 9 encS w
  simpa using this
theorem inI1 : inI 1 := by unfold inI; omega
def inB : Option (ByteArray → Bool) → ByteArray → Bool
  | none, _ => false
  | some p, x => p x
def effectiveF (kf n : Nat) (s : Gr) (top ent : ByteArray) (day : Int) : Option (Int × Int × Int) :=
  (membF kf s top day).bind fun r => match r with
    | none => some (0, 0, 1)
    | some p => if p ent = true then (effF s day p n ent (putD (fun _ => none) top ⟨1, 1⟩)).map Prod.fst else some (0, 0, 1)
section
variable {w : World} {B g m1 m2 : Nat} {V : Pr → Value} {U : ByteArray → Value} {vE vC : Value} {s : Gr}
theorem go_Effective_none (gv : Value) (top ent : ByteArray) (day : Int) (r : Option (ByteArray → Bool)) (he : ent.size ≤ 1000) (hr : inB r ent = false)
    (hm : ∀ W, Below w.heap.size w W → Calls Tryz.prog 37 #[gv, .string top, .int .i64 day] W fun e w' => ∃ mv, e = .returned mv ∧ MembPost W.heap.size w' mv r ∧ Below W.heap.size W w') :
    Calls Tryz.prog 19 #[gv, .string top, .string ent, .int .i64 day] w fun e w' => e = .returned (.tuple #[.agg #[.int .i64 0, .int .i64 0], .int .i64 1]) ∧ Below w.heap.size w w' := by
  have hb1 : Below w.heap.size w (w.alloc (.cells #[.int .i64 0, .int .i64 0] 42)) := (Below.refl _ _).alloc (Nat.le_refl _) _
  have hfr1 := FrcAt.made w ⟨0, 0⟩
  have HM := Lib.hid (hm _ hb1)
  have HR := Lib.hid (show ∀ (W W' : World) (mv : Value), MembPost W.heap.size W' mv r → (Instr.lookup 75 mv (.string ent) false).run Tryz.prog W' = .ok (.bool false) W' ∧ ∃ o, mv = .map o from fun W W' mv h => by
    cases r with
    | none => simp only [MembPost] at h; subst h; exact ⟨set_nil_look ent he W', _, rfl⟩
    | some p =>
      obtain ⟨mb, rfl, hs, _⟩ := h
      refine ⟨?_, _, rfl⟩
      have := hs.look ent he
      rw [this]
      simp only [inB] at hr
      rw [hr])
  clear hm hr
  go_enter Tryz.func19, Tryz.ntmps19
  go_wp2_with (go_at_call 37; refine HM.out.mono ?_; rintro e w1 ⟨mv, rfl, hmv, hb2⟩; obtain ⟨hlk, o, ho⟩ := HR.out _ _ _ hmv; subst ho; have hfr2 := hfr1.below hb2; obtain ⟨k4a, k4b, k4c, k4d, k4l⟩ := hfr2.facts; clear hmv)
  have hF := hfr2.set 0 0
  refine bodyPost_ret (v := .tuple #[.agg #[.int .i64 0, .int .i64 0], .int .i64 1]) (by simp [results, Tryz.results19, go_sem, hF.facts.1, hF.facts.2.1]) rfl ⟨rfl, ?_⟩
  exact ((hb1.trans (hb2.mono hb1.size)).setCell (by simp) _).setCell (by simp) _
set_option maxRecDepth 100000 in
set_option maxHeartbeats 8000000 in
theorem go_Effective_in (hG : GrAt w B g m1 m2 V U vE vC s) (ok : GrOk s) (hsI : ∀ k (day : Int), inI (shareL (s.shL k) day).f0 ∧ inI (shareL (s.shL k) day).f1) (kf n : Nat) (top ent : ByteArray) (day : Int) (p : ByteArray → Bool) (res : (Int × Int × Int) × Dn) (ht : top.size ≤ 1000) (he : ent.size ≤ 1000) (hL : DaysLaid w)
    (hF : membF kf s top day = some (some p)) (hp : p ent = true) (hE : effF s day p n ent (putD (fun _ => none) top ⟨1, 1⟩) = some res) :
    Calls Tryz.prog 19 #[.pointer (some ⟨g, 0, none⟩), .string top, .string ent, .int .i64 day] w fun e w' => e = .returned (.tuple #[.agg #[.int .i64 res.1.1, .int .i64 res.1.2.1], .int .i64 res.1.2.2]) ∧ Below w.heap.size w w' := by
  have hb1 : Below w.heap.size w (w.alloc (.cells #[.int .i64 0, .int .i64 0] 42)) := (Below.refl _ _).alloc (Nat.le_refl _) _
  have hfr1 := FrcAt.made w ⟨0, 0⟩
  have hM := go_members (hG.below hb1) ok kf top day (some p) ht (hL.below hb1) hF
  have hgl := Nat.lt_of_lt_of_le hG.lt hb1.size
  obtain ⟨⟨ra, rb, re⟩, d'⟩ := res
  have hof := fun (ze mb md : Nat) (hmd : w.heap.size ≤ md) (W : World) (hW : Below w.heap.size w W) (hEf : EffAt W ze g mb md day p (putD (fun _ => none) top ⟨1, 1⟩)) => go_of hG ok hsI day p ze mb md hmd n ent _ W (ra, rb, re) d' hW hEf he hE
  have HM := Lib.hid hM; have HOF := Lib.hid hof; have HB1 := Lib.hid hb1; have HP := Lib.hid hp; have HT := Lib.hid ht; have HEZ := Lib.hid he
  have hmm := @run_makeMap Tryz.prog
  clear hM hof hG ok hsI hF hE hp hL
  go_enter Tryz.func19, Tryz.ntmps19
  go_upto_region 4 with (go_at_call 37; refine HM.out.mono ?_; rintro e w1 ⟨mv, rfl, hmv, hb2⟩; obtain ⟨mb, hmv, hs1, hmb⟩ := hmv; subst hmv; have hlk := hs1.look ent HEZ.out; rw [HP.out] at hlk)
  have hfr2 := hfr1.below hb2
  have hb2w := hb1.trans (hb2.mono hb1.size)
  have hd0 := DoneAt.made w1
  obtain ⟨ob, hput, hd1⟩ := hd0.put top HT.out ⟨1, 1⟩ inI1 inI1
  simp only at hput hd1
  have hBa : Below w1.heap.size w1 (w1.alloc (.map #[] 0)) := (Below.refl _ _).alloc (Nat.le_refl _) _
  have hBb := setBlock_below (o := ob) hBa (Nat.le_refl _)
  have hs2 := hs1.below hBb
  have hf2 := hfr2.below hBb
  have hb3 := hb2w.trans (hBb.mono hb2w.size)
  have hmbl := hs1.lt
  have hg1 : g < w1.heap.size := Nat.lt_of_lt_of_le hgl hb2.size
  go_upto_region 5 with fail
  have hz3 : (ChangeMaps.setBlock (w1.alloc (.map #[] 0)) w1.heap.size ob).heap.size = w1.heap.size + 1 := by rw [setBlock_size]; simp
  obtain ⟨w3, hw3⟩ : ∃ W, ChangeMaps.setBlock (w1.alloc (.map #[] 0)) w1.heap.size ob = W := ⟨_, rfl⟩
  rw [hw3] at hs2 hf2 hb3 hd1 hz3 ⊢
  obtain ⟨md, hmd⟩ : ∃ z, w1.heap.size = z := ⟨_, rfl⟩
  rw [hmd] at hd1 hz3 hmbl ⊢
  have hmdw : w.heap.size + 1 ≤ md := by rw [← hmd]; have := hb2.size; simp at this; omega
  clear hw3 hput hlk hBa hBb hd0 hmm hmd hs1
  have hba := (Below.refl _ w3).alloc (Nat.le_refl _) (.cells #[.pointer (some ⟨g, 0, none⟩), .int .i64 day, .map (some mb), .map (some md)] 82)
  have hE4 : EffAt (w3.alloc (.cells #[.pointer (some ⟨g, 0, none⟩), .int .i64 day, .map (some mb), .map (some md)] 82)) w3.heap.size g mb md day p (putD (fun _ => none) top ⟨1, 1⟩) :=
    ⟨(Go.MapKept.heap_alloc w3 _).1, hs2.below hba, ⟨hd1.1.below hba, hd1.2⟩, by omega, by omega⟩
  have hf4 := hf2.below hba
  have hb4 := hb3.trans (hba.mono hb3.size)
  obtain ⟨w4, hw4⟩ : ∃ W, w3.alloc (.cells #[.pointer (some ⟨g, 0, none⟩), .int .i64 day, .map (some mb), .map (some md)] 82) = W := ⟨_, rfl⟩
  obtain ⟨ze, hze⟩ : ∃ z, w3.heap.size = z := ⟨_, rfl⟩
  rw [hw4] at hE4 hf4 hb4 ⊢
  rw [hze] at hE4 ⊢
  clear hw4 hze hba hs2 hf2 hb3 hd1 hz3
  have HCALL := Lib.hid (HOF.out ze mb md (by omega) w4 hb4 hE4)
  have HMD := Lib.hid hmdw
  go_wp2_with (go_at_call 43; refine HCALL.out.mono ?_; rintro e_ w5 ⟨rfl, _, hg5⟩; have hf5 := hf4.grown hg5 (by have := HMD.out; omega); obtain ⟨k4a, k4b, k4c, k4d, k4l⟩ := hf5.facts)
  have hF := hf5.set ra rb
  refine bodyPost_ret (v := .tuple #[.agg #[.int .i64 ra, .int .i64 rb], .int .i64 re]) (by simp [results, Tryz.results19, go_sem, hF.facts.1, hF.facts.2.1]) rfl ⟨rfl, ?_⟩
  have hb5 := below_grown hb4 hg5 (fun b e => by cases e; have := HMD.out; omega) hb4.size
  exact (hb5.setCell (by simp) _).setCell (by simp) _
theorem go_Effective (hG : GrAt w B g m1 m2 V U vE vC s) (ok : GrOk s) (hsI : ∀ k (day : Int), inI (shareL (s.shL k) day).f0 ∧ inI (shareL (s.shL k) day).f1) (kf n : Nat) (top ent : ByteArray) (day : Int) (res : Int × Int × Int) (ht : top.size ≤ 1000) (he : ent.size ≤ 1000) (hL : DaysLaid w)
    (hF : effectiveF kf n s top ent day = some res) :
    Calls Tryz.prog 19 #[.pointer (some ⟨g, 0, none⟩), .string top, .string ent, .int .i64 day] w fun e w' => e = .returned (.tuple #[.agg #[.int .i64 res.1, .int .i64 res.2.1], .int .i64 res.2.2]) ∧ Below w.heap.size w w' := by
  unfold effectiveF at hF
  obtain ⟨r, hm, hF⟩ := Option.bind_eq_some_iff.1 hF
  have hM := fun (W : World) (hW : Below w.heap.size w W) => go_members (hG.below hW) ok kf top day r ht (hL.below hW) hm
  cases r with
  | none =>
    simp only [Option.some.injEq] at hF
    subst hF
    exact go_Effective_none _ top ent day none he rfl hM
  | some p =>
    simp only at hF
    by_cases hp : p ent = true
    · rw [if_pos hp] at hF
      obtain ⟨q, hq, rfl⟩ := Option.map_eq_some_iff.1 hF
      exact go_Effective_in hG ok hsI kf n top ent day p q ht he hL hm hp hq
    · rw [if_neg hp, Option.some.injEq] at hF
      subst hF
      exact go_Effective_none _ top ent day (some p) he (by simpa [inB] using hp) hM
end
end Go.Proofs.YtikdiepcfdimgaaGreatDoor.POw
namespace Go.Proofs.YtikdiepcfdimgaaGreatDoor.POw
open Go.RowKit Go.Lib Go.Proofs.YtikdiepcfdimgaaGreatDoorW.PrintWords Go.Proofs.YtikdiepcfdimgaaGreatDoorW.PrintLast
theorem kstr_at {w : World} {A : Option Addr} {n : Nat} {xs : List ByteArray} (h : Kd.C Kd.string w A n xs) : ∀ i (hi : i < xs.length), ∃ b o, A = some ⟨b, o, none⟩ ∧ b < w.heap.size ∧ w.cell? ⟨b, o + i, none⟩ = some (.string xs[i]) := by
  intro i hi
  obtain ⟨hl, _, hc⟩ := h
  obtain ⟨ad, rfl, hcell⟩ := hc (by omega)
  obtain ⟨c, hcl, hK, hu⟩ := hcell i xs[i] (List.getElem?_eq_getElem hi)
  have hK' : c = [.string xs[i]] := hK
  subst hK'
  have h1 := hu 0 _ rfl
  have hp : 0 < xs.length := by omega
  obtain ⟨x0, hx0⟩ : ∃ x0, xs[0]'hp = x0 := ⟨_, rfl⟩
  obtain ⟨c0, _, hK0, hu0⟩ := hcell 0 x0 (by rw [← hx0]; exact List.getElem?_eq_getElem hp)
  have hK0' : c0 = [.string x0] := hK0
  subst hK0'
  have h0 := hu0 0 _ rfl
  rw [Nat.zero_mul, Nat.zero_add] at h0
  obtain ⟨b, o, hbo⟩ := addr_of_cell' h0
  have hadd : ∃ b o, ad = ⟨b, o, none⟩ := by
    obtain ⟨b1, o1, sp⟩ := ad
    cases sp with
    | none => exact ⟨b1, o1, rfl⟩
    | some s => simp [Addr.add] at hbo
  obtain ⟨b, o, rfl⟩ := hadd
  have e : (⟨b, o, none⟩ : Addr).add (i * 1 + 0) = ⟨b, o + i, none⟩ := by rw [Addr.add_lit]; congr 1; omega
  have h2 : w.cell? ⟨b, o + i, none⟩ = some (.string xs[i]) := by rw [← e]; exact h1
  exact ⟨b, o, rfl, World.block_lt_of_cell? w _ h2, h2⟩
def refEffL (kf : Nat) (l : List Hold) (day : Int) (rec : ByteArray → Option (Int × Int × Int)) (ent : ByteArray) : List ByteArray → Frc → Option (Int × Int × Int)
  | [], f => some (f.f0, f.f1, 0)
  | o :: os, f => (accountingref43_Share.f kf l o ent day).bind fun sh => if sh.1 = 0 then refEffL kf l day rec ent os f else (rec o).bind fun r => if r.2.2 = 0 then
      (if (mulQ sh.1 sh.2 r.1 r.2.1).2.2 = 0 then
        (if (addQ f.f0 f.f1 (mulQ sh.1 sh.2 r.1 r.2.1).1 (mulQ sh.1 sh.2 r.1 r.2.1).2.1).2.2 = 0 then
          refEffL kf l day rec ent os ⟨(addQ f.f0 f.f1 (mulQ sh.1 sh.2 r.1 r.2.1).1 (mulQ sh.1 sh.2 r.1 r.2.1).2.1).1, (addQ f.f0 f.f1 (mulQ sh.1 sh.2 r.1 r.2.1).1 (mulQ sh.1 sh.2 r.1 r.2.1).2.1).2.1⟩
        else some (0, 0, (addQ f.f0 f.f1 (mulQ sh.1 sh.2 r.1 r.2.1).1 (mulQ sh.1 sh.2 r.1 r.2.1).2.1).2.2))
      else some (0, 0, (mulQ sh.1 sh.2 r.1 r.2.1).2.2))
      else some (0, 0, r.2.2)
def refEffF (kf : Nat) (l : List Hold) (m : List ByteArray) (top : ByteArray) (day : Int) : Nat → ByteArray → Option (Int × Int × Int)
  | 0, _ => none
  | n + 1, ent => if ent = top then some (1, 1, 0) else refEffL kf l day (refEffF kf l m top day n) ent m ⟨0, 1⟩
set_option maxRecDepth 100000 in
set_option maxHeartbeats 8000000 in
theorem go_refeff (kf : Nat) (c cm : Nat) (A Am : Option Addr) (l : List Hold) (m : List ByteArray) (top : ByteArray) (day : Int) (hlc : l.length ≤ c) (hmc : m.length ≤ cm) (hml : m.length ≤ 9000)
    (hsI : ∀ a b r, accountingref43_Share.f kf l a b day = some r → inI r.1 ∧ inI r.2) :
    ∀ (n : Nat) (ent : ByteArray) (w : World) (r : Int × Int × Int), Kd.C k56 w A l.length l → Kd.C Kd.string w Am m.length m → refEffF kf l m top day n ent = some r →
    Calls Tryz.prog 44 #[.slice A l.length c, .slice Am m.length cm, .string top, .string ent, .int .i64 day] w fun e w' => e = .returned (.tuple #[.agg #[.int .i64 r.1, .int .i64 r.2.1], .int .i64 r.2.2]) ∧ (inI r.1 ∧ inI r.2.1) ∧ Below w.heap.size w w' := by
  intro n
  induction n with
  | zero => intro ent w r _ _ h; simp [refEffF] at h
  | succ nf ih =>
    intro ent w r hC hCm hF
    have HC := Lib.hid hC; have HCM := Lib.hid hCm; have IH := Lib.hid ih; have HSI := Lib.hid hsI
    clear hC hCm ih hsI
    have hb1 : Below w.heap.size w (w.alloc (.cells #[.int .i64 0, .int .i64 0] 42)) := (Below.refl _ _).alloc (Nat.le_refl _) _
    have hfr1 := FrcAt.made w ⟨0, 0⟩
    simp only [refEffF] at hF
    by_cases het : ent = top
    · rw [if_pos het, Option.some.injEq] at hF
      subst hF
      subst het
      have heq : (ent.toList == ent.toList) = true := by simp
      obtain ⟨q4a, q4b, q4c, q4d, q4l⟩ := hfr1.facts
      go_enter Tryz.func44, Tryz.ntmps44
      go_wp2
      have hF := hfr1.set 1 1
      have hF2 := FrcAt.made w ⟨1, 1⟩
      refine bodyPost_ret (v := .tuple #[.agg #[.int .i64 1, .int .i64 1], .int .i64 0]) (by simp [results, Tryz.results44, go_sem, hF.facts.1, hF.facts.2.1, hF2.facts.1, hF2.facts.2.1]) rfl ⟨rfl, inI1, ?_⟩
      repeat (first | exact Below.refl _ _ | refine Below.setCell ?_ (by simp) _ | refine Below.alloc ?_ (by simp) _)
    · rw [if_neg het] at hF
      have hne := str_bool het
      have HF := Lib.hid hF
      clear hF het
      go_enter Tryz.func44, Tryz.ntmps44
      go_upto_region 4 with fail
      have hfr2 := hfr1.below ((Below.refl _ _).alloc (Nat.le_refl _) (.cells #[.int .i64 0, .int .i64 1] 42))
      have hfr3 := FrcAt.made (w.alloc (.cells #[.int .i64 0, .int .i64 0] 42)) ⟨0, 1⟩
      have hbw1 : Below w.heap.size w ((w.alloc (.cells #[.int .i64 0, .int .i64 0] 42)).alloc (.cells #[.int .i64 0, .int .i64 1] 42)) := hb1.alloc (by simp) _
      obtain ⟨w1, hw1⟩ : ∃ W, (w.alloc (.cells #[.int .i64 0, .int .i64 0] 42)).alloc (.cells #[.int .i64 0, .int .i64 1] 42) = W := ⟨_, rfl⟩
      have hzz : (w.alloc (.cells #[.int .i64 0, .int .i64 0] 42)).heap.size = w.heap.size + 1 := by simp
      rw [hzz] at hfr3
      simp only at hfr2 hfr3
      rw [hw1] at hfr2 hfr3 hbw1 ⊢
      obtain ⟨z12, hz12⟩ : ∃ z, w.heap.size + 1 = z := ⟨_, rfl⟩
      obtain ⟨z10, hz10⟩ : ∃ z, w.heap.size = z := ⟨_, rfl⟩
      rw [hz12] at hfr3 ⊢
      rw [hz10] at hfr2 ⊢
      have HZ := Lib.hid (show w.heap.size = z10 ∧ z10 < z12 from ⟨hz10, by omega⟩)
      have H10 := Lib.hid hfr2; have H12 := Lib.hid hfr3; have HB1 := Lib.hid hbw1
      clear hw1 hzz hz12 hz10 hfr1 hfr2 hfr3 hbw1 hb1
      go_wp2
      go_loopg [13, 11, 14, 15, 16, 17] m.length (fun n t13 t11 t14 t15 t16 t17 wr => ∃ (k : Nat) (f : Frc), n = m.length - k ∧ k ≤ m.length ∧ t13 = .int .i64 k ∧ Hid (Below w.heap.size w wr) ∧ Hid (FrcAt wr z10 ⟨0, 0⟩) ∧ Hid (FrcAt wr z12 f) ∧ Hid (inI f.f0 ∧ inI f.f1) ∧ Hid (refEffL kf l day (refEffF kf l m top day nf) ent (m.drop k) f = some r))
      case atStart => exact ⟨0, ⟨0, 1⟩, rfl, Nat.zero_le _, rfl, HB1, H10, H12, Lib.hid ⟨inI0, inI1⟩, by rw [List.drop_zero]; exact HF⟩
      case round =>
        obtain ⟨k, f, rfl, hk, rfl, HBR, HA, HBF, HFI, HR⟩ := hrel
        by_cases hlt : k < m.length
        · obtain ⟨b, o, hA, hbl, q0⟩ := kstr_at (Kd.C_below HCM.out HBR.out) k hlt
          obtain ⟨x, hx⟩ : ∃ x, m[k] = x := ⟨_, rfl⟩
          have hR := HR.out
          rw [List.drop_eq_getElem_cons hlt, hx] at hR
          rw [hx] at q0
          clear hx
          simp only [refEffL] at hR
          obtain ⟨⟨sa, sb⟩, hsh, hR⟩ := Option.bind_eq_some_iff.1 hR
          simp only at hR
          have hki : (k : Int) < (m.length : Int) := by omega
          have HSH := Lib.hid hsh; have HR0 := Lib.hid hR
          have hsi := HSI.out _ _ _ hsh
          have HSII := Lib.hid hsi
          clear hsh hR HR hsi
          have hC2 := Kd.C_below HC.out HBR.out
          have HC2 := Lib.hid hC2
          clear hC2
          have hCM2 := Lib.hid (Kd.C_below HCM.out HBR.out)
          subst hA
          go_upto_region 8 with (go_at_call 27; refine (accountingref43_Share.calls kf A c l x ent day sa sb _ HC2.out hlc HSH.out).mono ?_; rintro e_ w5 ⟨rfl, hb5⟩)
          have hba := (Below.refl _ w5).alloc (Nat.le_refl _) (.cells #[.int .i64 sa, .int .i64 sb] 42)
          have hS7 := FrcAt.made w5 ⟨sa, sb⟩
          simp only at hS7
          have hb7 : Below wr.heap.size wr (w5.alloc (.cells #[.int .i64 sa, .int .i64 sb] 42)) := hb5.trans (hba.mono hb5.size)
          obtain ⟨w7, hw7⟩ : ∃ W, w5.alloc (.cells #[.int .i64 sa, .int .i64 sb] 42) = W := ⟨_, rfl⟩
          obtain ⟨z14, hz14⟩ : ∃ z, w5.heap.size = z := ⟨_, rfl⟩
          rw [hw7] at hS7 hb7 ⊢
          rw [hz14] at hS7 ⊢
          clear hw7 hz14 hba hb5
          have hA7 := HA.out.below hb7
          have hF7 := HBF.out.below hb7
          have hB7 := HBR.out.trans (hb7.mono HBR.out.size)
          have q07 := (hb7.cell (p := ⟨b, o + k, none⟩) hbl).trans q0
          obtain ⟨k14a, k14b, k14c, k14d, k14l⟩ := hS7.facts
          have HA7 := Lib.hid hA7; have HF7 := Lib.hid hF7; have HB7 := Lib.hid hB7; have HS7 := Lib.hid hS7
          clear hA7 hF7 hB7 hS7 q0
          by_cases hs0 : sa = 0
          · have hR := HR0.out
            rw [if_pos hs0] at hR
            have HR2 := Lib.hid hR
            subst hs0
            clear hR HR0
            go_wp2
            go_roundg (m.length - (k + 1))
            case measure => omega
            case rel => exact ⟨k + 1, f, rfl, by omega, by go_num, HB7, HA7, HF7, HFI, HR2⟩
          · have hR := HR0.out
            rw [if_neg hs0] at hR
            have hs0b : (sa == 0) = false := by simpa using hs0
            obtain ⟨⟨a, b', e⟩, hr1, hR⟩ := Option.bind_eq_some_iff.1 hR
            simp only at hR
            have hcall := IH.out x w7 (a, b', e) (Kd.C_below HC.out HB7.out) (Kd.C_below HCM.out HB7.out) hr1
            simp only at hcall
            have HCALL := Lib.hid hcall
            have HR1 := Lib.hid hR
            clear hr1 hcall hR hs0 HR0
            go_upto_region 10 with (go_at_call 44; refine HCALL.out.mono ?_; rintro e_ w8 ⟨rfl, hab, hb8⟩)
            have hba := (Below.refl _ w8).alloc (Nat.le_refl _) (.cells #[.int .i64 a, .int .i64 b'] 42)
            have hb9 : Below w7.heap.size w7 (w8.alloc (.cells #[.int .i64 a, .int .i64 b'] 42)) := hb8.trans (hba.mono hb8.size)
            have hE9 := FrcAt.made w8 ⟨a, b'⟩
            simp only at hE9
            obtain ⟨w9, hw9⟩ : ∃ W, w8.alloc (.cells #[.int .i64 a, .int .i64 b'] 42) = W := ⟨_, rfl⟩
            obtain ⟨z15, hz15⟩ : ∃ z, w8.heap.size = z := ⟨_, rfl⟩
            rw [hw9] at hE9 hb9 ⊢
            rw [hz15] at hE9 ⊢
            clear hw9 hz15 hba hb8 k14a k14b k14c k14d k14l q07
            have hA9 := HA7.out.below hb9
            have hF9 := HF7.out.below hb9
            have hS9 := HS7.out.below hb9
            have hB9 := HB7.out.trans (hb9.mono HB7.out.size)
            obtain ⟨k10a, k10b, k10c, k10d, k10l⟩ := hA9.facts
            by_cases he0 : e = 0
            · subst he0
              have hR := HR1.out
              rw [if_pos rfl] at hR
              obtain ⟨k14a, k14b, k14c, k14d, k14l⟩ := hS9.facts
              obtain ⟨k15a, k15b, k15c, k15d, k15l⟩ := hE9.facts
              have hmul := fun W => ref03_Mul.calls sa sb a b' W HSII.out.1 HSII.out.2 hab.1 hab.2
              have hmi := mulQ_inI sa sb a b'
              obtain ⟨Q, hQ⟩ : ∃ Q, mulQ sa sb a b' = Q := ⟨_, rfl⟩
              obtain ⟨qa, qb, qe⟩ := Q
              simp only [hQ] at hR hmul hmi
              have HMUL := Lib.hid hmul; have HR3 := Lib.hid hR
              have HA9 := Lib.hid hA9; have HF9 := Lib.hid hF9; have HB9 := Lib.hid hB9
              clear hmul hQ hR HR1 hA9 hF9 hB9 hS9 hE9
              go_upto_region 13 with (go_at_call 67; refine (HMUL.out _).mono ?_; rintro e_ w10 ⟨rfl, hb10⟩)
              have hba := (Below.refl _ w10).alloc (Nat.le_refl _) (.cells #[.int .i64 qa, .int .i64 qb] 42)
              have hb11 : Below w9.heap.size w9 (w10.alloc (.cells #[.int .i64 qa, .int .i64 qb] 42)) := hb10.trans (hba.mono hb10.size)
              have hP11 := FrcAt.made w10 ⟨qa, qb⟩
              simp only at hP11
              obtain ⟨w11, hw11⟩ : ∃ W, w10.alloc (.cells #[.int .i64 qa, .int .i64 qb] 42) = W := ⟨_, rfl⟩
              obtain ⟨z17, hz17⟩ : ∃ z, w10.heap.size = z := ⟨_, rfl⟩
              rw [hw11] at hP11 hb11 ⊢
              rw [hz17] at hP11 ⊢
              clear hw11 hz17 hba hb10 k14a k14b k14c k14d k14l k15a k15b k15c k15d k15l k10a k10b k10c k10d k10l
              have hA11 := HA9.out.below hb11
              have hF11 := HF9.out.below hb11
              have hB11 := HB9.out.trans (hb11.mono HB9.out.size)
              obtain ⟨k10a, k10b, k10c, k10d, k10l⟩ := hA11.facts
              by_cases hq0 : qe = 0
              · subst hq0
                have hR := HR3.out
                rw [if_pos rfl] at hR
                obtain ⟨k12a, k12b, k12c, k12d, k12l⟩ := hF11.facts
                obtain ⟨k17a, k17b, k17c, k17d, k17l⟩ := hP11.facts
                have hadd := fun W => ref03_Add.calls f.f0 f.f1 qa qb W HFI.out.1 HFI.out.2 hmi.1 hmi.2
                have hai := addQ_inI f.f0 f.f1 qa qb
                obtain ⟨T, hT⟩ : ∃ T, addQ f.f0 f.f1 qa qb = T := ⟨_, rfl⟩
                obtain ⟨ta, tb, te⟩ := T
                simp only [hT] at hR hadd hai
                have HADD := Lib.hid hadd; have HR5 := Lib.hid hR; have HAI := Lib.hid hai
                have HA11 := Lib.hid hA11; have HF11 := Lib.hid hF11; have HB11 := Lib.hid hB11
                clear hadd hT hR HR3 hA11 hF11 hB11 hP11 hai
                go_upto_region 16 with (go_at_call 68; refine (HADD.out _).mono ?_; rintro e_ w12 ⟨rfl, hb12⟩; have HF12 := Lib.hid (HF11.out.below hb12); have HA12 := Lib.hid (HA11.out.below hb12); have HB12 := Lib.hid (HB11.out.trans (hb12.mono HB11.out.size)); obtain ⟨j12a, j12b, j12c, j12d, j12l⟩ := HF12.out.facts)
                have hF13 := HF12.out.set ta tb
                have hA13 : FrcAt ((w12.setCell ⟨z12, 0, none⟩ (.int .i64 ta)).setCell ⟨z12, 1, none⟩ (.int .i64 tb)) z10 ⟨0, 0⟩ := (Below.heap_setCell _ _ _ _ (by have := HZ.out; simp; omega)).trans ((Below.heap_setCell _ _ _ _ (by have := HZ.out; simp; omega)).trans HA12.out)
                have hB13 := (HB12.out.setCell (p := ⟨z12, 0, none⟩) (by have := HZ.out; simp; omega) (.int .i64 ta)).setCell (p := ⟨z12, 1, none⟩) (by have := HZ.out; simp; omega) (.int .i64 tb)
                obtain ⟨w13, hw13⟩ : ∃ W, (w12.setCell ⟨z12, 0, none⟩ (.int .i64 ta)).setCell ⟨z12, 1, none⟩ (.int .i64 tb) = W := ⟨_, rfl⟩
                rw [hw13] at hF13 hA13 hB13 ⊢
                clear hw13 k12a k12b k12c k12d k12l j12a j12b j12c j12d j12l k17a k17b k17c k17d k17l k10a k10b k10c k10d k10l
                obtain ⟨k10a, k10b, k10c, k10d, k10l⟩ := hA13.facts
                by_cases ht0 : te = 0
                · subst ht0
                  have hR := HR5.out
                  rw [if_pos rfl] at hR
                  have HR6 := Lib.hid hR
                  have HF13 := Lib.hid hF13; have HA13 := Lib.hid hA13; have HB13 := Lib.hid hB13
                  clear hR HR5 hF13 hA13 hB13 k10a k10b k10c k10d
                  go_wp2
                  go_roundg (m.length - (k + 1))
                  case measure => omega
                  case rel => exact ⟨k + 1, ⟨ta, tb⟩, rfl, by omega, by go_num, HB13, HA13, HF13, HAI, HR6⟩
                · have hR := HR5.out
                  rw [if_neg ht0] at hR
                  have ht0b : (te == 0) = false := by simpa using ht0
                  simp only [Option.some.injEq] at hR
                  subst hR
                  have HA13 := Lib.hid hA13; have HB13 := Lib.hid hB13
                  clear hA13 hB13 hF13
                  clear HR5 ht0
                  go_wp2
                  have hFF := HA13.out.set 0 0
                  refine bodyPost_ret (v := .tuple #[.agg #[.int .i64 0, .int .i64 0], .int .i64 te]) (by simp [results, Tryz.results44, go_sem, hFF.facts.1, hFF.facts.2.1]) rfl ⟨rfl, inI0, (HB13.out.setCell (by simp; have := HZ.out; omega) _).setCell (by simp; have := HZ.out; omega) _⟩
              · have hR := HR3.out
                rw [if_neg hq0] at hR
                have hq0b : (qe == 0) = false := by simpa using hq0
                simp only [Option.some.injEq] at hR
                subst hR
                have HA11 := Lib.hid hA11; have HB11 := Lib.hid hB11
                clear hA11 hB11 hF11 hP11
                clear HR3 hq0
                go_wp2
                have hFF := HA11.out.set 0 0
                refine bodyPost_ret (v := .tuple #[.agg #[.int .i64 0, .int .i64 0], .int .i64 qe]) (by simp [results, Tryz.results44, go_sem, hFF.facts.1, hFF.facts.2.1]) rfl ⟨rfl, inI0, (HB11.out.setCell (by simp; have := HZ.out; omega) _).setCell (by simp; have := HZ.out; omega) _⟩
            · have hR := HR1.out
              rw [if_neg he0] at hR
              have he0b : (e == 0) = false := by simpa using he0
              simp only [Option.some.injEq] at hR
              subst hR
              have HA9 := Lib.hid hA9; have HB9 := Lib.hid hB9
              clear hA9 hB9 hF9 hS9 hE9
              clear HR1 he0
              go_wp2
              have hFF := HA9.out.set 0 0
              refine bodyPost_ret (v := .tuple #[.agg #[.int .i64 0, .int .i64 0], .int .i64 e]) (by simp [results, Tryz.results44, go_sem, hFF.facts.1, hFF.facts.2.1]) rfl ⟨rfl, inI0, (HB9.out.setCell (by simp; have := HZ.out; omega) _).setCell (by simp; have := HZ.out; omega) _⟩
        · have hkl : k = m.length := by omega
          subst hkl
          have hR := HR.out
          rw [List.drop_length] at hR
          simp only [refEffL, Option.some.injEq] at hR
          subst hR
          obtain ⟨k12a, k12b, k12c, k12d, k12l⟩ := HBF.out.facts
          obtain ⟨k10a, k10b, k10c, k10d, k10l⟩ := HA.out.facts
          clear HR
          go_wp2
          have hFF := HA.out.set f.f0 f.f1
          refine bodyPost_ret (v := .tuple #[.agg #[.int .i64 f.f0, .int .i64 f.f1], .int .i64 0]) (by simp [results, Tryz.results44, go_sem, hFF.facts.1, hFF.facts.2.1]) rfl ⟨rfl, HFI.out, (HBR.out.setCell (by simp; have := HZ.out; omega) _).setCell (by simp; have := HZ.out; omega) _⟩
def refEffective (kf n : Nat) (l : List Hold) (top ent : ByteArray) (day : Int) : Option (Int × Int × Int) :=
  (refMembers kf l top day).bind fun m => (accountingref43_has.f kf m ent).bind fun h => if h = true then (if m.length ≤ 9000 then refEffF kf l m top day n ent else none) else some (0, 0, 1)
set_option maxRecDepth 100000 in
set_option maxHeartbeats 8000000 in
theorem go_refEffective (kf n : Nat) (c : Nat) (A : Option Addr) (l : List Hold) (top ent : ByteArray) (day : Int) (w : World) (r : Int × Int × Int) (hC : Kd.C k56 w A l.length l) (hlc : l.length ≤ c) (hl : l.length ≤ 1000)
    (hsI : ∀ a b r, accountingref43_Share.f kf l a b day = some r → inI r.1 ∧ inI r.2) (hF : refEffective kf n l top ent day = some r) :
    Calls Tryz.prog 20 #[.slice A l.length c, .string top, .string ent, .int .i64 day] w fun e w' => e = .returned (.tuple #[.agg #[.int .i64 r.1, .int .i64 r.2.1], .int .i64 r.2.2]) ∧ Below w.heap.size w w' := by
  unfold refEffective at hF
  obtain ⟨m, hm, hF⟩ := Option.bind_eq_some_iff.1 hF
  obtain ⟨h, hh, hF⟩ := Option.bind_eq_some_iff.1 hF
  have hb1 : Below w.heap.size w (w.alloc (.cells #[.int .i64 0, .int .i64 0] 42)) := (Below.refl _ _).alloc (Nat.le_refl _) _
  have hfr1 := FrcAt.made w ⟨0, 0⟩
  have HC := Lib.hid hC; have HM := Lib.hid hm; have HH := Lib.hid hh; have HSI := Lib.hid hsI; have HB1 := Lib.hid hb1
  clear hC hm hh hsI
  cases h with
  | false =>
    rw [if_neg (by simp), Option.some.injEq] at hF
    subst hF
    go_enter Tryz.func20, Tryz.ntmps20
    go_wp2_with (first
      | (go_at_call 18; refine (go_refMembers kf A c l top day m _ (Kd.C_below HC.out HB1.out) hlc hl HM.out).mono ?_; rintro e w1 ⟨v, rfl, ho, hb2⟩; obtain ⟨Am, cm, hv, hcm, hCm⟩ := strs_C ho; subst hv)
      | (go_at_call 41; refine (accountingref43_has.calls kf Am cm m ent false _ hCm hcm HH.out).mono ?_; rintro e w2 ⟨rfl, hd2⟩; have hb3 := hb2.trans (hd2.below.mono hb2.size); have hfr2 := hfr1.below hb3; obtain ⟨k4a, k4b, k4c, k4d, k4l⟩ := hfr2.facts))
    have hFF := hfr2.set 0 0
    refine bodyPost_ret (v := .tuple #[.agg #[.int .i64 0, .int .i64 0], .int .i64 1]) (by simp [results, Tryz.results20, go_sem, hFF.facts.1, hFF.facts.2.1]) rfl ⟨rfl, ((hb1.trans (hb3.mono hb1.size)).setCell (by simp) _).setCell (by simp) _⟩
  | true =>
    rw [if_pos rfl] at hF
    by_cases hml : m.length ≤ 9000
    · rw [if_pos hml] at hF
      have HF := Lib.hid hF
      clear hF
      obtain ⟨ra, rb, re⟩ := r
      go_enter Tryz.func20, Tryz.ntmps20
      go_wp2_with (first
        | (go_at_call 18; refine (go_refMembers kf A c l top day m _ (Kd.C_below HC.out HB1.out) hlc hl HM.out).mono ?_; rintro e w1 ⟨v, rfl, ho, hb2⟩; obtain ⟨Am, cm, hv, hcm, hCm⟩ := strs_C ho; subst hv)
        | (go_at_call 41; refine (accountingref43_has.calls kf Am cm m ent true _ hCm hcm HH.out).mono ?_; rintro e w2 ⟨rfl, hd2⟩; have hb3 := hb2.trans (hd2.below.mono hb2.size); have hfr2 := hfr1.below hb3)
        | (go_at_call 44; refine (go_refeff kf c cm A Am l m top day hlc hcm hml HSI.out n ent _ (ra, rb, re) (Kd.C_below HC.out (HB1.out.trans (hb3.mono HB1.out.size))) (Kd.C_below hCm hd2.below) HF.out).mono ?_; rintro e w4 ⟨rfl, _, hb4⟩; have hfr4 := hfr2.below hb4; obtain ⟨k4a, k4b, k4c, k4d, k4l⟩ := hfr4.facts; have hb34 := hb3.trans (hb4.mono hb3.size)))
      have hFF := hfr4.set ra rb
      refine bodyPost_ret (v := .tuple #[.agg #[.int .i64 ra, .int .i64 rb], .int .i64 re]) (by simp [results, Tryz.results20, go_sem, hFF.facts.1, hFF.facts.2.1]) rfl ⟨rfl, ((hb1.trans (hb34.mono hb1.size)).setCell (by simp) _).setCell (by simp) _⟩
    · rw [if_neg hml] at hF; cases hF
def refBegin (day : Int) : List Hold → Int → Int
  | [], b => b
  | h :: hs, b => refBegin day hs (if h.f3 ≤ day then (max b h.f3) else b)
def refSinceL (kf : Nat) (l : List Hold) (top ent : ByteArray) : Nat → Int → Option Int
  | 0, _ => none
  | n + 1, day => if 0 ≤ day then (refMembers kf l top day).bind fun m => (accountingref43_has.f kf m ent).bind fun h => if h = true then refSinceL kf l top ent n (wrap64 (refBegin day l 0 - 1)) else some day else some day
def refSince (kf n : Nat) (l : List Hold) (top ent : ByteArray) (day : Int) : Option (Int × Bool) :=
  (refMembers kf l top day).bind fun m => (accountingref43_has.f kf m ent).bind fun h => if h = true then (refSinceL kf l top ent n day).bind fun f => some (wrap64 (f + 1), true) else some (0, false)
set_option maxRecDepth 100000 in
set_option maxHeartbeats 8000000 in
theorem go_refSince (kf n : Nat) (c : Nat) (A : Option Addr) (l : List Hold) (top ent : ByteArray) (day : Int) (w : World) (r : Int × Bool) (hC : Kd.C k56 w A l.length l) (hlc : l.length ≤ c) (hl : l.length ≤ 1000) (hF : refSince kf n l top ent day = some r) :
    Calls Tryz.prog 22 #[.slice A l.length c, .string top, .string ent, .int .i64 day] w fun e w' => e = .returned (.tuple #[.int .i64 r.1, .bool r.2]) ∧ Below w.heap.size w w' := by
  unfold refSince at hF
  obtain ⟨m, hm, hF⟩ := Option.bind_eq_some_iff.1 hF
  obtain ⟨h, hh, hF⟩ := Option.bind_eq_some_iff.1 hF
  have HC := Lib.hid hC; have HM := Lib.hid hm; have HH := Lib.hid hh
  clear hC hm hh
  cases h with
  | false =>
    rw [if_neg (by simp), Option.some.injEq] at hF
    subst hF
    go_enter Tryz.func22, Tryz.ntmps22
    go_wp2_with (first
      | (go_at_call 18; refine (go_refMembers kf A c l top day m _ HC.out hlc hl HM.out).mono ?_; rintro e w1 ⟨v, rfl, ho, hb2⟩; obtain ⟨Am, cm, hv, hcm, hCm⟩ := strs_C ho; subst hv)
      | (go_at_call 41; refine (accountingref43_has.calls kf Am cm m ent false _ hCm hcm HH.out).mono ?_; rintro e w2 ⟨rfl, hd2⟩; have hb3 := hb2.trans (hd2.below.mono hb2.size)))
    go_ret2
    exact ⟨rfl, hb3⟩
  | true =>
    rw [if_pos rfl] at hF
    obtain ⟨f, hf, hF⟩ := Option.bind_eq_some_iff.1 hF
    rw [Option.some.injEq] at hF
    subst hF
    have HF := Lib.hid hf
    clear hf
    go_enter Tryz.func22, Tryz.ntmps22
    go_wp2_with (first
      | (go_at_call 18; refine (go_refMembers kf A c l top day m _ HC.out hlc hl HM.out).mono ?_; rintro e w1 ⟨v, rfl, ho, hb2⟩; obtain ⟨Am, cm, hv, hcm, hCm⟩ := strs_C ho; subst hv)
      | (go_at_call 41; refine (accountingref43_has.calls kf Am cm m ent true _ hCm hcm HH.out).mono ?_; rintro e w2 ⟨rfl, hd2⟩; have hb3 := hb2.trans (hd2.below.mono hb2.size)))
    go_loopg [10, 11, 12] n (fun g t10 t11 t12 wr => ∃ d : Int, t10 = .int .i64 d ∧ Below w.heap.size w wr ∧ Hid (refSinceL kf l top ent g d = some f))
    case atStart => exact ⟨day, rfl, hb3, HF⟩
    case round =>
      obtain ⟨d, rfl, hbr, HR⟩ := hrel
      cases gk with
      | zero => exact absurd HR.out (by simp [refSinceL])
      | succ g =>
      have hR := HR.out
      simp only [refSinceL] at hR
      by_cases hd : 0 ≤ d
      · rw [if_pos hd] at hR
        obtain ⟨m1, hm1, hR⟩ := Option.bind_eq_some_iff.1 hR
        obtain ⟨h1, hh1, hR⟩ := Option.bind_eq_some_iff.1 hR
        have HM1 := Lib.hid hm1; have HH1 := Lib.hid hh1
        clear hm1 hh1 HR
        cases h1 with
        | false =>
          rw [if_neg (by simp), Option.some.injEq] at hR
          subst hR
          go_wp2_with (first
            | (go_at_call 18; refine (go_refMembers kf A c l top d m1 _ (Kd.C_below HC.out hbr) hlc hl HM1.out).mono ?_; rintro e w5 ⟨v5, rfl, ho5, hb5⟩; obtain ⟨A5, c5, hv5, hc5, hC5⟩ := strs_C ho5; subst hv5)
            | (go_at_call 41; refine (accountingref43_has.calls kf A5 c5 m1 ent false _ hC5 hc5 HH1.out).mono ?_; rintro e w6 ⟨rfl, hd6⟩; have hb6 := hb5.trans (hd6.below.mono hb5.size)))
          go_ret2
          exact ⟨rfl, hbr.trans (hb6.mono hbr.size)⟩
        | true =>
          rw [if_pos rfl] at hR
          have HR2 := Lib.hid hR
          clear hR
          go_wp2_with (first
            | (go_at_call 18; refine (go_refMembers kf A c l top d m1 _ (Kd.C_below HC.out hbr) hlc hl HM1.out).mono ?_; rintro e w5 ⟨v5, rfl, ho5, hb5⟩; obtain ⟨A5, c5, hv5, hc5, hC5⟩ := strs_C ho5; subst hv5)
            | (go_at_call 41; refine (accountingref43_has.calls kf A5 c5 m1 ent true _ hC5 hc5 HH1.out).mono ?_; rintro e w6 ⟨rfl, hd6⟩; have hb6 := hb5.trans (hd6.below.mono hb5.size)))
          have hbq := hbr.trans (hb6.mono hbr.size)
          go_loopg [12, 11] l.length (fun n t12 t11 wq => ∃ (k : Nat) (b : Int), n = l.length - k ∧ k ≤ l.length ∧ t12 = .int .i64 k ∧ t11 = .int .i64 b ∧ Below w.heap.size w wq ∧ Hid (refBegin d (l.drop k) b = refBegin d l 0))
          case atStart => exact ⟨0, 0, rfl, Nat.zero_le _, rfl, rfl, hbq, Lib.hid rfl⟩
          case round =>
            clear hbq hb6 hb5 hC5 ho5 hd6
            obtain ⟨k, b0, rfl, hk, rfl, rfl, hbq, HB⟩ := hrel
            by_cases hlt : k < l.length
            · obtain ⟨b, o, hA, hbl, q0, q1, q2, q3, q4⟩ := holds_at (Kd.C_below HC.out hbq) k hlt
              obtain ⟨x, hx⟩ : ∃ x, l[k] = x := ⟨_, rfl⟩
              have hB := HB.out
              rw [List.drop_eq_getElem_cons hlt, hx, refBegin] at hB
              rw [hx] at q0 q1 q2 q3 q4
              clear hx HB q0 q1 q2 q3
              have hki : (k : Int) < (l.length : Int) := by omega
              subst hA
              by_cases hle : x.f3 ≤ d
              · rw [if_pos hle] at hB
                have HB2 := Lib.hid hB
                clear hB
                go_wp2
                go_roundg (l.length - (k + 1))
                case measure => omega
                case rel => exact ⟨k + 1, _, rfl, by omega, by go_num, rfl, hbq, HB2⟩
              · rw [if_neg hle] at hB
                have HB2 := Lib.hid hB
                have hle2 : d < x.f3 := by omega
                clear hB hle
                go_wp2
                go_roundg (l.length - (k + 1))
                case measure => omega
                case rel => exact ⟨k + 1, _, rfl, by omega, by go_num, rfl, hbq, HB2⟩
            · have hke : k = l.length := by omega
              subst hke
              have hB := HB.out
              rw [List.drop_length, refBegin] at hB
              subst hB
              clear HB
              go_wp2
              go_roundg g
              case measure => omega
              case rel => exact ⟨_, by first | rfl | (rw [IntWalk.i64_left]), hbq, HR2⟩
      · rw [if_neg hd, Option.some.injEq] at hR
        subst hR
        clear HR
        go_wp2
        go_ret2
        exact ⟨rfl, hbr⟩
end Go.Proofs.YtikdiepcfdimgaaGreatDoor.POw
namespace Go.Proofs.YtikdiepcfdimgaaGreatDoor.POw
open Go.RowKit Go.Proofs.YtikdiepcfdimgaaGreatDoorW.PrintWords Go.Proofs.YtikdiepcfdimgaaGreatDoorW.PrintLast
theorem toList_iff (a b : ByteArray) : a.toList = b.toList ↔ a = b := ⟨bytes_ext, fun h => by rw [h]⟩
theorem rd_hold {l : List Hold} {i : Nat} (hi : i < l.length) : rd_T56 l (i : Int) = l[i] := by
  unfold rd_T56; simp [List.getD_eq_getElem?_getD, List.getElem?_eq_getElem hi]
def rsh (a b : ByteArray) (day : Int) : List Hold → Int → Frc → Frc
  | [], _, f => f
  | h :: hs, m, f => if h.f0 = a ∧ h.f1 = b ∧ h.f3 ≤ day ∧ m < h.f3 then rsh a b day hs h.f3 h.f2 else rsh a b day hs m f
theorem refShare_main (l : List Hold) (a b : ByteArray) (day : Int) (hl : l.length ≤ 20000) : ∀ (g i : Nat) (m : Int) (f : Frc), i + g = l.length →
    Ev (fun k => accountingref43_Share.l0 k l a b day m (i : Int) f.f0 f.f1) ((rsh a b day (l.drop i) m f).f0, (rsh a b day (l.drop i) m f).f1)
  | 0, i, m, f, hg => by
    rw [List.drop_eq_nil_of_le (by omega)]
    refine ⟨1, fun k hk => ?_⟩
    obtain ⟨j, rfl⟩ : ∃ j, k = j + 1 := ⟨k - 1, by omega⟩
    show accountingref43_Share.l0 (j + 1) l a b day m (i : Int) f.f0 f.f1 = _
    rw [accountingref43_Share.l0, if_neg (by omega)]
    rfl
  | g + 1, i, m, f, hg => by
    have hi : i < l.length := by omega
    obtain ⟨x, hx⟩ : ∃ x, l[i] = x := ⟨_, rfl⟩
    rw [List.drop_eq_getElem_cons hi, hx]
    have e : wrap64 ((i : Int) + 1) = ((i + 1 : Nat) : Int) := by rw [wr_ (by omega)]; omega
    by_cases c : x.f0 = a ∧ x.f1 = b ∧ x.f3 ≤ day ∧ m < x.f3
    · obtain ⟨k0, E⟩ := refShare_main l a b day hl g (i + 1) x.f3 x.f2 (by omega)
      rw [rsh, if_pos c]
      refine ⟨k0 + 1, fun k hk => ?_⟩
      obtain ⟨j, rfl⟩ : ∃ j, k = j + 1 := ⟨k - 1, by omega⟩
      show accountingref43_Share.l0 (j + 1) l a b day m (i : Int) f.f0 f.f1 = _
      rw [accountingref43_Share.l0, if_pos (by omega), if_pos (by omega), rd_hold hi, hx, if_pos ((toList_iff _ _).2 c.1), if_pos ((toList_iff _ _).2 c.2.1), if_pos c.2.2.1, if_pos c.2.2.2, e]
      exact E j (by omega)
    · obtain ⟨k0, E⟩ := refShare_main l a b day hl g (i + 1) m f (by omega)
      rw [rsh, if_neg c]
      refine ⟨k0 + 1, fun k hk => ?_⟩
      obtain ⟨j, rfl⟩ : ∃ j, k = j + 1 := ⟨k - 1, by omega⟩
      show accountingref43_Share.l0 (j + 1) l a b day m (i : Int) f.f0 f.f1 = _
      have F := E j (by omega)
      simp only at F
      rw [accountingref43_Share.l0, if_pos (by omega), if_pos (by omega), rd_hold hi, hx, e]
      by_cases c1 : x.f0 = a
      · rw [if_pos ((toList_iff _ _).2 c1)]
        by_cases c2 : x.f1 = b
        · rw [if_pos ((toList_iff _ _).2 c2)]
          by_cases c3 : x.f3 ≤ day
          · rw [if_pos c3, if_neg (fun h => c ⟨c1, c2, c3, h⟩)]; exact F
          · rw [if_neg c3]; exact F
        · rw [if_neg (fun h => c2 ((toList_iff _ _).1 h))]; exact F
      · rw [if_neg (fun h => c1 ((toList_iff _ _).1 h))]; exact F
theorem ref_Share_ev (l : List Hold) (a b : ByteArray) (day : Int) (hl : l.length ≤ 20000) : Ev (fun k => accountingref43_Share.f k l a b day) ((rsh a b day l (-1) ⟨0, 1⟩).f0, (rsh a b day l (-1) ⟨0, 1⟩).f1) :=
  refShare_main l a b day hl l.length 0 (-1) ⟨0, 1⟩ (by omega)
theorem rsh_is (a b : ByteArray) (day : Int) : ∀ (l pre : List Hold) (m : Int) (f : Frc), (∀ h ∈ pre ++ l, 0 ≤ h.f3) →
    ((f = ⟨0, 1⟩ ∧ m = -1 ∧ ∀ h ∈ pre, h.pr = (a, b) → day < h.f3) ∨ ∃ h ∈ pre, h.pr = (a, b) ∧ h.f3 ≤ day ∧ (∀ q ∈ pre, q.pr = (a, b) → q.f3 ≤ day → q.f3 ≤ h.f3) ∧ m = h.f3 ∧ f = h.f2) →
    ShareIs (fun h => h ∈ pre ++ l ∧ h.pr = (a, b)) day (rsh a b day l m f)
  | [], pre, m, f, h0, hs => by
    rw [List.append_nil]
    rcases hs with ⟨e, _, h1⟩ | ⟨h, hm, hp, hl, hx, _, e⟩
    · exact .inl ⟨e, fun h hh => h1 h hh.1 hh.2⟩
    · exact .inr ⟨h, ⟨hm, hp⟩, hl, fun q hq hle => hx q hq.1 hq.2 hle, e⟩
  | x :: l, pre, m, f, h0, hs => by
    have hpr : x.pr = (a, b) ↔ x.f0 = a ∧ x.f1 = b := by unfold Hold.pr; simp
    have step : ∀ m' f', ((f' = ⟨0, 1⟩ ∧ m' = -1 ∧ ∀ h ∈ pre ++ [x], h.pr = (a, b) → day < h.f3) ∨ ∃ h ∈ pre ++ [x], h.pr = (a, b) ∧ h.f3 ≤ day ∧ (∀ q ∈ pre ++ [x], q.pr = (a, b) → q.f3 ≤ day → q.f3 ≤ h.f3) ∧ m' = h.f3 ∧ f' = h.f2) →
        ShareIs (fun h => h ∈ pre ++ x :: l ∧ h.pr = (a, b)) day (rsh a b day l m' f') := fun m' f' h => by
      have := rsh_is a b day l (pre ++ [x]) m' f' (by rw [List.append_assoc]; exact h0) h
      rw [List.append_assoc] at this
      exact this
    have hx0 := h0 x (by simp)
    rw [rsh]
    by_cases c : x.f0 = a ∧ x.f1 = b ∧ x.f3 ≤ day ∧ m < x.f3
    · rw [if_pos c]
      refine step _ _ (.inr ⟨x, by simp, hpr.2 ⟨c.1, c.2.1⟩, c.2.2.1, fun q hq hqp hqd => ?_, rfl, rfl⟩)
      rcases List.mem_append.1 hq with hq | hq
      · rcases hs with ⟨_, _, h1⟩ | ⟨h, hm, hp, hl, hx, e, _⟩
        · have := h1 q hq hqp; omega
        · have := hx q hq hqp hqd; omega
      · rw [List.mem_singleton.1 hq]; omega
    · rw [if_neg c]
      refine step _ _ ?_
      rcases hs with ⟨e, em, h1⟩ | ⟨h, hm, hp, hl, hx, e, ef⟩
      · refine .inl ⟨e, em, fun q hq hqp => ?_⟩
        rcases List.mem_append.1 hq with hq | hq
        · exact h1 q hq hqp
        · rw [List.mem_singleton.1 hq] at hqp ⊢
          have := hpr.1 hqp
          refine Int.not_le.1 (fun hle => c ⟨this.1, this.2, hle, by omega⟩)
      · refine .inr ⟨h, List.mem_append_left _ hm, hp, hl, fun q hq hqp hqd => ?_, e, ef⟩
        rcases List.mem_append.1 hq with hq | hq
        · exact hx q hq hqp hqd
        · rw [List.mem_singleton.1 hq] at hqp hqd ⊢
          have := hpr.1 hqp
          rw [← e]
          exact Int.not_lt.1 (fun hlt => c ⟨this.1, this.2, hqd, hlt⟩)
theorem rd_str {l : List ByteArray} {i : Nat} (hi : i < l.length) : rdOf ByteArray.empty l (i : Int) = l[i] := by
  unfold rdOf; simp [List.getD_eq_getElem?_getD, List.getElem?_eq_getElem hi]
def inL (l : List ByteArray) (s : ByteArray) : Bool := l.any fun x => decide (x = s)
theorem inL_iff (l : List ByteArray) (s : ByteArray) : inL l s = true ↔ s ∈ l := by
  unfold inL; rw [List.any_eq_true]
  exact ⟨fun ⟨x, hx, h⟩ => by rw [← of_decide_eq_true h]; exact hx, fun h => ⟨s, h, by simp⟩⟩
theorem refHas_main (l : List ByteArray) (s : ByteArray) (hl : l.length ≤ 20000) : ∀ (g i : Nat), i + g = l.length → Ev (fun k => accountingref43_has.l0 k l s (i : Int)) (inL (l.drop i) s)
  | 0, i, hg => by
    rw [List.drop_eq_nil_of_le (by omega)]
    refine ⟨1, fun k hk => ?_⟩
    obtain ⟨j, rfl⟩ : ∃ j, k = j + 1 := ⟨k - 1, by omega⟩
    show accountingref43_has.l0 (j + 1) l s (i : Int) = _
    rw [accountingref43_has.l0, if_neg (by omega)]
    rfl
  | g + 1, i, hg => by
    have hi : i < l.length := by omega
    obtain ⟨x, hx⟩ : ∃ x, l[i] = x := ⟨_, rfl⟩
    rw [List.drop_eq_getElem_cons hi, hx]
    have e : wrap64 ((i : Int) + 1) = ((i + 1 : Nat) : Int) := by rw [wr_ (by omega)]; omega
    obtain ⟨k0, E⟩ := refHas_main l s hl g (i + 1) (by omega)
    refine ⟨k0 + 1, fun k hk => ?_⟩
    obtain ⟨j, rfl⟩ : ∃ j, k = j + 1 := ⟨k - 1, by omega⟩
    have F := E j (by omega)
    simp only at F
    show accountingref43_has.l0 (j + 1) l s (i : Int) = _
    rw [accountingref43_has.l0, if_pos (by omega), if_pos (by omega), rd_str hi, hx, e]
    by_cases c : x = s
    · rw [if_pos ((toList_iff _ _).2 c)]; simp [inL, c]
    · rw [if_neg (fun h => c ((toList_iff _ _).1 h)), F]; simp [inL, c]
theorem ref_has_ev (l : List ByteArray) (s : ByteArray) (hl : l.length ≤ 20000) : Ev (fun k => accountingref43_has.f k l s) (inL l s) := by
  have := refHas_main l s hl l.length 0 (by omega)
  rw [List.drop_zero] at this
  exact this
theorem refShares_main (l : List Hold) (m : List ByteArray) (x : ByteArray) (day : Int) (hl : l.length ≤ 20000) (hm : m.length ≤ 20000) : ∀ (g i : Nat) (out : List Frc), i + g = m.length → out.length = i →
    Ev (fun k => accountingref43_shares.l0 k l m x day out (i : Int)) (out ++ (m.drop i).map fun o => rsh o x day l (-1) ⟨0, 1⟩)
  | 0, i, out, hg, ho => by
    rw [List.drop_eq_nil_of_le (by omega)]
    refine ⟨1, fun k hk => ?_⟩
    obtain ⟨j, rfl⟩ : ∃ j, k = j + 1 := ⟨k - 1, by omega⟩
    show accountingref43_shares.l0 (j + 1) l m x day out (i : Int) = _
    rw [accountingref43_shares.l0, if_neg (by omega)]
    simp
  | g + 1, i, out, hg, ho => by
    have hi : i < m.length := by omega
    obtain ⟨o, hx⟩ : ∃ o, m[i] = o := ⟨_, rfl⟩
    rw [List.drop_eq_getElem_cons hi, hx]
    have e : wrap64 ((i : Int) + 1) = ((i + 1 : Nat) : Int) := by rw [wr_ (by omega)]; omega
    obtain ⟨k0, E⟩ := refShares_main l m x day hl hm g (i + 1) (out ++ [rsh o x day l (-1) ⟨0, 1⟩]) (by omega) (by simp; omega)
    obtain ⟨k1, E1⟩ := ref_Share_ev l o x day hl
    refine ⟨k0 + k1 + 1, fun k hk => ?_⟩
    obtain ⟨j, rfl⟩ : ∃ j, k = j + 1 := ⟨k - 1, by omega⟩
    have F := E j (by omega)
    have F1 := E1 j (by omega)
    simp only at F F1
    show accountingref43_shares.l0 (j + 1) l m x day out (i : Int) = _
    rw [accountingref43_shares.l0, if_pos (by omega), if_pos (by omega), rd_str hi, hx, F1, Option.bind_some, if_pos (by omega), e]
    simp only
    rw [F]
    simp
theorem ref_shares_ev (l : List Hold) (m : List ByteArray) (x : ByteArray) (day : Int) (hl : l.length ≤ 20000) (hm : m.length ≤ 20000) : Ev (fun k => accountingref43_shares.f k l m x day) (m.map fun o => rsh o x day l (-1) ⟨0, 1⟩) := by
  have := refShares_main l m x day hl hm m.length 0 [] (by omega) rfl
  rw [List.drop_zero, List.nil_append] at this
  exact this
theorem refEx_ev (l : List Hold) (m : List ByteArray) (x : ByteArray) (day n : Int) (hn : 0 ≤ n ∧ n ≤ 1000000) (hl : l.length ≤ 20000) (hm : m.length ≤ 20000) (hp : ∀ o ∈ m, Part (rsh o x day l (-1) ⟨0, 1⟩)) :
    Ev (fun k => refEx k l day n m x) (decide ((exF (m.map fun o => rsh o x day l (-1) ⟨0, 1⟩) 0 1).2 < n * (exF (m.map fun o => rsh o x day l (-1) ⟨0, 1⟩) 0 1).1)) := by
  obtain ⟨k1, E1⟩ := ref_shares_ev l m x day hl hm
  obtain ⟨k2, E2⟩ := ref_Exceeds_ev (m.map fun o => rsh o x day l (-1) ⟨0, 1⟩) n hn (fun f hf => by obtain ⟨o, ho, rfl⟩ := List.mem_map.1 hf; exact hp o ho) (by simpa using hm)
  refine ⟨k1 + k2, fun k hk => ?_⟩
  have F1 := E1 k (by omega)
  simp only at F1
  show refEx k l day n m x = _
  rw [refEx, F1, Option.bind_some]
  exact E2 k (by omega)
inductive Leads (ow : ByteArray → List ByteArray) (b : ByteArray) : ByteArray → Prop
  | base : Leads ow b b
  | step {a x : ByteArray} : a ∈ ow x → Leads ow b x → Leads ow b a
def Owns (ow : ByteArray → List ByteArray) (a b : ByteArray) : Prop := ∃ x, a ∈ ow x ∧ Leads ow b x
def unseen (U : List ByteArray) (seen : ByteArray → Bool) : Nat := U.countP fun x => !seen x
theorem unseen_put {U : List ByteArray} {seen : ByteArray → Bool} {o : ByteArray} (ho : o ∈ U) (hs : seen o = false) : unseen U (putB seen o) + 1 ≤ unseen U seen := by
  unfold unseen
  induction U with
  | nil => cases ho
  | cons u U ih =>
    by_cases hu : u = o
    · subst hu
      have hle : U.countP (fun x => !putB seen u x) ≤ U.countP (fun x => !seen x) := List.countP_mono_left (fun x _ h => by simp [putB] at h; simp [h.2])
      rw [List.countP_cons_of_neg (by simp [putB]), List.countP_cons_of_pos (by simp [hs])]
      omega
    · have ho' : o ∈ U := (List.mem_cons.1 ho).resolve_left (fun e => hu e.symm)
      have := ih ho'
      have e : putB seen o u = seen u := by simp [putB, hu]
      rw [List.countP_cons, List.countP_cons]
      rw [e]
      omega
theorem ownsIn_spec {U : List ByteArray} (owner : ByteArray) : ∀ (os : List ByteArray) (seen : ByteArray → Bool) (todo : List ByteArray), (∀ o ∈ os, o ∈ U) → todo.length + unseen U seen < 100000 →
    (owner ∈ os ∧ ownsIn owner os seen todo = some none) ∨ (owner ∉ os ∧ ∃ seen' todo', ownsIn owner os seen todo = some (some (seen', todo')) ∧ (∀ x, seen' x = true ↔ seen x = true ∨ x ∈ os) ∧ (∀ x, x ∈ todo' ↔ x ∈ todo ∨ (x ∈ os ∧ seen x = false)) ∧ todo'.length + unseen U seen' ≤ todo.length + unseen U seen)
  | [], seen, todo, _, _ => .inr ⟨by simp, seen, todo, rfl, by simp, by simp, Nat.le_refl _⟩
  | o :: os, seen, todo, hU, hm => by
    by_cases c : o = owner
    · exact .inl ⟨by simp [c], by rw [ownsIn, if_pos c]⟩
    · by_cases hs : seen o = true
      · rcases ownsIn_spec owner os seen todo (fun x hx => hU x (List.mem_cons_of_mem _ hx)) hm with ⟨h1, h2⟩ | ⟨h1, s', t', h2, h3, h4, h5⟩
        · exact .inl ⟨List.mem_cons_of_mem _ h1, by rw [ownsIn, if_neg c, if_pos hs]; exact h2⟩
        · refine .inr ⟨by simp [h1, Ne.symm c], s', t', by rw [ownsIn, if_neg c, if_pos hs]; exact h2, fun x => ?_, fun x => ?_, h5⟩
          · rw [h3, List.mem_cons]
            constructor
            · rintro (h | h)
              · exact .inl h
              · exact .inr (.inr h)
            · rintro (h | rfl | h)
              · exact .inl h
              · exact .inl hs
              · exact .inr h
          · rw [h4, List.mem_cons]
            constructor
            · rintro (h | h)
              · exact .inl h
              · exact .inr ⟨.inr h.1, h.2⟩
            · rintro (h | ⟨rfl | h, h'⟩)
              · exact .inl h
              · rw [hs] at h'; cases h'
              · exact .inr ⟨h, h'⟩
      · have hs' : seen o = false := by simpa using hs
        have hu := unseen_put (hU o (List.mem_cons_self ..)) hs'
        have ht : todo.length < 100000 := by omega
        rcases ownsIn_spec owner os (putB seen o) (todo ++ [o]) (fun x hx => hU x (List.mem_cons_of_mem _ hx)) (by simp; omega) with ⟨h1, h2⟩ | ⟨h1, s', t', h2, h3, h4, h5⟩
        · exact .inl ⟨List.mem_cons_of_mem _ h1, by rw [ownsIn, if_neg c, if_neg hs, if_pos ht]; exact h2⟩
        · refine .inr ⟨by simp [h1, Ne.symm c], s', t', by rw [ownsIn, if_neg c, if_neg hs, if_pos ht]; exact h2, fun x => ?_, fun x => ?_, by simp at h5; omega⟩
          · rw [h3, List.mem_cons]
            simp only [putB, Bool.or_eq_true, decide_eq_true_eq]
            constructor
            · rintro ((h | h) | h)
              · exact .inr (.inl h)
              · exact .inl h
              · exact .inr (.inr h)
            · rintro (h | h | h)
              · exact .inl (.inr h)
              · exact .inl (.inl h)
              · exact .inr h
          · rw [h4, List.mem_cons, List.mem_append, List.mem_singleton]
            simp only [putB, Bool.or_eq_false_iff, decide_eq_false_iff_not]
            constructor
            · rintro ((h | rfl) | h)
              · exact .inl h
              · exact .inr ⟨.inl rfl, hs'⟩
              · exact .inr ⟨.inr h.1, h.2.2⟩
            · rintro (h | ⟨rfl | h, h'⟩)
              · exact .inl (.inl h)
              · exact .inl (.inr rfl)
              · by_cases e : x = o
                · exact .inl (.inr e)
                · exact .inr ⟨h, e, h'⟩
theorem ownsL_spec {U : List ByteArray} {ow : ByteArray → List ByteArray} (hU : ∀ x, ∀ o ∈ ow x, o ∈ U) (owner b : ByteArray) : ∀ (n : Nat) (seen : ByteArray → Bool) (todo : List ByteArray), todo.length + unseen U seen ≤ n → n < 100000 →
    (∀ x, seen x = true → Leads ow b x) → (∀ x ∈ todo, seen x = true) → seen b = true → (∀ x, seen x = true → x ∉ todo → ∀ o ∈ ow x, seen o = true ∧ o ≠ owner) →
    ∃ r, (∀ k, n < k → ownsL owner ow k seen todo = some r) ∧ (r = true ↔ Owns ow owner b)
  | n, seen, [], hn, _, h1, h2, h3, h4 => by
    refine ⟨false, fun k hk => ?_, ?_⟩
    · obtain ⟨j, rfl⟩ : ∃ j, k = j + 1 := ⟨k - 1, by omega⟩
      rw [ownsL]
    · constructor
      · intro h; cases h
      · rintro ⟨x, hx, hl⟩
        have hall : ∀ y, Leads ow b y → seen y = true := fun y hy => by
          induction hy with
          | base => exact h3
          | step ha _ ih => exact (h4 _ ih (by simp) _ ha).1
        exact absurd rfl (h4 x (hall x hl) (by simp) owner hx).2
  | 0, seen, x :: todo, hn, _, _, _, _, _ => by simp at hn
  | n + 1, seen, x :: todo, hn, hb, h1, h2, h3, h4 => by
    simp only [List.length_cons] at hn
    rcases ownsIn_spec (U := U) owner (ow x) seen todo (hU x) (by omega) with ⟨g1, g2⟩ | ⟨g1, s', t', g2, g3, g4, g5⟩
    · refine ⟨true, fun k hk => ?_, fun _ => ⟨x, g1, h1 x (h2 x (by simp))⟩, fun _ => rfl⟩
      obtain ⟨j, rfl⟩ : ∃ j, k = j + 1 := ⟨k - 1, by omega⟩
      rw [ownsL, g2, Option.bind_some]
    · obtain ⟨r, hr, hi⟩ := ownsL_spec hU owner b n s' t' (by omega) (by omega)
        (fun y hy => by
          rcases (g3 y).1 hy with h | h
          · exact h1 y h
          · exact .step h (h1 x (h2 x (by simp))))
        (fun y hy => by
          rcases (g4 y).1 hy with h | h
          · exact (g3 y).2 (.inl (h2 y (by simp [h])))
          · exact (g3 y).2 (.inr h.1))
        ((g3 b).2 (.inl h3))
        (fun y hy hyt o ho => by
          have hyt' := fun h => hyt ((g4 y).2 h)
          have hys : seen y = true := by
            rcases (g3 y).1 hy with h | h
            · exact h
            · cases hsy : seen y with
              | true => rfl
              | false => exact absurd (.inr ⟨h, hsy⟩) hyt'
          by_cases e : y = x
          · subst e
            exact ⟨(g3 o).2 (.inr ho), fun e => g1 (e ▸ ho)⟩
          · have := h4 y hys (by simp [e]; exact fun h => hyt' (.inl h)) o ho
            exact ⟨(g3 o).2 (.inl this.1), this.2⟩)
      refine ⟨r, fun k hk => ?_, hi⟩
      obtain ⟨j, rfl⟩ : ∃ j, k = j + 1 := ⟨k - 1, by omega⟩
      rw [ownsL, g2, Option.bind_some]
      exact hr j (by omega)
def Edge (l : List Hold) (y z : ByteArray) : Prop := ∃ h ∈ l, h.f0 = y ∧ h.f1 = z
inductive Fwd (l : List Hold) (a : ByteArray) : ByteArray → Prop
  | base : Fwd l a a
  | step {y z : ByteArray} : Fwd l a y → Edge l y z → Fwd l a z
theorem fwd_owns {l : List Hold} {ow : ByteArray → List ByteArray} (how : ∀ o x, o ∈ ow x ↔ Edge l o x) (a b : ByteArray) : (∃ y, Fwd l a y ∧ Edge l y b) ↔ Owns ow a b := by
  constructor
  · rintro ⟨y, hy, he⟩
    have H : ∀ y, Fwd l a y → ∀ b', Edge l y b' → Owns ow a b' := fun y hy => by
      induction hy with
      | base => exact fun b' he => ⟨b', (how _ _).2 he, .base⟩
      | step _ hyz ih =>
        intro b' he
        obtain ⟨x, hx, hl⟩ := ih _ hyz
        refine ⟨x, hx, ?_⟩
        clear hx ih
        induction hl with
        | base => exact .step ((how _ _).2 he) .base
        | step h1 _ ih2 => exact .step h1 ih2
    exact H y hy b he
  · rintro ⟨x, hx, hl⟩
    have H : ∀ x, Leads ow b x → ∀ y, Fwd l a y → y ∈ ow x → ∃ y', Fwd l a y' ∧ Edge l y' b := fun x hl => by
      induction hl with
      | base => exact fun y hy h => ⟨y, hy, (how _ _).1 h⟩
      | step h1 _ ih => exact fun y hy h => ih _ (.step hy ((how _ _).1 h)) h1
    exact H x hl a .base hx
theorem refOwns_in (l : List Hold) (b : ByteArray) (hl : l.length ≤ 10000) (i : Nat) (cur : ByteArray) : ∀ (g k : Nat) (R : List ByteArray), k + g = l.length → R[i]? = some cur → R.Nodup → R.length + g ≤ 20000 →
    (∃ h ∈ l.drop k, h.f0 = cur ∧ h.f1 = b) ∧ Ev (fun f => accountingref43_owns.l1 f l b R (i : Int) (k : Int)) true ∨
    (¬ ∃ h ∈ l.drop k, h.f0 = cur ∧ h.f1 = b) ∧ ∃ R', (∃ news, R' = R ++ news) ∧ (∀ x ∈ R', x ∈ R ∨ ∃ h ∈ l.drop k, h.f0 = cur ∧ h.f1 = x) ∧ (∀ h ∈ l.drop k, h.f0 = cur → h.f1 ∈ R') ∧ R'.Nodup ∧ R'.length ≤ R.length + g ∧
      ∀ r, Ev (fun f => accountingref43_owns.l0 f l b R' ((i + 1 : Nat) : Int)) r → Ev (fun f => accountingref43_owns.l1 f l b R (i : Int) (k : Int)) r
  | 0, k, R, hg, hi, hn, hR => by
    have hd : l.drop k = [] := List.drop_eq_nil_of_le (by omega)
    rw [hd]
    have hil := (List.getElem?_eq_some_iff.1 hi).1
    refine .inr ⟨by simp, R, ⟨[], by simp⟩, fun x hx => .inl hx, by simp, hn, by omega, fun r hr => Ev.step (H := fun f => accountingref43_owns.l0 f l b R ((i + 1 : Nat) : Int)) (fun f => ?_) hr⟩
    rw [accountingref43_owns.l1, if_neg (by omega), wr_ (by omega)]
    rfl
  | g + 1, k, R, hg, hi, hn, hR => by
    have hk : k < l.length := by omega
    have hil := (List.getElem?_eq_some_iff.1 hi).1
    obtain ⟨h, hh⟩ : ∃ h, l[k] = h := ⟨_, rfl⟩
    have hrd : rdOf ByteArray.empty R (i : Int) = cur := by rw [rd_str hil]; exact (List.getElem?_eq_some_iff.1 hi).2
    have e : wrap64 ((k : Int) + 1) = ((k + 1 : Nat) : Int) := by rw [wr_ (by omega)]; omega
    rw [List.drop_eq_getElem_cons hk, hh]
    by_cases c1 : h.f0 = cur
    · by_cases c2 : h.f1 = b
      · refine .inl ⟨⟨h, by simp, c1, c2⟩, 2, fun f hf => ?_⟩
        obtain ⟨j, rfl⟩ : ∃ j, f = j + 2 := ⟨f - 2, by omega⟩
        show accountingref43_owns.l1 (j + 2) l b R (i : Int) (k : Int) = _
        rw [accountingref43_owns.l1, if_pos (by omega), if_pos (by omega), if_pos (by omega), if_pos (by omega), rd_hold hk, hh, hrd, if_pos ((toList_iff _ _).2 c1), accountingref43_owns.j2, if_pos (by rw [c2]; simp)]
      · have step : ∀ f, accountingref43_owns.l1 (f + 2) l b R (i : Int) (k : Int) = ((accountingref43_has.f f R h.f1).bind fun t174 => if t174 = true then accountingref43_owns.l1 f l b R (i : Int) ((k + 1 : Nat) : Int) else if R.length < 8796093022208 then accountingref43_owns.l1 f l b (R ++ [h.f1]) (i : Int) ((k + 1 : Nat) : Int) else none) := fun f => by
          have hbn : (h.f1.toList == b.toList) = false := by simp only [beq_eq_false_iff_ne, ne_eq]; exact fun h => c2 ((toList_iff _ _).1 h)
          rw [accountingref43_owns.l1, if_pos (by omega), if_pos (by omega), if_pos (by omega), if_pos (by omega), rd_hold hk, hh, hrd, if_pos ((toList_iff _ _).2 c1), hbn, accountingref43_owns.j2, if_neg (by simp), if_pos (by omega), if_pos (by omega), if_pos (by omega), if_pos (by omega), rd_hold hk, hh, hrd, if_pos ((toList_iff _ _).2 c1), e]
        obtain ⟨k1, E1⟩ := ref_has_ev R h.f1 (by omega)
        simp only at E1
        cases hc : inL R h.f1 with
        | true =>
          have hin := (inL_iff _ _).1 hc
          rw [hc] at E1
          have up : ∀ r, Ev (fun f => accountingref43_owns.l1 f l b R (i : Int) ((k + 1 : Nat) : Int)) r → Ev (fun f => accountingref43_owns.l1 f l b R (i : Int) (k : Int)) r := fun r ⟨k2, E2⟩ => ⟨k1 + k2 + 2, fun f hf => by
            obtain ⟨j, rfl⟩ : ∃ j, f = j + 2 := ⟨f - 2, by omega⟩
            show accountingref43_owns.l1 (j + 2) l b R (i : Int) (k : Int) = _
            rw [step, E1 j (by omega), Option.bind_some, if_pos rfl]
            exact E2 j (by omega)⟩
          rcases refOwns_in l b hl i cur g (k + 1) R (by omega) hi hn (by omega) with ⟨⟨q, q1, q2⟩, q3⟩ | ⟨q1, R', q2, q3, q4, q5, q6, q7⟩
          · exact .inl ⟨⟨q, List.mem_cons_of_mem _ q1, q2⟩, up _ q3⟩
          · refine .inr ⟨?_, R', q2, fun x hx => (q3 x hx).imp id (fun ⟨q, a1, a2⟩ => ⟨q, List.mem_cons_of_mem _ a1, a2⟩), ?_, q5, by omega, fun r hr => up r (q7 r hr)⟩
            · rintro ⟨q, a1, a2⟩
              rcases List.mem_cons.1 a1 with rfl | a1
              · exact c2 a2.2
              · exact q1 ⟨q, a1, a2⟩
            · intro q a1 a2
              rcases List.mem_cons.1 a1 with rfl | a1
              · obtain ⟨news, rfl⟩ := q2; exact List.mem_append_left _ hin
              · exact q4 q a1 a2
        | false =>
          have hin : h.f1 ∉ R := fun h2 => by rw [(inL_iff _ _).2 h2] at hc; cases hc
          rw [hc] at E1
          have up : ∀ r, Ev (fun f => accountingref43_owns.l1 f l b (R ++ [h.f1]) (i : Int) ((k + 1 : Nat) : Int)) r → Ev (fun f => accountingref43_owns.l1 f l b R (i : Int) (k : Int)) r := fun r ⟨k2, E2⟩ => ⟨k1 + k2 + 2, fun f hf => by
            obtain ⟨j, rfl⟩ : ∃ j, f = j + 2 := ⟨f - 2, by omega⟩
            show accountingref43_owns.l1 (j + 2) l b R (i : Int) (k : Int) = _
            rw [step, E1 j (by omega), Option.bind_some, if_neg (by simp), if_pos (by omega)]
            exact E2 j (by omega)⟩
          have hn' : (R ++ [h.f1]).Nodup := List.nodup_append.2 ⟨hn, by simp, fun x hx y hy => by rw [List.mem_singleton.1 hy]; exact fun e => hin (e ▸ hx)⟩
          rcases refOwns_in l b hl i cur g (k + 1) (R ++ [h.f1]) (by omega) (by rw [List.getElem?_append_left hil]; exact hi) hn' (by simp; omega) with ⟨⟨q, q1, q2⟩, q3⟩ | ⟨q1, R', q2, q3, q4, q5, q6, q7⟩
          · exact .inl ⟨⟨q, List.mem_cons_of_mem _ q1, q2⟩, up _ q3⟩
          · refine .inr ⟨?_, R', ?_, ?_, ?_, q5, by simp at q6; omega, fun r hr => up r (q7 r hr)⟩
            · rintro ⟨q, a1, a2⟩
              rcases List.mem_cons.1 a1 with rfl | a1
              · exact c2 a2.2
              · exact q1 ⟨q, a1, a2⟩
            · obtain ⟨news, rfl⟩ := q2
              exact ⟨h.f1 :: news, by simp⟩
            · intro x hx
              rcases q3 x hx with h1 | ⟨q, a1, a2⟩
              · rcases List.mem_append.1 h1 with h1 | h1
                · exact .inl h1
                · exact .inr ⟨h, by simp, c1, (List.mem_singleton.1 h1).symm⟩
              · exact .inr ⟨q, List.mem_cons_of_mem _ a1, a2⟩
            · intro q a1 a2
              rcases List.mem_cons.1 a1 with rfl | a1
              · obtain ⟨news, rfl⟩ := q2; simp
              · exact q4 q a1 a2
    · have up : ∀ r, Ev (fun f => accountingref43_owns.l1 f l b R (i : Int) ((k + 1 : Nat) : Int)) r → Ev (fun f => accountingref43_owns.l1 f l b R (i : Int) (k : Int)) r := fun r ⟨k2, E2⟩ => ⟨k2 + 2, fun f hf => by
        obtain ⟨j, rfl⟩ : ∃ j, f = j + 2 := ⟨f - 2, by omega⟩
        have hne : ¬ (h.f0.toList = cur.toList) := fun h => c1 ((toList_iff _ _).1 h)
        show accountingref43_owns.l1 (j + 2) l b R (i : Int) (k : Int) = _
        rw [accountingref43_owns.l1, if_pos (by omega), if_pos (by omega), if_pos (by omega), if_pos (by omega), rd_hold hk, hh, hrd, if_neg hne, accountingref43_owns.j2, if_neg (by simp), if_pos (by omega), if_pos (by omega), if_pos (by omega), if_pos (by omega), rd_hold hk, hh, hrd, if_neg hne, e]
        exact E2 j (by omega)⟩
      rcases refOwns_in l b hl i cur g (k + 1) R (by omega) hi hn (by omega) with ⟨⟨q, q1, q2⟩, q3⟩ | ⟨q1, R', q2, q3, q4, q5, q6, q7⟩
      · exact .inl ⟨⟨q, List.mem_cons_of_mem _ q1, q2⟩, up _ q3⟩
      · refine .inr ⟨?_, R', q2, fun x hx => (q3 x hx).imp id (fun ⟨q, a1, a2⟩ => ⟨q, List.mem_cons_of_mem _ a1, a2⟩), ?_, q5, by omega, fun r hr => up r (q7 r hr)⟩
        · rintro ⟨q, a1, a2⟩
          rcases List.mem_cons.1 a1 with rfl | a1
          · exact c1 a2.1
          · exact q1 ⟨q, a1, a2⟩
        · intro q a1 a2
          rcases List.mem_cons.1 a1 with rfl | a1
          · exact absurd a2 c1
          · exact q4 q a1 a2
theorem refOwns_out (l : List Hold) (a b : ByteArray) (hl : l.length ≤ 9000) : ∀ (n i : Nat) (R : List ByteArray), l.length + 1 - i ≤ n → R.Nodup → (∀ x ∈ R, x ∈ a :: l.map (fun h : Hold => h.f1)) → (∀ x ∈ R, Fwd l a x) → a ∈ R → (∀ j, j < i → ∀ y, R[j]? = some y → ∀ h ∈ l, h.f0 = y → h.f1 ∈ R ∧ h.f1 ≠ b) →
    ∃ r, Ev (fun f => accountingref43_owns.l0 f l b R (i : Int)) r ∧ (r = true ↔ ∃ y, Fwd l a y ∧ Edge l y b) := by
  intro n
  induction n with
  | zero =>
    intro i R hn hnd hU hF ha hI
    have hle : R.length ≤ l.length + 1 := by have := List.Nodup.length_le_of_subset hnd hU; simpa using this
    exact fin_ i R (by omega) hF ha hI
  | succ n ih =>
    intro i R hn hnd hU hF ha hI
    have hle : R.length ≤ l.length + 1 := by have := List.Nodup.length_le_of_subset hnd hU; simpa using this
    by_cases hi : i < R.length
    · obtain ⟨cur, hcur⟩ : ∃ c, R[i]? = some c := ⟨R[i], List.getElem?_eq_getElem hi⟩
      have up : ∀ r, Ev (fun f => accountingref43_owns.l1 f l b R (i : Int) ((0 : Nat) : Int)) r → Ev (fun f => accountingref43_owns.l0 f l b R (i : Int)) r := fun r h => Ev.step (fun f => by rw [accountingref43_owns.l0, if_pos (by omega)]; rfl) h
      have hcm : cur ∈ R := List.mem_of_getElem? hcur
      rcases refOwns_in l b (by omega) i cur l.length 0 R (by omega) hcur hnd (by omega) with ⟨⟨q, q1, q2, q3⟩, q4⟩ | ⟨q1, R', ⟨news, q2⟩, q3, q4, q5, q6, q7⟩
      · rw [List.drop_zero] at q1
        exact ⟨true, up _ q4, fun _ => ⟨cur, hF cur hcm, q, q1, q2, q3⟩, fun _ => rfl⟩
      · rw [List.drop_zero] at q1 q3 q4
        have hsub : ∀ x ∈ R, x ∈ R' := fun x hx => by rw [q2]; exact List.mem_append_left _ hx
        obtain ⟨r, hr, hi2⟩ := ih (i + 1) R' (by omega) q5 (fun x hx => by
            rcases q3 x hx with h | ⟨h, h1, _, h3⟩
            · exact hU x h
            · exact List.mem_cons_of_mem _ (List.mem_map.2 ⟨h, h1, h3⟩))
          (fun x hx => by
            rcases q3 x hx with h | ⟨h, h1, h2, h3⟩
            · exact hF x h
            · exact .step (hF cur hcm) ⟨h, h1, h2, h3⟩)
          (hsub a ha)
          (fun j hj y hy h hm hf => by
            by_cases e : j < i
            · rw [q2, List.getElem?_append_left (by omega)] at hy
              have := hI j e y hy h hm hf
              exact ⟨hsub _ this.1, this.2⟩
            · have : j = i := by omega
              subst this
              rw [q2, List.getElem?_append_left hi, hcur] at hy
              cases hy
              exact ⟨q4 h hm hf, fun e => q1 ⟨h, hm, hf, e⟩⟩)
        exact ⟨r, up r (q7 r hr), hi2⟩
    · exact fin_ i R (by omega) hF ha hI
where
  fin_ (i : Nat) (R : List ByteArray) (hi : R.length ≤ i) (hF : ∀ x ∈ R, Fwd l a x) (ha : a ∈ R) (hI : ∀ j, j < i → ∀ y, R[j]? = some y → ∀ h ∈ l, h.f0 = y → h.f1 ∈ R ∧ h.f1 ≠ b) : ∃ r, Ev (fun f => accountingref43_owns.l0 f l b R (i : Int)) r ∧ (r = true ↔ ∃ y, Fwd l a y ∧ Edge l y b) := by
    refine ⟨false, ⟨1, fun f hf => ?_⟩, ?_⟩
    · obtain ⟨j, rfl⟩ : ∃ j, f = j + 1 := ⟨f - 1, by omega⟩
      show accountingref43_owns.l0 (j + 1) l b R (i : Int) = _
      rw [accountingref43_owns.l0, if_neg (by omega)]
    · have hcl : ∀ y ∈ R, ∀ h ∈ l, h.f0 = y → h.f1 ∈ R ∧ h.f1 ≠ b := fun y hy h hm hf => by
        obtain ⟨j, hj, e⟩ := List.getElem_of_mem hy
        exact hI j (by omega) y (by rw [List.getElem?_eq_getElem hj, e]) h hm hf
      constructor
      · intro h; cases h
      · rintro ⟨y, hy, h, hm, h0, h1⟩
        have hall : ∀ y, Fwd l a y → y ∈ R := fun y hy => by
          induction hy with
          | base => exact ha
          | step _ he ih =>
            obtain ⟨q, q1, q2, q3⟩ := he
            rw [← q3]
            exact (hcl _ ih q q1 q2).1
        exact absurd h1 (hcl y (hall y hy) h hm h0).2
theorem ref_owns_ev (l : List Hold) (a b : ByteArray) (hl : l.length ≤ 9000) : ∃ r, Ev (fun f => accountingref43_owns.f f l a b) r ∧ (r = true ↔ ∃ y, Fwd l a y ∧ Edge l y b) :=
  refOwns_out l a b hl (l.length + 1) 0 [a] (by omega) (by simp) (by simp) (by simp; exact .base) (by simp) (fun j hj => by omega)
theorem one_ev (l : List Hold) (i : Nat) (hi : i < l.length) (h : Hold) (hh : l[i] = h) (own : Bool) (ho : Ev (fun k => accountingref43_owns.f k (l.take i) h.f1 h.f0) own) : Ev (fun k => oneF k l i) (oneA l i h own) := by
  obtain ⟨k0, E⟩ := ho
  refine ⟨k0, fun k hk => ?_⟩
  have F := E k hk
  simp only at F
  show oneF k l i = _
  unfold oneF
  rw [List.getElem?_eq_getElem hi, hh]
  simp only
  rw [F]
  rfl
theorem grOf_edge (l : List Hold) (o x : ByteArray) : o ∈ (grOf l gr0).owL x ↔ Edge l o x := by
  rw [mem_owL]
  unfold Edge
  constructor
  · rintro (h | ⟨h, h1, h2, h3⟩)
    · simp [gr0, Gr.owL] at h
    · exact ⟨h, h1, h2.symm, h3.symm⟩
  · rintro ⟨h, h1, h2, h3⟩
    exact .inr ⟨h, h1, h2.symm, h3.symm⟩
theorem owns_both (l : List Hold) (a b : ByteArray) (hl : l.length ≤ 9000) : ∃ r, Ev (fun k => accountingref43_owns.f k l a b) r ∧ Ev (fun k => ownsF k (grOf l gr0) a b) r := by
  obtain ⟨r, h1, h2⟩ := ref_owns_ev l a b hl
  have hU : ∀ x, ∀ o ∈ (grOf l gr0).owL x, o ∈ l.map (fun h : Hold => h.f0) := fun x o ho => by
    obtain ⟨h, hm, h0, _⟩ := (grOf_edge l o x).1 ho
    exact List.mem_map.2 ⟨h, hm, h0⟩
  have hun : unseen (l.map (fun h : Hold => h.f0)) (putB (fun _ => false) b) ≤ l.length := by
    unfold unseen
    have := List.countP_le_length (p := fun x => !putB (fun _ => false) b x) (l := l.map (fun h : Hold => h.f0))
    simpa using this
  obtain ⟨r', h3, h4⟩ := ownsL_spec (ow := (grOf l gr0).owL) hU a b (1 + l.length) (putB (fun _ => false) b) [b] (by simp; omega) (by omega)
    (fun x hx => by
      have : x = b := by simpa [putB] using hx
      rw [this]; exact .base)
    (fun x hx => by simp at hx; simp [putB, hx]) (by simp [putB])
    (fun x hx hn => by
      have : x = b := by simpa [putB] using hx
      simp [this] at hn)
  have e : r = r' := by
    rw [Bool.eq_iff_iff, h2, h4]
    exact fwd_owns (grOf_edge l) a b
  subst e
  exact ⟨r, h1, ⟨1 + l.length + 1, fun k hk => h3 k (by omega)⟩⟩
theorem twice_iff (l : List Hold) (h : Hold) : ((grOf l gr0).shL (h.f0, h.f1)).any (fun x => decide (x.f3 = h.f3)) = l.any (fun x => decide (x.f0 = h.f0 ∧ x.f1 = h.f1 ∧ x.f3 = h.f3)) := by
  rw [Bool.eq_iff_iff, List.any_eq_true, List.any_eq_true]
  constructor
  · rintro ⟨x, hx, hd⟩
    rcases (mem_shL x _ l gr0).1 hx with h1 | ⟨h1, h2⟩
    · simp [gr0, Gr.shL] at h1
    · unfold Hold.pr at h2
      exact ⟨x, h1, by simp at h2 hd ⊢; exact ⟨h2.1, h2.2, hd⟩⟩
  · rintro ⟨x, hx, hd⟩
    simp at hd
    exact ⟨x, (mem_shL x _ l gr0).2 (.inr ⟨hx, by unfold Hold.pr; rw [hd.1, hd.2.1]⟩), by simp [hd.2.2]⟩
theorem refused_ev (l : List Hold) (i : Nat) (h : Hold) (hl : l.length ≤ 9000) : ∃ own, Ev (fun k => accountingref43_owns.f k (l.take i) h.f1 h.f0) own ∧ Ev (fun k => refusedF k (grOf (l.take i) gr0) h) (oneA l i h own) := by
  obtain ⟨own, h1, k0, h2⟩ := owns_both (l.take i) h.f1 h.f0 (by simp; omega)
  refine ⟨own, h1, k0, fun k hk => ?_⟩
  have F := h2 k hk
  simp only at F
  show refusedF k (grOf (l.take i) gr0) h = _
  unfold refusedF oneA oneL
  rw [F, twice_iff, Option.bind_some]
  repeat' split
  all_goals first | rfl | simp_all
theorem grOf_snoc (l : List Hold) (x : Hold) (s : Gr) : grOf (l ++ [x]) s = addG (grOf l s) x := by unfold grOf; rw [List.foldl_append]; rfl
theorem ones_ev (L : List Hold) (hL : L.length ≤ 9000) (hs : ∀ h ∈ L, h.f0.size ≤ 100 ∧ h.f1.size ≤ 100) : ∀ (rest pre : List Hold), L = pre ++ rest →
    (Ev (fun k => refOnes k L rest.length pre.length) none ∧ Ev (fun k => newL k rest pre.length (grOf pre gr0)) (.inr (grOf L gr0))) ∨
    ∃ (i : Nat) (e : Int), e ≠ 0 ∧ Ev (fun k => refOnes k L rest.length pre.length) (some ((i : Int), e)) ∧ Ev (fun k => newL k rest pre.length (grOf pre gr0)) (.inl (i, e))
  | [], pre, hp => .inl ⟨⟨0, fun _ _ => rfl⟩, by rw [hp, List.append_nil]; exact ⟨0, fun _ _ => rfl⟩⟩
  | x :: rest, pre, hp => by
    have hi : pre.length < L.length := by rw [hp]; simp
    have hx : L[pre.length] = x := by simp [hp]
    have ht : L.take pre.length = pre := by rw [hp]; simp
    have hxs := hs x (hx ▸ List.getElem_mem hi)
    obtain ⟨own, o1, o2⟩ := refused_ev L pre.length x hL
    have r1 := one_ev L pre.length hi x hx own o1
    rw [ht] at o2
    obtain ⟨k1, E1⟩ := r1
    obtain ⟨k2, E2⟩ := o2
    by_cases c : oneA L pre.length x own = 0
    · rcases ones_ev L hL hs rest (pre ++ [x]) (by rw [hp]; simp) with ⟨⟨k3, h1⟩, ⟨k4, h2⟩⟩ | ⟨i, e, he, ⟨k3, h1⟩, ⟨k4, h2⟩⟩
      · refine .inl ⟨⟨k1 + k3, fun k hk => ?_⟩, ⟨k2 + k4, fun k hk => ?_⟩⟩
        · have F := E1 k (by omega)
          have G := h1 k (by omega)
          simp only [List.length_append, List.length_singleton] at F G
          show refOnes k L (rest.length + 1) pre.length = _
          rw [refOnes, F, Option.bind_some, if_pos c, G]
        · have F := E2 k (by omega)
          have G := h2 k (by omega)
          simp only [List.length_append, List.length_singleton, grOf_snoc] at F G
          show newL k (x :: rest) pre.length (grOf pre gr0) = _
          rw [newL, F, Option.bind_some, if_pos c, G]
      · refine .inr ⟨i, e, he, ⟨k1 + k3, fun k hk => ?_⟩, ⟨k2 + k4, fun k hk => ?_⟩⟩
        · have F := E1 k (by omega)
          have G := h1 k (by omega)
          simp only [List.length_append, List.length_singleton] at F G
          show refOnes k L (rest.length + 1) pre.length = _
          rw [refOnes, F, Option.bind_some, if_pos c, G]
        · have F := E2 k (by omega)
          have G := h2 k (by omega)
          simp only [List.length_append, List.length_singleton, grOf_snoc] at F G
          show newL k (x :: rest) pre.length (grOf pre gr0) = _
          rw [newL, F, Option.bind_some, if_pos c, G]
    · refine .inr ⟨pre.length, oneA L pre.length x own, c, ⟨k1, fun k hk => ?_⟩, ⟨k2, fun k hk => ?_⟩⟩
      · have F := E1 k hk
        simp only at F
        show refOnes k L (rest.length + 1) pre.length = _
        rw [refOnes, F, Option.bind_some, if_neg c]
      · have F := E2 k hk
        simp only at F
        show newL k (x :: rest) pre.length (grOf pre gr0) = _
        rw [newL, F, Option.bind_some, if_neg c]
theorem exF_filter {f : ByteArray → Frc} {q : ByteArray → Bool} : ∀ (m : List ByteArray) (N D : Int), (∀ o ∈ m, q o = false → f o = ⟨0, 1⟩) → exF (m.map f) N D = exF ((m.filter q).map f) N D
  | [], _, _, _ => rfl
  | o :: m, N, D, h => by
    cases c : q o with
    | true =>
      rw [List.filter_cons_of_pos c, List.map_cons, List.map_cons, exF, exF]
      exact exF_filter m _ _ (fun o ho => h o (List.mem_cons_of_mem _ ho))
    | false =>
      rw [List.filter_cons_of_neg (by simp [c]), List.map_cons, exF, h o (List.mem_cons_self ..) c]
      simp only [Int.mul_one, Int.mul_zero, Int.add_zero]
      exact exF_filter m _ _ (fun o ho => h o (List.mem_cons_of_mem _ ho))
theorem rsh_none {l : List Hold} {o x : ByteArray} {day : Int} (h0 : ∀ h ∈ l, 0 ≤ h.f3) (hn : ¬ Edge l o x) : rsh o x day l (-1) ⟨0, 1⟩ = ⟨0, 1⟩ := by
  have := rsh_is o x day l [] (-1) ⟨0, 1⟩ (by simpa using h0) (.inl ⟨rfl, rfl, by simp⟩)
  rcases this with ⟨e, _⟩ | ⟨h, ⟨h1, h2⟩, _⟩
  · exact e
  · exact absurd ⟨h, by simpa using h1, by unfold Hold.pr at h2; simp at h2; exact h2⟩ hn
theorem newL_good {k : Nat} : ∀ {l : List Hold} {i : Nat} {s s' : Gr}, newL k l i s = some (.inr s') → ∀ h ∈ l, wcodeB h.f0 = true ∧ wcodeB h.f1 = true ∧ fitH h = true ∧ isDay h.f3 = true
  | [], _, _, _, _ => by simp
  | x :: l, i, s, s', h => by
    rw [newL] at h
    obtain ⟨e, he, h⟩ := Option.bind_eq_some_iff.1 h
    by_cases c : e = 0
    · rw [if_pos c] at h
      subst c
      obtain ⟨h1, h2, h3, h4, _⟩ := refused_zero he
      intro q hq
      rcases List.mem_cons.1 hq with rfl | hq
      · exact ⟨h1, h2, h3, h4⟩
      · exact newL_good (s := addG s x) h q hq
    · rw [if_neg c] at h; cases h
structure Good (L : List Hold) : Prop where
  len : L.length ≤ 200
  gr : GrN L.length (grOf L gr0)
  ok : ∀ h ∈ L, wcodeB h.f0 = true ∧ wcodeB h.f1 = true ∧ fitH h = true ∧ isDay h.f3 = true
theorem good_of {L : List Hold} (hl : L.length ≤ 200) (hs : ∀ h ∈ L, h.f0.size ≤ 100 ∧ h.f1.size ≤ 100) {k : Nat} {s : Gr} (h : newL k L 0 gr0 = some (.inr s)) : Good L := by
  have h1 := newL_ok hs h GrN.start
  rw [newL_fold h, Nat.zero_add] at h1
  exact ⟨hl, h1, newL_good h⟩
section
variable {L : List Hold}
theorem Good.day (g : Good L) : ∀ h ∈ L, 0 ≤ h.f3 ∧ h.f3 ≤ 109572 := fun h hh => by
  have := (g.ok h hh).2.2.2
  unfold isDay at this
  simpa using this
theorem Good.part (g : Good L) : ∀ h ∈ L, Part h.f2 := fun h hh => by
  have h1 := (g.ok h hh).2.2.1
  unfold fitH at h1
  simp only [Bool.and_eq_true, decide_eq_true_eq] at h1
  have := rightB_bounds h1.1.1
  unfold Part
  omega
theorem Good.one (g : Good L) (k : Pr) : ∀ a b, (a ∈ L ∧ a.pr = k) → (b ∈ L ∧ b.pr = k) → a.f3 = b.f3 → a = b := by
  intro a b ha hb he
  have hs := g.gr.sho k
  have ha' := (mem_shL a k L gr0).2 (.inr ha)
  have hb' := (mem_shL b k L gr0).2 (.inr hb)
  obtain ⟨i, hi, rfl⟩ := List.getElem_of_mem ha'
  obtain ⟨j, hj, rfl⟩ := List.getElem_of_mem hb'
  rcases Nat.lt_trichotomy i j with h | h | h
  · have := List.pairwise_iff_getElem.1 hs i j hi hj h; omega
  · subst h; rfl
  · have := List.pairwise_iff_getElem.1 hs j i hj hi h; omega
theorem Good.share (g : Good L) (o x : ByteArray) (day : Int) : shareL ((grOf L gr0).shL (o, x)) day = rsh o x day L (-1) ⟨0, 1⟩ := by
  have h1 := shareL_is _ day (g.gr.sho (o, x))
  have h2 := rsh_is o x day L [] (-1) ⟨0, 1⟩ (by simpa using fun h hh => (g.day h hh).1) (.inl ⟨rfl, rfl, by simp⟩)
  rw [List.nil_append] at h2
  have e : (fun h => h ∈ (grOf L gr0).shL (o, x)) = fun h => h ∈ L ∧ h.pr = (o, x) := by
    funext h
    apply propext
    rw [mem_shL]
    constructor
    · rintro (h | h)
      · simp [gr0, Gr.shL] at h
      · exact h
    · exact .inr
  rw [e] at h1
  exact ShareIs.unique (g.one (o, x)) h1 h2
end
end Go.Proofs.YtikdiepcfdimgaaGreatDoor.POw
