/- The reference of the tables: one, Check. -/
import Derived.Test.YtncbfpigojeekaaDoorD2
namespace Go.Proofs.YtncbfpigojeekaaDoor
open Go.RowKit Go.Lib

/-- five cells of a rate -/
def Five (w : World) (b o : Nat) (r : Rate) : Prop := w.cell? ⟨b, o, none⟩ = some (.string r.cur) ∧ w.cell? ⟨b, o + 1, none⟩ = some (.int .i64 r.kind) ∧ w.cell? ⟨b, o + 2, none⟩ = some (.int .i64 r.day) ∧ w.cell? ⟨b, o + 3, none⟩ = some (.int .i64 r.n) ∧ w.cell? ⟨b, o + 4, none⟩ = some (.int .i64 r.d)
theorem Five.new (w : World) (r : Rate) (t : TypeId) : Five (w.alloc (.cells #[.string r.cur, .int .i64 r.kind, .int .i64 r.day, .int .i64 r.n, .int .i64 r.d] t)) w.heap.size 0 r := ⟨by simp, by simp, by simp, by simp, by simp⟩
theorem Five.below {w w' : World} {b o : Nat} {r : Rate} (h : Five w b o r) (hb : b < w.heap.size) (hB : Below w.heap.size w w') : Five w' b o r :=
  ⟨((bcell hB).1 _ _ hb).trans h.1, ((bcell hB).1 _ _ hb).trans h.2.1, ((bcell hB).1 _ _ hb).trans h.2.2.1, ((bcell hB).1 _ _ hb).trans h.2.2.2.1, ((bcell hB).1 _ _ hb).trans h.2.2.2.2⟩

theorem dup_snoc (L : List Rate) (q r : Rate) : dup (L ++ [q]) r = (dup L r || (decide (q.key = r.key) && decide (q.day = r.day))) := by
  unfold dup; rw [List.any_append]; simp
theorem bytes_eq {a b : ByteArray} (h : (a == b) = true) : a = b := by
  rw [beq_toListBytes] at h
  have h2 := eq_of_beq h
  rw [ByteArray.toList_eq, ByteArray.toList_eq] at h2
  exact ByteArray.ext (Array.ext' h2)
theorem key_eq (q r : Rate) : decide (q.key = r.key) = ((q.cur.toList == r.cur.toList) && (q.kind == r.kind)) := by
  rw [← beq_toListBytes]
  unfold Rate.key
  cases h1 : (q.cur == r.cur) with
  | true =>
    have e1 : q.cur = r.cur := bytes_eq h1
    simp [e1, Bool.beq_eq_decide_eq]
  | false =>
    have e1 : ¬ q.cur = r.cur := by intro h; rw [h, beq_toListBytes] at h1; simp at h1
    simp [e1]

set_option maxRecDepth 100000 in
set_option maxHeartbeats 8000000 in
theorem ref11_one.calls (base : ByteArray) (l : List Rate) (lv : Value) (i : Nat) (w : World) (hs : SlR Rate.cells 5 w lv l) (hi : i < l.length) (hlen : l.length ≤ 4611686018427387904) (hw : (l[i]).wf) :
    Calls Tryd.prog 27 #[.string base, lv, .int .i64 i] w fun e w' => e = .returned (.int .i64 (errOf base (l.take i) l[i])) ∧ Below w.heap.size w w' := by
  obtain ⟨A, cp, rfl, hAs⟩ := hs.shape
  obtain ⟨b, o, rfl, hbw, hc⟩ := hAs i hi
  have HAS := Lib.hid hAs; clear hAs
  obtain ⟨r, hr⟩ : ∃ r, l[i] = r := ⟨_, rfl⟩
  rw [hr] at hc hw ⊢
  obtain ⟨q0, q1, q2, q3, q4⟩ := Rate.five hc
  obtain ⟨z1, z2, z3, z4, z5⟩ := hw
  clear hc
  have e1 : (r.cur == base) = (r.cur.toList == base.toList) := beq_toListBytes _ _
  obtain ⟨A, hA⟩ : ∃ A, codeB r.cur = A := ⟨_, rfl⟩
  obtain ⟨B, hB⟩ : ∃ B, (r.cur.toList == base.toList) = B := ⟨_, rfl⟩
  obtain ⟨D, hD⟩ : ∃ D, isDay r.day = D := ⟨_, rfl⟩
  obtain ⟨R, hR⟩ : ∃ R, rightB r.n r.d = R := ⟨_, rfl⟩
  have HC0 := Lib.hid (show checkS base r = chk A B (decide (1 ≤ r.kind) && decide (r.kind ≤ 3)) D R (decide (r.n ≤ 0)) by unfold checkS chk; simp only [e1, hA, hB, hD, hR])
  have HA := Lib.hid hA; have HD := Lib.hid hD; have HR := Lib.hid hR
  clear hA hD hR e1 hr
  cases A with
  | false =>
    have HC := Lib.hid (show checkS base r = 13 by rw [HC0.out]; simp [chk])
    have HS := Lib.hid (show errOf base (l.take i) r = 13 by unfold errOf; rw [HC.out]; rfl)
    go_enter Tryd.func27, Tryd.ntmps27
    go_wp2_with (first
      | (go_at_call 26; refine (ref07_Code.calls _ _).mono ?_; rintro e w1 ⟨rfl, hb1⟩; rw [HA.out]; have z1 := (Five.new w r _).below (by simp) hb1; obtain ⟨ya, yb, yc, yd, ye⟩ := id z1)
      | (go_at_call 34; refine (ref04_Is.calls _ _).mono ?_; rintro e w' ⟨rfl, rfl⟩; rw [HD.out])
      | (go_at_call 44; refine (ref03_Right.calls _ _ _ z4 z5).mono ?_; rintro e w3 ⟨rfl, hb3⟩; rw [HR.out]; have hz1 : w.heap.size < w1.heap.size := (by have := hb1.size; simp at this; omega); have zz := z1.below hz1 hb3; obtain ⟨xa, xb, xc, xd, xe⟩ := id zz))
    go_ret
    exact ⟨by rw [HS.out]; rfl, bc1 _ _ _ hb1⟩
  | true =>
  cases B with
  | true =>
    have HC := Lib.hid (show checkS base r = 13 by rw [HC0.out]; simp [chk])
    have HS := Lib.hid (show errOf base (l.take i) r = 13 by unfold errOf; rw [HC.out]; rfl)
    go_enter Tryd.func27, Tryd.ntmps27
    go_wp2_with (first
      | (go_at_call 26; refine (ref07_Code.calls _ _).mono ?_; rintro e w1 ⟨rfl, hb1⟩; rw [HA.out]; have z1 := (Five.new w r _).below (by simp) hb1; obtain ⟨ya, yb, yc, yd, ye⟩ := id z1)
      | (go_at_call 34; refine (ref04_Is.calls _ _).mono ?_; rintro e w' ⟨rfl, rfl⟩; rw [HD.out])
      | (go_at_call 44; refine (ref03_Right.calls _ _ _ z4 z5).mono ?_; rintro e w3 ⟨rfl, hb3⟩; rw [HR.out]; have hz1 : w.heap.size < w1.heap.size := (by have := hb1.size; simp at this; omega); have zz := z1.below hz1 hb3; obtain ⟨xa, xb, xc, xd, xe⟩ := id zz))
    go_ret
    exact ⟨by rw [HS.out]; rfl, bc1 _ _ _ hb1⟩
  | false =>
  by_cases hk1 : r.kind < 1
  · have HC := Lib.hid (show checkS base r = 10 by rw [HC0.out, decide_eq_false (by omega : ¬ 1 ≤ r.kind)]; simp [chk])
    have HS := Lib.hid (show errOf base (l.take i) r = 10 by unfold errOf; rw [HC.out]; rfl)
    go_enter Tryd.func27, Tryd.ntmps27
    go_wp2_with (first
      | (go_at_call 26; refine (ref07_Code.calls _ _).mono ?_; rintro e w1 ⟨rfl, hb1⟩; rw [HA.out]; have z1 := (Five.new w r _).below (by simp) hb1; obtain ⟨ya, yb, yc, yd, ye⟩ := id z1)
      | (go_at_call 34; refine (ref04_Is.calls _ _).mono ?_; rintro e w' ⟨rfl, rfl⟩; rw [HD.out])
      | (go_at_call 44; refine (ref03_Right.calls _ _ _ z4 z5).mono ?_; rintro e w3 ⟨rfl, hb3⟩; rw [HR.out]; have hz1 : w.heap.size < w1.heap.size := (by have := hb1.size; simp at this; omega); have zz := z1.below hz1 hb3; obtain ⟨xa, xb, xc, xd, xe⟩ := id zz))
    go_ret
    exact ⟨by rw [HS.out]; rfl, bc1 _ _ _ hb1⟩
  by_cases hk2 : 3 < r.kind
  · have HC := Lib.hid (show checkS base r = 10 by rw [HC0.out, decide_eq_false (by omega : ¬ r.kind ≤ 3)]; simp [chk])
    have HS := Lib.hid (show errOf base (l.take i) r = 10 by unfold errOf; rw [HC.out]; rfl)
    go_enter Tryd.func27, Tryd.ntmps27
    go_wp2_with (first
      | (go_at_call 26; refine (ref07_Code.calls _ _).mono ?_; rintro e w1 ⟨rfl, hb1⟩; rw [HA.out]; have z1 := (Five.new w r _).below (by simp) hb1; obtain ⟨ya, yb, yc, yd, ye⟩ := id z1)
      | (go_at_call 34; refine (ref04_Is.calls _ _).mono ?_; rintro e w' ⟨rfl, rfl⟩; rw [HD.out])
      | (go_at_call 44; refine (ref03_Right.calls _ _ _ z4 z5).mono ?_; rintro e w3 ⟨rfl, hb3⟩; rw [HR.out]; have hz1 : w.heap.size < w1.heap.size := (by have := hb1.size; simp at this; omega); have zz := z1.below hz1 hb3; obtain ⟨xa, xb, xc, xd, xe⟩ := id zz))
    go_ret
    exact ⟨by rw [HS.out]; rfl, bc1 _ _ _ hb1⟩
  have hK : (decide (1 ≤ r.kind) && decide (r.kind ≤ 3)) = true := by simp; omega
  rw [hK] at HC0
  clear hK
  cases D with
  | false =>
    have HC := Lib.hid (show checkS base r = 11 by rw [HC0.out]; simp [chk])
    have HS := Lib.hid (show errOf base (l.take i) r = 11 by unfold errOf; rw [HC.out]; rfl)
    go_enter Tryd.func27, Tryd.ntmps27
    go_wp2_with (first
      | (go_at_call 26; refine (ref07_Code.calls _ _).mono ?_; rintro e w1 ⟨rfl, hb1⟩; rw [HA.out]; have z1 := (Five.new w r _).below (by simp) hb1; obtain ⟨ya, yb, yc, yd, ye⟩ := id z1)
      | (go_at_call 34; refine (ref04_Is.calls _ _).mono ?_; rintro e w' ⟨rfl, rfl⟩; rw [HD.out])
      | (go_at_call 44; refine (ref03_Right.calls _ _ _ z4 z5).mono ?_; rintro e w3 ⟨rfl, hb3⟩; rw [HR.out]; have hz1 : w.heap.size < w1.heap.size := (by have := hb1.size; simp at this; omega); have zz := z1.below hz1 hb3; obtain ⟨xa, xb, xc, xd, xe⟩ := id zz))
    go_ret
    exact ⟨by rw [HS.out]; rfl, bc1 _ _ _ hb1⟩
  | true =>
  cases R with
  | false =>
    have HC := Lib.hid (show checkS base r = 2 by rw [HC0.out]; simp [chk])
    have HS := Lib.hid (show errOf base (l.take i) r = 2 by unfold errOf; rw [HC.out]; rfl)
    go_enter Tryd.func27, Tryd.ntmps27
    go_wp2_with (first
      | (go_at_call 26; refine (ref07_Code.calls _ _).mono ?_; rintro e w1 ⟨rfl, hb1⟩; rw [HA.out]; have z1 := (Five.new w r _).below (by simp) hb1; obtain ⟨ya, yb, yc, yd, ye⟩ := id z1)
      | (go_at_call 34; refine (ref04_Is.calls _ _).mono ?_; rintro e w' ⟨rfl, rfl⟩; rw [HD.out])
      | (go_at_call 44; refine (ref03_Right.calls _ _ _ z4 z5).mono ?_; rintro e w3 ⟨rfl, hb3⟩; rw [HR.out]; have hz1 : w.heap.size < w1.heap.size := (by have := hb1.size; simp at this; omega); have zz := z1.below hz1 hb3; obtain ⟨xa, xb, xc, xd, xe⟩ := id zz))
    go_ret
    exact ⟨by rw [HS.out]; rfl, bc2 _ _ _ _ hb1 hb3⟩
  | true =>
  by_cases hn : r.n ≤ 0
  · have HC := Lib.hid (show checkS base r = 2 by rw [HC0.out, decide_eq_true hn]; simp [chk])
    have HS := Lib.hid (show errOf base (l.take i) r = 2 by unfold errOf; rw [HC.out]; rfl)
    go_enter Tryd.func27, Tryd.ntmps27
    go_wp2_with (first
      | (go_at_call 26; refine (ref07_Code.calls _ _).mono ?_; rintro e w1 ⟨rfl, hb1⟩; rw [HA.out]; have z1 := (Five.new w r _).below (by simp) hb1; obtain ⟨ya, yb, yc, yd, ye⟩ := id z1)
      | (go_at_call 34; refine (ref04_Is.calls _ _).mono ?_; rintro e w' ⟨rfl, rfl⟩; rw [HD.out])
      | (go_at_call 44; refine (ref03_Right.calls _ _ _ z4 z5).mono ?_; rintro e w3 ⟨rfl, hb3⟩; rw [HR.out]; have hz1 : w.heap.size < w1.heap.size := (by have := hb1.size; simp at this; omega); have zz := z1.below hz1 hb3; obtain ⟨xa, xb, xc, xd, xe⟩ := id zz))
    go_ret
    exact ⟨by rw [HS.out]; rfl, bc2 _ _ _ _ hb1 hb3⟩
  have HC := Lib.hid (show checkS base r = 0 by rw [HC0.out, decide_eq_false hn]; simp [chk])
  have HS := Lib.hid (show errOf base (l.take i) r = if dup (l.take i) r then 8 else 0 by unfold errOf; rw [HC.out]; rfl)
  have hnb : decide (r.n ≤ 0) = false := decide_eq_false hn
  go_enter Tryd.func27, Tryd.ntmps27
  go_wp2_with (first
    | (go_at_call 26; refine (ref07_Code.calls _ _).mono ?_; rintro e w1 ⟨rfl, hb1⟩; rw [HA.out]; have z1 := (Five.new w r _).below (by simp) hb1; obtain ⟨ya, yb, yc, yd, ye⟩ := id z1)
    | (go_at_call 34; refine (ref04_Is.calls _ _).mono ?_; rintro e w' ⟨rfl, rfl⟩; rw [HD.out])
    | (go_at_call 44; refine (ref03_Right.calls _ _ _ z4 z5).mono ?_; rintro e w3 ⟨rfl, hb3⟩; rw [HR.out]; have hz1 : w.heap.size < w1.heap.size := (by have := hb1.size; simp at this; omega); have zz := z1.below hz1 hb3; obtain ⟨xa, xb, xc, xd, xe⟩ := id zz))
  go_loopg [8] i (fun g t wr => ∃ k : Nat, g = i - k ∧ k ≤ i ∧ t = .int .i64 k ∧ Below w.heap.size w wr ∧ Five wr w.heap.size 0 r ∧ Hid (dup (l.take k) r = false))
  case atStart => exact ⟨0, rfl, Nat.zero_le _, rfl, bc2 _ _ _ _ hb1 hb3, zz, Lib.hid rfl⟩
  case round =>
    obtain ⟨k, rfl, hk, rfl, hbr, hfive, HI⟩ := hrel
    obtain ⟨xa, xb, xc, xd, xe⟩ := id hfive
    have hwr := block_lt_of_cell xa
    by_cases hlt : k < i
    · have hkl : k < l.length := by omega
      obtain ⟨b', o', hbo, hbw', hc⟩ := HAS.out k hkl
      cases hbo
      have hc' := fun j u hu => (hbr.cell (p := ⟨b, o + k * 5 + j, none⟩) hbw).trans (hc j u hu)
      obtain ⟨q, hq⟩ : ∃ q, l[k] = q := ⟨_, rfl⟩
      rw [hq] at hc'
      obtain ⟨p0, p1, p2, p3, p4⟩ := Rate.five hc'
      have HT := Lib.hid (show l.take (k + 1) = l.take k ++ [q] by rw [List.take_succ_eq_append_getElem hkl, hq])
      clear hc hc' hq
      have HU := Lib.hid (show dup (l.take (k + 1)) r = ((q.cur.toList == r.cur.toList) && (q.kind == r.kind) && (q.day == r.day)) by rw [HT.out, dup_snoc, HI.out, key_eq]; simp [Bool.beq_eq_decide_eq])
      have HM := Lib.hid (show dup (l.take (k + 1)) r = true → dup (l.take i) r = true by
        intro h
        unfold dup at h ⊢
        rw [List.any_eq_true] at h ⊢
        obtain ⟨x, hx, hp⟩ := h
        refine ⟨x, ?_, hp⟩
        have e : l.take (k + 1) = (l.take i).take (k + 1) := by rw [List.take_take, Nat.min_eq_left (by omega)]
        rw [e] at hx
        exact List.mem_of_mem_take hx)
      obtain ⟨B1, hB1⟩ : ∃ B1, (q.cur.toList == r.cur.toList) = B1 := ⟨_, rfl⟩
      obtain ⟨B2, hB2⟩ : ∃ B2, (q.kind == r.kind) = B2 := ⟨_, rfl⟩
      obtain ⟨B3, hB3⟩ : ∃ B3, (q.day == r.day) = B3 := ⟨_, rfl⟩
      rw [hB1, hB2, hB3] at HU
      cases B1
      · go_wp2
        go_quiet (fail)
        go_wp2
        go_roundg (i - (k + 1))
        case measure => omega
        case rel => exact ⟨k + 1, rfl, by omega, by go_num, hbr.trans ((below_drewN _ _).mono hbr.size), hfive.below (by omega) (below_drewN _ _), Lib.hid (by rw [HU.out]; rfl)⟩
      · cases B2
        · go_wp2
          go_quiet (fail)
          go_wp2
          go_roundg (i - (k + 1))
          case measure => omega
          case rel => exact ⟨k + 1, rfl, by omega, by go_num, hbr.trans ((below_drewN _ _).mono hbr.size), hfive.below (by omega) (below_drewN _ _), Lib.hid (by rw [HU.out]; rfl)⟩
        · cases B3
          · go_wp2
            go_quiet (fail)
            go_wp2
            go_roundg (i - (k + 1))
            case measure => omega
            case rel => exact ⟨k + 1, rfl, by omega, by go_num, hbr.trans ((below_drewN _ _).mono hbr.size), hfive.below (by omega) (below_drewN _ _), Lib.hid (by rw [HU.out]; rfl)⟩
          · go_wp2
            go_quiet (fail)
            go_wp2
            go_ret
            exact ⟨by rw [HS.out, HM.out (by rw [HU.out]; rfl)]; rfl, hbr.trans ((below_drewN _ _).mono hbr.size)⟩
    · have hki : k = i := by omega
      subst hki
      go_wp2
      go_ret
      exact ⟨by rw [HS.out, HI.out]; rfl, hbr⟩

end Go.Proofs.YtncbfpigojeekaaDoor
