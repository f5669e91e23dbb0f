/- New, Base, Len. -/
import Derived.Test.YtncbfpigojeekaaDoorC7
namespace Go.Proofs.YtncbfpigojeekaaDoor
open Go.RowKit Go.Lib
open Go.Maps (Keyed)

def errOf (base : ByteArray) (done : List Rate) (r : Rate) : Int := if checkS base r ≠ 0 then checkS base r else if dup done r then 8 else 0
def checkL (base : ByteArray) : List Rate → List Rate → Int × Int
  | _, [] => (0, 0)
  | done, r :: rest => if errOf base done r ≠ 0 then ((done.length : Nat), errOf base done r) else checkL base (done ++ [r]) rest
def newS (base : ByteArray) (l : List Rate) : Int × Int := if codeB base = false then (0, 13) else if 2000 < l.length then (0, 9) else checkL base [] l

theorem Tab.made (w : World) (base : ByteArray) (n : Int) (o : Obj) (ho : o = .cells #[.string base, .int .i64 n, .map (some w.heap.size)] 56 (0, 0)) :
    Tab ((w.alloc (.map #[] 0)).alloc o) w.heap.size (w.heap.size + 1) base n [] := by
  subst ho
  refine ⟨w.heap.size, fun _ => none, by omega, ?_, Nat.le_refl _, ?_, fun k => .inl ⟨rfl, rfl⟩, fun _ _ _ _ _ h => by cases h⟩
  · have := heap_alloc_new (w.alloc (.map #[] 0)) (.cells #[.string base, .int .i64 n, .map (some w.heap.size)] 56 (0, 0))
    simpa using this
  · refine (MapAt.made _ _ _ w).of_block ?_
    exact heap_alloc_old (w.alloc (.map #[] 0)) _ (by simp)

theorem Tab.weak {w : World} {B B' tb : Nat} {base : ByteArray} {n : Int} {L : List Rate} (h : Tab w B tb base n L) (hB : B' ≤ B) : Tab w B' tb base n L := by
  obtain ⟨mb, M, h1, h2, h3, h4, h5, h6⟩ := h
  refine ⟨mb, M, by omega, h2, by omega, h4, fun k => ?_, h6⟩
  rcases h5 k with h | ⟨v, hv, ho, hne⟩
  · exact .inl h
  · refine .inr ⟨v, hv, ⟨ho.1, ?_⟩, hne⟩
    rcases ho.2 with h | ⟨g, cap, cur, e, hbg, rest⟩
    · exact .inl h
    · exact .inr ⟨g, cap, cur, e, by omega, rest⟩
theorem Tab.lt {w : World} {B tb : Nat} {base : ByteArray} {n : Int} {L : List Rate} (h : Tab w B tb base n L) : tb < w.heap.size := by
  obtain ⟨mb, M, h1, h2, _⟩ := h
  exact (Array.getElem?_eq_some_iff.1 h2).1
theorem checkL_err {base : ByteArray} {L l : List Rate} {k : Nat} (hk : k < l.length) (hL : L = l.take k) (hne : errOf base L l[k] ≠ 0) : checkL base L (l.drop k) = ((k : Int), errOf base L l[k]) := by
  subst hL
  rw [List.drop_eq_getElem_cons hk]
  unfold checkL
  rw [if_pos hne, List.length_take, Nat.min_eq_left (by omega)]
theorem checkL_ok {base : ByteArray} {L l : List Rate} {k : Nat} (hk : k < l.length) (hL : L = l.take k) (hne : errOf base L l[k] = 0) : checkL base L (l.drop k) = checkL base (l.take (k + 1)) (l.drop (k + 1)) := by
  subst hL
  rw [List.drop_eq_getElem_cons hk]
  conv => lhs; unfold checkL
  rw [if_neg (by simp [hne]), List.take_succ_eq_append_getElem hk]

set_option maxRecDepth 100000 in
set_option maxHeartbeats 4000000 in
theorem fx_New.calls (base : ByteArray) (l : List Rate) (lv : Value) (w : World) (hl : DaysLaid w) (hs : SlR Rate.cells 5 w lv l) (hw : ∀ r ∈ l, r.wf) (hb : base.size ≤ 140737488351232) (hlen : l.length ≤ 4611686018427387904) :
    Calls Tryd.prog 12 #[.string base, lv] w fun e w' =>
      Below w.heap.size w w' ∧ ∃ p, e = .returned (.tuple #[.pointer p, .int .i64 (newS base l).1, .int .i64 (newS base l).2]) ∧
        (((newS base l).2 = 0 ∧ Apart l ∧ ∃ tb, p = some ⟨tb, 0, none⟩ ∧ Tab w' w.heap.size tb base l.length l) ∨ ((newS base l).2 ≠ 0 ∧ p = none)) := by
  obtain ⟨A, cp, rfl, hAs⟩ := hs.shape
  have HAS := Lib.hid hAs; clear hAs
  have HW := Lib.hid hw; have HL := Lib.hid hl
  clear hw hl
  cases hcb : codeB base with
  | false =>
    have HN := Lib.hid (show newS base l = (0, 13) by simp [newS, hcb])
    have HC := Lib.hid hcb; clear hcb
    go_enter Tryd.func12, Tryd.ntmps12
    go_wp2_with (go_at_call 23; refine (money_Code.calls _ _ hb).mono ?_; rintro e w1 ⟨rfl, hb1⟩; rw [HC.out])
    go_ret3
    exact ⟨hb1, none, by rw [HN.out]; rfl, .inr ⟨by rw [HN.out]; decide, rfl⟩⟩
  | true =>
    by_cases hbig : 2000 < l.length
    · have HN := Lib.hid (show newS base l = (0, 9) by simp [newS, hcb, hbig])
      have HC := Lib.hid hcb; clear hcb
      have hbi : (2000 : Int) < (l.length : Int) := by omega
      go_enter Tryd.func12, Tryd.ntmps12
      go_wp2_with (go_at_call 23; refine (money_Code.calls _ _ hb).mono ?_; rintro e w1 ⟨rfl, hb1⟩; rw [HC.out])
      go_ret3
      exact ⟨hb1, none, by rw [HN.out]; rfl, .inr ⟨by rw [HN.out]; decide, rfl⟩⟩
    · have HN := Lib.hid (show newS base l = checkL base [] l by simp [newS, hcb]; omega)
      have HC := Lib.hid hcb; clear hcb
      have hbi : ¬ (2000 : Int) < (l.length : Int) := by omega
      have hmm := @run_makeMap Tryd.prog
      go_enter Tryd.func12, Tryd.ntmps12
      go_wp2_with (go_at_call 23; refine (money_Code.calls _ _ hb).mono ?_; rintro e w1 ⟨rfl, hb1⟩; rw [HC.out])
      go_loopg [4, 24] l.length (fun g s4 s24 wr => ∃ k : Nat, g = l.length - k ∧ k ≤ l.length ∧ s4 = .pointer (some ⟨w1.heap.size + 1, 0, none⟩) ∧ s24 = .int .i64 k ∧ Below w.heap.size w wr ∧ Below w1.heap.size w1 wr ∧ Tab wr w1.heap.size (w1.heap.size + 1) base l.length (l.take k) ∧ Apart (l.take k) ∧ Hid (checkL base [] l = checkL base (l.take k) (l.drop k)))
      case atStart =>
        have h1 : Below w1.heap.size w1 ((w1.alloc (.map #[] 0)).alloc (.cells #[.string base, .int .i64 l.length, .map (some w1.heap.size)] 56 (0, 0))) := ((Below.refl _ _).alloc (Nat.le_refl _) _).alloc (by simp) _
        exact ⟨0, rfl, Nat.zero_le _, rfl, rfl, hb1.trans (h1.mono hb1.size), h1, Tab.made w1 base _ _ rfl, .nil, Lib.hid rfl⟩
      case round =>
        obtain ⟨k, rfl, hk, rfl, rfl, hbr, hbr1, hT, hA, hI⟩ := hrel
        by_cases hlt : k < l.length
        · obtain ⟨b, o, rfl, hbw, hc⟩ := HAS.out k hlt
          have hc' := fun j u hu => (hbr.cell (p := ⟨b, o + k * 5 + j, none⟩) hbw).trans (hc j u hu)
          obtain ⟨r, hr⟩ : ∃ r, l[k] = r := ⟨_, rfl⟩
          rw [hr] at hc'
          obtain ⟨q0, q1, q2, q3, q4⟩ := Rate.five hc'
          have hrw := HW.out r (hr ▸ List.getElem_mem hlt)
          have hbr' := hbr.size
          have HEr := fun (h : errOf base (l.take k) l[k] ≠ 0) => checkL_err (base := base) hlt rfl h
          have HOk := fun (h : errOf base (l.take k) l[k] = 0) => checkL_ok (base := base) hlt rfl h
          have htk := List.take_succ_eq_append_getElem hlt
          rw [hr] at HEr HOk htk
          have hdays : ∀ W, Below w.heap.size w W → DaysLaid W := fun W hB => HL.out.below hB
          have hlk : (l.take k).length ≤ 2000 := by rw [List.length_take]; omega
          clear hc hc' hr
          have HT := Lib.hid hT; have HDY := Lib.hid hdays; have HX := Lib.hid (And.intro HEr (And.intro HOk htk))
          clear hT hdays HEr HOk htk
          have HCH : ∀ W, Below w.heap.size w W → _ := fun W hB => fx_check.calls base r W (HDY.out W hB) hrw
          have HIN : ∀ W, Below wr.heap.size wr W → _ := fun W hB => fx_insert.calls w1.heap.size (w1.heap.size + 1) base l.length (l.take k) r W (HT.out.mono hB) hA hrw hlk (by have := hbr1.size; have := hB.size; omega)
          have HCH := Lib.hid HCH; have HIN := Lib.hid HIN
          obtain ⟨E, hE⟩ : ∃ E, checkS base r = E := ⟨_, rfl⟩
          have HE := Lib.hid hE; clear hE
          by_cases hE0 : E = 0
          · subst hE0
            obtain ⟨D, hD⟩ : ∃ D, dup (l.take k) r = D := ⟨_, rfl⟩
            have HD := Lib.hid hD; clear hD
            unfold Rate.v at HCH HIN
            cases D with
            | true =>
              have he : errOf base (l.take k) r = 8 := by unfold errOf; rw [HE.out, HD.out]; rfl
              have HF := Lib.hid (show newS base l = ((k : Int), 8) by rw [HN.out, hI.out, HX.out.1 (by rw [he]; decide), he])
              clear he
              go_wp2_with (first
              | (go_at_call 24; refine (HCH.out _ (hbr.alloc (by omega) _)).mono ?_; rintro e w2 ⟨rfl, hb2⟩; rw [HE.out]; obtain ⟨hcc, hff⟩ := bcell hb2; have hz2 := hb2.size; simp only [World.size_alloc] at hz2)
              | (go_at_call 25; refine (HIN.out _ (bc1 _ _ _ hb2)).mono ?_; rintro e w3 ⟨rfl, hb3, hT3⟩; rw [HD.out]))
              go_ret3
              exact ⟨hbr.trans (((bc1 _ _ _ hb2).mono hbr').trans (hb3.mono hb1.size)), none, by rw [HF.out]; rfl,   .inr ⟨by rw [HF.out]; show (8 : Int) ≠ 0; decide, rfl⟩⟩
            | false =>
              have he : errOf base (l.take k) r = 0 := by unfold errOf; rw [HE.out, HD.out]; rfl
              have HF := Lib.hid (HX.out.2.1 he)
              clear he
              go_wp2_with (first
              | (go_at_call 24; refine (HCH.out _ (hbr.alloc (by omega) _)).mono ?_; rintro e w2 ⟨rfl, hb2⟩; rw [HE.out]; obtain ⟨hcc, hff⟩ := bcell hb2; have hz2 := hb2.size; simp only [World.size_alloc] at hz2)
              | (go_at_call 25; refine (HIN.out _ (bc1 _ _ _ hb2)).mono ?_; rintro e w3 ⟨rfl, hb3, hT3⟩; rw [HD.out]))
              go_roundg (l.length - (k + 1))
              case measure => omega
              case rel =>
                have hb23 := (bc1 _ _ _ hb2).mono hbr1.size
                refine ⟨k + 1, rfl, by omega, rfl, by go_num, hbr.trans (((bc1 _ _ _ hb2).mono hbr').trans (hb3.mono hb1.size)), hbr1.trans (hb23.trans hb3), ?_, ?_, Lib.hid (by rw [hI.out]; exact HF.out)⟩
                · rw [HX.out.2.2]; exact hT3 HD.out
                · rw [HX.out.2.2]; exact hA.snoc HD.out
          · have he : errOf base (l.take k) r = E := by unfold errOf; rw [HE.out, if_pos hE0]
            have HF := Lib.hid (show newS base l = ((k : Int), E) by rw [HN.out, hI.out, HX.out.1 (by rw [he]; exact hE0), he])
            clear he
            unfold Rate.v at HCH HIN
            go_wp2_with (go_at_call 24; refine (HCH.out _ (hbr.alloc (by omega) _)).mono ?_; rintro e w2 ⟨rfl, hb2⟩; rw [HE.out]; obtain ⟨hcc, hff⟩ := bcell hb2; have hz2 := hb2.size; simp only [World.size_alloc] at hz2)
            go_ret3
            exact ⟨hbr.trans ((bc1 _ _ _ hb2).mono hbr'), none, by rw [HF.out]; rfl, .inr ⟨by rw [HF.out]; exact hE0, rfl⟩⟩
        · have hkl : k = l.length := by omega
          have HF := Lib.hid (show newS base l = (0, 0) by rw [HN.out, hI.out, List.drop_eq_nil_of_le (by omega)]; rfl)
          have htk : l.take k = l := List.take_of_length_le (by omega)
          rw [htk] at hT hA
          go_wp2
          go_ret3
          exact ⟨hbr, _, by rw [HF.out]; rfl, .inl ⟨by rw [HF.out], hA, _, rfl, hT.weak hb1.size⟩⟩

theorem Tab.cells {w : World} {B tb : Nat} {base : ByteArray} {n : Int} {L : List Rate} (h : Tab w B tb base n L) : w.cell? ⟨tb, 0, none⟩ = some (.string base) ∧ w.cell? ⟨tb, 1, none⟩ = some (.int .i64 n) := by
  obtain ⟨mb, M, _, h2, _⟩ := h
  exact ⟨by simp [World.cell?, h2], by simp [World.cell?, h2]⟩
set_option maxHeartbeats 1000000 in
theorem fx_Base.nil (w : World) : Calls Tryd.prog 14 #[.pointer none] w fun e w' => e = .returned (.string ⟨#[]⟩) ∧ w = w' := by
  go_enter Tryd.func14, Tryd.ntmps14
  go_wp2
  go_ret
  exact ⟨rfl, rfl⟩
set_option maxHeartbeats 1000000 in
theorem fx_Len.nil (w : World) : Calls Tryd.prog 15 #[.pointer none] w fun e w' => e = .returned (.int .i64 0) ∧ w = w' := by
  go_enter Tryd.func15, Tryd.ntmps15
  go_wp2
  go_ret
  exact ⟨rfl, rfl⟩
set_option maxHeartbeats 1000000 in
theorem fx_Base.calls (w : World) {B tb : Nat} {base : ByteArray} {n : Int} {L : List Rate} (h : Tab w B tb base n L) : Calls Tryd.prog 14 #[.pointer (some ⟨tb, 0, none⟩)] w fun e w' => e = .returned (.string base) ∧ w = w' := by
  obtain ⟨c0, c1⟩ := h.cells
  go_enter Tryd.func14, Tryd.ntmps14
  go_wp2
  go_ret
  exact ⟨rfl, rfl⟩
set_option maxHeartbeats 1000000 in
theorem fx_Len.calls (w : World) {B tb : Nat} {base : ByteArray} {n : Int} {L : List Rate} (h : Tab w B tb base n L) : Calls Tryd.prog 15 #[.pointer (some ⟨tb, 0, none⟩)] w fun e w' => e = .returned (.int .i64 n) ∧ w = w' := by
  obtain ⟨c0, c1⟩ := h.cells
  go_enter Tryd.func15, Tryd.ntmps15
  go_wp2
  go_ret
  exact ⟨rfl, rfl⟩

end Go.Proofs.YtncbfpigojeekaaDoor
