/- The reference of the tables: Check and Find. -/
import Derived.Test.YtncbfpigojeekaaDoorD3
namespace Go.Proofs.YtncbfpigojeekaaDoor
open Go.RowKit Go.Lib

set_option maxRecDepth 100000 in
set_option maxHeartbeats 4000000 in
theorem ref11_Check.calls (base : ByteArray) (l : List Rate) (lv : Value) (w : World) (hs : SlR Rate.cells 5 w lv l) (hw : ∀ r ∈ l, r.wf) (hlen : l.length ≤ 4611686018427387904) :
    Calls Tryd.prog 13 #[.string base, lv] w fun e w' => e = .returned (.tuple #[.int .i64 (newS base l).1, .int .i64 (newS base l).2]) ∧ Below w.heap.size w w' := by
  have hone := fun (i : Nat) (hi : i < l.length) (W : World) (hB : Below w.heap.size w W) => ref11_one.calls base l lv i W (hs.below hB) hi hlen (hw _ (List.getElem_mem hi))
  have HONE := Lib.hid hone; clear hone
  obtain ⟨A, cp, rfl, hAs⟩ := hs.shape
  clear hAs
  cases hcb : codeB base with
  | false =>
    have HN := Lib.hid (show newS base l = (0, 13) by simp [newS, hcb])
    have HC := Lib.hid hcb; clear hcb
    go_enter Tryd.func13, Tryd.ntmps13
    go_wp2_with (go_at_call 26; refine (ref07_Code.calls _ _).mono ?_; rintro e w1 ⟨rfl, hb1⟩; rw [HC.out])
    go_ret2
    exact ⟨by rw [HN.out]; rfl, hb1⟩
  | true =>
    by_cases hbig : 2000 < l.length
    · have HN := Lib.hid (show newS base l = (0, 9) by simp [newS, hcb, hbig])
      have HC := Lib.hid hcb; clear hcb
      have hbi : (2000 : Int) < (l.length : Int) := by omega
      go_enter Tryd.func13, Tryd.ntmps13
      go_wp2_with (go_at_call 26; refine (ref07_Code.calls _ _).mono ?_; rintro e w1 ⟨rfl, hb1⟩; rw [HC.out])
      go_ret2
      exact ⟨by rw [HN.out]; rfl, hb1⟩
    · have HN := Lib.hid (show newS base l = checkL base [] l by simp [newS, hcb]; omega)
      have HC := Lib.hid hcb; clear hcb
      have hbi : ¬ (2000 : Int) < (l.length : Int) := by omega
      go_enter Tryd.func13, Tryd.ntmps13
      go_wp2_with (go_at_call 26; refine (ref07_Code.calls _ _).mono ?_; rintro e w1 ⟨rfl, hb1⟩; rw [HC.out])
      go_loopg [6] l.length (fun g t wr => ∃ k : Nat, g = l.length - k ∧ k ≤ l.length ∧ t = .int .i64 k ∧ Below w.heap.size w wr ∧ Hid (checkL base [] l = checkL base (l.take k) (l.drop k)))
      case atStart => exact ⟨0, rfl, Nat.zero_le _, rfl, hb1, Lib.hid rfl⟩
      case round =>
        obtain ⟨k, rfl, hk, rfl, hbr, hI⟩ := hrel
        by_cases hlt : k < l.length
        · have HEr := fun (h : errOf base (l.take k) l[k] ≠ 0) => checkL_err (base := base) hlt rfl h
          have HOk := fun (h : errOf base (l.take k) l[k] = 0) => checkL_ok (base := base) hlt rfl h
          have hcall := fun W hB => HONE.out k hlt W hB
          obtain ⟨E, hE⟩ : ∃ E, errOf base (l.take k) l[k] = E := ⟨_, rfl⟩
          rw [hE] at HEr HOk hcall
          have HCA := Lib.hid hcall
          have HX := Lib.hid (And.intro HEr HOk)
          clear HEr HOk hcall hE
          by_cases hE0 : E = 0
          · subst hE0
            have HF := Lib.hid (HX.out.2 rfl)
            go_wp2_with (go_at_call 27; refine (HCA.out _ hbr).mono ?_; rintro e w2 ⟨rfl, hb2⟩)
            go_roundg (l.length - (k + 1))
            case measure => omega
            case rel => exact ⟨k + 1, rfl, by omega, by go_num, hbr.trans (hb2.mono hbr.size), Lib.hid (by rw [hI.out]; exact HF.out)⟩
          · have HF := Lib.hid (show newS base l = ((k : Int), E) by rw [HN.out, hI.out, HX.out.1 hE0])
            have hEb : (E == 0) = false := by simp [hE0]
            go_wp2_with (go_at_call 27; refine (HCA.out _ hbr).mono ?_; rintro e w2 ⟨rfl, hb2⟩)
            go_ret2
            exact ⟨by rw [HF.out]; rfl, hbr.trans (hb2.mono hbr.size)⟩
        · have HF := Lib.hid (show newS base l = (0, 0) by rw [HN.out, hI.out, List.drop_eq_nil_of_le (by omega)]; rfl)
          have hlt' : ¬ (k : Int) < (l.length : Int) := by omega
          go_wp2
          go_ret2
          exact ⟨by rw [HF.out]; rfl, hbr⟩

def Match (cur : ByteArray) (kind day : Int) (q : Rate) : Prop := q.key = (cur, kind) ∧ q.day ≤ day
theorem findP_none {L : List Rate} (hA : Apart L) {cur : ByteArray} {kind day : Int} : findP L cur kind day = none → ∀ q ∈ L, ¬ Match cur kind day q := by
  intro h q hq hm
  obtain ⟨j, hj, he⟩ := List.getElem_of_mem ((mem_ser L (cur, kind) q).2 ⟨hq, hm.1⟩)
  have hl := (hA.rising (cur, kind)).low_lt (day + 1) j hj
  have hd := hm.2
  rw [he] at hl
  have h1 := hl.2 (by omega)
  unfold findP at h
  rw [if_neg (by omega)] at h
  have := List.getElem?_eq_none_iff.1 h
  have hle : lowB (ser L (cur, kind)) (day + 1) ≤ (ser L (cur, kind)).length := List.countP_le_length
  omega
theorem findP_some {L : List Rate} (hA : Apart L) {cur : ByteArray} {kind day : Int} {r : Rate} : findP L cur kind day = some r → r ∈ L ∧ Match cur kind day r ∧ ∀ q ∈ L, Match cur kind day q → q.day ≤ r.day := by
  intro h
  have hm := findP_mem h
  unfold findP at h
  split at h
  · cases h
  · rename_i h0
    obtain ⟨hj, he⟩ := List.getElem?_eq_some_iff.1 h
    have hR := hA.rising (cur, kind)
    have hl := (hR.low_lt (day + 1) _ hj).1 (by omega)
    rw [he] at hl
    refine ⟨hm.1, ⟨hm.2, by omega⟩, fun q hq hqm => ?_⟩
    obtain ⟨t, ht, het⟩ := List.getElem_of_mem ((mem_ser L (cur, kind) q).2 ⟨hq, hqm.1⟩)
    have h1 := (hR.low_lt (day + 1) t ht).2 (by rw [het]; have := hqm.2; omega)
    rcases Nat.lt_or_ge t (lowB (ser L (cur, kind)) (day + 1) - 1) with h2 | h2
    · have := hR t _ h2 hj
      rw [het, he] at this
      omega
    · have e2 : t = lowB (ser L (cur, kind)) (day + 1) - 1 := by omega
      subst e2
      rw [← het, he]
      exact Int.le_refl _
theorem Apart.uniq {L : List Rate} (hA : Apart L) : ∀ {q r : Rate}, q ∈ L → r ∈ L → q.key = r.key → q.day = r.day → q = r := by
  induction hA with
  | nil => intro q r hq; cases hq
  | @snoc L x hA hd ih =>
    have hx : ∀ q ∈ L, q.key = x.key → q.day = x.day → False := fun q hq h1 h2 => by
      have : dup L x = true := by unfold dup; rw [List.any_eq_true]; exact ⟨q, hq, by simp [h1, h2]⟩
      rw [this] at hd; cases hd
    intro q r hq hr hk hday
    rcases List.mem_append.1 hq with h1 | h1 <;> rcases List.mem_append.1 hr with h2 | h2
    · exact ih h1 h2 hk hday
    · have := List.mem_singleton.1 h2; subst this; exact (hx q h1 hk hday).elim
    · have := List.mem_singleton.1 h1; subst this; exact (hx r h2 hk.symm hday.symm).elim
    · rw [List.mem_singleton.1 h1, List.mem_singleton.1 h2]
/-- The latest rate is the only one that the description fits. -/
theorem findP_eq {L : List Rate} (hA : Apart L) {cur : ByteArray} {kind day : Int} (o : Option Rate) (h0 : o = none → ∀ q ∈ L, ¬ Match cur kind day q) (h1 : ∀ r, o = some r → r ∈ L ∧ Match cur kind day r ∧ ∀ q ∈ L, Match cur kind day q → q.day ≤ r.day) : findP L cur kind day = o := by
  cases o with
  | none =>
    cases hf : findP L cur kind day with
    | none => rfl
    | some r => obtain ⟨a, b, _⟩ := findP_some hA hf; exact absurd b (h0 rfl r a)
  | some r =>
    obtain ⟨a, b, c⟩ := h1 r rfl
    cases hf : findP L cur kind day with
    | none => exact absurd b (findP_none hA hf r a)
    | some r' =>
      obtain ⟨a', b', c'⟩ := findP_some hA hf
      rw [hA.uniq a' a (b'.1.trans b.1.symm) (by have := c r' a' b'; have := c' r a b; omega)]

end Go.Proofs.YtncbfpigojeekaaDoor
