/- The examples of the chapter hold: lives. -/
import Derived.Test.YtncbfpigojeekaaDoorD9
namespace Go.Proofs.YtncbfpigojeekaaDoor
open Go.RowKit Go.Lib

theorem Bt {a b c : World} (h : Below a.heap.size a b) (k : Below b.heap.size b c) : Below a.heap.size a c := h.trans (k.mono h.size)
theorem Ba {a b : World} (h : Below a.heap.size a b) (o : Obj) : Below a.heap.size a (b.alloc o) := h.alloc h.size o
theorem Bn (a : World) (o : Obj) : Below a.heap.size a (a.alloc o) := (Below.refl _ _).alloc (Nat.le_refl _) o

theorem eq_frac_gen (dd : Nat) (a b c d : Int) (w : World) : (Op.equalIn (dd + 1 + 1) 37 (.agg #[.int .i64 a, .int .i64 b]) (.agg #[.int .i64 c, .int .i64 d])).run Tryd.prog w = .ok (a == c && b == d) w := by
  have f37 : Tryd.prog.underlying 37 = some (.struct (Tryd.prog.fieldsOf 37)) := by kernel_rfl
  have p0 : ∀ x y, (part 3 #[.int .i64 x, .int .i64 y] 0).run Tryd.prog w = .ok (.int .i64 x) w := fun x y => by kernel_rfl
  have p1 : ∀ x y, (part 3 #[.int .i64 x, .int .i64 y] 1).run Tryd.prog w = .ok (.int .i64 y) w := fun x y => by kernel_rfl
  rw [run_equalIn_struct w (dd + 1) 37 _ _ f37 (by kernel_rfl)]
  have ei : ∀ (d : Nat) (x y : Int), (Op.equalIn (d + 1) 3 (.int .i64 x) (.int .i64 y)).run Tryd.prog w = .ok (x == y) w := fun d x y => run_equalIn_int w _ _ _ _ _ _ Tryd.underlying3
  simp only [Program.fieldsOf, Tryd.underlying37, Op.eqFields]
  cases h1 : (a == c) <;> cases h2 : (b == d) <;> simp [p0, p1, ei, h1, h2]
theorem eq_frac (a b c d : Int) (w : World) : (Op.equalIn 10000 37 (.agg #[.int .i64 a, .int .i64 b]) (.agg #[.int .i64 c, .int .i64 d])).run Tryd.prog w = .ok (a == c && b == d) w := eq_frac_gen 9998 a b c d w

theorem slr_block {w : World} {b c : Nat} {e : TypeId} {cs : Array Value} (L : List Rate) (n : Nat) (hn : L.length = n) (hc : cs.toList = flat L) (h : w.heap[b]? = some (.cells cs e (0, 0))) : SlR Rate.cells 5 w (.slice (some ⟨b, 0, none⟩) n c) L := by
  refine .inr ⟨b, 0, c, by rw [hn], (Array.getElem?_eq_some_iff.1 h).1, fun i hi j u hu => ?_⟩
  rw [hasRow h, Nat.zero_add]
  have := flat_get L i hi j u hu
  rw [← hc] at this
  simpa using this

theorem checkL_sound {base : ByteArray} : ∀ (l done : List Rate), (checkL base done l).2 = 0 → ∀ r ∈ l, checkS base r = 0
  | [], _, _, r, hr => by cases hr
  | x :: l, done, h, r, hr => by
    unfold checkL at h
    split at h
    · rename_i h1; exact absurd h h1
    · rename_i h1
      rcases List.mem_cons.1 hr with rfl | hr
      · have h2 : errOf base done r = 0 := by simpa using h1
        unfold errOf at h2
        split at h2
        · exact h2
        · rename_i h3; simpa using h3
      · exact checkL_sound l _ h r hr
theorem newS_sound {base : ByteArray} {l : List Rate} (h : (newS base l).2 = 0) : l.length ≤ 2000 ∧ ∀ r ∈ l, checkS base r = 0 := by
  unfold newS at h
  split at h
  · exact absurd h (by decide)
  · split at h
    · exact absurd h (by decide)
    · exact ⟨by omega, checkL_sound l [] h⟩

def sB (l : List UInt8) : ByteArray := ⟨l.toArray⟩
def sUSD : ByteArray := ⟨#[85, 83, 68]⟩
def sEUR : ByteArray := ⟨#[69, 85, 82]⟩
def sJPY : ByteArray := ⟨#[74, 80, 89]⟩
def rA : Rate := ⟨sUSD, 1, 10, 9, 10⟩
def rB : Rate := ⟨sUSD, 1, 20, 4, 5⟩
def rC : Rate := ⟨sJPY, 1, 1, 3, 5⟩
def rD : Rate := ⟨sUSD, 1, 10, 1, 1⟩
def rE : Rate := ⟨sEUR, 1, 10, 1, 1⟩
theorem live1 : newS sEUR [rA, rB, rC] = (0, 0) := by kernel_rfl
theorem live2 : newS sEUR [rD, rE] = (1, 13) := by kernel_rfl
theorem live3 : findS sEUR [rA, rB, rC] sUSD 1 19 = (9, 10, 0) := by kernel_rfl
theorem live4 : findS sEUR [rA, rB, rC] sUSD 1 9 = (0, 0, 20) := by kernel_rfl
theorem live5 : crossS sEUR [rA, rB, rC] sUSD sJPY 1 20 = (4, 3, 0) := by kernel_rfl
theorem live6 : convS sEUR [rA, rB, rC] 101 sUSD sJPY 1 20 3 = (135, 0) := by kernel_rfl
theorem wfs : ∀ r ∈ [rA, rB, rC, rD, rE], r.wf := by
  intro r hr
  simp at hr
  rcases hr with rfl | rfl | rfl | rfl | rfl <;> (refine ⟨by decide, ?_, ?_, ?_, ?_⟩ <;> (constructor <;> decide))

theorem fx_New_ok {base : ByteArray} {l : List Rate} {i : Int} (h : newS base l = (i, 0)) (lv : Value) (w : World) (hl : DaysLaid w) (hs : SlR Rate.cells 5 w lv l) (hw : ∀ r ∈ l, r.wf) (hb : base.size ≤ 140737488351232) (hlen : l.length ≤ 4611686018427387904) :
    Calls Tryd.prog 12 #[.string base, lv] w fun e w' => ∃ tb, e = .returned (.tuple #[.pointer (some ⟨tb, 0, none⟩), .int .i64 i, .int .i64 0]) ∧ Below w.heap.size w w' ∧ Tab w' w.heap.size tb base l.length l ∧ Okay base l := by
  have hc := fx_New.calls base l lv w hl hs hw hb hlen
  rw [h] at hc
  refine hc.mono ?_
  rintro e w' ⟨hB, p, he, ⟨_, hA, tb, rfl, hT⟩ | ⟨h2, _⟩⟩
  · obtain ⟨h1, h2⟩ := newS_sound (base := base) (l := l) (by rw [h])
    exact ⟨tb, he, hB, hT, hA, h1, fun r hr => ⟨h2 r hr, hw r hr⟩⟩
  · exact absurd rfl h2
theorem fx_New_err {base : ByteArray} {l : List Rate} {i e : Int} (h : newS base l = (i, e)) (he : e ≠ 0) (lv : Value) (w : World) (hl : DaysLaid w) (hs : SlR Rate.cells 5 w lv l) (hw : ∀ r ∈ l, r.wf) (hb : base.size ≤ 140737488351232) (hlen : l.length ≤ 4611686018427387904) :
    Calls Tryd.prog 12 #[.string base, lv] w fun r w' => r = .returned (.tuple #[.pointer none, .int .i64 i, .int .i64 e]) ∧ Below w.heap.size w w' := by
  have hc := fx_New.calls base l lv w hl hs hw hb hlen
  rw [h] at hc
  refine hc.mono ?_
  rintro r w' ⟨hB, p, hr, ⟨h2, _⟩ | ⟨_, rfl⟩⟩
  · exact absurd h2 he
  · exact ⟨hr, hB⟩

set_option maxRecDepth 100000 in
set_option maxHeartbeats 4000000 in
theorem law11_lives.calls (w : World) (hl : DaysLaid w) :
    Calls Tryd.prog 11 #[] w fun e w' => e = .returned (.bool true) ∧ Below w.heap.size w w' := by
  have hdl : ∀ W, Below w.heap.size w W → DaysLaid W := fun W hB => hl.below hB
  have HL := Lib.hid hdl; clear hl hdl
  have hN1 := fx_New_ok live1 (.slice (some ⟨w.heap.size, 0, none⟩) 3 3) (w.alloc (.cells #[.string sUSD, .int .i64 1, .int .i64 10, .int .i64 9, .int .i64 10, .string sUSD, .int .i64 1, .int .i64 20, .int .i64 4, .int .i64 5, .string sJPY, .int .i64 1, .int .i64 1, .int .i64 3, .int .i64 5] 51))
    (HL.out _ (Bn _ _)) (slr_block [rA, rB, rC] 3 rfl rfl (heap_alloc_new w _)) (fun r hr => wfs r (by simp at hr ⊢; rcases hr with h | h | h <;> simp [h])) (by decide) (by decide)
  have hN2 := fun (W : World) (hB : Below w.heap.size w W) => fx_New_err live2 (by decide) (.slice (some ⟨W.heap.size, 0, none⟩) 2 2) (W.alloc (.cells #[.string sUSD, .int .i64 1, .int .i64 10, .int .i64 1, .int .i64 1, .string sEUR, .int .i64 1, .int .i64 10, .int .i64 1, .int .i64 1] 51))
    (HL.out _ (Ba hB _)) (slr_block [rD, rE] 2 rfl rfl (heap_alloc_new W _)) (fun r hr => wfs r (by simp at hr ⊢; rcases hr with h | h <;> simp [h])) (by decide) (by decide)
  have hF3 := fun (W : World) (B tb : Nat) (hB : Below w.heap.size w W) (hT : Tab W B tb sEUR 3 [rA, rB, rC]) (hO : Okay sEUR [rA, rB, rC]) => fx_Find.calls sEUR sUSD 1 19 [rA, rB, rC] B tb 3 W (HL.out _ hB) (by decide) (by constructor <;> decide) hT hO
  have hF4 := fun (W : World) (B tb : Nat) (hB : Below w.heap.size w W) (hT : Tab W B tb sEUR 3 [rA, rB, rC]) (hO : Okay sEUR [rA, rB, rC]) => fx_Find.calls sEUR sUSD 1 9 [rA, rB, rC] B tb 3 W (HL.out _ hB) (by decide) (by constructor <;> decide) hT hO
  have hC5 := fun (W : World) (B tb : Nat) (hB : Below w.heap.size w W) (hT : Tab W B tb sEUR 3 [rA, rB, rC]) (hO : Okay sEUR [rA, rB, rC]) => fx_Cross.calls sEUR sUSD sJPY 1 20 [rA, rB, rC] B tb 3 W (HL.out _ hB) (by decide) (by decide) (by constructor <;> decide) hT hO
  have hV6 := fun (W : World) (B tb : Nat) (hB : Below w.heap.size w W) (hT : Tab W B tb sEUR 3 [rA, rB, rC]) (hO : Okay sEUR [rA, rB, rC]) => fx_Convert.calls sEUR sUSD sJPY 101 1 20 3 [rA, rB, rC] B tb 3 W (HL.out _ hB) (by decide) (by decide) (by constructor <;> decide) (by constructor <;> decide) hT hO
  rw [live3] at hF3
  rw [live4] at hF4
  rw [live5] at hC5
  rw [live6] at hV6
  simp only at hF3 hF4 hC5 hV6
  simp only [sUSD, sEUR, sJPY] at hN1 hN2 hF3 hF4 hC5 hV6
  have HN1 := Lib.hid hN1; have HN2 := Lib.hid hN2; have HF3 := Lib.hid hF3; have HF4 := Lib.hid hF4; have HC5 := Lib.hid hC5; have HV6 := Lib.hid hV6
  clear hN1 hN2 hF3 hF4 hC5 hV6
  have hef := eq_frac
  go_enter Tryd.func11, Tryd.ntmps11
  go_upto_region 2 with (go_at_call 12; refine (HN1.out).mono ?_; rintro e w1 ⟨tb, rfl, hb1, hT1, hO⟩)
  have c1 : Below w.heap.size w w1 := bc1 _ _ _ hb1
  go_wp2_with (first
    | (go_at_call 14; refine (fx_Base.calls _ hT1).mono ?_; rintro e w' ⟨rfl, rfl⟩)
    | (go_at_call 15; refine (fx_Len.calls _ hT1).mono ?_; rintro e w' ⟨rfl, rfl⟩)
    | (go_at_call_of 16 (Value.int IntKind.i64 19); refine (HF3.out _ _ _ c1 hT1 hO).mono ?_; rintro e w2 ⟨rfl, hb2⟩; have d2 := Ba hb2 (.cells #[.int .i64 9, .int .i64 10] 37); have c2 := Bt c1 d2; have hT2 := hT1.mono d2)
    | (go_at_call_of 16 (Value.int IntKind.i64 9); refine (HF4.out _ _ _ c2 hT2 hO).mono ?_; rintro e w3 ⟨rfl, hb3⟩; have d3 := Ba hb3 (.cells #[.int .i64 0, .int .i64 0] 37); have c3 := Bt c2 d3; have hT3 := hT2.mono d3)
    | (go_at_call 17; refine (HC5.out _ _ _ c3 hT3 hO).mono ?_; rintro e w4 ⟨rfl, hb4⟩; have c4 := Bt c3 hb4; have hT4 := hT3.mono hb4)
    | (go_at_call 18; refine (HV6.out _ _ _ c4 hT4 hO).mono ?_; rintro e w5 ⟨rfl, hb5⟩; have c5 := Bt c4 hb5)
    | (go_at_call 12; refine (HN2.out _ c5).mono ?_; rintro e w6 ⟨rfl, hb6⟩; have hz := (Two.new w2 (.int .i64 9) (.int .i64 10) 37).below (by simp) (Bt d3 (Bt hb4 (Bt hb5 (bc1 _ _ _ hb6)))); obtain ⟨za, zb, _, _⟩ := hz))
  go_ret
  exact ⟨rfl, Bt c5 (bc1 _ _ _ hb6)⟩

end Go.Proofs.YtncbfpigojeekaaDoor
