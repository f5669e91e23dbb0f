/- The walk of the program and the plain laws behind the statements of this seat, part 6. -/
import Derived.Test.YtdlilbleohlmnaaZde
import Derived.Laws.OwnMore
set_option linter.all false
namespace Go.Proofs.Ytdlilbleohlmnaa.PAq
open Go.RowKit Go.Lib Go.Sort Go.Proofs.YtdlilbleohlmnaaW.PrintWords Go.Proofs.YtdlilbleohlmnaaW.PrintLast
def exBlk : Array Value := #[.string ⟨#[51, 48]⟩, .string ⟨#[]⟩, .int .i64 3, .bool true, .string ⟨#[]⟩, .bool false, .bool false, .slice none 0 0, .string ⟨#[51, 49]⟩, .string ⟨#[]⟩, .int .i64 3, .bool true, .string ⟨#[]⟩, .bool false, .bool false, .slice none 0 0, .string ⟨#[49, 48]⟩, .string ⟨#[]⟩, .int .i64 1, .bool true, .string ⟨#[]⟩, .bool false, .bool false, .slice none 0 0]
theorem exAt_C {w : World} {z : Nat} {t : TypeId} (h : w.heap[z]? = some (.cells exBlk t (0, 0))) : Kd.C k62 w (some ⟨z, 0, none⟩) exAccts.length exAccts := by
  have hn : Kd.C Kd.string w none ([] : List ByteArray).length [] := ⟨rfl, by simp, fun h => absurd h (Nat.lt_irrefl 0)⟩
  refine ⟨rfl, by decide, fun _ => ⟨_, rfl, fun j p hp => ?_⟩⟩
  have key : ∀ (i : Nat) (u : Value), [Value.string p.f0, .string p.f1, .int .i64 p.f2, .bool p.f3, .string p.f4, .bool p.f5, .bool p.f6, .slice none p.f7.length 0][i]? = some u → exBlk[j * 8 + i]? = some u := by
    intro i u hu
    have hi : i < 8 := (List.getElem?_eq_some_iff.mp hu).1
    match j, hp with
    | 0, hp => obtain rfl : _ = p := Option.some.inj hp; rcases (by omega : i = 0 ∨ i = 1 ∨ i = 2 ∨ i = 3 ∨ i = 4 ∨ i = 5 ∨ i = 6 ∨ i = 7) with rfl | rfl | rfl | rfl | rfl | rfl | rfl | rfl <;> exact hu
    | 1, hp => obtain rfl : _ = p := Option.some.inj hp; rcases (by omega : i = 0 ∨ i = 1 ∨ i = 2 ∨ i = 3 ∨ i = 4 ∨ i = 5 ∨ i = 6 ∨ i = 7) with rfl | rfl | rfl | rfl | rfl | rfl | rfl | rfl <;> exact hu
    | 2, hp => obtain rfl : _ = p := Option.some.inj hp; rcases (by omega : i = 0 ∨ i = 1 ∨ i = 2 ∨ i = 3 ∨ i = 4 ∨ i = 5 ∨ i = 6 ∨ i = 7) with rfl | rfl | rfl | rfl | rfl | rfl | rfl | rfl <;> exact hu
    | j + 3, hp => simp [exAccts] at hp
  have hf7 : p.f7 = [] := by
    match j, hp with
    | 0, hp => obtain rfl : _ = p := Option.some.inj hp; rfl
    | 1, hp => obtain rfl : _ = p := Option.some.inj hp; rfl
    | 2, hp => obtain rfl : _ = p := Option.some.inj hp; rfl
    | j + 3, hp => simp [exAccts] at hp
  refine ⟨_, rfl, k62_mk w p (A7 := none) (c7 := 0) (by rw [hf7]; exact Nat.le_refl _) (by rw [hf7]; exact hn), fun i u hu => ?_⟩
  have e : (⟨z, 0, none⟩ : Addr).add (j * k62.sz + i) = ⟨z, j * 8 + i, none⟩ := by
    have es : k62.sz = 8 := rfl
    rw [addr_add_, es]; congr 1; omega
  rw [e, blk_cell h]
  exact key i u hu
theorem exSized : ∀ a ∈ exAccts, Sized a := by
  intro a ha
  simp only [exAccts, List.mem_cons, List.not_mem_nil, or_false] at ha
  rcases ha with rfl | rfl | rfl <;> exact ⟨by decide, by decide, by decide, by decide, fun s hs => by cases hs⟩
theorem exTkSized (p : Int) (l : List Cell) : TkSized (exTk p l) := by
  intro s hs
  simp only [tkNames, exTk, List.mem_cons, List.not_mem_nil, or_false] at hs
  rcases hs with rfl | rfl | rfl | rfl | rfl | rfl <;> decide
theorem exCells (p : Int) (hp : 0 ≤ p ∧ p ≤ 1000) (l : List Cell) (hll : l.length ≤ 100) (hl : ∀ x ∈ l, x.f0.f1.size ≤ maxLen ∧ in64 x.f2) (A : Option Addr) (c g : Nat) (w : World) (hCh : ChartAt w g 3 exM) (hC : Kd.C k52 w A l.length l) (hc : l.length ≤ c) :
    Calls Try.prog 12 #[.pointer (some ⟨g, 0, none⟩), .agg #[.string ⟨#[97]⟩, .string ⟨#[98]⟩, .int .i64 p, .int .i64 3, .int .i64 4, .string ⟨#[49, 53]⟩, .string ⟨#[49, 57]⟩, .string ⟨#[52, 57]⟩, .string ⟨#[51, 57]⟩, .slice A l.length c], .string ⟨#[69, 85, 82]⟩, .int .i64 1] w fun e w' => CellsPost exM (exTk p l) exEur 1 w e w' :=
  go_cells (exTk p l) (exTkSized p l) exEur (by decide) 1 A c g 3 exM w hCh hC hc (by show l.length ≤ 10000; omega) (fun x hx => (hl x hx).1) (fun x hx => (hl x hx).2) ⟨by show _ ≤ p; omega, by show p ≤ _; omega⟩ ⟨by show _ ≤ (3 : Int); decide, by show (3 : Int) ≤ _; decide⟩ ⟨by show _ ≤ (4 : Int); decide, by show (4 : Int) ≤ _; decide⟩
theorem exAtOk : ∀ x ∈ exAt, x.f0.f1.size ≤ maxLen ∧ in64 x.f2 := by
  intro x hx
  simp only [exAt, List.mem_cons, List.not_mem_nil, or_false] at hx
  rcases hx with rfl | rfl <;> exact ⟨by decide, by decide⟩
theorem exBadOk : ∀ x ∈ exBad, x.f0.f1.size ≤ maxLen ∧ in64 x.f2 := by
  intro x hx
  simp only [exBad, List.mem_cons, List.not_mem_nil, or_false] at hx
  rcases hx with rfl
  exact ⟨by decide, by decide⟩
theorem five_at {w : World} {B : Nat} {v : Value} {l : List Cell} (h : w.ownsRow B 52 7 v l.length (flatC l)) (hl : l.length = 5) : ∃ z cap, v = .slice (some ⟨z, 0, none⟩) 5 cap ∧ ∀ W, Below w.heap.size w W → ∀ (j : Nat) (u : Value), (flatC l)[j]? = some u → W.cell? ⟨z, j, none⟩ = some u := by
  rcases h.2 with ⟨_, h0⟩ | ⟨z, cap, cur, hv, _⟩
  · omega
  · refine ⟨z, cap, by rw [hv, hl], fun W hW j u hu => ?_⟩
    rw [hv] at h
    have hj : j < l.length * 7 := by
      rw [← flatC_length]
      exact (List.getElem?_eq_some_iff.mp hu).1
    have hc := (h.cellAt j hj).trans hu
    exact (hW.cell (World.block_lt_of_cell? w _ hc)).trans hc
theorem exRun1 (A : Option Addr) (c g : Nat) (w : World) (hCh : ChartAt w g 3 exM) (hC : Kd.C k52 w A exAt.length exAt) (hc : exAt.length ≤ c) :
    Calls Try.prog 12 #[.pointer (some ⟨g, 0, none⟩), .agg #[.string ⟨#[97]⟩, .string ⟨#[98]⟩, .int .i64 120, .int .i64 3, .int .i64 4, .string ⟨#[49, 53]⟩, .string ⟨#[49, 57]⟩, .string ⟨#[52, 57]⟩, .string ⟨#[51, 57]⟩, .slice A exAt.length c], .string ⟨#[69, 85, 82]⟩, .int .i64 1] w fun e w' => ∃ z cap, e = .returned (.tuple #[.slice (some ⟨z, 0, none⟩) 5 cap, .int .i64 0]) ∧
      (∀ W, Below w'.heap.size w' W → W.cell? ⟨z, 1, none⟩ = some (.string ⟨#[49, 53]⟩) ∧ W.cell? ⟨z, 6, none⟩ = some (.int .i64 (-120)) ∧ W.cell? ⟨z, 8, none⟩ = some (.string ⟨#[49, 57]⟩) ∧ W.cell? ⟨z, 13, none⟩ = some (.int .i64 29) ∧ W.cell? ⟨z, 20, none⟩ = some (.int .i64 100) ∧ W.cell? ⟨z, 29, none⟩ = some (.string ⟨#[51, 57]⟩) ∧ W.cell? ⟨z, 34, none⟩ = some (.int .i64 (-31))) ∧ Below w.heap.size w w' := by
  refine (exCells 120 (by decide) exAt (by decide) exAtOk A c g w hCh hC hc).mono ?_
  rintro e w' (⟨hne, _, _⟩ | ⟨_, hof⟩)
  · exact absurd exErr1 hne
  · have hof' : OfPost (putsL (exTk 120 exAt) exEur (splitE 120 (netE exAt) 3 4 1).2.1 (splitE 120 (netE exAt) 3 4 1).2.2.1) w e w' := hof
    obtain ⟨v, he, hown, hb⟩ := hof'.sheet
    obtain ⟨x0, x1, x2, x3, x4, hs, q1, q2, q3, q4, q5, q6, q7⟩ := exSheet1
    rw [hs] at he hown
    obtain ⟨z, cap, rfl, hat⟩ := five_at hown rfl
    refine ⟨z, cap, he, fun W hW => ⟨?_, ?_, ?_, ?_, ?_, ?_, ?_⟩, hb⟩
    · exact hat W hW 1 _ (by rw [← q1]; rfl)
    · exact hat W hW 6 _ (by rw [← q2]; rfl)
    · exact hat W hW 8 _ (by rw [← q3]; rfl)
    · exact hat W hW 13 _ (by rw [← q4]; rfl)
    · exact hat W hW 20 _ (by rw [← q5]; rfl)
    · exact hat W hW 29 _ (by rw [← q6]; rfl)
    · exact hat W hW 34 _ (by rw [← q7]; rfl)
theorem exRun2 (A : Option Addr) (c g : Nat) (w : World) (hCh : ChartAt w g 3 exM) (hC : Kd.C k52 w A exAt.length exAt) (hc : exAt.length ≤ c) :
    Calls Try.prog 12 #[.pointer (some ⟨g, 0, none⟩), .agg #[.string ⟨#[97]⟩, .string ⟨#[98]⟩, .int .i64 50, .int .i64 3, .int .i64 4, .string ⟨#[49, 53]⟩, .string ⟨#[49, 57]⟩, .string ⟨#[52, 57]⟩, .string ⟨#[51, 57]⟩, .slice A exAt.length c], .string ⟨#[69, 85, 82]⟩, .int .i64 1] w fun e w' => ∃ z cap, e = .returned (.tuple #[.slice (some ⟨z, 0, none⟩) 5 cap, .int .i64 0]) ∧
      (∀ W, Below w'.heap.size w' W → W.cell? ⟨z, 29, none⟩ = some (.string ⟨#[52, 57]⟩) ∧ W.cell? ⟨z, 34, none⟩ = some (.int .i64 (-41))) ∧ Below w.heap.size w w' := by
  refine (exCells 50 (by decide) exAt (by decide) exAtOk A c g w hCh hC hc).mono ?_
  rintro e w' (⟨hne, _, _⟩ | ⟨_, hof⟩)
  · exact absurd exErr2 hne
  · have hof' : OfPost (putsL (exTk 50 exAt) exEur (splitE 50 (netE exAt) 3 4 1).2.1 (splitE 50 (netE exAt) 3 4 1).2.2.1) w e w' := hof
    obtain ⟨v, he, hown, hb⟩ := hof'.sheet
    obtain ⟨x0, x1, x2, x3, x4, hs, q6, q7⟩ := exSheet2
    rw [hs] at he hown
    obtain ⟨z, cap, rfl, hat⟩ := five_at hown rfl
    refine ⟨z, cap, he, fun W hW => ⟨?_, ?_⟩, hb⟩
    · exact hat W hW 29 _ (by rw [← q6]; rfl)
    · exact hat W hW 34 _ (by rw [← q7]; rfl)
theorem exRun3 (A : Option Addr) (c g : Nat) (w : World) (hCh : ChartAt w g 3 exM) (hC : Kd.C k52 w A exBad.length exBad) (hc : exBad.length ≤ c) :
    Calls Try.prog 12 #[.pointer (some ⟨g, 0, none⟩), .agg #[.string ⟨#[97]⟩, .string ⟨#[98]⟩, .int .i64 120, .int .i64 3, .int .i64 4, .string ⟨#[49, 53]⟩, .string ⟨#[49, 57]⟩, .string ⟨#[52, 57]⟩, .string ⟨#[51, 57]⟩, .slice A exBad.length c], .string ⟨#[69, 85, 82]⟩, .int .i64 1] w fun e w' => e = .returned (.tuple #[.slice none 0 0, .int .i64 12]) ∧ Below w.heap.size w w' := by
  refine (exCells 120 (by decide) exBad (by decide) exBadOk A c g w hCh hC hc).mono ?_
  rintro e w' (⟨_, he, hb⟩ | ⟨h0, _⟩)
  · rw [exErr3] at he
    exact ⟨he, hb⟩
  · rw [exErr3] at h0
    exact absurd h0 (by decide)
set_option maxHeartbeats 4000000 in
set_option maxRecDepth 100000 in
theorem go_lives (w : World) : Calls Try.prog 10 #[] w fun e w' => e = .returned (.bool true) ∧ Below w.heap.size w w' := by
  have i1 : in64 120 := by decide
  have i2 : in64 122 := by decide
  have i3 : in64 3 := by decide
  have i4 : in64 4 := by decide
  have i5 : in64 5 := by decide
  go_enter Try.func10, Try.ntmps10
  go_wp2_with fail
  refine (go_split 120 122 3 4 1 i1 i2 i3 i4 _).mono ?_
  rw [exSplit1]
  rintro e w1 ⟨rfl, hb1⟩
  go_wp2_with fail
  refine (go_split 120 122 5 4 1 i1 i2 i5 i4 _).mono ?_
  rw [exSplit2]
  rintro e w2 ⟨rfl, hb2⟩
  have hg2 := hb1.trans (hb2.mono hb1.size)
  have gr3 : Below w.heap.size w (w2.alloc (.cells exBlk 62)) := hg2.alloc hg2.size _
  have hz3 := (Go.MapKept.heap_alloc w2 (.cells exBlk 62)).1
  clear hb1 hb2
  go_wp2_with fail
  refine (go_newChart exAccts (some ⟨w2.heap.size, 0, none⟩) 3 _ (exAt_C hz3) (by decide) exSized (by decide)).mono ?_
  rintro e w4 ⟨hb4, ⟨i, er, rfl, hbad⟩ | ⟨g, rfl, hch⟩⟩
  · exact absurd hbad exChart
  have hch : ChartAt w4 g 3 exM := hch
  have hg4 := gr3.trans (hb4.mono gr3.size)
  have HCH := Lib.hid hch; have HG4 := Lib.hid hg4
  clear hch hg4 gr3 hz3 hb4 hg2 i1 i2 i3 i4 i5
  go_wp2_with fail
  refine (accountinglaw45_buy.calls 120 _ _ _ _ _ _ _ _ _ _ w4 rfl).mono ?_
  rintro e w5 ⟨v5, rfl, hR5, hb5⟩
  obtain ⟨A5, c5, rfl, hc5, hC5⟩ := Kd.R_reads hR5
  have HC5 := Lib.hid hC5; have HR5 := Lib.hid hR5; have HB5 := Lib.hid hb5
  clear hC5 hR5 hb5
  go_wp2_with fail
  refine (exRun1 A5 c5 g w5 (HCH.out.below HB5.out) HC5.out hc5).mono ?_
  rintro e w6 ⟨z6, cap6, rfl, hat6, hb6⟩
  have hg6 := HG4.out.trans ((HB5.out.trans (hb6.mono HB5.out.size)).mono HG4.out.size)
  have hw46 := HB5.out.trans (hb6.mono HB5.out.size)
  have HAT6 := Lib.hid hat6; have HG6 := Lib.hid hg6; have HW46 := Lib.hid hw46
  clear hat6 hg6 hw46 hb6 HC5 HR5 HB5 hc5
  go_wp2_with fail
  refine (accountinglaw45_buy.calls 50 _ _ _ _ _ _ _ _ _ _ w6 rfl).mono ?_
  rintro e w7 ⟨v7, rfl, hR7, hb7⟩
  obtain ⟨A7, c7, rfl, hc7, hC7⟩ := Kd.R_reads hR7
  have HC7 := Lib.hid hC7; have HB7 := Lib.hid hb7
  clear hC7 hR7 hb7
  go_wp2_with fail
  refine (exRun2 A7 c7 g w7 (HCH.out.below (HW46.out.trans (HB7.out.mono HW46.out.size))) HC7.out hc7).mono ?_
  rintro e w8 ⟨z8, cap8, rfl, hat8, hb8⟩
  have hw68 := HB7.out.trans (hb8.mono HB7.out.size)
  have HAT8 := Lib.hid hat8; have HW68 := Lib.hid hw68; have HW48 := Lib.hid (HW46.out.trans (hw68.mono HW46.out.size))
  clear hat8 hw68 hb8 HC7 HB7 hc7
  go_wp2_with fail
  refine (accountinglaw45_buy.calls 120 _ _ _ _ _ _ _ _ _ _ w8 rfl).mono ?_
  rintro e w9 ⟨v9, rfl, hR9, hb9⟩
  obtain ⟨A9, c9, rfl, hc9, hC9⟩ := Kd.R_reads hR9
  have HB9 := Lib.hid hb9
  clear hR9 hC9 hb9 hc9
  go_upto_region 8 with fail
  have grA : Below w9.heap.size w9 ((w9.alloc (.cells #[.string ⟨#[97]⟩, .string ⟨#[98]⟩, .int .i64 120, .int .i64 3, .int .i64 4, .string ⟨#[49, 53]⟩, .string ⟨#[49, 57]⟩, .string ⟨#[52, 57]⟩, .string ⟨#[51, 57]⟩, .slice (some ⟨w9.heap.size + 1, 0, none⟩) 1 1] 36)).alloc (.cells #[.string ⟨#[98]⟩, .string ⟨#[49, 48]⟩, .string ⟨#[69, 85, 82]⟩, .string ⟨#[]⟩, .string ⟨#[]⟩, .int .i64 (-1), .int .i64 (-1)] 52)) := ((Below.refl _ _).alloc (Nat.le_refl _) _).alloc (by rw [World.size_alloc]; omega) _
  have hzB := (Go.MapKept.heap_alloc (w9.alloc (.cells #[.string ⟨#[97]⟩, .string ⟨#[98]⟩, .int .i64 120, .int .i64 3, .int .i64 4, .string ⟨#[49, 53]⟩, .string ⟨#[49, 57]⟩, .string ⟨#[52, 57]⟩, .string ⟨#[51, 57]⟩, .slice (some ⟨w9.heap.size + 1, 0, none⟩) 1 1] 36)) (.cells #[.string ⟨#[98]⟩, .string ⟨#[49, 48]⟩, .string ⟨#[69, 85, 82]⟩, .string ⟨#[]⟩, .string ⟨#[]⟩, .int .i64 (-1), .int .i64 (-1)] 52)).1
  rw [World.size_alloc] at hzB
  have hzA : ((w9.alloc (.cells #[.string ⟨#[97]⟩, .string ⟨#[98]⟩, .int .i64 120, .int .i64 3, .int .i64 4, .string ⟨#[49, 53]⟩, .string ⟨#[49, 57]⟩, .string ⟨#[52, 57]⟩, .string ⟨#[51, 57]⟩, .slice (some ⟨w9.heap.size + 1, 0, none⟩) 1 1] 36)).alloc (.cells #[.string ⟨#[98]⟩, .string ⟨#[49, 48]⟩, .string ⟨#[69, 85, 82]⟩, .string ⟨#[]⟩, .string ⟨#[]⟩, .int .i64 (-1), .int .i64 (-1)] 52)).heap[w9.heap.size]? = some (.cells #[.string ⟨#[97]⟩, .string ⟨#[98]⟩, .int .i64 120, .int .i64 3, .int .i64 4, .string ⟨#[49, 53]⟩, .string ⟨#[49, 57]⟩, .string ⟨#[52, 57]⟩, .string ⟨#[51, 57]⟩, .slice (some ⟨w9.heap.size + 1, 0, none⟩) 1 1] 36 (0, 0)) := (((Below.refl _ (w9.alloc (.cells #[.string ⟨#[97]⟩, .string ⟨#[98]⟩, .int .i64 120, .int .i64 3, .int .i64 4, .string ⟨#[49, 53]⟩, .string ⟨#[49, 57]⟩, .string ⟨#[52, 57]⟩, .string ⟨#[51, 57]⟩, .slice (some ⟨w9.heap.size + 1, 0, none⟩) 1 1] 36))).alloc (Nat.le_refl _) (.cells #[.string ⟨#[98]⟩, .string ⟨#[49, 48]⟩, .string ⟨#[69, 85, 82]⟩, .string ⟨#[]⟩, .string ⟨#[]⟩, .int .i64 (-1), .int .i64 (-1)] 52)).block _ (by rw [World.size_alloc]; omega)).trans (Go.MapKept.heap_alloc w9 (.cells #[.string ⟨#[97]⟩, .string ⟨#[98]⟩, .int .i64 120, .int .i64 3, .int .i64 4, .string ⟨#[49, 53]⟩, .string ⟨#[49, 57]⟩, .string ⟨#[52, 57]⟩, .string ⟨#[51, 57]⟩, .slice (some ⟨w9.heap.size + 1, 0, none⟩) 1 1] 36)).1
  have hCB := C_of_cells (cap := 1) (ks := exBad) hzB (by rfl) 0 1 (by decide) (by decide)
  obtain ⟨zB, hzBe⟩ : ∃ z, w9.heap.size + 1 = z := ⟨_, rfl⟩
  obtain ⟨zA, hzAe⟩ : ∃ z, w9.heap.size = z := ⟨_, rfl⟩
  rw [hzBe] at grA hzB hzA hCB ⊢
  obtain ⟨wA, hwA⟩ : ∃ W, (w9.alloc (.cells #[.string ⟨#[97]⟩, .string ⟨#[98]⟩, .int .i64 120, .int .i64 3, .int .i64 4, .string ⟨#[49, 53]⟩, .string ⟨#[49, 57]⟩, .string ⟨#[52, 57]⟩, .string ⟨#[51, 57]⟩, .slice (some ⟨zB, 0, none⟩) 1 1] 36)).alloc (.cells #[.string ⟨#[98]⟩, .string ⟨#[49, 48]⟩, .string ⟨#[69, 85, 82]⟩, .string ⟨#[]⟩, .string ⟨#[]⟩, .int .i64 (-1), .int .i64 (-1)] 52) = W := ⟨_, rfl⟩
  rw [hwA] at grA hzB hzA hCB ⊢
  rw [hzAe] at hzA ⊢
  have HW4A := Lib.hid (HW48.out.trans ((HB9.out.trans (grA.mono HB9.out.size)).mono HW48.out.size))
  have HW8A := Lib.hid (HB9.out.trans (grA.mono HB9.out.size))
  have HCB := Lib.hid hCB
  clear hwA hzBe hzAe grA hzB hCB
  have k0 : wA.cell? ⟨zA, 0, none⟩ = some (.string ⟨#[97]⟩) := blk_cell hzA 0
  have k1 : wA.cell? ⟨zA, 1, none⟩ = some (.string ⟨#[98]⟩) := blk_cell hzA 1
  have k2 : wA.cell? ⟨zA, 2, none⟩ = some (.int .i64 120) := blk_cell hzA 2
  have k3 : wA.cell? ⟨zA, 3, none⟩ = some (.int .i64 3) := blk_cell hzA 3
  have k4 : wA.cell? ⟨zA, 4, none⟩ = some (.int .i64 4) := blk_cell hzA 4
  have k5 : wA.cell? ⟨zA, 5, none⟩ = some (.string ⟨#[49, 53]⟩) := blk_cell hzA 5
  have k6 : wA.cell? ⟨zA, 6, none⟩ = some (.string ⟨#[49, 57]⟩) := blk_cell hzA 6
  have k7 : wA.cell? ⟨zA, 7, none⟩ = some (.string ⟨#[52, 57]⟩) := blk_cell hzA 7
  have k8 : wA.cell? ⟨zA, 8, none⟩ = some (.string ⟨#[51, 57]⟩) := blk_cell hzA 8
  have k9 : wA.cell? ⟨zA, 9, none⟩ = some (.slice (some ⟨zB, 0, none⟩) 1 1) := blk_cell hzA 9
  clear hzA
  go_wp2_with fail
  refine (exRun3 (some ⟨zB, 0, none⟩) 1 g wA (HCH.out.below HW4A.out) HCB.out (by decide)).mono ?_
  rintro e w10 ⟨rfl, hb10⟩
  have hx := HAT6.out w10 (HW68.out.trans ((HW8A.out.trans (hb10.mono HW8A.out.size)).mono HW68.out.size))
  obtain ⟨m1, m2, m3, m4, m5, m6, m7⟩ := hx
  obtain ⟨m8, m9⟩ := HAT8.out w10 (HW8A.out.trans (hb10.mono HW8A.out.size))
  have HFIN := Lib.hid (HG4.out.trans ((HW4A.out.trans (hb10.mono HW4A.out.size)).mono HG4.out.size))
  clear k0 k1 k2 k3 k4 k5 k6 k7 k8 k9 hb10
  go_wp2_with fail
  go_ret
  exact ⟨rfl, HFIN.out⟩
end Go.Proofs.Ytdlilbleohlmnaa.PAq
namespace Go.Proofs.Ytdlilbleohlmnaa.PAq
open Go.RowKit Go.Proofs.YtdlilbleohlmnaaW.PrintWords Go.Proofs.YtdlilbleohlmnaaW.PrintLast
theorem bless_gtr_4 : ∀ x y : List UInt8, (!Op.bytesLess x y && !(x == y)) = Op.bytesLess y x
  | [], [] => rfl
  | [], _ :: _ => rfl
  | _ :: _, [] => rfl
  | a :: x, b :: y => by
    have h := bless_gtr_4 x y
    rw [Op.bytesLess, Op.bytesLess, List.cons_beq_cons, ← h]
    rcases Nat.lt_trichotomy a.toNat b.toNat with c | c | c
    · have h1 : a < b := c
      have h2 : ¬ b < a := fun k => by have : b.toNat < a.toNat := k; omega
      have h3 : (b == a) = false := beq_eq_false_iff_ne.mpr (fun e => by rw [e] at c; omega)
      simp [h1, h2, h3]
    · have e : a = b := UInt8.toNat_inj.mp c
      subst e
      simp
    · have h1 : b < a := c
      have h2 : ¬ a < b := fun k => by have : a.toNat < b.toNat := k; omega
      have h3 : (a == b) = false := beq_eq_false_iff_ne.mpr (fun e => by rw [e] at c; omega)
      simp [h1, h2, h3]
theorem str_gtr_4 (t : TypeId) (a b : ByteArray) : binOp .gtr t (.string a) (.string b) = pure (.bool (Op.bytesLess b.toList a.toList)) := by simp only [binOp, Op.stringOp, ← bless_gtr_4 a.toList b.toList, Bool.not_or]
theorem str_geq_4 (t : TypeId) (a b : ByteArray) : binOp .geq t (.string a) (.string b) = pure (.bool (!Op.bytesLess a.toList b.toList)) := by simp [binOp, Op.stringOp]
attribute [local go_sem] str_gtr_4 str_geq_4
set_option linter.unusedVariables false
set_option linter.unusedSimpArgs false
end Go.Proofs.Ytdlilbleohlmnaa.PAq
namespace Go.Proofs.Ytdlilbleohlmnaa.PAq
open Go.RowKit Go.Proofs.YtdlilbleohlmnaaW.PrintWords Go.Proofs.YtdlilbleohlmnaaW.PrintLast
theorem bless_gtr_5 : ∀ x y : List UInt8, (!Op.bytesLess x y && !(x == y)) = Op.bytesLess y x
  | [], [] => rfl
  | [], _ :: _ => rfl
  | _ :: _, [] => rfl
  | a :: x, b :: y => by
    have h := bless_gtr_5 x y
    rw [Op.bytesLess, Op.bytesLess, List.cons_beq_cons, ← h]
    rcases Nat.lt_trichotomy a.toNat b.toNat with c | c | c
    · have h1 : a < b := c
      have h2 : ¬ b < a := fun k => by have : b.toNat < a.toNat := k; omega
      have h3 : (b == a) = false := beq_eq_false_iff_ne.mpr (fun e => by rw [e] at c; omega)
      simp [h1, h2, h3]
    · have e : a = b := UInt8.toNat_inj.mp c
      subst e
      simp
    · have h1 : b < a := c
      have h2 : ¬ a < b := fun k => by have : a.toNat < b.toNat := k; omega
      have h3 : (a == b) = false := beq_eq_false_iff_ne.mpr (fun e => by rw [e] at c; omega)
      simp [h1, h2, h3]
theorem str_gtr_5 (t : TypeId) (a b : ByteArray) : binOp .gtr t (.string a) (.string b) = pure (.bool (Op.bytesLess b.toList a.toList)) := by simp only [binOp, Op.stringOp, ← bless_gtr_5 a.toList b.toList, Bool.not_or]
theorem str_geq_5 (t : TypeId) (a b : ByteArray) : binOp .geq t (.string a) (.string b) = pure (.bool (!Op.bytesLess a.toList b.toList)) := by simp [binOp, Op.stringOp]
attribute [local go_sem] str_gtr_5 str_geq_5
set_option linter.unusedVariables false
set_option linter.unusedSimpArgs false
end Go.Proofs.Ytdlilbleohlmnaa.PAq
namespace Go.Proofs.Ytdlilbleohlmnaa.PAq
open Go.RowKit Go.Lib Go.Sort Go.Proofs.YtdlilbleohlmnaaW.PrintWords Go.Proofs.YtdlilbleohlmnaaW.PrintLast
structure Cs where
  accs : List Acct
  t : Tk
  cur : ByteArray
  mode : Int
def keysz (k : Key) : Int := k.f0.size + k.f1.size + k.f2.size + k.f3.size + k.f4.size
def tksz (t : Tk) (cur : ByteArray) : Int := t.parent.size + t.child.size + t.invest.size + t.goodwill.size + t.gain.size + t.minor.size + cur.size
def bigC (x : Cell) : Bool := decide (keysz x.f0 > 400)
def largeB (X : Cs) : Bool := decide (X.accs.length > 60) || decide (X.t.ats.length > 60) || decide (tksz X.t X.cur > 400) || X.t.ats.any bigC
def KeySz (k : Key) : Prop := k.f0.size ≤ 140737488351232 ∧ k.f1.size ≤ 140737488351232 ∧ k.f2.size ≤ 140737488351232 ∧ k.f3.size ≤ 140737488351232 ∧ k.f4.size ≤ 140737488351232
structure CsOk (X : Cs) : Prop where
  accs : ∀ a ∈ X.accs, Sized a
  names : TkSized X.t
  cur : X.cur.size ≤ 140737488351232
  keys : ∀ x ∈ X.t.ats, KeySz x.f0
  ins : ∀ x ∈ X.t.ats, in64 x.f1 ∧ in64 x.f2
  price : in64 X.t.price
  fn : in64 X.t.fn
  fd : in64 X.t.fd
  al : X.accs.length ≤ 4611686018427387904
  atl : X.t.ats.length ≤ 4611686018427387904
theorem wrap_5 {a b c d e : Int} (ha : 0 ≤ a ∧ a ≤ 140737488351232) (hb : 0 ≤ b ∧ b ≤ 140737488351232) (hc : 0 ≤ c ∧ c ≤ 140737488351232) (hd : 0 ≤ d ∧ d ≤ 140737488351232) (he : 0 ≤ e ∧ e ≤ 140737488351232) : wrap64 (wrap64 (wrap64 (wrap64 (a + b) + c) + d) + e) = a + b + c + d + e := by
  rw [@wrap64_id (a + b) (by omega) (by omega), @wrap64_id (a + b + c) (by omega) (by omega), @wrap64_id (a + b + c + d) (by omega) (by omega), @wrap64_id (a + b + c + d + e) (by omega) (by omega)]
theorem large_l0 (l : List Cell) (hs : ∀ x ∈ l, KeySz x.f0) (hl : l.length ≤ 4611686018427387904) (b0 b1 b5 b6 b7 b8 : ByteArray) (n2 n3 n4 : Int) : ∀ (k i : Nat), l.length - i < k → i ≤ l.length → accountinglaw45_large.l0 k (i : Int) b0 b1 n2 n3 n4 b5 b6 b7 b8 l = some ((l.drop i).any bigC)
  | 0, _, h, _ => by omega
  | k + 1, i, h, hi => by
    rw [accountinglaw45_large.l0]
    by_cases c : i < l.length
    · have hx : rd_T52 l (i : Int) = l[i] := by
        show l.getD (i : Int).toNat _ = _
        rw [Int.toNat_natCast, List.getD_eq_getElem?_getD, List.getElem?_eq_getElem c, Option.getD_some]
      have hz := hs l[i] (List.getElem_mem c)
      rw [if_pos (by omega), if_pos (by omega), hx]
      obtain ⟨z0, z1, z2, z3, z4⟩ := hz
      have w1 : ∀ n : Int, -9223372036854775808 ≤ n → n ≤ 9223372036854775807 → wrap64 n = n := fun n h1 h2 => wrap64_id h1 h2
      rw [wrap_5 ⟨by omega, by omega⟩ ⟨by omega, by omega⟩ ⟨by omega, by omega⟩ ⟨by omega, by omega⟩ ⟨by omega, by omega⟩, List.drop_eq_getElem_cons c, List.any_cons, show (l[i].f0.f0.size : Int) + l[i].f0.f1.size + l[i].f0.f2.size + l[i].f0.f3.size + l[i].f0.f4.size = keysz l[i].f0 from rfl]
      by_cases hb : keysz l[i].f0 > 400
      · rw [if_pos hb, bigC, decide_eq_true hb]; rfl
      · rw [if_neg hb, w1 _ (by omega) (by omega), show bigC l[i] = false from decide_eq_false hb, Bool.false_or]
        have := large_l0 l hs hl b0 b1 b5 b6 b7 b8 n2 n3 n4 k (i + 1) (by omega) c
        rw [← this]
        congr 1
    · rw [if_neg (by omega), List.drop_eq_nil_of_le (by omega)]
      rfl
theorem large_f (X : Cs) (h : CsOk X) (k : Nat) (hk : X.t.ats.length + 2 ≤ k) : accountinglaw45_large.f k X.accs X.t.parent X.t.child X.t.price X.t.fn X.t.fd X.t.invest X.t.goodwill X.t.gain X.t.minor X.t.ats X.cur X.mode = some (largeB X) := by
  obtain ⟨k, rfl⟩ : ∃ j, k = j + 1 := ⟨k - 1, by omega⟩
  have hn := fun s hs => h.names s hs
  have z0 := hn X.t.parent (by simp [tkNames])
  have z1 := hn X.t.child (by simp [tkNames])
  have z2 := hn X.t.invest (by simp [tkNames])
  have z3 := hn X.t.goodwill (by simp [tkNames])
  have z4 := hn X.t.gain (by simp [tkNames])
  have z5 := hn X.t.minor (by simp [tkNames])
  have z6 := h.cur
  have w1 : ∀ n : Int, -9223372036854775808 ≤ n → n ≤ 9223372036854775807 → wrap64 n = n := fun n h1 h2 => wrap64_id h1 h2
  unfold accountinglaw45_large.f largeB
  have hl0 := large_l0 X.t.ats h.keys h.atl X.t.parent X.t.child X.t.invest X.t.goodwill X.t.gain X.t.minor X.t.price X.t.fn X.t.fd k 0 (by omega) (by omega)
  rw [List.drop_zero] at hl0
  have hl0 : accountinglaw45_large.l0 k 0 X.t.parent X.t.child X.t.price X.t.fn X.t.fd X.t.invest X.t.goodwill X.t.gain X.t.minor X.t.ats = some (X.t.ats.any bigC) := hl0
  by_cases c1 : (X.accs.length : Int) > 60
  · rw [if_pos c1, accountinglaw45_large.j0, if_pos rfl, decide_eq_true (show X.accs.length > 60 by omega)]; rfl
  · rw [if_neg c1, decide_eq_false (show ¬ X.accs.length > 60 by omega), Bool.false_or]
    by_cases c2 : (X.t.ats.length : Int) > 60
    · rw [if_pos c2, accountinglaw45_large.j0, if_pos rfl, decide_eq_true (show X.t.ats.length > 60 by omega)]; rfl
    · rw [if_neg c2, decide_eq_false (show ¬ X.t.ats.length > 60 by omega), Bool.false_or]
      rw [@wrap_5 (X.t.parent.size : Int) (X.t.child.size : Int) (X.t.invest.size : Int) (X.t.goodwill.size : Int) (X.t.gain.size : Int) ⟨by omega, by omega⟩ ⟨by omega, by omega⟩ ⟨by omega, by omega⟩ ⟨by omega, by omega⟩ ⟨by omega, by omega⟩, @wrap64_id ((X.t.parent.size : Int) + X.t.child.size + X.t.invest.size + X.t.goodwill.size + X.t.gain.size + X.t.minor.size) (by omega) (by omega), @wrap64_id ((X.t.parent.size : Int) + X.t.child.size + X.t.invest.size + X.t.goodwill.size + X.t.gain.size + X.t.minor.size + X.cur.size) (by omega) (by omega), accountinglaw45_large.j0, hl0]
      have e : ∀ b : Bool, (if b = true then some true else some (X.t.ats.any bigC)) = some (b || X.t.ats.any bigC) := fun b => by cases b <;> rfl
      rw [e]
      rfl
def csV (X : Cs) (A1 A2 : Option Addr) (c1 c2 : Nat) : Value := .agg #[.slice A1 X.accs.length c1, .string X.t.parent, .string X.t.child, .int .i64 X.t.price, .int .i64 X.t.fn, .int .i64 X.t.fd, .string X.t.invest, .string X.t.goodwill, .string X.t.gain, .string X.t.minor, .slice A2 X.t.ats.length c2, .string X.cur, .int .i64 X.mode]
theorem go_large (X : Cs) (h : CsOk X) (A1 A2 : Option Addr) (c1 c2 : Nat) (w : World) (h1 : Kd.C k62 w A1 X.accs.length X.accs) (hc1 : X.accs.length ≤ c1) (h2 : Kd.C k52 w A2 X.t.ats.length X.t.ats) (hc2 : X.t.ats.length ≤ c2) :
    Calls Try.prog 15 #[csV X A1 A2 c1 c2] w fun e w' => e = .returned (.bool (largeB X)) ∧ Below w.heap.size w w' :=
  accountinglaw45_large.calls (X.t.ats.length + 2) A1 c1 X.accs X.t.parent X.t.child X.t.price X.t.fn X.t.fd X.t.invest X.t.goodwill X.t.gain X.t.minor A2 c2 X.t.ats X.cur X.mode (largeB X) w h1 hc1 h2 hc2 (large_f X h _ (Nat.le_refl _))
structure Small (X : Cs) : Prop where
  accs : X.accs.length ≤ 60
  ats : X.t.ats.length ≤ 60
  keys : ∀ x ∈ X.t.ats, x.f0.f0.size ≤ 400 ∧ x.f0.f1.size ≤ 400 ∧ x.f0.f2.size ≤ 400 ∧ x.f0.f3.size ≤ 400 ∧ x.f0.f4.size ≤ 400
set_option maxHeartbeats 2000000 in
set_option maxRecDepth 100000 in
theorem go_cellsNil (t : Tk) (cur : ByteArray) (mode : Int) (A : Option Addr) (c : Nat) (w : World) :
    Calls Try.prog 12 #[.pointer none, tkV t A c, .string cur, .int .i64 mode] w fun e w' => e = .returned (.tuple #[.slice none 0 0, .int .i64 1]) ∧ Below w.heap.size w w' := by
  unfold tkV
  have HG := Lib.hid (((Below.refl w.heap.size w).alloc (Nat.le_refl _) (.cells #[.string t.parent, .string t.child, .int .i64 t.price, .int .i64 t.fn, .int .i64 t.fd, .string t.invest, .string t.goodwill, .string t.gain, .string t.minor, .slice A t.ats.length c] 36)).alloc (by rw [World.size_alloc]; omega) (.cells #[.string cur] 9))
  go_enter Try.func12, Try.ntmps12
  go_wp2
  go_ret2
  exact ⟨rfl, HG.out⟩
end Go.Proofs.Ytdlilbleohlmnaa.PAq
