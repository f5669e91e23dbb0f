/- The statement AcquireNone (P45) is proved: for every case the law returns true and its argument reads as it did. -/
import Derived.Test.YtdlilbleohlmnaaZdf
import Derived.Test.YtdlilbleohlmnaaRows
import Derived.ProofKit
import Derived.OpenShut
import Derived.ShutString
import Derived.ChangeOld
import Derived.SizedLaws
import Derived.Stop.Joined
import Derived.Deep.Slices
import Derived.WalkKit
import Derived.Below
set_option linter.all false
namespace Go.Proofs.Ytdlilbleohlmnaa.PAq
open Go.RowKit Go.Lib Go.Sort Go.Proofs.YtdlilbleohlmnaaW.PrintWords Go.Proofs.YtdlilbleohlmnaaW.PrintLast
set_option maxHeartbeats 2000000 in
set_option maxRecDepth 100000 in
theorem go_law_None (X : Cs) (h : CsOk X) (A1 A2 : Option Addr) (c1 c2 : Nat) (w : World) (h1 : Kd.C k62 w A1 X.accs.length X.accs) (hc1 : X.accs.length ≤ c1) (h2 : Kd.C k52 w A2 X.t.ats.length X.t.ats) (hc2 : X.t.ats.length ≤ c2) :
    Calls Try.prog 6 #[csV X A1 A2 c1 c2] w fun e w' => e = .returned (.bool true) ∧ Below w.heap.size w w' := by
  have gr1 : Below w.heap.size w (w.alloc (.cells #[.slice A1 X.accs.length c1, .string X.t.parent, .string X.t.child, .int .i64 X.t.price, .int .i64 X.t.fn, .int .i64 X.t.fd, .string X.t.invest, .string X.t.goodwill, .string X.t.gain, .string X.t.minor, .slice A2 X.t.ats.length c2, .string X.cur, .int .i64 X.mode] 38)) := (Below.refl _ _).alloc (Nat.le_refl _) _
  have hz := (Go.MapKept.heap_alloc w (.cells #[.slice A1 X.accs.length c1, .string X.t.parent, .string X.t.child, .int .i64 X.t.price, .int .i64 X.t.fn, .int .i64 X.t.fd, .string X.t.invest, .string X.t.goodwill, .string X.t.gain, .string X.t.minor, .slice A2 X.t.ats.length c2, .string X.cur, .int .i64 X.mode] 38)).1
  have HLG := Lib.hid (go_large X h A1 A2 c1 c2 (w.alloc (.cells #[.slice A1 X.accs.length c1, .string X.t.parent, .string X.t.child, .int .i64 X.t.price, .int .i64 X.t.fn, .int .i64 X.t.fd, .string X.t.invest, .string X.t.goodwill, .string X.t.gain, .string X.t.minor, .slice A2 X.t.ats.length c2, .string X.cur, .int .i64 X.mode] 38)) (Kd.C_below h1 gr1) hc1 (Kd.C_below h2 gr1) hc2)
  clear h h1 h2
  have HCN := Lib.hid (go_cellsNil X.t X.cur X.mode A2 c2)
  unfold csV at HLG ⊢
  unfold tkV at HCN
  go_enter Try.func6, Try.ntmps6
  go_wp2_with fail
  refine HLG.out.mono ?_
  rintro e w1 ⟨rfl, hb1⟩
  have hz1 := (hb1.block _ (blk_lt hz)).trans hz
  have hg1 := gr1.trans (hb1.mono gr1.size)
  obtain ⟨z, hze⟩ : ∃ z, w.heap.size = z := ⟨_, rfl⟩
  have HZE := Lib.hid hze
  rw [hze] at hz1 ⊢
  have HG1 := Lib.hid hg1
  clear hz hb1 hg1 hze gr1 HLG
  obtain ⟨lb, hlb⟩ : ∃ b, largeB X = b := ⟨_, rfl⟩
  rw [hlb]
  clear hlb
  cases lb with
  | true =>
    go_wp2_with fail
    refine (go_lives w1).mono ?_
    rintro e w2 ⟨rfl, hb2⟩
    have HF := Lib.hid (HG1.out.trans (hb2.mono HG1.out.size))
    clear hb2
    go_wp2_with fail
    go_ret
    exact ⟨rfl, HF.out⟩
  | false =>
    have x1 : w1.cell? ⟨z, 1, none⟩ = some (.string X.t.parent) := blk_cell hz1 1
    have x2 : w1.cell? ⟨z, 2, none⟩ = some (.string X.t.child) := blk_cell hz1 2
    have x3 : w1.cell? ⟨z, 3, none⟩ = some (.int .i64 X.t.price) := blk_cell hz1 3
    have x4 : w1.cell? ⟨z, 4, none⟩ = some (.int .i64 X.t.fn) := blk_cell hz1 4
    have x5 : w1.cell? ⟨z, 5, none⟩ = some (.int .i64 X.t.fd) := blk_cell hz1 5
    have x6 : w1.cell? ⟨z, 6, none⟩ = some (.string X.t.invest) := blk_cell hz1 6
    have x7 : w1.cell? ⟨z, 7, none⟩ = some (.string X.t.goodwill) := blk_cell hz1 7
    have x8 : w1.cell? ⟨z, 8, none⟩ = some (.string X.t.gain) := blk_cell hz1 8
    have x9 : w1.cell? ⟨z, 9, none⟩ = some (.string X.t.minor) := blk_cell hz1 9
    have x10 : w1.cell? ⟨z, 10, none⟩ = some (.slice A2 X.t.ats.length c2) := blk_cell hz1 10
    have x11 : w1.cell? ⟨z, 11, none⟩ = some (.string X.cur) := blk_cell hz1 11
    have x12 : w1.cell? ⟨z, 12, none⟩ = some (.int .i64 X.mode) := blk_cell hz1 12
    go_wp2_with fail
    refine (HCN.out w1).mono ?_
    rintro e w2 ⟨rfl, hb2⟩
    have HG2 := Lib.hid (HG1.out.trans (hb2.mono HG1.out.size))
    clear hb2 x1 x2 x3 x4 x5 x6 x7 x8 x9 x10 x11 x12 hz1
    go_wp2_with fail
    refine (go_lives w2).mono ?_
    rintro e w3 ⟨rfl, hb3⟩
    have HF := Lib.hid (HG2.out.trans (hb3.mono HG2.out.size))
    clear hb3
    go_wp2_with fail
    go_ret
    exact ⟨rfl, HF.out⟩
end Go.Proofs.Ytdlilbleohlmnaa.PAq
namespace Go.Proofs.Ytdlilbleohlmnaa.PAq
open Go.RowKit Go.Lib Go.ChangeShapes Go.WideShapes Go.ChangeAt Go.Proofs.YtdlilbleohlmnaaW.PrintWords Go.Proofs.YtdlilbleohlmnaaW.PrintLast
section
variable {H : Type} {enc : TypeId × Value → H}
theorem weights_all {P : Program} {e : TypeId} {n : Nat} : ∀ {l : List (DataW H)} {d : DataW H}, d ∈ l → n ∈ d.weights P e → n ∈ DataW.weightsAll P e l
  | x :: l, d, hd, hn => by
    rw [DataW.weightsAll, List.mem_append]
    rcases List.mem_cons.1 hd with rfl | h
    · exact .inl hn
    · exact .inr (weights_all h hn)
set_option maxRecDepth 100000 in
theorem open_row {α : Type} [Inhabited α] (kd : Kd α) (G : α → Prop) {t e : TypeId} (ht : Try.prog.underlying t = some (.slice e)) (hc : Try.prog.cellsOf e = kd.sz) {W : World} (hel : ∀ {n : Nat} {cs : List Value} {x : DataW H × List MemPlace}, DataW.trod enc Try.prog W 0 (fun _ => true) true n e cs = some x → (∀ n ∈ x.1.weights Try.prog e, n ≤ reachBytes) → ∃ p : α, kd.K W p cs ∧ G p)
    {fuel : Nat} {v : Value} {d : DataW H} {ps : List MemPlace} (hf : DataW.trod enc Try.prog W 0 (fun _ => true) true fuel t [v] = some (d, ps)) (hz : ∀ n ∈ d.weights Try.prog t, n ≤ reachBytes) :
    ∃ (A : Option Addr) (l : List α) (c : Nat), v = .slice A l.length c ∧ Kd.C kd W A l.length l ∧ l.length ≤ c ∧ (∀ p ∈ l, G p) ∧ l.length * Try.prog.bytesOf e ≤ reachBytes ∧ l.length ≤ 9223372036854775807 := by
  rcases Deep.open_slice ht hf with ⟨e1, _⟩ | ⟨a, len, cap, m, nn, D, Pl, e1, hb, hl, hm, hmm, e2, hx⟩
  · simp at e1
    subst e1
    exact ⟨none, [], 0, rfl, ⟨rfl, by simp, fun h => absurd h (by simp)⟩, Nat.le_refl _, (fun p hp => by cases hp), (by rw [List.length_nil, Nat.zero_mul]; exact Nat.zero_le _), Nat.zero_le _⟩
  · simp at e1
    subst e1
    simp at hmm
    subst hmm
    simp only [Prod.mk.injEq] at e2
    have hd := e2.1
    subst hd
    have hcapz : m * Try.prog.bytesOf e ≤ reachBytes := by
      have := hz ((((List.range len).map D).length + ((List.range (m - len)).map fun j => D (len + j)).length) * Try.prog.bytesOf e) (by simp only [DataW.weights, ht]; exact List.mem_cons_self ..)
      simp only [List.length_map, List.length_range] at this
      have e : len + (m - len) = m := by omega
      rwa [e] at this
    have hx' : ∀ i, i < len → ∃ r : α, ∃ cs, W.cells? 0 (a.add (i * kd.sz)) kd.sz = some cs ∧ kd.K W r cs ∧ G r := fun i hi => by
      obtain ⟨cs', h1, h2⟩ := hx i (by omega)
      rw [hc] at h1
      obtain ⟨r, h3, h4⟩ := hel h2 (fun n hn => hz n (by
        simp only [DataW.weights, ht]
        refine List.mem_cons_of_mem _ (List.mem_append.2 (.inl (weights_all (d := D i) ?_ hn)))
        exact List.mem_map.2 ⟨i, List.mem_range.2 hi, rfl⟩))
      exact ⟨r, cs', h1, h3, h4⟩
    obtain ⟨R, hR⟩ := Deep.choose_lt hx'
    have hl9 : len ≤ 9223372036854775807 := by simp only [maxLen] at *; omega
    refine ⟨some a, (List.range len).map R, m, by simp, ⟨rfl, by simpa using hl9, fun h0 => ⟨a, rfl, fun j p hj => ?_⟩⟩, by simpa using hl, fun q hq => ?_, ?_, by simpa using hl9⟩
    · simp only [List.getElem?_map] at hj
      have hjl : j < len := by
        rcases Nat.lt_or_ge j len with h | h
        · exact h
        · rw [List.getElem?_eq_none (by simpa using h)] at hj; cases hj
      rw [List.getElem?_range hjl] at hj
      simp only [Option.map_some, Option.some.injEq] at hj
      subst hj
      obtain ⟨cs, h1, h2, _⟩ := hR j hjl
      refine ⟨cs, kd.K_len h2, h2, fun i u hu => ?_⟩
      have hi : i < kd.sz := by rw [← kd.K_len h2]; exact (List.getElem?_eq_some_iff.1 hu).1
      have := (World.cells?_some h1).2.2 i hi
      rw [hu] at this
      rw [← this]
      show W.cell? (a.add (j * kd.sz + i)) = W.cell? ((a.add (j * kd.sz)).add i)
      congr 1
      exact (Addr.add_add a (j * kd.sz) i).symm
    · obtain ⟨j, hj, rfl⟩ := List.mem_map.1 hq
      rw [List.mem_range] at hj
      obtain ⟨_, _, _, h⟩ := hR j hj
      exact h
    · simp only [List.length_map, List.length_range]
      exact Nat.le_trans (Nat.mul_le_mul_right _ hl) hcapz
set_option maxRecDepth 100000 in
theorem trod_cell {W : World} {n : Nat} {cs : List Value} {x : DataW H × List MemPlace} (h : DataW.trod enc Try.prog W 0 (fun _ => true) true n 52 cs = some x) (hz : ∀ n ∈ x.1.weights Try.prog 52, n ≤ reachBytes) :
    ∃ r : Cell, Kd.K k52 W r cs ∧ (KeySz r.f0 ∧ in64 r.f1 ∧ in64 r.f2) := by
  have cR : Try.prog.cellsOf 52 = 7 := by kernel_rfl
  have cK : Try.prog.cellsOf 50 = 5 := by kernel_rfl
  have cs9 : Try.prog.cellsOf 9 = 1 := by kernel_rfl
  have c3 : Try.prog.cellsOf 3 = 1 := by kernel_rfl
  obtain ⟨xs, k, rfl, rfl, hlen, hxl, hf⟩ := DataW.trod_struct Try.underlying52 h
  rw [cR] at hlen
  match xs, hxl, cs, hlen with
  | [y0, y1, y2], _, [v0, v1, v2, v3, v4, v5, v6], _ =>
    have g0 := hf 0 _ rfl
    have g1 := hf 1 _ rfl
    have g2 := hf 2 _ rfl
    simp [cs9, c3, cK] at g0 g1 g2
    obtain ⟨zs, k2, rfl, rfl, hlen2, hzl, hf2⟩ := DataW.trod_struct Try.underlying50 g0
    obtain ⟨n5, e5, rfl, w5⟩ := DataW.trod_int Try.underlying3 g1
    obtain ⟨n6, e6, rfl, w6⟩ := DataW.trod_int Try.underlying3 g2
    match zs, hzl with
    | [z0, z1, z2, z3, z4], _ =>
      have q0 := hf2 0 _ rfl
      have q1 := hf2 1 _ rfl
      have q2 := hf2 2 _ rfl
      have q3 := hf2 3 _ rfl
      have q4 := hf2 4 _ rfl
      simp [cs9] at q0 q1 q2 q3 q4
      obtain ⟨s0, e0, rfl, _⟩ := DataW.trod_string Try.underlying9 q0
      obtain ⟨s1, e1, rfl, _⟩ := DataW.trod_string Try.underlying9 q1
      obtain ⟨s2, e2, rfl, _⟩ := DataW.trod_string Try.underlying9 q2
      obtain ⟨s3, e3, rfl, _⟩ := DataW.trod_string Try.underlying9 q3
      obtain ⟨s4, e4, rfl, _⟩ := DataW.trod_string Try.underlying9 q4
      simp at e0 e1 e2 e3 e4 e5 e6
      subst e0 e1 e2 e3 e4 e5 e6
      simp [DataW.weights, Try.underlying52, Try.underlying50, DataW.weightsEach] at hz
      refine ⟨⟨⟨s0, s1, s2, s3, s4⟩, n5, n6⟩, k52_mk W _, ?_, bounds_i64 w5, bounds_i64 w6⟩
      exact hz
set_option maxRecDepth 100000 in
theorem trod_str {W : World} {n : Nat} {cs : List Value} {x : DataW H × List MemPlace} (h : DataW.trod enc Try.prog W 0 (fun _ => true) true n 9 cs = some x) (hz : ∀ n ∈ x.1.weights Try.prog 9, n ≤ reachBytes) :
    ∃ r : ByteArray, Kd.K Kd.string W r cs ∧ r.size ≤ 140737488351232 := by
  obtain ⟨s0, e0, rfl, _⟩ := DataW.trod_string Try.underlying9 h
  subst e0
  simp [DataW.weights] at hz
  exact ⟨s0, rfl, hz⟩
set_option maxRecDepth 100000 in
theorem trod_acct {W : World} {n : Nat} {cs : List Value} {x : DataW H × List MemPlace} (h : DataW.trod enc Try.prog W 0 (fun _ => true) true n 62 cs = some x) (hz : ∀ n ∈ x.1.weights Try.prog 62, n ≤ reachBytes) :
    ∃ r : Acct, Kd.K k62 W r cs ∧ Sized r := by
  have cR : Try.prog.cellsOf 62 = 8 := by kernel_rfl
  have cs9 : Try.prog.cellsOf 9 = 1 := by kernel_rfl
  have c3 : Try.prog.cellsOf 3 = 1 := by kernel_rfl
  have c4 : Try.prog.cellsOf 4 = 1 := by kernel_rfl
  have cl : Try.prog.cellsOf 48 = 1 := by kernel_rfl
  have b9 : Try.prog.bytesOf 9 = 16 := by kernel_rfl
  obtain ⟨xs, k, rfl, rfl, hlen, hxl, hf⟩ := DataW.trod_struct Try.underlying62 h
  rw [cR] at hlen
  match xs, hxl, cs, hlen with
  | [y0, y1, y2, y3, y4, y5, y6, y7], _, [v0, v1, v2, v3, v4, v5, v6, v7], _ =>
    have g0 := hf 0 _ rfl
    have g1 := hf 1 _ rfl
    have g2 := hf 2 _ rfl
    have g3 := hf 3 _ rfl
    have g4 := hf 4 _ rfl
    have g5 := hf 5 _ rfl
    have g6 := hf 6 _ rfl
    have g7 := hf 7 _ rfl
    simp [cs9, c3, c4, cl] at g0 g1 g2 g3 g4 g5 g6 g7
    obtain ⟨s0, e0, rfl, _⟩ := DataW.trod_string Try.underlying9 g0
    obtain ⟨s1, e1, rfl, _⟩ := DataW.trod_string Try.underlying9 g1
    obtain ⟨n2, e2, rfl, w2⟩ := DataW.trod_int Try.underlying3 g2
    obtain ⟨b3, e3, rfl⟩ := DataW.trod_bool Try.underlying4 g3
    obtain ⟨s4, e4, rfl, _⟩ := DataW.trod_string Try.underlying9 g4
    obtain ⟨b5, e5, rfl⟩ := DataW.trod_bool Try.underlying4 g5
    obtain ⟨b6, e6, rfl⟩ := DataW.trod_bool Try.underlying4 g6
    obtain ⟨d7, p7⟩ := y7
    simp at e0 e1 e2 e3 e4 e5 e6
    subst e0 e1 e2 e3 e4 e5 e6
    simp [DataW.weights, Try.underlying62, DataW.weightsEach] at hz
    obtain ⟨A, l, c, rfl, hC, hlc, hG, hB, _⟩ := open_row Kd.string (fun r => r.size ≤ 140737488351232) Try.underlying48 cs9 (fun h hz => trod_str h hz) g7 (fun n hn => hz.2.2.2 n hn)
    refine ⟨⟨s0, s1, n2, b3, s4, b5, b6, l⟩, k62_mk W _ hlc hC, hz.1, hz.2.1, hz.2.2.1, ?_, hG⟩
    rw [b9] at hB
    have : reachBytes = 140737488351232 := rfl
    show l.length ≤ 8796093021952
    omega
set_option maxRecDepth 100000 in
theorem open_case {W : World} {v : Value} {d : DataW H} {ps : List MemPlace} (h : DataW.Trod enc Try.prog W 0 (fun _ => true) true 38 v d ps) (hz : ∀ n ∈ d.weights Try.prog 38, n ≤ reachBytes) :
    ∃ (X : Cs) (A1 A2 : Option Addr) (c1 c2 : Nat), v = csV X A1 A2 c1 c2 ∧ Kd.C k62 W A1 X.accs.length X.accs ∧ X.accs.length ≤ c1 ∧ Kd.C k52 W A2 X.t.ats.length X.t.ats ∧ X.t.ats.length ≤ c2 ∧ CsOk X := by
  have cA : Try.prog.cellsOf 38 = 13 := by kernel_rfl
  have cT : Try.prog.cellsOf 36 = 10 := by kernel_rfl
  have cF : Try.prog.cellsOf 23 = 2 := by kernel_rfl
  have c9 : Try.prog.cellsOf 9 = 1 := by kernel_rfl
  have c3 : Try.prog.cellsOf 3 = 1 := by kernel_rfl
  have c22 : Try.prog.cellsOf 33 = 1 := by kernel_rfl
  have c25 : Try.prog.cellsOf 34 = 1 := by kernel_rfl
  have cK : Try.prog.cellsOf 52 = 7 := by kernel_rfl
  have cC : Try.prog.cellsOf 62 = 8 := by kernel_rfl
  have bK : Try.prog.bytesOf 52 = 96 := by kernel_rfl
  have bC : Try.prog.bytesOf 62 = 96 := by kernel_rfl
  obtain ⟨fuel, hf⟩ := h
  obtain ⟨xs, k, rfl, hx, hlen, hxl, hel⟩ := DataW.trod_struct Try.underlying38 hf
  rw [cA] at hlen
  obtain ⟨cs, rfl⟩ : ∃ cs, v = .agg cs := by
    cases v <;> first | exact ⟨_, rfl⟩ | (simp [Value.cells] at hlen)
  simp only [Value.cells] at hlen hel
  simp only [Prod.mk.injEq] at hx
  obtain ⟨rfl, _⟩ := hx
  obtain ⟨l⟩ := cs
  match xs, hxl, l, hlen with
  | [y0, y1, y2, y3], _, [v0, v1, v2, v3, v4, v5, v6, v7, v8, v9, v10, v11, v12], _ =>
    have g0 := hel 0 _ rfl
    have g1 := hel 1 _ rfl
    have g2 := hel 2 _ rfl
    have g3 := hel 3 _ rfl
    simp [c9, c3, c22, cT] at g0 g1 g2 g3
    obtain ⟨zs, k2, rfl, rfl, hlen2, hzl, hf2⟩ := DataW.trod_struct Try.underlying36 g1
    obtain ⟨s11, e11, rfl, _⟩ := DataW.trod_string Try.underlying9 g2
    obtain ⟨n12, e12, rfl, w12⟩ := DataW.trod_int Try.underlying3 g3
    match zs, hzl with
    | [z0, z1, z2, z3, z4, z5, z6, z7, z8], _ =>
      have q0 := hf2 0 _ rfl
      have q1 := hf2 1 _ rfl
      have q2 := hf2 2 _ rfl
      have q3 := hf2 3 _ rfl
      have q4 := hf2 4 _ rfl
      have q5 := hf2 5 _ rfl
      have q6 := hf2 6 _ rfl
      have q7 := hf2 7 _ rfl
      have q8 := hf2 8 _ rfl
      simp [c9, c3, cF, c25] at q0 q1 q2 q3 q4 q5 q6 q7 q8
      obtain ⟨s1, e1, rfl, _⟩ := DataW.trod_string Try.underlying9 q0
      obtain ⟨s2, e2, rfl, _⟩ := DataW.trod_string Try.underlying9 q1
      obtain ⟨n3, e3, rfl, w3⟩ := DataW.trod_int Try.underlying3 q2
      obtain ⟨us, k3, rfl, rfl, hlen3, hul, hf3⟩ := DataW.trod_struct Try.underlying23 q3
      obtain ⟨s6, e6, rfl, _⟩ := DataW.trod_string Try.underlying9 q4
      obtain ⟨s7, e7, rfl, _⟩ := DataW.trod_string Try.underlying9 q5
      obtain ⟨s8, e8, rfl, _⟩ := DataW.trod_string Try.underlying9 q6
      obtain ⟨s9, e9, rfl, _⟩ := DataW.trod_string Try.underlying9 q7
      match us, hul with
      | [u0, u1], _ =>
        have r0 := hf3 0 _ rfl
        have r1 := hf3 1 _ rfl
        simp [c3] at r0 r1
        obtain ⟨n4, e4, rfl, w4⟩ := DataW.trod_int Try.underlying3 r0
        obtain ⟨n5, e5, rfl, w5⟩ := DataW.trod_int Try.underlying3 r1
        obtain ⟨d0, p0⟩ := y0
        obtain ⟨d8, p8⟩ := z8
        simp at e1 e2 e3 e4 e5 e6 e7 e8 e9 e11 e12
        subst e1 e2 e3 e4 e5 e6 e7 e8 e9 e11 e12
        simp [DataW.weights, Try.underlying38, Try.underlying36, Try.underlying23, DataW.weightsEach] at hz
        haveI : Inhabited Acct := ⟨za⟩
        obtain ⟨A1, l1, c1, rfl, hC1, hlc1, hG1, hB1, _⟩ := open_row k62 Sized Try.underlying33 cC (fun h hz => trod_acct h hz) g0 (fun n hn => hz n (.inl hn))
        obtain ⟨A2, l2, c2, rfl, hC2, hlc2, hG2, hB2, _⟩ := open_row k52 (fun r : Cell => KeySz r.f0 ∧ in64 r.f1 ∧ in64 r.f2) Try.underlying34 cK (fun h hz => trod_cell h hz) q8 (fun n hn => hz n (by simp [hn]))
        rw [bC] at hB1
        rw [bK] at hB2
        have hrb : reachBytes = 140737488351232 := rfl
        have hz1 : ∀ n, (n = s1.size ∨ n = s2.size ∨ n = s6.size ∨ n = s7.size ∨ n = s8.size ∨ n = s9.size ∨ n = s11.size) → n ≤ 140737488351232 := fun n hn => by
          rw [← hrb]
          refine hz n ?_
          rcases hn with h | h | h | h | h | h | h <;> simp [h]
        refine ⟨⟨l1, ⟨s1, s2, n3, n4, n5, s6, s7, s8, s9, l2⟩, s11, n12⟩, A1, A2, c1, c2, rfl, hC1, hlc1, hC2, hlc2, ⟨hG1, ?_, hz1 _ (by simp), fun x hx => (hG2 x hx).1, fun x hx => (hG2 x hx).2, bounds_i64 w3, bounds_i64 w4, bounds_i64 w5, ?_, ?_⟩⟩
        · intro s hs
          simp only [tkNames, List.mem_cons, List.not_mem_nil, or_false] at hs
          rcases hs with rfl | rfl | rfl | rfl | rfl | rfl <;> exact hz1 _ (by simp)
        · show l1.length ≤ _; omega
        · show l2.length ≤ _; omega
end
end Go.Proofs.Ytdlilbleohlmnaa.PAq
namespace Go.Proofs.Ytdlilbleohlmnaa.RowAcquireNone
open Go.ChangeShapes Go.WideShapes Go.ChangeAt Go.RowKit Go.Lib Go.Proofs.YtdlilbleohlmnaaW.PrintWords Go.Proofs.YtdlilbleohlmnaaW.PrintLast
theorem own : ownKnob Try.prog.godebug = none := by kernel_rfl
theorem laidOut : laidOutB Try.prog = true := by kernel_rfl
set_option maxRecDepth 100000 in
theorem lifted (os : Os) (started : os.Started) (H : Type) (enc : TypeId × Value → H) :
    ReturnsInHanded {} Try.checked os 6 .any (Rows.acquireNoneSpec.pre6 enc Try.prog Try.f6 Rows.acquireNoneRow.domain false) (Rows.acquireNoneSpec.post enc Try.prog Try.f6 false true false false) := by
  refine returnsInHanded_of_change_sized (C := Try.checked) own started (by kernel_rfl) Try.func6
    (ChangeSpec.witness6 (enc := enc) (C := Try.checked) false ⟨#[], #[.agg #[.slice none 0 0, .string ByteArray.empty, .string ByteArray.empty, .int .i64 0, .int .i64 0, .int .i64 0, .string ByteArray.empty, .string ByteArray.empty, .string ByteArray.empty, .string ByteArray.empty, .slice none 0 0, .string ByteArray.empty, .int .i64 0]], []⟩ 8 (by kernel_rfl) (by kernel_rfl) (by kernel_rfl) (by kernel_rfl)) ?_
  intro W base args ds gs before hval0 hW hcnd hsz0 _
  have hsz : (DataW.weightsEach Try.prog (Try.f6.params.toList ++ Rows.acquireNoneSpec.plain.varTypes Try.prog) (ds ++ gs)).all (· ≤ reachBytes) = true := hsz0
  have hval : ∀ (j : Nat) t v, Try.f6.params[j]? = some t → args[j]? = some v → Value.okWide Try.prog W .any base t v := hval0
  have hW' := hW
  obtain ⟨p, q, hA0, hV, rfl, hfz, hnd⟩ := hW
  have hA : DataW.TrodAll enc Try.prog W 0 (fun _ => true) true Try.f6.params.toList args.toList ds p := hA0
  rw [Try.params6] at hA hval hsz
  obtain ⟨v0, vs0, d0, ds0, p0, q0, hargs, rfl, rfl, h0, r0⟩ := trodAll_cons hA
  obtain ⟨rfl, rfl, rfl⟩ := trodAll_nil r0
  obtain rfl : args = #[v0] := by cases args; simp_all
  obtain ⟨rfl, rfl⟩ := trodVars_none hV
  have hwz : ∀ n ∈ d0.weights Try.prog 38, n ≤ reachBytes := fun n hn => by
    have := List.all_eq_true.1 hsz n (DataW.weights_mem_each (j := 0) rfl rfl n hn)
    simpa using this
  have lt0 : ∀ x ∈ p0, x.block < W.heap.size := by obtain ⟨m, hm⟩ := h0; exact DataW.trod_lt m _ _ _ hm
  obtain ⟨X, A1, A2, c1, c2, rfl, hr1, hc1, hr2, hc2, hok⟩ := PAq.open_case h0 hwz
  clear hA0 hval0 hsz0 hsz
  refine (PAq.go_law_None X hok A1 A2 c1 c2 W hr1 hc1 hr2 hc2).mono fun e W' ⟨he, bel⟩ => ?_
  subst he
  exact ⟨_, rfl, _, _, _, [], _, [], hW', trodAll_mk1 (shut_bool Try.underlying4 _), (trodAll_cons_mk (Below.trod laidOut (by kernel_rfl) (of_decide_eq_true (by kernel_rfl)) h0 bel lt0) trodAll_mk0), rfl, bel.frame _, fun h => by cases h⟩
theorem row_holds : Rows.AcquireNoneSaid :=
  OpenClaim.holds_of_wide 6 Try.f6 rfl rfl rfl rfl rfl rfl rfl ⟨rfl, rfl, rfl, rfl, rfl⟩ rfl rfl rfl rfl rfl (by kernel_rfl) Try.func6 (by kernel_rfl)
    (of_decide_eq_true (by kernel_rfl)) (by unfold Func.isWrapper; first | (rw [if_pos (by decide +kernel)]; kernel_rfl) | (rw [if_neg (by decide +kernel)]; exact ⟨rfl, rfl⟩))
    (fun os started H enc _ => lifted os started H enc)
end Go.Proofs.Ytdlilbleohlmnaa.RowAcquireNone
namespace Go.Proofs.Ytdlilbleohlmnaa
theorem acquireNone_holds : Rows.AcquireNoneSaid := RowAcquireNone.row_holds
#print axioms acquireNone_holds
end Go.Proofs.Ytdlilbleohlmnaa
