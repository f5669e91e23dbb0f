/- The statement AcquireParts (P45) is proved: for every deal the law returns true and its argument reads as it did. -/
import Derived.Test.YtdlilbleohlmnaaZbf
import Derived.Test.YtdlilbleohlmnaaRows
import Derived.ProofKit
import Derived.OpenShut
import Derived.ShutString
import Derived.ChangeOld
import Derived.SizedLaws
import Derived.Stop.Joined
import Derived.Deep.Slices
import Derived.WalkKit
import Derived.Below
set_option linter.all false
namespace Go.Proofs.Ytdlilbleohlmnaa.PAq
open Go.RowKit Go.Lib Go.Sort Go.Proofs.YtdlilbleohlmnaaW.PrintWords Go.Proofs.YtdlilbleohlmnaaW.PrintLast
theorem splitE_err {p x n d m : Int} (h : (splitE p x n d m).2.2.2 ≠ 0) : (splitE p x n d m).1 = 0 ∧ (splitE p x n d m).2.1 = 0 ∧ (splitE p x n d m).2.2.1 = 0 := by
  unfold splitE at h ⊢
  split at h
  · rename_i c; rw [if_pos c]; exact ⟨rfl, rfl, rfl⟩
  · rename_i c
    rw [if_neg c]
    split at h
    · rename_i c2; rw [if_pos c2]; exact ⟨rfl, rfl, rfl⟩
    · rename_i c2
      rw [if_neg c2]
      split at h
      · rename_i c3; rw [if_pos c3]; exact ⟨rfl, rfl, rfl⟩
      · exact absurd rfl h
theorem splitE_parts {p x n d m : Int} (h : (splitE p x n d m).2.2.2 = 0) : -1000000000000000 ≤ p ∧ p ≤ 1000000000000000 ∧ -1000000000000000 ≤ x ∧ x ≤ 1000000000000000 ∧ (splitE p x n d m).1 + (splitE p x n d m).2.2.1 = x ∧ (splitE p x n d m).1 + (splitE p x n d m).2.1 = p ∧ (n = d → (splitE p x n d m).2.2.1 = 0) ∧ (0 ≤ x → 0 ≤ (splitE p x n d m).1 ∧ 0 ≤ (splitE p x n d m).2.2.1) ∧ (x ≤ 0 → (splitE p x n d m).1 ≤ 0 ∧ (splitE p x n d m).2.2.1 ≤ 0) := by
  unfold splitE at h ⊢
  split at h
  · exact absurd h (by decide)
  · rename_i h1
    rw [if_neg h1]
    split at h
    · exact absurd h (by decide)
    · rename_i h2
      rw [if_neg h2]
      split at h
      · exact absurd h (by decide)
      · rename_i h3
        rw [if_neg h3]
        simp only [Bool.or_eq_true, not_or, Bool.not_eq_true] at h3
        have hb := farB_false h3.1
        have hbx := farB_false h3.2
        have hsh : fracB n d = true ∧ 0 < n ∧ n ≤ d := by simpa [shareB, and_assoc] using h2
        obtain ⟨o, ho, h4, h5, h6⟩ := md_share n d x m (by omega) hsh.2.1 hsh.2.2 hbx
        rw [ho]
        show _ ∧ _ ∧ _ ∧ _ ∧ o + (x - o) = x ∧ o + (p - o) = p ∧ (n = d → x - o = 0) ∧ (0 ≤ x → 0 ≤ o ∧ 0 ≤ x - o) ∧ (x ≤ 0 → o ≤ 0 ∧ x - o ≤ 0)
        refine ⟨hb.1, hb.2, hbx.1, hbx.2, by omega, by omega, fun h => by have := h6 h; omega, fun h => by have := h4 h; exact ⟨by omega, by omega⟩, fun h => by have := h5 h; exact ⟨by omega, by omega⟩⟩
set_option maxHeartbeats 2000000 in
set_option maxRecDepth 100000 in
theorem go_law_Parts (p x n d m : Int) (hp : in64 p) (hx : in64 x) (hn : in64 n) (hd : in64 d) (w : World) :
    Calls Try.prog 4 #[.agg #[.int .i64 p, .int .i64 x, .int .i64 n, .int .i64 d, .int .i64 m]] w fun e w' => e = .returned (.bool true) ∧ Below w.heap.size w w' := by
  have HS := Lib.hid (go_split p x n d m hp hx hn hd)
  have HE := Lib.hid (@splitE_err p x n d m)
  have HP := Lib.hid (@splitE_parts p x n d m)
  obtain ⟨⟨a, b, c, e⟩, hs⟩ : ∃ q, splitE p x n d m = q := ⟨_, rfl⟩
  rw [hs] at HS HE HP
  clear hs hp hx hn hd
  have gr1 : Below w.heap.size w (w.alloc (.cells #[.int .i64 p, .int .i64 x, .int .i64 n, .int .i64 d, .int .i64 m] 25)) := (Below.refl _ _).alloc (Nat.le_refl _) _
  have hz := (Go.MapKept.heap_alloc w (.cells #[.int .i64 p, .int .i64 x, .int .i64 n, .int .i64 d, .int .i64 m] 25)).1
  go_enter Try.func4, Try.ntmps4
  go_wp2_with fail
  refine (HS.out _).mono ?_
  rintro e1 w1 ⟨rfl, hb1⟩
  have hz1 := (hb1.block _ (blk_lt hz)).trans hz
  have hg1 := gr1.trans (hb1.mono gr1.size)
  obtain ⟨z, hze⟩ : ∃ z, w.heap.size = z := ⟨_, rfl⟩
  have HZE := Lib.hid hze
  rw [hze] at hz1 ⊢
  have x0 : w1.cell? ⟨z, 0, none⟩ = some (.int .i64 p) := blk_cell hz1 0
  have x1 : w1.cell? ⟨z, 1, none⟩ = some (.int .i64 x) := blk_cell hz1 1
  have x2 : w1.cell? ⟨z, 2, none⟩ = some (.int .i64 n) := blk_cell hz1 2
  have x3 : w1.cell? ⟨z, 3, none⟩ = some (.int .i64 d) := blk_cell hz1 3
  have HG := Lib.hid (show Below z w w1 by rw [← hze]; exact hg1)
  clear hz hb1 hg1 hz1 hze gr1
  have FIN : ∀ w3, Below w1.heap.size w1 w3 → Below w.heap.size w w3 := fun w3 h => by
    rw [HZE.out]
    exact HG.out.trans (h.mono (by rw [← HZE.out]; exact HG.out.size))
  have HFIN := Lib.hid FIN
  clear FIN
  by_cases he : e = 0
  · subst he
    obtain ⟨p1, p2, q1, q2, h1, h2, h3, h4, h5⟩ := HP.out rfl
    have h1 : a + c = x := h1
    have h2 : a + b = p := h2
    have h3 : n = d → c = 0 := h3
    have h4 : 0 ≤ x → 0 ≤ a ∧ 0 ≤ c := h4
    have h5 : x ≤ 0 → a ≤ 0 ∧ c ≤ 0 := h5
    have HH := Lib.hid (And.intro h1 (And.intro h2 (And.intro h3 (And.intro h4 h5))))
    have hw1 : wrap64 x = x := wrap64_id (by omega) (by omega)
    have hw2 : wrap64 p = p := wrap64_id (by omega) (by omega)
    clear p1 p2 q1 q2 h3 h4 h5 HP HE
    by_cases hc : c = 0
    · subst hc
      obtain ⟨nd, hnd⟩ : ∃ b, (n == d) = b := ⟨_, rfl⟩
      cases nd with
      | true =>
        by_cases hx0 : x ≥ 0
        · have ha : a ≥ 0 := (HH.out.2.2.2.1 hx0).1
          go_wp2_with fail
          refine (go_lives w1).mono ?_
          rintro e1 w3 ⟨rfl, hb3⟩
          have HF := Lib.hid (HFIN.out _ hb3)
          clear hb3
          go_wp2_with fail
          go_ret
          exact ⟨rfl, HF.out⟩
        · have ha : a ≤ 0 := (HH.out.2.2.2.2 (by omega)).1
          go_wp2_with fail
          refine (go_lives w1).mono ?_
          rintro e1 w3 ⟨rfl, hb3⟩
          have HF := Lib.hid (HFIN.out _ hb3)
          clear hb3
          go_wp2_with fail
          go_ret
          exact ⟨rfl, HF.out⟩
      | false =>
        by_cases hx0 : x ≥ 0
        · have ha : a ≥ 0 := (HH.out.2.2.2.1 hx0).1
          go_wp2_with fail
          refine (go_lives w1).mono ?_
          rintro e1 w3 ⟨rfl, hb3⟩
          have HF := Lib.hid (HFIN.out _ hb3)
          clear hb3
          go_wp2_with fail
          go_ret
          exact ⟨rfl, HF.out⟩
        · have ha : a ≤ 0 := (HH.out.2.2.2.2 (by omega)).1
          go_wp2_with fail
          refine (go_lives w1).mono ?_
          rintro e1 w3 ⟨rfl, hb3⟩
          have HF := Lib.hid (HFIN.out _ hb3)
          clear hb3
          go_wp2_with fail
          go_ret
          exact ⟨rfl, HF.out⟩
    · have hcz : (c == 0) = false := beq_eq_false_iff_ne.mpr hc
      have hnd : (n == d) = false := beq_eq_false_iff_ne.mpr (fun h => hc (HH.out.2.2.1 h))
      by_cases hx0 : x ≥ 0
      · have ha : a ≥ 0 := (HH.out.2.2.2.1 hx0).1
        have hcc : c ≥ 0 := (HH.out.2.2.2.1 hx0).2
        go_wp2_with fail
        refine (go_lives w1).mono ?_
        rintro e1 w3 ⟨rfl, hb3⟩
        have HF := Lib.hid (HFIN.out _ hb3)
        clear hb3
        go_wp2_with fail
        go_ret
        exact ⟨rfl, HF.out⟩
      · have ha : a ≤ 0 := (HH.out.2.2.2.2 (by omega)).1
        have hcc : c ≤ 0 := (HH.out.2.2.2.2 (by omega)).2
        go_wp2_with fail
        refine (go_lives w1).mono ?_
        rintro e1 w3 ⟨rfl, hb3⟩
        have HF := Lib.hid (HFIN.out _ hb3)
        clear hb3
        go_wp2_with fail
        go_ret
        exact ⟨rfl, HF.out⟩
  · obtain ⟨ha, hb, hc⟩ := HE.out he
    have ha : a = 0 := ha
    have hb : b = 0 := hb
    have hc : c = 0 := hc
    subst ha hb hc
    have hee : (e == 0) = false := beq_eq_false_iff_ne.mpr he
    go_wp2_with fail
    refine (go_lives w1).mono ?_
    rintro e1 w3 ⟨rfl, hb3⟩
    have HF := Lib.hid (HFIN.out _ hb3)
    clear hb3
    go_wp2_with fail
    go_ret
    exact ⟨rfl, HF.out⟩
end Go.Proofs.Ytdlilbleohlmnaa.PAq
namespace Go.Proofs.Ytdlilbleohlmnaa.PAq
open Go.RowKit Go.Lib Go.ChangeShapes Go.WideShapes Go.ChangeAt Go.Proofs.YtdlilbleohlmnaaW.PrintWords Go.Proofs.YtdlilbleohlmnaaW.PrintLast
section
variable {H : Type} {enc : TypeId × Value → H}
set_option maxRecDepth 100000 in
theorem open_deal {W : World} {v : Value} {d : DataW H} {ps : List MemPlace} (h : DataW.Trod enc Try.prog W 0 (fun _ => true) true 25 v d ps) :
    ∃ p x n dd m : Int, v = .agg #[.int .i64 p, .int .i64 x, .int .i64 n, .int .i64 dd, .int .i64 m] ∧ in64 p ∧ in64 x ∧ in64 n ∧ in64 dd := by
  have cA : Try.prog.cellsOf 25 = 5 := by kernel_rfl
  have cF : Try.prog.cellsOf 23 = 2 := by kernel_rfl
  have c3 : Try.prog.cellsOf 3 = 1 := by kernel_rfl
  obtain ⟨fuel, hf⟩ := h
  obtain ⟨xs, k, rfl, hx, hlen, hxl, hel⟩ := DataW.trod_struct Try.underlying25 hf
  rw [cA] at hlen
  obtain ⟨cs, rfl⟩ : ∃ cs, v = .agg cs := by
    cases v <;> first | exact ⟨_, rfl⟩ | (simp [Value.cells] at hlen)
  simp only [Value.cells] at hlen hel
  obtain ⟨l⟩ := cs
  match xs, hxl, l, hlen with
  | [y0, y1, y2, y3], _, [v0, v1, v2, v3, v4], _ =>
    have g0 := hel 0 _ rfl
    have g1 := hel 1 _ rfl
    have g2 := hel 2 _ rfl
    have g3 := hel 3 _ rfl
    simp [c3, cF] at g0 g1 g2 g3
    obtain ⟨n0, e0, rfl, w0⟩ := DataW.trod_int Try.underlying3 g0
    obtain ⟨n1, e1, rfl, w1⟩ := DataW.trod_int Try.underlying3 g1
    obtain ⟨zs, k2, rfl, rfl, hlen2, hzl, hf2⟩ := DataW.trod_struct Try.underlying23 g2
    obtain ⟨n4, e4, rfl, w4⟩ := DataW.trod_int Try.underlying3 g3
    match zs, hzl with
    | [z0, z1], _ =>
      have g4 := hf2 0 _ rfl
      have g5 := hf2 1 _ rfl
      simp [c3] at g4 g5
      obtain ⟨n2, e2, rfl, w2⟩ := DataW.trod_int Try.underlying3 g4
      obtain ⟨n3, e3, rfl, w3⟩ := DataW.trod_int Try.underlying3 g5
      simp at e0 e1 e2 e3 e4
      subst e0 e1 e2 e3 e4
      have b0 := bounds_i64 w0
      have b1 := bounds_i64 w1
      have b2 := bounds_i64 w2
      have b3 := bounds_i64 w3
      exact ⟨n0, n1, n2, n3, n4, rfl, b0, b1, b2, b3⟩
end
end Go.Proofs.Ytdlilbleohlmnaa.PAq
namespace Go.Proofs.Ytdlilbleohlmnaa.RowAcquireParts
open Go.ChangeShapes Go.WideShapes Go.ChangeAt Go.RowKit Go.Lib Go.Proofs.YtdlilbleohlmnaaW.PrintWords Go.Proofs.YtdlilbleohlmnaaW.PrintLast
theorem own : ownKnob Try.prog.godebug = none := by kernel_rfl
theorem laidOut : laidOutB Try.prog = true := by kernel_rfl
set_option maxRecDepth 100000 in
theorem lifted (os : Os) (started : os.Started) (H : Type) (enc : TypeId × Value → H) :
    ReturnsInHanded {} Try.checked os 4 .any (Rows.acquirePartsSpec.pre6 enc Try.prog Try.f4 Rows.acquirePartsRow.domain false) (Rows.acquirePartsSpec.post enc Try.prog Try.f4 false true false false) := by
  refine returnsInHanded_of_change_sized (C := Try.checked) own started (by kernel_rfl) Try.func4
    (ChangeSpec.witness6 (enc := enc) (C := Try.checked) false ⟨#[], #[.agg #[.int .i64 0, .int .i64 0, .int .i64 0, .int .i64 0, .int .i64 0]], []⟩ 8 (by kernel_rfl) (by kernel_rfl) (by kernel_rfl) (by kernel_rfl)) ?_
  intro W base args ds gs before hval0 hW hcnd hsz0 _
  have hsz : (DataW.weightsEach Try.prog (Try.f4.params.toList ++ Rows.acquirePartsSpec.plain.varTypes Try.prog) (ds ++ gs)).all (· ≤ reachBytes) = true := hsz0
  have hval : ∀ (j : Nat) t v, Try.f4.params[j]? = some t → args[j]? = some v → Value.okWide Try.prog W .any base t v := hval0
  have hW' := hW
  obtain ⟨p, q, hA0, hV, rfl, hfz, hnd⟩ := hW
  have hA : DataW.TrodAll enc Try.prog W 0 (fun _ => true) true Try.f4.params.toList args.toList ds p := hA0
  rw [Try.params4] at hA hval hsz
  obtain ⟨v0, vs0, d0, ds0, p0, q0, hargs, rfl, rfl, h0, r0⟩ := trodAll_cons hA
  obtain ⟨rfl, rfl, rfl⟩ := trodAll_nil r0
  obtain rfl : args = #[v0] := by cases args; simp_all
  obtain ⟨rfl, rfl⟩ := trodVars_none hV
  have hwz : ∀ n ∈ d0.weights Try.prog 25, n ≤ reachBytes := fun n hn => by
    have := List.all_eq_true.1 hsz n (DataW.weights_mem_each (j := 0) rfl rfl n hn)
    simpa using this
  have lt0 : ∀ x ∈ p0, x.block < W.heap.size := by obtain ⟨m, hm⟩ := h0; exact DataW.trod_lt m _ _ _ hm
  obtain ⟨pp, x, n, dd, m, rfl, i0, i1, i2, i3⟩ := PAq.open_deal h0
  clear hA0 hval0 hsz0 hsz
  refine (PAq.go_law_Parts pp x n dd m i0 i1 i2 i3 W).mono fun e W' ⟨he, bel⟩ => ?_
  subst he
  exact ⟨_, rfl, _, _, _, [], _, [], hW', trodAll_mk1 (shut_bool Try.underlying4 _), (trodAll_cons_mk (Below.trod laidOut (by kernel_rfl) (of_decide_eq_true (by kernel_rfl)) h0 bel lt0) trodAll_mk0), rfl, bel.frame _, fun h => by cases h⟩
theorem row_holds : Rows.AcquirePartsSaid :=
  OpenClaim.holds_of_wide 4 Try.f4 rfl rfl rfl rfl rfl rfl rfl ⟨rfl, rfl, rfl, rfl, rfl⟩ rfl rfl rfl rfl rfl (by kernel_rfl) Try.func4 (by kernel_rfl)
    (of_decide_eq_true (by kernel_rfl)) (by unfold Func.isWrapper; first | (rw [if_pos (by decide +kernel)]; kernel_rfl) | (rw [if_neg (by decide +kernel)]; exact ⟨rfl, rfl⟩))
    (fun os started H enc _ => lifted os started H enc)
end Go.Proofs.Ytdlilbleohlmnaa.RowAcquireParts
namespace Go.Proofs.Ytdlilbleohlmnaa
theorem acquireParts_holds : Rows.AcquirePartsSaid := RowAcquireParts.row_holds
#print axioms acquireParts_holds
end Go.Proofs.Ytdlilbleohlmnaa
