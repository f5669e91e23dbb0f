/- What the arguments and the laid table give to the laws of ageing: rows of open items, rows of whole numbers, the days' table. -/
import Derived.Test.YtohfnpkoheafkaaDoorPAgx0
import Derived.Test.YtohfnpkoheafkaaDoorA3
import Derived.Test.YtohfnpkoheafkaaDoorRows
import Derived.ProofKit
import Derived.LaidMore
import Derived.OpenShut
import Derived.ShutString
import Derived.ChangeOld
import Derived.SizedLaws
import Derived.Stop.Joined
import Derived.Deep.Slices
namespace Go.Proofs.YtohfnpkoheafkaaDoor
open Go.RowKit Go.Lib Go.ChangeShapes Go.WideShapes Go.ChangeAt

theorem gDays : Tryd.prog.globalNamed "accounting/days.lengths" = some 0 := by kernel_rfl
theorem tDays : (Tryd.prog.globals[0]?).map (·.type) = some 95 := by kernel_rfl
theorem days_met (os : Os) (args : Array Value) : laidMetH Tryd.prog [("accounting/days.lengths", Rows.laid_accounting_days_lengths)] ((World.doorLaid Tryd.prog 400 os).forCall (fun _ _ => 0) ⟨#[], args, []⟩).memory :=
  laidMetH_of_parts3 (fuel := 8) (laidMet_of_run' 8 (by kernel_rfl) (by kernel_rfl)) (by kernel_rfl) (by kernel_rfl)
theorem days_of_laid {W : World} (h : laidMetH Tryd.prog [("accounting/days.lengths", Rows.laid_accounting_days_lengths)] W) : DaysLaid W := by
  rw [MakeChecks.laidMetH_plain _ _ _ (by kernel_rfl)] at h
  obtain ⟨ps, ⟨g0, t0, cs0, f0, p0, q0, hg0, ht0, hv0, hd0, _, _⟩, _, _⟩ := h
  obtain rfl := Option.some.inj (gDays.symm.trans hg0)
  obtain rfl := Option.some.inj (tDays.symm.trans ht0)
  obtain ⟨xs, m1, rfl, hx1, hlen, hn, hel⟩ := DataW.trod_array Tryd.underlying95 hd0
  have c3 : Tryd.prog.cellsOf 3 = 1 := by kernel_rfl
  have hx2 : xs.map (·.1) = lenL.map (fun n => DataW.lit (.int .i64 n)) := by
    simp only [Prod.mk.injEq] at hx1
    have := hx1.1
    unfold Rows.laid_accounting_days_lengths at this
    simp only [DataW.agg.injEq] at this
    rw [← this]; rfl
  intro i hi
  have h0 := hel i hi
  have hxi : i < xs.length := by rw [hn]; exact hi
  rw [List.getElem?_eq_getElem hxi] at h0
  obtain ⟨k, e1, e2, _⟩ := DataW.trod_int Tryd.underlying3 h0
  have hk : (xs.map (·.1))[i]? = some (DataW.lit (.int .i64 k)) := by rw [List.getElem?_map, List.getElem?_eq_getElem hxi, e2]; rfl
  rw [hx2, List.getElem?_map] at hk
  have hk2 : lenL[i]? = some k := by
    cases hl : lenL[i]? with
    | none => rw [hl] at hk; cases hk
    | some z => rw [hl] at hk; simp at hk; rw [hk]
  have hv := World.var?_cell hg0 hv0 i
  rw [hv]
  rw [c3] at e1
  have : cs0[i]? = some (.int .i64 k) := by
    have e3 := congrArg (·[0]?) e1
    simp at e3
    simpa using e3
  rw [this]
  simp [List.getD, hk2]

end Go.Proofs.YtohfnpkoheafkaaDoor
namespace Go.Proofs.YtohfnpkoheafkaaDoor.PAg
open Go.RowKit Go.Lib Go.ChangeShapes Go.WideShapes Go.ChangeAt Go.Proofs.YtohfnpkoheafkaaDoorW.PrintWords Go.Proofs.YtohfnpkoheafkaaDoorW.PrintLast Go.Proofs.YtohfnpkoheafkaaDoorW.PrintMore
section
variable {H : Type} {enc : TypeId × Value → H}

/-- one open item, out of its four cells -/
theorem trod_left {W : World} {base : Nat} {sp : Nat → Bool} {hd : Bool} {n : Nat} {cs : List Value} {x : DataW H × List MemPlace} (h : DataW.trod enc Tryd.prog W base sp hd n 39 cs = some x) :
    ∃ r : S39, cs = [.string r.f0, .string r.f1, .int .i64 r.f2, .int .i64 r.f3] := by
  have cR : Tryd.prog.cellsOf 39 = 4 := by kernel_rfl
  have cs9 : Tryd.prog.cellsOf 9 = 1 := by kernel_rfl
  have c3 : Tryd.prog.cellsOf 3 = 1 := by kernel_rfl
  obtain ⟨xs, k, rfl, rfl, hlen, hxl, hf⟩ := DataW.trod_struct Tryd.underlying39 h
  rw [cR] at hlen
  match xs, hxl, cs, hlen with
  | [y0, y1, y2, y3], _, [v0, v1, v2, v3], _ =>
    have g0 := hf 0 _ rfl
    have g1 := hf 1 _ rfl
    have g2 := hf 2 _ rfl
    have g3 := hf 3 _ rfl
    simp [cs9, c3] at g0 g1 g2 g3
    obtain ⟨s, e0, rfl, _⟩ := DataW.trod_string Tryd.underlying9 g0
    obtain ⟨s1, e1, rfl, _⟩ := DataW.trod_string Tryd.underlying9 g1
    obtain ⟨n2, e2, rfl, w2⟩ := DataW.trod_int Tryd.underlying3 g2
    obtain ⟨n3, e3, rfl, w3⟩ := DataW.trod_int Tryd.underlying3 g3
    simp at e0 e1 e2 e3
    subst e0 e1 e2 e3
    exact ⟨⟨s, s1, n2, n3⟩, rfl⟩

/-- A row of open items among the arguments. -/
theorem open_lefts {W : World} {A : Option Addr} {n c : Nat} {d : DataW H} {ps : List MemPlace} (h : DataW.Trod enc Tryd.prog W 0 (fun _ => true) true 27 (.slice A n c) d ps) :
    ∃ l : List S39, n = l.length ∧ Kd.C k39 W A l.length l ∧ l.length ≤ c := by
  obtain ⟨fuel, hf⟩ := h
  have cR : Tryd.prog.cellsOf 39 = 4 := by kernel_rfl
  rcases Deep.open_slice Tryd.underlying27 hf with ⟨e1, _⟩ | ⟨a, len, cap, m, nn, D, Pl, e1, hb, hl, hm, hmm, e2, hx⟩
  · simp [Value.cells] at e1
    obtain ⟨rfl, rfl, rfl⟩ := e1
    exact ⟨[], rfl, ⟨rfl, by simp, fun h => absurd h (by simp)⟩, by simp⟩
  · simp [Value.cells] at e1
    obtain ⟨rfl, rfl, rfl⟩ := e1
    simp at hmm
    subst hmm
    rw [cR] at hx
    have hx' : ∀ i, i < m → ∃ r : S39, W.cells? 0 (a.add (i * 4)) 4 = some [.string r.f0, .string r.f1, .int .i64 r.f2, .int .i64 r.f3] := fun i hi => by
      obtain ⟨cs', h1, h2⟩ := hx i hi
      obtain ⟨r, rfl⟩ := trod_left h2
      exact ⟨r, h1⟩
    haveI : Inhabited S39 := ⟨z39⟩
    obtain ⟨R, hR⟩ := Deep.choose_lt hx'
    have hl9 : n ≤ 9223372036854775807 := by simp only [maxLen] at *; omega
    refine ⟨(List.range n).map R, by simp, ⟨rfl, by simpa using hl9, fun h0 => ⟨a, rfl, fun j p hj => ?_⟩⟩, by simpa using hl⟩
    simp only [List.getElem?_map] at hj
    have hjl : j < n := by
      rcases Nat.lt_or_ge j n with h | h
      · exact h
      · rw [List.getElem?_eq_none (by simpa using h)] at hj; cases hj
    rw [List.getElem?_range hjl] at hj
    simp only [Option.map_some, Option.some.injEq] at hj
    subst hj
    refine ⟨[.string (R j).f0, .string (R j).f1, .int .i64 (R j).f2, .int .i64 (R j).f3], rfl, k39_mk W (R j), fun i u hu => ?_⟩
    have hi : i < 4 := by simpa using (List.getElem?_eq_some_iff.1 hu).1
    have := (World.cells?_some (hR j (by omega))).2.2 i hi
    rw [hu] at this
    rw [← this]
    show W.cell? (a.add (j * 4 + i)) = W.cell? ((a.add (j * 4)).add i)
    congr 1
    exact (Addr.add_add a (j * 4) i).symm
end

end Go.Proofs.YtohfnpkoheafkaaDoor.PAg
