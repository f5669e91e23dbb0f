/- What the arguments and the laid table give: rows of rates, the days' table. -/
import Derived.Test.YtncbfpigojeekaaDoorE2
import Derived.Test.YtncbfpigojeekaaDoorRows
import Derived.ProofKit
import Derived.LaidMore
import Derived.OpenShut
import Derived.ShutString
import Derived.ChangeOld
import Derived.SizedLaws
import Derived.Stop.Joined
import Derived.Deep.Slices
namespace Go.Proofs.YtncbfpigojeekaaDoor
open Go.RowKit Go.Lib Go.ChangeShapes Go.WideShapes Go.ChangeAt

theorem gDays : Tryd.prog.globalNamed "accounting/days.lengths" = some 0 := by kernel_rfl
theorem tDays : (Tryd.prog.globals[0]?).map (·.type) = some 98 := by kernel_rfl
theorem days_met (os : Os) (args : Array Value) : laidMetH Tryd.prog [("accounting/days.lengths", Rows.laid_accounting_days_lengths)] ((World.doorLaid Tryd.prog 400 os).forCall (fun _ _ => 0) ⟨#[], args, []⟩).memory :=
  laidMetH_of_parts3 (fuel := 8) (laidMet_of_run' 8 (by kernel_rfl) (by kernel_rfl)) (by kernel_rfl) (by kernel_rfl)
theorem days_of_laid {W : World} (h : laidMetH Tryd.prog [("accounting/days.lengths", Rows.laid_accounting_days_lengths)] W) : DaysLaid W := by
  rw [MakeChecks.laidMetH_plain _ _ _ (by kernel_rfl)] at h
  obtain ⟨ps, ⟨g0, t0, cs0, f0, p0, q0, hg0, ht0, hv0, hd0, _, _⟩, _, _⟩ := h
  obtain rfl := Option.some.inj (gDays.symm.trans hg0)
  obtain rfl := Option.some.inj (tDays.symm.trans ht0)
  obtain ⟨xs, m1, rfl, hx1, hlen, hn, hel⟩ := DataW.trod_array Tryd.underlying98 hd0
  have c3 : Tryd.prog.cellsOf 3 = 1 := by kernel_rfl
  have hx2 : xs.map (·.1) = lenL.map (fun n => DataW.lit (.int .i64 n)) := by
    simp only [Prod.mk.injEq] at hx1
    have := hx1.1
    unfold Rows.laid_accounting_days_lengths at this
    simp only [DataW.agg.injEq] at this
    rw [← this]; rfl
  intro i hi
  have h0 := hel i hi
  have hxi : i < xs.length := by rw [hn]; exact hi
  rw [List.getElem?_eq_getElem hxi] at h0
  obtain ⟨k, e1, e2, _⟩ := DataW.trod_int Tryd.underlying3 h0
  have hk : (xs.map (·.1))[i]? = some (DataW.lit (.int .i64 k)) := by rw [List.getElem?_map, List.getElem?_eq_getElem hxi, e2]; rfl
  rw [hx2, List.getElem?_map] at hk
  have hk2 : lenL[i]? = some k := by
    cases hl : lenL[i]? with
    | none => rw [hl] at hk; cases hk
    | some z => rw [hl] at hk; simp at hk; rw [hk]
  have hv := World.var?_cell hg0 hv0 i
  rw [hv]
  rw [c3] at e1
  have : cs0[i]? = some (.int .i64 k) := by
    have e3 := congrArg (·[0]?) e1
    simp at e3
    simpa using e3
  rw [this]
  simp [List.getD, hk2]

section
variable {H : Type} {enc : TypeId × Value → H}

/-- one rate, out of its five cells -/
theorem trod_rate {W : World} {base : Nat} {sp : Nat → Bool} {hd : Bool} {n : Nat} {cs : List Value} {x : DataW H × List MemPlace} (h : DataW.trod enc Tryd.prog W base sp hd n 51 cs = some x) :
    ∃ r : Rate, cs = r.cells ∧ (inI r.kind ∧ inI r.day ∧ inI r.n ∧ inI r.d) ∧ r.cur.size ∈ x.1.weights Tryd.prog 51 := by
  have cR : Tryd.prog.cellsOf 51 = 5 := by kernel_rfl
  have cF : Tryd.prog.cellsOf 37 = 2 := by kernel_rfl
  have cs9 : Tryd.prog.cellsOf 9 = 1 := by kernel_rfl
  have c3 : Tryd.prog.cellsOf 3 = 1 := by kernel_rfl
  obtain ⟨xs, k, rfl, rfl, hlen, hxl, hf⟩ := DataW.trod_struct Tryd.underlying51 h
  rw [cR] at hlen
  match xs, hxl, cs, hlen with
  | [y0, y1, y2, y3], _, [v0, v1, v2, v3, v4], _ =>
    have g0 := hf 0 _ rfl
    have g1 := hf 1 _ rfl
    have g2 := hf 2 _ rfl
    have g3 := hf 3 _ rfl
    simp [cs9, c3, cF] at g0 g1 g2 g3
    obtain ⟨s, e0, rfl, _⟩ := DataW.trod_string Tryd.underlying9 g0
    obtain ⟨n1, e1, rfl, w1⟩ := DataW.trod_int Tryd.underlying3 g1
    obtain ⟨n2, e2, rfl, w2⟩ := DataW.trod_int Tryd.underlying3 g2
    obtain ⟨zs, k2, rfl, rfl, hlen2, hzl, hf2⟩ := DataW.trod_struct Tryd.underlying37 g3
    match zs, hzl with
    | [z0, z1], _ =>
      have g4 := hf2 0 _ rfl
      have g5 := hf2 1 _ rfl
      simp [c3] at g4 g5
      obtain ⟨n4, e4, rfl, w4⟩ := DataW.trod_int Tryd.underlying3 g4
      obtain ⟨n5, e5, rfl, w5⟩ := DataW.trod_int Tryd.underlying3 g5
      simp at e0 e1 e2 e4 e5
      subst e0 e1 e2 e4 e5
      refine ⟨⟨s, n1, n2, n4, n5⟩, rfl, ⟨bounds_i64 w1, bounds_i64 w2, bounds_i64 w4, bounds_i64 w5⟩, ?_⟩
      simp [DataW.weights, Tryd.underlying51, DataW.weightsEach]

theorem weights_all {P : Program} {e : TypeId} {n : Nat} : ∀ {l : List (DataW H)} {d : DataW H}, d ∈ l → n ∈ d.weights P e → n ∈ DataW.weightsAll P e l
  | x :: l, d, hd, hn => by
    rw [DataW.weightsAll, List.mem_append]
    rcases List.mem_cons.1 hd with rfl | h
    · exact .inl hn
    · exact .inr (weights_all h hn)

/-- A row of rates among the arguments. -/
theorem open_rates_at {W : World} {fuel : Nat} {v : Value} {d : DataW H} {ps : List MemPlace} (hf : DataW.trod enc Tryd.prog W 0 (fun _ => true) true fuel 22 [v] = some (d, ps)) (hz : ∀ n ∈ d.weights Tryd.prog 22, n ≤ reachBytes) :
    ∃ l : List Rate, SlR Rate.cells 5 W v l ∧ (∀ r ∈ l, r.wf) ∧ l.length * 48 ≤ 140737488351232 := by
  have cR : Tryd.prog.cellsOf 51 = 5 := by kernel_rfl
  have bR : Tryd.prog.bytesOf 51 = 48 := by kernel_rfl
  rcases Deep.open_slice Tryd.underlying22 hf with ⟨e1, _⟩ | ⟨a, len, cap, m, n, D, Pl, e1, hb, hl, hm, hmm, e2, hx⟩
  · simp at e1
    subst e1
    exact ⟨[], .inl ⟨rfl, none, 0, rfl⟩, fun r hr => (by cases hr), by simp⟩
  · simp at e1
    subst e1
    simp at hmm
    subst hmm
    rw [cR] at hx
    have hx' : ∀ i, i < m → ∃ r : Rate, W.cells? 0 (a.add (i * 5)) 5 = some r.cells ∧ (inI r.kind ∧ inI r.day ∧ inI r.n ∧ inI r.d) ∧ r.cur.size ∈ (D i).weights Tryd.prog 51 := fun i hi => by
      obtain ⟨cs', h1, h2⟩ := hx i hi
      obtain ⟨r, rfl, h3, h4⟩ := trod_rate h2
      exact ⟨r, h1, h3, h4⟩
    obtain ⟨R, hR⟩ := Deep.choose_lt hx'
    simp only [Prod.mk.injEq] at e2
    have hd := e2.1
    subst hd
    have hcapz : m * 48 ≤ reachBytes := by
      have := hz ((((List.range len).map D).length + ((List.range (m - len)).map fun j => D (len + j)).length) * Tryd.prog.bytesOf 51) (by simp [DataW.weights, Tryd.underlying22])
      rw [bR] at this
      simp only [List.length_map, List.length_range] at this
      have e : len + (m - len) = m := by omega
      rwa [e] at this
    have hcur : ∀ i, i < len → (R i).cur.size ≤ reachBytes := fun i hi => by
      refine hz _ ?_
      have h4 := (hR i (by omega)).2.2
      simp only [DataW.weights, Tryd.underlying22]
      refine List.mem_cons_of_mem _ (List.mem_append.2 (.inl (weights_all (d := D i) ?_ h4)))
      exact List.mem_map.2 ⟨i, List.mem_range.2 hi, rfl⟩
    refine ⟨(List.range len).map R, ?_, ?_, ?_⟩
    · by_cases h0 : len = 0
      · subst h0; exact .inl ⟨rfl, some a, m, rfl⟩
      · have hc : ∀ i, i < len → ∀ j, j < 5 → W.cell? ((a.add (i * 5)).add j) = (R i).cells[j]? := fun i hi j hj => (World.cells?_some (hR i (by omega)).1).2.2 j hj
        obtain ⟨b, off, spot⟩ := a
        have hsp : spot = none := by
          have h00 := hc 0 (by omega) 0 (by omega)
          cases spot with
          | none => rfl
          | some z =>
            exfalso
            simp [World.cell?, Addr.add, Rate.cells] at h00
            split at h00 <;> cases h00
        subst hsp
        have hc2 : ∀ i, i < len → ∀ j u, (R i).cells[j]? = some u → W.cell? ⟨b, off + i * 5 + j, none⟩ = some u := fun i hi j u hu => by
          have hj : j < 5 := by
            have := (List.getElem?_eq_some_iff.1 hu).1
            simpa [Rate.cells] using this
          have := hc i hi j hj
          rw [Addr.add_lit, Addr.add_lit, hu] at this
          exact this
        refine .inr ⟨b, off, m, by simp, ?_, fun i hi j u hu => ?_⟩
        · exact block_lt_of_cell (hc2 0 (by omega) 0 _ rfl)
        · simp only [List.length_map, List.length_range] at hi
          simp only [List.getElem_map, List.getElem_range] at hu
          exact hc2 i hi j u hu
    · intro r hr
      obtain ⟨i, hi, rfl⟩ := List.mem_map.1 hr
      have hi' := List.mem_range.1 hi
      obtain ⟨w1, w2, w3, w4⟩ := (hR i (by omega)).2.1
      exact ⟨hcur i hi', w1, w2, w3, w4⟩
    · have : reachBytes = 140737488351232 := rfl
      simp only [List.length_map, List.length_range]
      omega
theorem open_rates {W : World} {v : Value} {d : DataW H} {ps : List MemPlace} (h : DataW.Trod enc Tryd.prog W 0 (fun _ => true) true 22 v d ps) (hz : ∀ n ∈ d.weights Tryd.prog 22, n ≤ reachBytes) (hv : v.cells.toList = [v]) :
    ∃ l : List Rate, SlR Rate.cells 5 W v l ∧ (∀ r ∈ l, r.wf) ∧ l.length ≤ 4611686018427387904 := by
  obtain ⟨fuel, hf⟩ := h
  rw [hv] at hf
  obtain ⟨l, h1, h2, h3⟩ := open_rates_at hf hz
  exact ⟨l, h1, h2, by omega⟩
end

end Go.Proofs.YtncbfpigojeekaaDoor
