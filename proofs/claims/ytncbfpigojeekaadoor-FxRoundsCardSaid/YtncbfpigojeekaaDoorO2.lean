/- What an argument of the type Ask gives. -/
import Derived.Test.YtncbfpigojeekaaDoorO1
import Derived.Test.YtncbfpigojeekaaDoorE3
namespace Go.Proofs.YtncbfpigojeekaaDoor
open Go.RowKit Go.Lib Go.ChangeShapes Go.WideShapes Go.ChangeAt

section
variable {H : Type} {enc : TypeId × Value → H}

theorem open_ask {W : World} {v : Value} {d : DataW H} {ps : List MemPlace} (h : DataW.Trod enc Tryd.prog W 0 (fun _ => true) true 35 v d ps) (hz : ∀ n ∈ d.weights Tryd.prog 35, n ≤ reachBytes) :
    ∃ (a : Ask) (lv : Value), v = a.v lv ∧ SlR Rate.cells 5 W lv a.rates ∧ a.wf := by
  have cA : Tryd.prog.cellsOf 35 = 8 := by kernel_rfl
  have c9 : Tryd.prog.cellsOf 9 = 1 := by kernel_rfl
  have c3 : Tryd.prog.cellsOf 3 = 1 := by kernel_rfl
  have c22 : Tryd.prog.cellsOf 22 = 1 := by kernel_rfl
  obtain ⟨fuel, hf⟩ := h
  obtain ⟨xs, k, rfl, hx, hlen, hxl, hel⟩ := DataW.trod_struct Tryd.underlying35 hf
  rw [cA] at hlen
  obtain ⟨cs, rfl⟩ : ∃ cs, v = .agg cs := by
    cases v <;> first | exact ⟨_, rfl⟩ | (simp [Value.cells] at hlen)
  simp only [Value.cells] at hlen hel
  simp only [Prod.mk.injEq] at hx
  obtain ⟨rfl, _⟩ := hx
  obtain ⟨l⟩ := cs
  match xs, hxl, l, hlen with
  | [y0, y1, y2, y3, y4, y5, y6, y7], _, [v0, v1, v2, v3, v4, v5, v6, v7], _ =>
    have g0 := hel 0 _ rfl
    have g1 := hel 1 _ rfl
    have g2 := hel 2 _ rfl
    have g3 := hel 3 _ rfl
    have g4 := hel 4 _ rfl
    have g5 := hel 5 _ rfl
    have g6 := hel 6 _ rfl
    have g7 := hel 7 _ rfl
    simp [c9, c3, c22] at g0 g1 g2 g3 g4 g5 g6 g7
    obtain ⟨s0, e0, rfl, _⟩ := DataW.trod_string Tryd.underlying9 g0
    obtain ⟨s2, e2, rfl, _⟩ := DataW.trod_string Tryd.underlying9 g2
    obtain ⟨s3, e3, rfl, _⟩ := DataW.trod_string Tryd.underlying9 g3
    obtain ⟨n4, e4, rfl, w4⟩ := DataW.trod_int Tryd.underlying3 g4
    obtain ⟨n5, e5, rfl, w5⟩ := DataW.trod_int Tryd.underlying3 g5
    obtain ⟨n6, e6, rfl, w6⟩ := DataW.trod_int Tryd.underlying3 g6
    obtain ⟨n7, e7, rfl, w7⟩ := DataW.trod_int Tryd.underlying3 g7
    simp at e0 e2 e3 e4 e5 e6 e7
    subst e0 e2 e3 e4 e5 e6 e7
    obtain ⟨d1, p1⟩ := y1
    simp [DataW.weights, Tryd.underlying35, DataW.weightsEach] at hz
    obtain ⟨l, hs, hw, hl⟩ := open_rates_at g1 (fun n hn => hz.2 n (.inl hn))
    exact ⟨⟨s0, l, s2, s3, n4, n5, n6, n7⟩, v1, rfl, hs, ⟨hz.1, hz.2 _ (.inr (.inl rfl)), hz.2 _ (.inr (.inr rfl)), bounds_i64 w4, bounds_i64 w5, bounds_i64 w6, bounds_i64 w7, hw, hl⟩⟩
end

end Go.Proofs.YtncbfpigojeekaaDoor
