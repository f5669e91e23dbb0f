/- The table of rates: how it lies in memory; at; the insertion of a rate. -/
import Derived.Test.YtncbfpigojeekaaDoorC4
import Derived.Test.YtncbfpigojeekaaDoorM1
import Derived.WalkArith
namespace Go.Proofs.YtncbfpigojeekaaDoor
open Go.RowKit Go.Lib
open Go.Maps (Keyed)

theorem slices_Insert.calls (base n i : Nat) (v : Value) (xs : List Rate) (r : Rate) (vb vc : Nat) (w : World) (hown : w.ownsRow base 51 5 v n (flat xs)) (hbase : base ≤ w.heap.size) (hi : i ≤ n) (hxl : xs.length = n) (hbig : n ≤ 100000)
    (hvs : ∀ j u, r.cells[j]? = some u → w.cell? ⟨vb, j, none⟩ = some u) (hvb : some vb ≠ v.ownBlock) (kA : Nat) (tA : TypeId) (hsa : w.shape? vb = some (tA, kA)) (hfa : w.frozen? ⟨vb, 0, none⟩ = false) (hfe : w.frozen? ⟨vb, kA, none⟩ = false) :
    Calls Tryd.prog 43 #[v, .int .i64 i, .slice (some ⟨vb, 0, none⟩) 1 vc] w fun e w' =>
      ∃ v', e = .returned v' ∧ w'.ownsRow base 51 5 v' (n + 1) (flat (xs.take i ++ r :: xs.drop i)) ∧ w.grownBy w' v.ownBlock ∧ (v'.ownBlock = v.ownBlock ∨ v'.ownBlock = some w.heap.size) := by
  by_cases h : i = n
  · subst h
    have e : xs.take i ++ r :: xs.drop i = xs ++ [r] := by rw [List.take_of_length_le (by omega), List.drop_eq_nil_of_le (by omega)]
    rw [e]
    exact insert_end base i v xs r vb vc w hown hbase hvs hbig
  · rcases hown.2 with ⟨rfl, rfl⟩ | ⟨g, cap, cur, rfl, hbg, hg, hnc, hcm, hcs, htake⟩
    · omega
    · have hvb' : vb ≠ g := fun e => hvb (by rw [e]; rfl)
      by_cases hroom : n + 1 ≤ cap
      · exact insert_shift base n i g cap xs r vb vc w cur (by omega) hxl hbg hg hcm hcs htake hroom hvb' hvs kA tA hsa hfa hfe
      · exact insert_grow base n i g cap xs r vb vc w cur (by omega) hxl hbase hbig hg hnc hcs htake (by omega) hvs

abbrev FKey := ByteArray × Int
def encK (k : FKey) : Value := .agg #[.string k.1, .int .i64 k.2]
theorem encK_inj : ∀ x y, encK x = encK y → x = y := by
  rintro ⟨a, b⟩ ⟨c, d⟩ h
  simp [encK] at h
  rw [h.1, h.2]
theorem fx_laidOut : laidOutB Tryd.prog = true := by kernel_rfl
theorem fx_keyed : Keyed Tryd.prog 62 := Keyed.of_law (deep_law_laid fx_laidOut (m := 2) (by omega) (of_decide_eq_true (by kernel_rfl)) (by kernel_rfl) (by kernel_rfl))
theorem keyLits_int {P : Program} {t : TypeId} (h : P.underlying t = some (.int .i64)) {n : Int} (hw : (Lit.int .i64 n).wf = true) (d : Nat) : P.keyLits (d + 1) t [.int .i64 n] = some [.int .i64 n] := by
  unfold Program.keyLits; simp [h, hw]
theorem keyLits_str {P : Program} {t : TypeId} (h : P.underlying t = some .string) {s : ByteArray} (hs : s.size ≤ maxLen) (d : Nat) : P.keyLits (d + 1) t [.string s] = some [.string s.data.toList] := by
  unfold Program.keyLits; simp [h, hs]
theorem fx_keyOf_pair (s : ByteArray) (n : Int) (h1 : s.size ≤ maxLen) (hw : (Lit.int .i64 n).wf = true) : keyOf Tryd.prog 62 (.agg #[.string s, .int .i64 n]) = some (.string (keyBytes [.string s.data.toList, .int .i64 n])) := by
  have e0 : Tryd.prog.keyType 62 = true := by kernel_rfl
  have c62 : Tryd.prog.cellsOf 62 = 2 := by kernel_rfl
  have c9 : Tryd.prog.cellsOf 9 = 1 := by kernel_rfl
  have c3 : Tryd.prog.cellsOf 3 = 1 := by kernel_rfl
  obtain ⟨m, hm⟩ : ∃ m, Tryd.prog.types.size = m + 1 := ⟨_, (by kernel_rfl : Tryd.prog.types.size = (Tryd.prog.types.size - 1) + 1)⟩
  unfold keyOf
  simp only [Tryd.underlying62]
  rw [if_pos (by simp [e0, Value.formed, Tryd.underlying62, c62]), hm]
  unfold Program.keyLits
  simp only [Tryd.underlying62, Value.cells]
  rw [if_pos (by rw [c62]; exact ⟨rfl, by simp⟩)]
  simp only [List.mapM_cons, List.mapM_nil]
  simp [keyLits_int Tryd.underlying3 hw, keyLits_str Tryd.underlying9 h1, c9, c3]
theorem fx_keyOf (k : FKey) (h1 : k.1.size ≤ maxLen) (h2 : inI k.2) : ∃ l, keyOf Tryd.prog 62 (encK k) = some l :=
  ⟨_, fx_keyOf_pair k.1 k.2 h1 (WalkArith.wf_i64 h2)⟩

end Go.Proofs.YtncbfpigojeekaaDoor
