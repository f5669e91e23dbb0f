/- sort.Slice at the rows of an ageing: the shelf's contract, laid at this program; the closure. -/
import Derived.Shelf.SlSortFuncK.WholeK
import Derived.Shelf.GgSortFunc.Tiny
import Derived.Test.YtohfnpkoheafkaaDoorG6
import Derived.Deep.QuietTactic
import Derived.BigQuiet
namespace Go.Proofs.YtohfnpkoheafkaaDoor.PAg
open Go.RowKit Go.Shelf Go.Lib Go.Sort

def sv6_ren : Go.Shelf.Ren := ⟨fun | 6 => 17 | 10 => 23 | 11 => 24 | 12 => 25 | 13 => 26 | 14 => 27 | 24 => 42 | 25 => 43 | 26 => 44 | 27 => 45 | 28 => 46 | 29 => 47 | 30 => 48 | 31 => 49 | 32 => 50 | 33 => 51 | 34 => 61 | 35 => 62 | 36 => 63 | 37 => 64 | 38 => 65 | 39 => 69 | n => n, fun | 20 => 20 | 26 => 46 | 35 => 55 | 0 => 0 | 37 => 57 | 3 => 3 | 41 => 61 | 44 => 64 | 49 => 75 | 51 => 77 | 4 => 4 | 54 => 80 | 53 => 79 | 58 => 48 | 5 => 5 | 9 => 9 | 60 => 89 | 64 => 93 | 66 => 96 | 67 => 97 | 17 => 17 | 32 => 52 | 33 => 53 | 82 => 112 | 12 => 12 | 75 => 105 | 76 => 106 | 77 => 107 | 78 => 108 | 79 => 109 | 80 => 110 | n => n, fun | n => n⟩
theorem sv6 : LaysGg.n6 Tryd.prog sv6_ren := {
  mixed := by kernel_rfl
  f6 := Tryd.func17.trans (congrArg some (by kernel_rfl))
  f10 := Tryd.func23.trans (congrArg some (by kernel_rfl))
  f11 := Tryd.func24.trans (congrArg some (by kernel_rfl))
  f12 := Tryd.func25.trans (congrArg some (by kernel_rfl))
  f13 := Tryd.func26.trans (congrArg some (by kernel_rfl))
  f14 := Tryd.func27.trans (congrArg some (by kernel_rfl))
  f24 := Tryd.func42.trans (congrArg some (by kernel_rfl))
  f25 := Tryd.func43.trans (congrArg some (by kernel_rfl))
  f26 := Tryd.func44.trans (congrArg some (by kernel_rfl))
  f27 := Tryd.func45.trans (congrArg some (by kernel_rfl))
  f28 := Tryd.func46.trans (congrArg some (by kernel_rfl))
  f29 := Tryd.func47.trans (congrArg some (by kernel_rfl))
  f30 := Tryd.func48.trans (congrArg some (by kernel_rfl))
  f31 := Tryd.func49.trans (congrArg some (by kernel_rfl))
  f32 := Tryd.func50.trans (congrArg some (by kernel_rfl))
  f33 := Tryd.func51.trans (congrArg some (by kernel_rfl))
  f34 := Tryd.func61.trans (congrArg some (by kernel_rfl))
  f35 := Tryd.func62.trans (congrArg some (by kernel_rfl))
  f36 := Tryd.func63.trans (congrArg some (by kernel_rfl))
  f37 := Tryd.func64.trans (congrArg some (by kernel_rfl))
  f38 := Tryd.func65.trans (congrArg some (by kernel_rfl))
  f39 := Tryd.func69.trans (congrArg some (by kernel_rfl))
  t0 := Tryd.underlying0
  a0 := Tryd.isAgg0
  z0 := Tryd.sizeOf0
  v0 := Tryd.zeroValue0
  i0 := by kernel_rfl
  t3 := Tryd.underlying3
  a3 := Tryd.isAgg3
  z3 := Tryd.sizeOf3
  v3 := Tryd.zeroValue3
  i3 := by kernel_rfl
  t4 := Tryd.underlying4
  a4 := Tryd.isAgg4
  z4 := Tryd.sizeOf4
  v4 := Tryd.zeroValue4
  i4 := by kernel_rfl
  t5 := Tryd.underlying5
  a5 := Tryd.isAgg5
  z5 := Tryd.sizeOf5
  v5 := Tryd.zeroValue5
  i5 := by kernel_rfl
  t9 := Tryd.underlying9
  a9 := Tryd.isAgg9
  z9 := Tryd.sizeOf9
  v9 := Tryd.zeroValue9
  i9 := by kernel_rfl
  t12 := Tryd.underlying12
  a12 := Tryd.isAgg12
  z12 := Tryd.sizeOf12
  v12 := Tryd.zeroValue12
  i12 := by kernel_rfl
  t17 := Tryd.underlying17
  a17 := Tryd.isAgg17
  z17 := Tryd.sizeOf17
  v17 := Tryd.zeroValue17
  i17 := by kernel_rfl
  t20 := Tryd.underlying20
  a20 := Tryd.isAgg20
  z20 := Tryd.sizeOf20
  v20 := Tryd.zeroValue20
  i20 := by kernel_rfl
  t26 := Tryd.underlying46
  a26 := Tryd.isAgg46
  z26 := Tryd.sizeOf46
  v26 := Tryd.zeroValue46
  i26 := by kernel_rfl
  t32 := Tryd.underlying52
  a32 := Tryd.isAgg52
  z32 := Tryd.sizeOf52
  v32 := Tryd.zeroValue52
  i32 := by kernel_rfl
  t33 := Tryd.underlying53
  a33 := Tryd.isAgg53
  z33 := Tryd.sizeOf53
  v33 := Tryd.zeroValue53
  i33 := by kernel_rfl
  t35 := Tryd.underlying55
  a35 := Tryd.isAgg55
  z35 := Tryd.sizeOf55
  v35 := Tryd.zeroValue55
  i35 := by kernel_rfl
  t37 := Tryd.underlying57
  a37 := Tryd.isAgg57
  z37 := Tryd.sizeOf57
  v37 := Tryd.zeroValue57
  i37 := by kernel_rfl
  t41 := Tryd.underlying61
  a41 := Tryd.isAgg61
  z41 := Tryd.sizeOf61
  v41 := Tryd.zeroValue61
  i41 := by kernel_rfl
  t44 := Tryd.underlying64
  a44 := Tryd.isAgg64
  z44 := Tryd.sizeOf64
  v44 := Tryd.zeroValue64
  i44 := by kernel_rfl
  t49 := Tryd.underlying75
  a49 := Tryd.isAgg75
  z49 := Tryd.sizeOf75
  v49 := Tryd.zeroValue75
  i49 := by kernel_rfl
  t51 := Tryd.underlying77
  a51 := Tryd.isAgg77
  z51 := Tryd.sizeOf77
  v51 := Tryd.zeroValue77
  i51 := by kernel_rfl
  t53 := Tryd.underlying79
  a53 := Tryd.isAgg79
  z53 := Tryd.sizeOf79
  v53 := Tryd.zeroValue79
  i53 := by kernel_rfl
  t54 := Tryd.underlying80
  a54 := Tryd.isAgg80
  z54 := Tryd.sizeOf80
  v54 := Tryd.zeroValue80
  i54 := by kernel_rfl
  t58 := Tryd.underlying48
  a58 := Tryd.isAgg48
  z58 := Tryd.sizeOf48
  v58 := Tryd.zeroValue48
  i58 := by kernel_rfl
  t60 := Tryd.underlying89
  a60 := Tryd.isAgg89
  z60 := Tryd.sizeOf89
  v60 := Tryd.zeroValue89
  i60 := by kernel_rfl
  t64 := Tryd.underlying93
  a64 := Tryd.isAgg93
  z64 := Tryd.sizeOf93
  v64 := Tryd.zeroValue93
  i64 := by kernel_rfl
  t66 := Tryd.underlying96
  a66 := Tryd.isAgg96
  z66 := Tryd.sizeOf96
  v66 := Tryd.zeroValue96
  i66 := by kernel_rfl
  t67 := Tryd.underlying97
  a67 := Tryd.isAgg97
  z67 := Tryd.sizeOf97
  v67 := Tryd.zeroValue97
  i67 := by kernel_rfl
  t75 := Tryd.underlying105
  a75 := Tryd.isAgg105
  z75 := Tryd.sizeOf105
  v75 := Tryd.zeroValue105
  i75 := by kernel_rfl
  t76 := Tryd.underlying106
  a76 := Tryd.isAgg106
  z76 := Tryd.sizeOf106
  v76 := Tryd.zeroValue106
  i76 := by kernel_rfl
  t77 := Tryd.underlying107
  a77 := Tryd.isAgg107
  z77 := Tryd.sizeOf107
  v77 := Tryd.zeroValue107
  i77 := by kernel_rfl
  t78 := Tryd.underlying108
  a78 := Tryd.isAgg108
  z78 := Tryd.sizeOf108
  v78 := Tryd.zeroValue108
  i78 := by kernel_rfl
  t79 := Tryd.underlying109
  a79 := Tryd.isAgg109
  z79 := Tryd.sizeOf109
  v79 := Tryd.zeroValue109
  i79 := by kernel_rfl
  t80 := Tryd.underlying110
  a80 := Tryd.isAgg110
  z80 := Tryd.sizeOf110
  v80 := Tryd.zeroValue110
  i80 := by kernel_rfl
  t82 := Tryd.underlying112
  a82 := Tryd.isAgg112
  z82 := Tryd.sizeOf112
  v82 := Tryd.zeroValue112
  i82 := by kernel_rfl }

noncomputable def svT : TypeInfo := (Tryd.prog.info? 28).get (by kernel_rfl)
noncomputable def svE : TypeInfo := (Tryd.prog.info? 37).get (by kernel_rfl)
theorem svK (n : Nat) (h2 : 2 ≤ n) : Lib.swapperK n svE 25 = 9 := by
  have a : svE.hasPointers = true := by kernel_rfl
  have b : svE.bytes = 56 := by kernel_rfl
  have c : (n == 0) = false := by simp; omega
  have d : (n == 1) = false := by simp; omega
  simp [Lib.swapperK, a, b, c, d]
theorem swo_own : SWO ownLt := ⟨ownLt_irrefl, fun _ _ _ h1 h2 => ownLt_trans h1 h2, fun _ _ _ h1 h2 => ownLt_ntrans h1 h2⟩

/-- a row's cells, its sums in block G -/
def cellsO (G : Own → Nat) (n : Nat) (k : Own) : List Value := [.string k.1, .string k.2, .slice (some ⟨G k, 0, none⟩) n n]

set_option maxHeartbeats 2000000 in
theorem go_less (blk c Bs size : Nat) (W : World) (d : Nat → Own) (hs : W.cell? ⟨Bs, 0, none⟩ = some (.slice (some ⟨blk, 0, none⟩) size c))
    (hc : ∀ t, t < size → W.cell? ⟨blk, t * 3, none⟩ = some (.string (d t).1) ∧ W.cell? ⟨blk, t * 3 + 1, none⟩ = some (.string (d t).2)) (i j : Nat) (hi : i < size) (hj : j < size) (_hsz : size < 4611686018427387904) :
    Calls Tryd.prog 18 #[.int .i64 i, .int .i64 j, .pointer (some ⟨Bs, 0, none⟩)] W fun e w' => e = .returned (.bool (ownLt (d i) (d j))) ∧ ∃ q, w' = W.drewN q := by
  obtain ⟨ci, ci1⟩ := hc i hi
  obtain ⟨cj, cj1⟩ := hc j hj
  obtain ⟨a, ha⟩ : ∃ a, d i = a := ⟨_, rfl⟩
  obtain ⟨b, hb⟩ : ∃ b, d j = b := ⟨_, rfl⟩
  rw [ha] at ci ci1 ⊢
  rw [hb] at cj cj1 ⊢
  clear hc ha hb
  unfold ownLt
  cases h1 : Op.bytesLess a.1.toList b.1.toList with
  | true =>
    go_enter Tryd.func18, Tryd.ntmps18
    go_wp2
    go_quiet (fail)
    go_wp2
    go_ret
    exact ⟨rfl, nq, rfl⟩
  | false =>
    by_cases h2 : a.1 = b.1
    · have h2b : (a.1.toList == b.1.toList) = true := by rw [h2]; simp
      have H2 := Lib.hid h2; clear h2
      cases h3 : Op.bytesLess a.2.toList b.2.toList with
      | true =>
        go_enter Tryd.func18, Tryd.ntmps18
        go_wp2
        go_quiet (fail)
        go_wp2
        go_ret
        exact ⟨by simp [H2.out], nq, rfl⟩
      | false =>
        go_enter Tryd.func18, Tryd.ntmps18
        go_wp2
        go_quiet (fail)
        go_wp2
        go_ret
        exact ⟨by simp, nq, rfl⟩
    · have h2b : (a.1.toList == b.1.toList) = false := by rw [beq_eq_false_iff_ne]; exact fun h => h2 (bytes_ext h)
      have H2 := Lib.hid h2; clear h2
      go_enter Tryd.func18, Tryd.ntmps18
      go_wp2
      go_quiet (fail)
      go_wp2
      go_ret
      exact ⟨by simp [H2.out], nq, rfl⟩

theorem go_sort (G : Own → Nat) (n blk c Bs : Nat) (d : Array Own) (h2 : 2 ≤ d.size) (hsz : d.size < 4611686018427387904) (w : World) (hH : HoldsK (cellsO G n) 3 w blk 0 d) (hblk : blk < w.heap.size)
    (hBs : w.cell? ⟨Bs, 0, none⟩ = some (.slice (some ⟨blk, 0, none⟩) d.size c)) (hB1 : Bs < w.heap.size) (hB2 : Bs ≠ blk) :
    Calls Tryd.prog 17 #[.iface 28 (.slice (some ⟨blk, 0, none⟩) d.size c), .func (.func 18) #[] #[.pointer (some ⟨Bs, 0, none⟩)]] w fun e w' =>
      e = .returned (.tuple #[]) ∧ ∃ d' m os, PermIn 0 d.size d d' ∧ SortedIn ownLt 0 d.size d' ∧ w' = grow (putRowK (cellsO G n) 3 (Sort.ahead w m) blk 0 d') os := by
  have hless : LessReadsK Tryd.prog 18 #[.pointer (some ⟨Bs, 0, none⟩)] (cellsO G n) 3 ownLt blk 0 d.size w := by
    intro m os dk hs i j hi hj
    have e : sortWorldK (cellsO G n) 3 w blk 0 m dk os = putRowK (cellsO G n) 3 (grow (Sort.ahead w m) os) blk 0 dk := by
      unfold sortWorldK; rw [putRowK_grow _ _ (Sort.ahead w m) _ blk 0 _ hblk]
    have hHg : HoldsK (cellsO G n) 3 (grow (Sort.ahead w m) os) blk 0 d := holdsK_grow _ _ _ _ blk 0 d hblk (holdsK_ahead _ _ _ _ _ _ _ hH)
    have hP := holdsK_putRowK _ _ _ blk 0 d dk hHg hs
    refine go_less blk c Bs d.size _ (fun t => dk[t]!) ?_ (fun t ht => ⟨?_, ?_⟩) i j hi hj (by omega)
    · rw [e, cell?_putRowK_other _ _ _ blk 0 dk _ (by exact hB2), cell?_grow _ _ _ (by exact hB1)]; exact hBs
    · rw [e]; have := (hP.cell (i := t) (c := 0) (by omega) (by omega)).1; simpa [cellsO] using this
    · rw [e]; have := (hP.cell (i := t) (c := 1) (by omega) (by omega)).1; simpa [cellsO] using this
  exact Any.sort_Slice_cells_sorted sv6 28 37 svT svE (by kernel_rfl) (by kernel_rfl) (by kernel_rfl) (by kernel_rfl) 25 (fun _ => by kernel_rfl) (cellsO G n) 3 (fun _ => rfl) (by kernel_rfl) (fun _ => by kernel_rfl)
    (fun x v hv => by simp [cellsO] at hv; rcases hv with rfl | rfl | rfl <;> rfl) ownLt swo_own 18 _
    (enters_of Tryd.func18 (by kernel_rfl) rfl) blk 0 c d h2 hsz 41 (by rw [svK _ h2]; kernel_rfl) false
    (fun args W => run_callFunc_extern Tryd.func41 (by kernel_rfl) (by kernel_rfl) (by kernel_rfl) (e := Extern.ReflectliteSwapper.swap false) (by kernel_rfl) args W) w hless hH hblk
theorem go_sort_tiny (p : Option Addr) (n c : Nat) (h1 : n ≤ 1) (lb : Array Value) (w : World) :
    Calls Tryd.prog 17 #[.iface 28 (.slice p n c), .func (.func 18) #[] lb] w fun e w' => e = .returned (.tuple #[]) ∧ ∃ os, w' = grow w os := by
  rcases (by omega : n = 0 ∨ n = 1) with rfl | rfl
  · exact Any.sort_Slice_tiny sv6 28 37 svT svE (by kernel_rfl) (by kernel_rfl) (by kernel_rfl) (by kernel_rfl) 25 (fun _ => by kernel_rfl) p 0 c (by omega) 33 (by kernel_rfl) _ _ _ w
  · exact Any.sort_Slice_tiny sv6 28 37 svT svE (by kernel_rfl) (by kernel_rfl) (by kernel_rfl) (by kernel_rfl) 25 (fun _ => by kernel_rfl) p 1 c (by omega) 34 (by kernel_rfl) _ _ _ w

end Go.Proofs.YtohfnpkoheafkaaDoor.PAg
