/- slices.Insert at a row of rates that the table owns. -/
import Derived.Test.YtncbfpigojeekaaDoorC3
import Derived.Lib.AppendZerosOnto
import Derived.Lib.Overlaps
import Derived.Lib.JoinLaws
import Derived.Lib.Walk
import Derived.Laws.NewBlocks
import Derived.Laws.CopyRow
import Derived.Laws.AppendOwn
import Derived.Shelf.Spec.SlicesInsert
import Derived.Maps.AppendAt
namespace Go.Proofs.YtncbfpigojeekaaDoor
open Go.RowKit Go.Lib

theorem run_copy_wide {P : Program} (w : World) (dT sT ty elem : TypeId) (sz : Nat) (g o dLen dCap : Nat) (a : Addr) (sLen sCap : Nat) (cur : Array Value) (t : TypeId) (cs : List Value)
    (hu : P.underlying dT = some (.slice elem)) (hs : (P.info? elem).map (·.size) = some sz)
    (hg : w.heap[g]? = some (.cells cur t (0, 0))) (m : Nat) (hm : Nat.min sLen dLen = m) (hn : cs.length = m * sz)
    (hsrc : ∀ j v, cs[j]? = some v → w.cell? (a.add j) = some v) (hfit : o + cs.length ≤ cur.size) (h1 : ∀ v ∈ cs, v.oneCell' = true) :
    (Builtin.copy_ #[dT, sT] ty #[.slice (some ⟨g, o, none⟩) dLen dCap, .slice (some a) sLen sCap]).run P w =
      .ok (goInt m) (w.setRow g (cur.toList.take o ++ cs ++ cur.toList.drop (o + cs.length)).toArray) := by
  have hl := run_loadCells_list (P := P) w a cs hsrc
  have hst := run_storeCells_at P g o t cs 0 cur w hg (by simpa using hfit) h1
  cases hq : P.info? elem with
  | none => simp [hq] at hs
  | some i =>
    have hi : i.size = sz := by simpa [hq] using hs
    simp [Builtin.copy_, run_underlying hu, Builtin.lenOf, Builtin.firstCells, sizeOf, typeInfo, hq, hi, hm, ← hn, hl, hst]

theorem info_rate : (Tryd.prog.info? 51).map (fun i => (i.zero, i.size, i.bytes)) = some (some (.agg #[.string ByteArray.empty, .int .i64 0, .int .i64 0, .int .i64 0, .int .i64 0]), 5, 48) := by kernel_rfl
theorem size_rate : (Tryd.prog.info? 51).map (·.size) = some 5 := by kernel_rfl

def flat (xs : List Rate) : List Value := xs.flatMap Rate.cells
theorem Rate.cells_length (r : Rate) : r.cells.length = 5 := rfl
theorem Rate.cells_one (r : Rate) : ∀ v ∈ r.cells, v.oneCell' = true := by intro v hv; simp [Rate.cells] at hv; rcases hv with rfl | rfl | rfl | rfl | rfl <;> rfl
theorem flat_length : ∀ xs : List Rate, (flat xs).length = xs.length * 5
  | [] => rfl
  | r :: xs => by have := flat_length xs; unfold flat at this ⊢; rw [List.flatMap_cons, List.length_append, this, r.cells_length, List.length_cons]; omega
theorem flat_append (a b : List Rate) : flat (a ++ b) = flat a ++ flat b := List.flatMap_append
theorem flat_take : ∀ (xs : List Rate) (i : Nat), (flat xs).take (i * 5) = flat (xs.take i)
  | [], i => by simp [flat]
  | r :: xs, 0 => by simp [flat]
  | r :: xs, i + 1 => by
    have := flat_take xs i
    unfold flat at this ⊢
    rw [List.take_succ_cons, List.flatMap_cons, List.flatMap_cons, List.take_append, r.cells_length, List.take_of_length_le (by rw [r.cells_length]; omega), show (i + 1) * 5 - 5 = i * 5 by omega, this]
theorem flat_drop : ∀ (xs : List Rate) (i : Nat), (flat xs).drop (i * 5) = flat (xs.drop i)
  | [], i => by simp [flat]
  | r :: xs, 0 => by simp [flat]
  | r :: xs, i + 1 => by
    have := flat_drop xs i
    unfold flat at this ⊢
    rw [List.drop_succ_cons, List.flatMap_cons, List.drop_append, r.cells_length, List.drop_eq_nil_of_le (by rw [r.cells_length]; omega), show (i + 1) * 5 - 5 = i * 5 by omega, this, List.nil_append]
theorem flat_one (xs : List Rate) : ∀ v ∈ flat xs, v.oneCell' = true := by
  intro v hv
  obtain ⟨r, _, h⟩ := List.mem_flatMap.1 hv
  exact r.cells_one v h

/-- the row after an insertion in place -/
theorem row_shift (cur xs rc : List Value) (i n m : Nat) (hx : cur.take (n * 5) = xs) (hl : xs.length = n * 5) (hi : i < n) (hr : rc.length = 5) (hm : (n + 1) * 5 ≤ cur.length) (h5 : m = i * 5) :
    (((cur.take (m + 5) ++ xs.drop m ++ cur.drop (m + 5 + (xs.drop m).length)).take m ++ rc ++ (cur.take (m + 5) ++ xs.drop m ++ cur.drop (m + 5 + (xs.drop m).length)).drop (m + rc.length))).take ((n + 1) * 5) = xs.take m ++ rc ++ xs.drop m := by
  subst h5
  have e1 : (cur.take (i * 5 + 5) ++ xs.drop (i * 5) ++ cur.drop (i * 5 + 5 + (xs.drop (i * 5)).length)).take (i * 5) = xs.take (i * 5) := by
    rw [List.append_assoc, List.take_append_of_le_length (by rw [List.length_take]; omega), List.take_take, ← hx, List.take_take]
    congr 1; omega
  have e2 : (cur.take (i * 5 + 5) ++ xs.drop (i * 5) ++ cur.drop (i * 5 + 5 + (xs.drop (i * 5)).length)).drop (i * 5 + rc.length) = xs.drop (i * 5) ++ cur.drop (i * 5 + 5 + (xs.drop (i * 5)).length) := by
    rw [hr, List.append_assoc, List.drop_append_of_le_length (by rw [List.length_take]; omega), List.drop_eq_nil_of_le (by rw [List.length_take]; omega)]; rfl
  rw [e1, e2, ← List.append_assoc, List.take_append_of_le_length (by simp only [List.length_append, List.length_take, List.length_drop]; omega), List.take_of_length_le (by simp only [List.length_append, List.length_take, List.length_drop]; omega)]

set_option maxHeartbeats 4000000 in
set_option maxRecDepth 100000 in
/-- slices.Insert of one rate into an owned row. -/
theorem insert_end (base n : Nat) (v : Value) (xs : List Rate) (r : Rate) (vb vc : Nat) (w : World) (hown : w.ownsRow base 51 5 v n (flat xs)) (hbase : base ≤ w.heap.size)
    (hvs : ∀ j u, r.cells[j]? = some u → w.cell? ⟨vb, j, none⟩ = some u) (hbig : n ≤ 100000) :
    Calls Tryd.prog 43 #[v, .int .i64 n, .slice (some ⟨vb, 0, none⟩) 1 vc] w fun e w' =>
      ∃ v', e = .returned v' ∧ w'.ownsRow base 51 5 v' (n + 1) (flat (xs ++ [r])) ∧ w.grownBy w' v.ownBlock ∧ (v'.ownBlock = v.ownBlock ∨ v'.ownBlock = some w.heap.size) := by
  obtain ⟨i0, hi, hz0, hz1, hz2⟩ := info_parts info_rate
  have hshape : ∃ base' c', v = .slice base' n c' ∧ n ≤ c' ∧ (∀ b, base' = some b → c' = n → True) ∧ (base' = none → n = 0 ∧ c' = 0) ∧ (base' = none ∨ ∃ g, base' = some ⟨g, 0, none⟩) := by
    rcases hown.2 with ⟨rfl, rfl⟩ | ⟨g, cap, cur, rfl, _, _, hn, _⟩
    · exact ⟨none, 0, rfl, by omega, by simp, by simp, .inl rfl⟩
    · exact ⟨_, cap, rfl, hn, by simp, by simp, .inr ⟨g, rfl⟩⟩
  have hflat : flat (xs ++ [r]) = flat xs ++ r.cells := by rw [flat_append]; rfl
  rw [hflat]
  have u22 := run_underlying Tryd.underlying22
  obtain ⟨base', c', rfl, hnc, _, hnil, hg⟩ := hshape
  rcases hg with rfl | ⟨g, rfl⟩
  · obtain ⟨rfl, rfl⟩ := hnil rfl
    go_enter Tryd.func43, Tryd.ntmps43
    go_wp2_with (at_builtin; refine wpList_append_own_at _ rfl _ _ 22 rfl base 51 i0 _ 5 48 Tryd.underlying22 hi hz0 hz1 hz2 rfl (by decide) _ 0 (flat xs) rfl hown ⟨vb, 0, none⟩ 1 vc r.cells rfl rfl (fun j u hj => by rw [Addr.add_lit, Nat.zero_add]; exact hvs j u hj) r.cells_one (by unfold maxLen; omega) (by omega) hbase ?_; intro v' w3 hown' hgrow3 hnil3 hat3)
    go_ret
    exact ⟨_, rfl, hown', hgrow3, hat3⟩
  · go_enter Tryd.func43, Tryd.ntmps43
    go_wp2_with (at_builtin; refine wpList_append_own_at _ rfl _ _ 22 rfl base 51 i0 _ 5 48 Tryd.underlying22 hi hz0 hz1 hz2 rfl (by decide) _ n (flat xs) rfl hown ⟨vb, 0, none⟩ 1 vc r.cells rfl rfl (fun j u hj => by rw [Addr.add_lit, Nat.zero_add]; exact hvs j u hj) r.cells_one (by unfold maxLen; omega) (by omega) hbase ?_; intro v' w3 hown' hgrow3 hnil3 hat3)
    all_goals (go_ret; exact ⟨_, rfl, hown', hgrow3, hat3⟩)

theorem setRow_heap_size (w : World) (g : Nat) (cs : Array Value) : (w.setRow g cs).heap.size = w.heap.size := by simp [World.setRow]
theorem hasRow {w : World} {g : Nat} {cur : Array Value} {e : TypeId} (h : w.heap[g]? = some (.cells cur e (0, 0))) (j : Nat) : w.cell? ⟨g, j, none⟩ = cur[j]? := by simp [World.cell?, h]

set_option maxHeartbeats 4000000 in
set_option maxRecDepth 100000 in
theorem insert_shift (base n i g cap : Nat) (xs : List Rate) (r : Rate) (vb vc : Nat) (w : World) (cur : Array Value) (hi : i < n) (hxl : xs.length = n) (hbg : base ≤ g)
    (hg : w.heap[g]? = some (.cells cur 51 (0, 0))) (hcap : cap ≤ maxLen) (hcs : cur.size = cap * 5) (htake : cur.toList.take (n * 5) = flat xs) (hroom : n + 1 ≤ cap) (hvb : vb ≠ g)
    (hvs : ∀ j u, r.cells[j]? = some u → w.cell? ⟨vb, j, none⟩ = some u) (kA : Nat) (tA : TypeId) (hsa : w.shape? vb = some (tA, kA)) (hfa : w.frozen? ⟨vb, 0, none⟩ = false) (hfe : w.frozen? ⟨vb, kA, none⟩ = false) :
    Calls Tryd.prog 43 #[.slice (some ⟨g, 0, none⟩) n cap, .int .i64 i, .slice (some ⟨vb, 0, none⟩) 1 vc] w fun e w' =>
      ∃ v', e = .returned v' ∧ w'.ownsRow base 51 5 v' (n + 1) (flat (xs.take i ++ r :: xs.drop i)) ∧ w.grownBy w' (some g) ∧ (v'.ownBlock = some g ∨ v'.ownBlock = some w.heap.size) := by
  have u22 := run_underlying Tryd.underlying22
  have hsz := size_rate
  have hc63 : cap ≤ 9223372036854775807 := by unfold maxLen at hcap; omega
  have hgw : g < w.heap.size := (Array.getElem?_eq_some_iff.1 hg).1
  have hfl := flat_length xs
  have hCL : cur.toList.length = cap * 5 := by simpa using hcs
  have hz2 : ¬ ((i : Int) = (n : Int)) := by omega
  have hov : ∀ lb cb, (callFunc 58 #[.slice (some ⟨vb, 0, none⟩) 1 vc, .slice (some ⟨g, (i + 1) * 5, none⟩) lb cb]).run Tryd.prog w = .ok (.value (.bool false)) w := fun lb cb => by
    rw [run_callFunc_extern Tryd.func58 (by kernel_rfl) (by kernel_rfl) (by kernel_rfl) (e := Extern.SlicesOverlaps.overlaps #[22, 22] #[4]) (by kernel_rfl),
      Lib.run_overlaps_apart w 22 4 51 Tryd.underlying22 5 (fun _ => by kernel_rfl) ⟨vb, 0, none⟩ ⟨g, (i + 1) * 5, none⟩ 1 vc lb cb hvb tA _ kA _ hsa (by show w.shape? g = _; unfold World.shape?; rw [hg]) (by omega) hfa hfe]
    rfl
  have hw1 : IntKind.i64.wrap ((i : Int) + 1) = ((i + 1 : Nat) : Int) := by rw [IntKind.wrap_i64]; omega
  have hw2 : IntKind.i64.wrap ((n : Int) + 1) = ((n + 1 : Nat) : Int) := by rw [IntKind.wrap_i64]; omega
  have hdl : ((flat xs).drop (i * 5)).length = (n - i) * 5 := by rw [List.length_drop, hfl]; omega
  have hmn1 : Nat.min (n + 1 - i) (n - i) = n - i := by simp only [Nat.min_def]; split <;> omega
  have hmn2 : Nat.min 1 (n + 1 - i) = 1 := by simp only [Nat.min_def]; split <;> omega
  obtain ⟨C1, hC1⟩ : ∃ C1 : List Value, C1 = cur.toList.take (i * 5 + 5) ++ (flat xs).drop (i * 5) ++ cur.toList.drop (i * 5 + 5 + ((flat xs).drop (i * 5)).length) := ⟨_, rfl⟩
  have hC1l : C1.length = cap * 5 := by rw [hC1]; simp only [List.length_append, List.length_take, List.length_drop, hCL, hfl]; omega
  obtain ⟨C2, hC2⟩ : ∃ C2 : List Value, C2 = C1.take (i * 5) ++ r.cells ++ C1.drop (i * 5 + r.cells.length) := ⟨_, rfl⟩
  have hC2l : C2.length = cap * 5 := by rw [hC2]; simp only [List.length_append, List.length_take, List.length_drop, hC1l, r.cells_length]; omega
  have hC2t : C2.take ((n + 1) * 5) = flat (xs.take i ++ r :: xs.drop i) := by
    rw [hC2, hC1, row_shift cur.toList (flat xs) r.cells i n (i * 5) htake (by rw [hfl, hxl]) hi r.cells_length (by rw [hCL]; omega) rfl, flat_take, flat_drop, flat_append]
    show _ = flat (xs.take i) ++ (r.cells ++ flat (xs.drop i))
    rw [List.append_assoc]
  have hcp1 : ∀ (W : World), W.heap = w.heap → ∀ ty dc sc, (Builtin.copy_ #[22, 22] ty #[.slice (some ⟨g, (i + 1) * 5, none⟩) (n - i) dc, .slice (some ⟨g, i * 5, none⟩) (n + 1 - i) sc]).run Tryd.prog W = .ok (goInt (n - i : Nat)) (W.setRow g C1.toArray) := fun W hW ty dc sc => by
    have hcell : ∀ p : Addr, W.cell? p = w.cell? p := fun p => by simp [World.cell?, hW]
    rw [run_copy_wide W _ _ ty 51 5 g ((i + 1) * 5) (n - i) dc ⟨g, i * 5, none⟩ (n + 1 - i) sc cur 51 ((flat xs).drop (i * 5)) Tryd.underlying22 hsz (by rw [hW]; exact hg) (n - i) hmn1 hdl
      (fun j u hj => by
        rw [Addr.add_lit, hcell, hasRow hg]
        rw [List.getElem?_drop, ← htake, List.getElem?_take] at hj
        split at hj
        · simpa using hj
        · cases hj)
      (by rw [hdl, hcs]; omega) (fun u hu => flat_one xs u (List.mem_of_mem_drop hu))]
    rw [hC1, show (i + 1) * 5 = i * 5 + 5 by omega]
  have hcp2 : ∀ (W : World), (W.heap[g]? = some (.cells C1.toArray 51 (0, 0))) → (W.heap[vb]? = w.heap[vb]?) → ∀ ty dc, (Builtin.copy_ #[22, 22] ty #[.slice (some ⟨g, i * 5, none⟩) (n + 1 - i) dc, .slice (some ⟨vb, 0, none⟩) 1 vc]).run Tryd.prog W = .ok (goInt 1) (W.setRow g C2.toArray) := fun W hW hV ty dc => by
    have hcell : ∀ j, W.cell? ⟨vb, j, none⟩ = w.cell? ⟨vb, j, none⟩ := fun p => by simp [World.cell?, hV]
    have h := run_copy_wide W 22 22 ty 51 5 g (i * 5) (n + 1 - i) dc ⟨vb, 0, none⟩ 1 vc C1.toArray 51 r.cells Tryd.underlying22 hsz hW 1 hmn2 r.cells_length
      (fun j u hj => by rw [Addr.add_lit, Nat.zero_add, hcell]; exact hvs j u hj)
      (by rw [r.cells_length]; simp only [List.size_toArray, hC1l]; omega) r.cells_one
    rw [h, hC2]; rfl
  have htn : ((n : Int) + 1).toNat = n + 1 := by omega
  have hti : ((i : Int) + 1).toNat = i + 1 := by omega
  have hpn : (0 : Int) ≤ (n : Int) + 1 := by omega
  have hpi : (0 : Int) ≤ (i : Int) + 1 := by omega
  have hb5 : (n : Int) + 1 ≤ (cap : Int) := by omega
  have hb6 : (i : Int) + 1 ≤ (n : Int) + 1 := by omega
  have hb7 : (i : Int) ≤ (n : Int) + 1 := by omega
  have mixed : Tryd.prog.follows Departure.mixedOrders = true := by kernel_rfl
  have hb0 : ¬ ((cap : Int) < (n : Int) + 1) := by omega
  have hb1 : ¬ (cap = i + 1) := by omega
  have hb2 : ¬ (cap = i) := by omega
  have hb3 : i ≤ n := by omega
  have hb4 : n + 1 ≤ cap := by omega
  have HCP1 := Lib.hid hcp1
  have HCP2 := Lib.hid hcp2
  have HX := Lib.hid (And.intro hC2l hC2t)
  have HG := Lib.hid hg
  clear hcp1 hcp2 hC1 hC2 hC2l hC2t hC1l htake hg hcs hCL hdl
  go_enter Tryd.func43, Tryd.ntmps43
  go_wp2_with (simp only [hov])
  have hcpY := HCP2.out (w.drew.setRow g C1.toArray) (setRow_heap _ _ cur _ _ _ HG.out) ((setRow_other _ _ _ _ hvb).trans rfl)
  have hcpX := HCP1.out w.drew rfl
  go_region_law_o (refine step_copy_runI rfl _ _ 22 22 rfl _ _ (by simp [Act.eval, Act.put]) (by simp [Act.eval, Act.put]) (hcpX _ _ _) ?_)
  go_wp2_with (at_builtin; refine wpList_copy_runI _ rfl _ _ 22 22 rfl _ _ rfl rfl (hcpY _ _) ?_)
  go_ret
  refine ⟨_, rfl, ⟨by rw [← HX.out.2, List.length_take, HX.out.1]; omega, .inr ⟨g, cap, C2.toArray, rfl, hbg, ?_, hroom, hcap, by simp [HX.out.1], by simp [HX.out.2]⟩⟩, ?_, .inl rfl⟩
  · exact setRow_heap _ _ C1.toArray _ _ _ (setRow_heap _ _ cur _ _ _ (by exact HG.out))
  · refine ⟨rfl, rfl, rfl, by simp, fun k hk hne => ?_⟩
    have hkg : k ≠ g := fun h => hne (by rw [h])
    rw [setRow_other _ _ _ _ hkg, setRow_other _ _ _ _ hkg]; rfl

theorem row_grow (row xs rc : List Value) (i n m : Nat) (hx : row.take m = xs.take m) (hl : xs.length = n * 5) (hi : i < n) (hr : rc.length = 5) (hm : (n + 1) * 5 ≤ row.length) (h5 : m = i * 5) :
    (((row.take m ++ rc ++ row.drop (m + rc.length)).take (m + 5) ++ xs.drop m ++ (row.take m ++ rc ++ row.drop (m + rc.length)).drop (m + 5 + (xs.drop m).length))).take ((n + 1) * 5) = xs.take m ++ rc ++ xs.drop m := by
  subst h5
  have e1 : (row.take (i * 5) ++ rc ++ row.drop (i * 5 + rc.length)).take (i * 5 + 5) = xs.take (i * 5) ++ rc := by
    rw [List.take_append_of_le_length (by simp only [List.length_append, List.length_take]; omega), List.take_of_length_le (by simp only [List.length_append, List.length_take]; omega), hx]
  rw [e1, List.take_append_of_le_length (by simp only [List.length_append, List.length_take, List.length_drop]; omega), List.take_of_length_le (by simp only [List.length_append, List.length_take, List.length_drop]; omega)]

set_option maxHeartbeats 4000000 in
set_option maxRecDepth 100000 in
theorem insert_grow (base n i g cap : Nat) (xs : List Rate) (r : Rate) (vb vc : Nat) (w : World) (cur : Array Value) (hi : i < n) (hxl : xs.length = n) (hbase : base ≤ w.heap.size) (hbig : n ≤ 100000)
    (hg : w.heap[g]? = some (.cells cur 51 (0, 0))) (hnc : n ≤ cap) (hcs : cur.size = cap * 5) (htake : cur.toList.take (n * 5) = flat xs) (hroom : cap < n + 1)
    (hvs : ∀ j u, r.cells[j]? = some u → w.cell? ⟨vb, j, none⟩ = some u) :
    Calls Tryd.prog 43 #[.slice (some ⟨g, 0, none⟩) n cap, .int .i64 i, .slice (some ⟨vb, 0, none⟩) 1 vc] w fun e w' =>
      ∃ v', e = .returned v' ∧ w'.ownsRow base 51 5 v' (n + 1) (flat (xs.take i ++ r :: xs.drop i)) ∧ w.grownBy w' (some g) ∧ (v'.ownBlock = some g ∨ v'.ownBlock = some w.heap.size) := by
  have u22 := run_underlying Tryd.underlying22
  have hsz := size_rate
  obtain ⟨i0, hi0, hz0, hzs, hzb⟩ := info_parts info_rate
  have hgw : g < w.heap.size := (Array.getElem?_eq_some_iff.1 hg).1
  have hvw : vb < w.heap.size := block_lt_of_cell (hvs 0 _ rfl)
  have hfl := flat_length xs
  have hCL : cur.toList.length = cap * 5 := by simpa using hcs
  have hz2 : ¬ ((i : Int) = (n : Int)) := by omega
  have hw1 : IntKind.i64.wrap ((i : Int) + 1) = ((i + 1 : Nat) : Int) := by rw [IntKind.wrap_i64]; omega
  have hw2 : IntKind.i64.wrap ((n : Int) + 1) = ((n + 1 : Nat) : Int) := by rw [IntKind.wrap_i64]; omega
  have hkk : (n : Int) + 1 - (i : Int) = ((n + 1 - i : Nat) : Int) := by omega
  have hik : i + (n + 1 - i) = n + 1 := by omega
  have hold : (Builtin.firstCells i0.size i (.slice (some ⟨g, 0, none⟩) i cap)).run Tryd.prog w.drew = .ok ((flat xs).take (i * 5)).toArray w.drew := by
    rw [hzs]
    exact run_firstCells_some w.drew 5 i ⟨g, 0, none⟩ i cap ((flat xs).take (i * 5)) (by rw [List.length_take, hfl]; omega) (fun j u hj => by
      rw [Addr.add_lit, Nat.zero_add]
      show w.cell? _ = _
      rw [hasRow hg]
      rw [← htake, List.take_take, List.getElem?_take] at hj
      split at hj
      · simpa using hj
      · cases hj)
  obtain ⟨G, hG⟩ : ∃ G, G = grownCap w (n + 1) cap 51 := ⟨_, rfl⟩
  have hGn : n + 1 ≤ G := by rw [hG]; exact grownCap_ge w _ _ _
  have hGm : G ≤ maxLen := by rw [hG]; exact grownCap_le_maxLen w (n + 1) cap _ (by unfold maxLen; omega)
  have hG63 : G ≤ 9223372036854775807 := by unfold maxLen at hGm; omega
  obtain ⟨ROW, hROW⟩ : ∃ ROW : Array Value, ROW = ((flat xs).take (i * 5)).toArray ++ Builtin.zeroCells (Value.agg #[.string ByteArray.empty, .int .i64 0, .int .i64 0, .int .i64 0, .int .i64 0]).cells (n + 1 - i) ++ Builtin.zeroCells (Value.agg #[.string ByteArray.empty, .int .i64 0, .int .i64 0, .int .i64 0, .int .i64 0]).cells (G - (n + 1)) := ⟨_, rfl⟩
  have hrz : ∀ ty, (Builtin.append_ #[22, 3] ty #[.slice (some ⟨g, 0, none⟩) i cap, .int .i64 ((n : Int) + 1 - (i : Int))]).run Tryd.prog w = .ok (.slice (some ⟨w.heap.size, 0, none⟩) (n + 1) G) (w.drew.alloc (.cells ROW 51)) := fun ty => by
    have h := Lib.run_append_grow_zeros w 22 3 ty 51 i0 _ .i64 .i64 Tryd.underlying22 Tryd.underlying3 hi0 hz0 (some ⟨g, 0, none⟩) i cap ((flat xs).take (i * 5)) hold (n + 1 - i) (by omega) (by omega) (by omega) (by omega) (by rw [hzb]; omega) (by rw [hzb, hik]; exact growslice_fits hroom (by omega))
    rw [hik] at h
    rw [hkk, hROW, hG]
    exact h
  have hRl : ROW.size = G * 5 := by
    rw [hROW]
    simp [Builtin.zeroCells, Value.cells, hfl]
    omega
  have hRl' : ROW.toList.length = G * 5 := by simpa using hRl
  have hRt : ROW.toList.take (i * 5) = (flat xs).take (i * 5) := by
    rw [hROW]
    simp only [Array.toList_append, List.append_assoc]
    rw [List.take_append_of_le_length (by simp [hfl]; omega), List.take_of_length_le (by simp; omega)]
  have hdl : ((flat xs).drop (i * 5)).length = (n - i) * 5 := by rw [List.length_drop, hfl]; omega
  have hmn1 : Nat.min (n - i) (n - i) = n - i := by simp only [Nat.min_def]; split <;> omega
  have hmn2 : Nat.min 1 (n + 1 - i) = 1 := by simp only [Nat.min_def]; split <;> omega
  obtain ⟨C1, hC1⟩ : ∃ C1 : List Value, C1 = ROW.toList.take (i * 5) ++ r.cells ++ ROW.toList.drop (i * 5 + r.cells.length) := ⟨_, rfl⟩
  have hC1l : C1.length = G * 5 := by rw [hC1]; simp only [List.length_append, List.length_take, List.length_drop, hRl', r.cells_length]; omega
  obtain ⟨C2, hC2⟩ : ∃ C2 : List Value, C2 = C1.take (i * 5 + 5) ++ (flat xs).drop (i * 5) ++ C1.drop (i * 5 + 5 + ((flat xs).drop (i * 5)).length) := ⟨_, rfl⟩
  have hC2l : C2.length = G * 5 := by rw [hC2]; simp only [List.length_append, List.length_take, List.length_drop, hC1l, hfl]; omega
  have hC2t : C2.take ((n + 1) * 5) = flat (xs.take i ++ r :: xs.drop i) := by
    rw [hC2, hC1, row_grow ROW.toList (flat xs) r.cells i n (i * 5) hRt (by rw [hfl, hxl]) hi r.cells_length (by rw [hRl']; omega) rfl, flat_take, flat_drop, flat_append]
    show _ = flat (xs.take i) ++ (r.cells ++ flat (xs.drop i))
    rw [List.append_assoc]
  have hcp1 : ∀ (W : World), W.heap[w.heap.size]? = some (.cells ROW 51 (0, 0)) → (W.heap[vb]? = w.heap[vb]?) → ∀ ty dc, (Builtin.copy_ #[22, 22] ty #[.slice (some ⟨w.heap.size, i * 5, none⟩) (n + 1 - i) dc, .slice (some ⟨vb, 0, none⟩) 1 vc]).run Tryd.prog W = .ok (goInt 1) (W.setRow w.heap.size C1.toArray) := fun W hW hV ty dc => by
    have hcell : ∀ j, W.cell? ⟨vb, j, none⟩ = w.cell? ⟨vb, j, none⟩ := fun p => by simp [World.cell?, hV]
    have h := run_copy_wide W 22 22 ty 51 5 w.heap.size (i * 5) (n + 1 - i) dc ⟨vb, 0, none⟩ 1 vc ROW 51 r.cells Tryd.underlying22 hsz hW 1 hmn2 r.cells_length
      (fun j u hj => by rw [Addr.add_lit, Nat.zero_add, hcell]; exact hvs j u hj)
      (by rw [r.cells_length, hRl]; omega) r.cells_one
    rw [h, hC1]; rfl
  have hcp2 : ∀ (W : World), W.heap[w.heap.size]? = some (.cells C1.toArray 51 (0, 0)) → (W.heap[g]? = w.heap[g]?) → ∀ ty dc sc, (Builtin.copy_ #[22, 22] ty #[.slice (some ⟨w.heap.size, (i + 1) * 5, none⟩) (n - i) dc, .slice (some ⟨g, i * 5, none⟩) (n - i) sc]).run Tryd.prog W = .ok (goInt (n - i : Nat)) (W.setRow w.heap.size C2.toArray) := fun W hW hV ty dc sc => by
    have hcell : ∀ j, W.cell? ⟨g, j, none⟩ = w.cell? ⟨g, j, none⟩ := fun p => by simp [World.cell?, hV]
    rw [run_copy_wide W _ _ ty 51 5 w.heap.size ((i + 1) * 5) (n - i) dc ⟨g, i * 5, none⟩ (n - i) sc C1.toArray 51 ((flat xs).drop (i * 5)) Tryd.underlying22 hsz hW (n - i) hmn1 hdl
      (fun j u hj => by
        rw [Addr.add_lit, hcell, hasRow hg]
        rw [List.getElem?_drop, ← htake, List.getElem?_take] at hj
        split at hj
        · simpa using hj
        · cases hj)
      (by rw [hdl, List.size_toArray, hC1l]; omega) (fun u hu => flat_one xs u (List.mem_of_mem_drop hu))]
    rw [hC2, show (i + 1) * 5 = i * 5 + 5 by omega]
  obtain ⟨W1, hW1⟩ : ∃ W1, W1 = w.drew.alloc (.cells ROW 51) := ⟨_, rfl⟩
  have hWn : W1.heap[w.heap.size]? = some (.cells ROW 51 (0, 0)) := by rw [hW1]; exact heap_alloc_new w.drew _
  have hWo : ∀ k, k < w.heap.size → W1.heap[k]? = w.heap[k]? := fun k hk => by rw [hW1]; exact heap_alloc_old w.drew _ hk
  have hWs : W1.heap.size = w.heap.size + 1 := by rw [hW1]; simp
  have hWx : W1.os = w.os ∧ W1.tape = w.tape ∧ W1.output = w.output := by rw [hW1]; exact ⟨rfl, rfl, rfl⟩
  rw [← hW1] at hrz
  have hcpX := hcp1 W1 hWn (hWo vb hvw)
  have hcpY := hcp2 (W1.setRow w.heap.size C1.toArray).drew (setRow_heap _ _ ROW _ _ _ hWn) ((setRow_other _ _ _ _ (by omega)).trans (hWo g hgw))
  have htn : ((n : Int) + 1).toNat = n + 1 := by omega
  have hti : ((i : Int) + 1).toNat = i + 1 := by omega
  have hpn : (0 : Int) ≤ (n : Int) + 1 := by omega
  have hpi : (0 : Int) ≤ (i : Int) + 1 := by omega
  have hb6 : (i : Int) + 1 ≤ (n : Int) + 1 := by omega
  have hb7 : (i : Int) ≤ (n : Int) + 1 := by omega
  have mixed : Tryd.prog.follows Departure.mixedOrders = true := by kernel_rfl
  have hb0 : (cap : Int) < (n : Int) + 1 := by omega
  have hb1 : ¬ (G = i + 1) := by omega
  have hb2 : ¬ (G = i) := by omega
  have hb8 : ¬ (cap = i) := by omega
  have hb3 : i ≤ n := by omega
  have HX := Lib.hid (And.intro hC2l hC2t)
  have HW := Lib.hid (And.intro hWn (And.intro hWo (And.intro hWs hWx)))
  clear hcp1 hcp2 hC1 hC2 hC2l hC2t hC1l htake hg hcs hCL hdl hROW hG hold hRl hRl' hRt hWn hWo hWs hWx hW1 hkk hik
  go_enter Tryd.func43, Tryd.ntmps43
  go_wp2_with (first
    | (at_builtin; refine Lib.wpList_append_run _ rfl _ _ _ _ rfl _ _ rfl rfl _ _ (hrz _) ?_)
    | (at_builtin; refine wpList_copy_runI _ rfl _ _ 22 22 rfl _ _ rfl rfl (hcpX _ _) ?_))
  go_region_law_o (refine step_copy_runI rfl _ _ 22 22 rfl _ _ (by simp [Act.eval, Act.put]) (by simp [Act.eval, Act.put]) (hcpY _ _ _) ?_)
  go_wp2
  go_ret
  refine ⟨_, rfl, ⟨by rw [← HX.out.2, List.length_take, HX.out.1]; omega, .inr ⟨w.heap.size, G, C2.toArray, rfl, hbase, ?_, hGn, hGm, by simp [HX.out.1], by simp [HX.out.2]⟩⟩, ?_, .inr rfl⟩
  · exact setRow_heap _ _ C1.toArray _ _ _ (setRow_heap _ _ ROW _ _ _ (by exact HW.out.1))
  · refine ⟨HW.out.2.2.2.1, HW.out.2.2.2.2.1, HW.out.2.2.2.2.2, by simp [HW.out.2.2.1], fun k hk hne => ?_⟩
    have hkg : k ≠ w.heap.size := by omega
    rw [setRow_other _ _ _ _ hkg]
    show (W1.setRow w.heap.size C1.toArray).heap[k]? = _
    rw [setRow_other _ _ _ _ hkg]
    exact HW.out.2.1 k hk

end Go.Proofs.YtncbfpigojeekaaDoor
