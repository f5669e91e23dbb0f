/- aging.Of: the loop over the elements. -/
import Derived.Test.YtohfnpkoheafkaaDoorG4
import Derived.WalkSpells
import Derived.Lib.BufferMore
import Derived.Laws.MakeOwn
import Derived.StillTailTactics
import Derived.IntWalk
import Derived.Test.YtohfnpkoheafkaaDoorG9
namespace Go.Proofs.YtohfnpkoheafkaaDoor.PAg
open Go.RowKit Go.Lib Go.Proofs.YtohfnpkoheafkaaDoorW.PrintWords Go.Proofs.YtohfnpkoheafkaaDoorW.PrintLast Go.Proofs.YtohfnpkoheafkaaDoorW.PrintMore

theorem sumsOf_snoc (l : List Left) (x : Left) (day : Int) (lims : List Int) : sumsOf (l ++ [x]) day lims = stepS (lims.length + 1) (bucketN (wrap64 (day - x.f2)) lims) x.f3 x.own (sumsOf l day lims) := by
  unfold sumsOf; rw [List.foldl_append]; rfl
theorem keyLits_str {P : Program} {t : TypeId} (h : P.underlying t = some .string) {s : ByteArray} (hs : s.size ≤ maxLen) (d : Nat) : P.keyLits (d + 1) t [.string s] = some [.string s.data.toList] := by
  unfold Program.keyLits; simp [h, hs]
theorem own_key_pair (s t : ByteArray) (h1 : s.size ≤ maxLen) (h2 : t.size ≤ maxLen) : keyOf Tryd.prog 44 (.agg #[.string s, .string t]) = some (.string (keyBytes [.string s.data.toList, .string t.data.toList])) := by
  have e0 : Tryd.prog.keyType 44 = true := by kernel_rfl
  have c62 : Tryd.prog.cellsOf 44 = 2 := by kernel_rfl
  have c9 : Tryd.prog.cellsOf 9 = 1 := by kernel_rfl
  obtain ⟨m, hm⟩ : ∃ m, Tryd.prog.types.size = m + 1 := ⟨_, (by kernel_rfl : Tryd.prog.types.size = (Tryd.prog.types.size - 1) + 1)⟩
  unfold keyOf
  simp only [Tryd.underlying44]
  rw [if_pos (by simp [e0, Value.formed, Tryd.underlying44, c62]), hm]
  unfold Program.keyLits
  simp only [Tryd.underlying44, Value.cells]
  rw [if_pos (by rw [c62]; exact ⟨rfl, by simp⟩)]
  simp only [List.mapM_cons, List.mapM_nil]
  simp [keyLits_str Tryd.underlying9 h1, keyLits_str Tryd.underlying9 h2, c9]
theorem own_key {k : Own} (h1 : k.1.size ≤ 12) (h2 : k.2.size ≤ 12) : ∃ l, keyOf Tryd.prog 44 (encO k) = some l :=
  ⟨_, own_key_pair k.1 k.2 (by unfold maxLen; omega) (by unfold maxLen; omega)⟩

theorem info_int : (Tryd.prog.info? 3).map (fun i => (i.zero, i.size, i.bytes)) = some (some (.int .i64 0), 1, 8) := by kernel_rfl
theorem info_aged : (Tryd.prog.info? 37).map (fun i => (i.zero, i.size, i.bytes)) = some (some (.agg #[.string ⟨#[]⟩, .string ⟨#[]⟩, .slice none 0 0]), 3, 56) := by kernel_rfl
theorem made_zeros (n : Nat) : madeCells (Value.cells (.int .i64 0)) (n * 1) = ((List.replicate n (0 : Int)).map (Value.int .i64)).toArray := by
  apply Array.ext
  · simp [madeCells]
  · intro i h1 h2
    simp [madeCells, Value.cells, Nat.mod_one]
theorem run_make_ints (w : World) (n : Nat) (hn : n ≤ 11) : (Instr.makeSlice 22 (.int .i64 (n : Int)) (.int .i64 (n : Int))).run Tryd.prog w = .ok (.slice (some ⟨w.heap.size, 0, none⟩) n n) (w.alloc (.cells ((List.replicate n (0 : Int)).map (Value.int .i64)).toArray 3)) := by
  obtain ⟨i, hi, hz, hs, hb⟩ := info_parts info_int
  have h := run_make w 22 3 i _ Tryd.underlying22 hi hz .i64 .i64 n n (by omega) (Int.le_refl _) (by rw [hb]; omega) (by omega)
  simp only [Int.toNat_natCast, hs, made_zeros] at h
  exact h

theorem putS_putS (S : Own → Option (List Int)) (k : Own) (s s' : List Int) : putS (putS S k s) k s' = putS S k s' := by
  funext y; unfold putS; by_cases h : y = k <;> simp [h]
theorem below_setBlock {B b : Nat} {w W : World} {o : Obj} (h : Below B w W) (hb : B ≤ b) : Below B w (ChangeMaps.setBlock W b o) :=
  ⟨h.os, h.tape, h.output, by simpa [ChangeMaps.setBlock] using h.size, fun k hk => (show (ChangeMaps.setBlock W b o).heap[k]? = W.heap[k]? by simp [ChangeMaps.setBlock, show b ≠ k by omega]).trans (h.block k hk)⟩
theorem cell_blk {w W : World} {g o : Nat} (h : W.heap[g]? = w.heap[g]?) : W.cell? ⟨g, o, none⟩ = w.cell? ⟨g, o, none⟩ := by simp [World.cell?, h]
theorem flatO_snoc (G : Own → Nat) (n : Nat) (ks : List Own) (k : Own) : flatO G n (ks ++ [k]) = flatO G n ks ++ cellsO G n k := by simp [flatO]
/-- The owners: those that are done, those to come. -/
def Parted (S : Own → Option (List Int)) (m : Nat) (done todo : List Own) : Prop := (done ++ todo).Nodup ∧ (∀ k, k ∈ done ++ todo ↔ (S k).isSome = true) ∧ (done ++ todo).length ≤ m
theorem Parted.step {S : Own → Option (List Int)} {m : Nat} {done l1 l2 : List Own} {x : Own} (h : Parted S m done (l1 ++ x :: l2)) : Parted S m (done ++ [x]) (l1 ++ l2) := by
  have hp : ((done ++ [x]) ++ (l1 ++ l2)).Perm (done ++ (l1 ++ x :: l2)) := by
    rw [List.append_assoc]
    refine List.Perm.append_left done ?_
    show (x :: (l1 ++ l2)).Perm (l1 ++ x :: l2)
    exact List.perm_middle.symm
  exact ⟨hp.nodup_iff.2 h.1, fun k => (hp.mem_iff).trans (h.2.1 k), by rw [hp.length_eq]; exact h.2.2⟩
theorem below_grown {B : Nat} {a w W : World} {row : Option Nat} (h : Below B a w) (hg : w.grownBy W row) (hr : ∀ g, row = some g → B ≤ g) (hs : B ≤ w.heap.size) : Below B a W :=
  ⟨hg.os.trans h.os, hg.tape.trans h.tape, hg.output.trans h.output, Nat.le_trans h.size hg.size, fun k hk => (hg.block k (by omega) (fun e => by have := hr k e.symm; omega)).trans (h.block k hk)⟩
theorem own_some {w : World} {base : Nat} {e : TypeId} {size : Nat} {v : Value} {n : Nat} {xs : List Value} (h : w.ownsRow base e size v (n + 1) xs) : ∃ g c, v = .slice (some ⟨g, 0, none⟩) (n + 1) c := by
  rcases h.2 with ⟨_, h⟩ | ⟨g, cap, cur, h, _⟩
  · omega
  · exact ⟨g, cap, h⟩
theorem owners_few (day : Int) (lims : List Int) (l : List Left) : ∀ todo : List Own, todo.Nodup → (∀ k, k ∈ todo → (sumsOf l day lims k).isSome = true) → todo.length ≤ l.length := by
  suffices H : ∀ (l : List Left) (k : Own), (sumsOf l day lims k).isSome = true → k ∈ l.map Left.own by
    intro todo hn hs
    have hsub : ∀ k ∈ todo, k ∈ l.map Left.own := fun k hk => H l k (hs k hk)
    have := List.Nodup.length_le_of_subset hn hsub
    simpa using this
  intro l
  have gen : ∀ (l : List Left) (S : Own → Option (List Int)) (k : Own), (l.foldl (fun S x => stepS (lims.length + 1) (bucketN (wrap64 (day - x.f2)) lims) x.f3 x.own S) S k).isSome = true → (S k).isSome = true ∨ k ∈ l.map Left.own := by
    intro l
    induction l with
    | nil => intro S k h; exact Or.inl h
    | cons x l ih =>
      intro S k h
      rcases ih _ k h with h1 | h1
      · simp only [stepS, putS] at h1
        by_cases e : k = x.own
        · exact Or.inr (by simp [e])
        · rw [if_neg e] at h1; exact Or.inl h1
      · exact Or.inr (by simp at h1 ⊢; exact Or.inr h1)
  intro k h
  rcases gen l _ k h with h1 | h1
  · cases h1
  · exact h1
/-- Where the sum of an owner stands ready. -/
def Ready (w : World) (mb n : Nat) (k : Own) (S : Own → Option (List Int)) : Prop :=
  ∃ G S' s, SumsAt w mb mb n S' G ∧ S' k = some s ∧ ∀ b amt, putS S' k (addAt s b amt) = stepS n b amt k S

set_option maxRecDepth 100000 in
set_option maxHeartbeats 8000000 in
theorem go_aging_Of (A0 A2 : Option Addr) (c0 c2 : Nat) (l : List Left) (day : Int) (lims : List Int) (w : World) (hr0 : Kd.C k39 w A0 l.length l) (hr2 : Kd.C (Kd.int .i64) w A2 lims.length lims)
    (hck : ∀ W, Below w.heap.size w W → Calls Tryd.prog 16 #[.slice A0 l.length c0, .int .i64 day, .slice A2 lims.length c2] W fun e w' => e = .returned (.int .i64 0) ∧ Below W.heap.size W w')
    (hlen : l.length ≤ 10000) (hlim : lims.length ≤ 10) (hok : ∀ x ∈ l, x.f0.size ≤ 12 ∧ x.f1.size ≤ 12) :
    Calls Tryd.prog 12 #[.slice A0 l.length c0, .int .i64 day, .slice A2 lims.length c2] w fun e w' => ∃ v, e = .returned (.tuple #[v, .int .i64 0]) ∧ Kd.S k37 37 w' w.heap.size (fun _ => True) v (rowsOf l day lims) ∧ Below w.heap.size w w' := by
  have hC0 := fun (W : World) (hB : Below w.heap.size w W) => lefts_at (Kd.C_below hr0 hB)
  have hB2 := fun (W : World) (hB : Below w.heap.size w W) (age : Int) => go_Bucket age lims A2 c2 W (Kd.C_below hr2 hB)
  have HC0 := Lib.hid hC0; have HB2 := Lib.hid hB2; have HCK := Lib.hid hck; have HOK := Lib.hid hok
  clear hC0 hB2 hck hok hr0 hr2
  have hmm := @run_makeMap Tryd.prog
  go_enter Tryd.func12, Tryd.ntmps12
  go_wp2_with (first
    | (go_at_call 16; refine (HCK.out _ ((Below.refl _ _).alloc (Nat.le_refl _) _)).mono ?_; rintro e w1 ⟨rfl, hb1⟩))
  have hb1' : Below w.heap.size w w1 := ((Below.refl _ _).alloc (Nat.le_refl _) _).trans (hb1.mono (by simp))
  have hrow1 : w1.heap[w.heap.size]? = some (.cells #[.slice none 0 0] 28 (0, 0)) := by rw [hb1.block _ (by simp)]; exact (Go.MapKept.heap_alloc w _).1
  have hz1 := (Array.getElem?_eq_some_iff.1 hrow1).1
  go_loopg [25] l.length (fun g t wr => ∃ k : Nat, g = l.length - k ∧ k ≤ l.length ∧ t = .int .i64 k ∧ Below w.heap.size w wr ∧ wr.heap[w.heap.size]? = some (.cells #[.slice none 0 0] 28 (0, 0)) ∧ w1.heap.size < wr.heap.size ∧ Hid (∃ G, SumsAt wr w1.heap.size w1.heap.size (lims.length + 1) (sumsOf (l.take k) day lims) G))
  case atStart => exact ⟨0, rfl, Nat.zero_le _, rfl, hb1'.alloc hb1'.size _, by rw [(Below.refl _ w1).alloc (Nat.le_refl _) (.map #[] 0) |>.block _ hz1]; exact hrow1, by simp, Lib.hid ⟨_, SumsAt.made w1 _ _ (Nat.le_refl _)⟩⟩
  case round =>
    obtain ⟨k, rfl, hk, rfl, hbr, hrow, hzr, HS⟩ := hrel
    have hz := hbr.size
    by_cases hlt : k < l.length
    · obtain ⟨b, o, rfl, hbw, p0, p1, p2, p3⟩ := HC0.out wr hbr k hlt
      obtain ⟨x, hx⟩ : ∃ x, l[k] = x := ⟨_, rfl⟩
      rw [hx] at p0 p1 p2 p3
      have HT := Lib.hid (show sumsOf (l.take (k + 1)) day lims = stepS (lims.length + 1) (bucketN (wrap64 (day - x.f2)) lims) x.f3 x.own (sumsOf (l.take k) day lims) by rw [List.take_succ_eq_append_getElem hlt, hx, sumsOf_snoc])
      have hxm := HOK.out x (hx ▸ List.getElem_mem hlt)
      clear hx
      obtain ⟨G, hS⟩ := HS.out
      obtain ⟨S, hSe⟩ : ∃ S, sumsOf (l.take k) day lims = S := ⟨_, rfl⟩
      rw [hSe] at hS HT
      clear hSe HS
      obtain ⟨kl, hkl⟩ := own_key (k := x.own) hxm.1 hxm.2
      have hS2 := (hS.below ((Below.refl _ wr).alloc (Nat.le_refl _) (.cells #[.string x.f0, .string x.f1, .int .i64 x.f2, .int .i64 x.f3] 39))).below ((Below.refl _ _).alloc (Nat.le_refl _) (.cells #[.string x.f0, .string x.f1] 44))
      have hlook := hS2.1.lookup own_keyed encO_inj Tryd.underlying42 (z := .slice none 0 0) (by kernel_rfl) false x.own hkl
      have e1 : encO x.own = .agg #[.string x.f0, .string x.f1] := rfl
      rw [e1] at hlook
      simp only [Bool.false_eq_true, if_false] at hlook
      have hb2 : Below wr.heap.size wr ((wr.alloc (.cells #[.string x.f0, .string x.f1, .int .i64 x.f2, .int .i64 x.f3] 39)).alloc (.cells #[.string x.f0, .string x.f1] 44)) := ((Below.refl _ wr).alloc (Nat.le_refl _) _).alloc (by simp) _
      go_upto_region 9 with fail
      obtain ⟨wx, hwx⟩ : ∃ W, ((wr.alloc (.cells #[.string x.f0, .string x.f1, .int .i64 x.f2, .int .i64 x.f3] 39)).alloc (.cells #[.string x.f0, .string x.f1] 44)) = W := ⟨_, rfl⟩
      have HWX := Lib.hid hwx; clear hwx
      go_cut [37] (fun s37 wz => s37 = .bool (S x.own).isNone ∧ wz = wx)
      case first =>
        cases hSk : S x.own with
        | none =>
          rw [hSk] at hlook
          simp only [Option.map_none, Option.getD_none] at hlook
          have hnil := fun (W : World) => Lib.run_eql_slice_nil_nil W (t := 22) (e := 3) 0 0 Tryd.underlying22
          go_wp2
          go_meet
          exact ⟨by simp [hSk], HWX.out⟩
        | some s =>
          rw [hSk] at hlook
          simp only [Option.map_some, Option.getD_some] at hlook
          have hnil := Lib.run_eql_slice_nil ((wr.alloc (.cells #[.string x.f0, .string x.f1, .int .i64 x.f2, .int .i64 x.f3] 39)).alloc (.cells #[.string x.f0, .string x.f1] 44)) (t := 22) (e := 3) (some ⟨G x.own, 0, none⟩) (lims.length + 1) (lims.length + 1) 0 0 Tryd.underlying22
          go_wp2
          go_meet
          exact ⟨by simp [hSk], HWX.out⟩
      case rest =>
        obtain ⟨rfl, hz⟩ := hcut
        rw [hz]; clear hz
        have hwx := HWX.out; clear HWX
        have o0 : wx.cell? ⟨wr.heap.size + 1, 0, none⟩ = some (.string x.f0) := by rw [← hwx]; simp
        have o1 : wx.cell? ⟨wr.heap.size + 1, 1, none⟩ = some (.string x.f1) := by rw [← hwx]; simp
        have l2 : wx.cell? ⟨wr.heap.size, 2, none⟩ = some (.int .i64 x.f2) := by rw [← hwx, World.cell?_alloc_past _ _ _ (by simp)]; simp
        have l3 : wx.cell? ⟨wr.heap.size, 3, none⟩ = some (.int .i64 x.f3) := by rw [← hwx, World.cell?_alloc_past _ _ _ (by simp)]; simp
        have hzx : wr.heap.size + 2 = wx.heap.size := by rw [← hwx]; simp
        rw [hwx] at hS2 hlook hb2
        clear hwx p0 p1 p2 p3
        have HS2 := Lib.hid hS2; have HL := Lib.hid hlook; have HKL := Lib.hid hkl
        clear hlook hkl
        have hbx : Below w.heap.size w wx := hbr.trans (hb2.mono hz)
        have Hmid := Lib.hid (show ∀ W4 : World, Below w.heap.size w W4 → (∀ g, g < wx.heap.size → g ≠ w1.heap.size → W4.heap[g]? = wx.heap[g]?) → Ready W4 w1.heap.size (lims.length + 1) x.own S →
            Below w.heap.size w W4 ∧ W4.heap[w.heap.size]? = some (.cells #[.slice none 0 0] 28 (0, 0)) ∧ w1.heap.size < W4.heap.size ∧
            W4.cell? ⟨wr.heap.size + 1, 0, none⟩ = some (.string x.f0) ∧ W4.cell? ⟨wr.heap.size + 1, 1, none⟩ = some (.string x.f1) ∧ W4.cell? ⟨wr.heap.size, 2, none⟩ = some (.int .i64 x.f2) ∧ W4.cell? ⟨wr.heap.size, 3, none⟩ = some (.int .i64 x.f3) ∧ Hid (Ready W4 w1.heap.size (lims.length + 1) x.own S) from
          fun W4 hB hg hR => ⟨hB, by rw [hg _ (by omega) (by omega), hb2.block _ (by omega)]; exact hrow, by obtain ⟨_, _, _, h, _⟩ := hR; exact h.1.lt, by rw [cell_blk (hg _ (by omega) (by omega))]; exact o0, by rw [cell_blk (hg _ (by omega) (by omega))]; exact o1, by rw [cell_blk (hg _ (by omega) (by omega))]; exact l2, by rw [cell_blk (hg _ (by omega) (by omega))]; exact l3, Lib.hid hR⟩)
        go_upto_if 37 with fail
        go_cut [37] (fun s37 wy => Below w.heap.size w wy ∧ wy.heap[w.heap.size]? = some (.cells #[.slice none 0 0] 28 (0, 0)) ∧ w1.heap.size < wy.heap.size ∧
          wy.cell? ⟨wr.heap.size + 1, 0, none⟩ = some (.string x.f0) ∧ wy.cell? ⟨wr.heap.size + 1, 1, none⟩ = some (.string x.f1) ∧ wy.cell? ⟨wr.heap.size, 2, none⟩ = some (.int .i64 x.f2) ∧ wy.cell? ⟨wr.heap.size, 3, none⟩ = some (.int .i64 x.f3) ∧ Hid (Ready wy w1.heap.size (lims.length + 1) x.own S))
        case first =>
          cases hSk : S x.own with
          | some s =>
            have HR := Lib.hid (show Ready wx w1.heap.size (lims.length + 1) x.own S from ⟨_, _, s, HS2.out, hSk, fun b amt => by unfold stepS; rw [hSk]; rfl⟩)
            go_wp2
            go_meet
            exact Hmid.out _ hbx (fun _ _ _ => rfl) HR.out
          | none =>
            have hmk : ∀ W : World, (Instr.makeSlice 22 (.int .i64 (↑lims.length + 1)) (.int .i64 (↑lims.length + 1))).run Tryd.prog W = .ok (.slice (some ⟨W.heap.size, 0, none⟩) (lims.length + 1) (lims.length + 1)) (W.alloc (.cells ((List.replicate (lims.length + 1) (0 : Int)).map (Value.int .i64)).toArray 3)) := fun W => run_make_ints W (lims.length + 1) (by omega)
            obtain ⟨ob, hob, hS4⟩ := HS2.out.fresh (by omega) hSk HKL.out (W := (wx.alloc (.cells ((List.replicate (lims.length + 1) (0 : Int)).map (Value.int .i64)).toArray 3)).drew) ((Below.refl _ wx).alloc (Nat.le_refl _) _).drew (Go.MapKept.heap_alloc wx _).1
            have e1 : encO x.own = .agg #[.string x.f0, .string x.f1] := rfl
            rw [e1] at hob
            rw [show ((List.replicate (lims.length + 1) (0 : Int)).map (Value.int .i64)).toArray = Array.replicate (lims.length + 1) (Value.int .i64 0) by simp] at hob hS4
            have hoth : ∀ g, g < wx.heap.size → g ≠ w1.heap.size → (ChangeMaps.setBlock (wx.alloc (.cells (Array.replicate (lims.length + 1) (Value.int .i64 0)) 3)).drew w1.heap.size ob).heap[g]? = wx.heap[g]? := fun g h1 h2 => by
              rw [show (ChangeMaps.setBlock (wx.alloc (.cells (Array.replicate (lims.length + 1) (Value.int .i64 0)) 3)).drew w1.heap.size ob).heap[g]? = (wx.alloc (.cells (Array.replicate (lims.length + 1) (Value.int .i64 0)) 3)).heap[g]? by simp [ChangeMaps.setBlock, h2.symm]; rfl]
              exact (Below.refl _ wx).alloc (Nat.le_refl _) _ |>.block g h1
            have hs0 : (ChangeMaps.setBlock (wx.alloc (.cells (Array.replicate (lims.length + 1) (Value.int .i64 0)) 3)).drew w1.heap.size ob).cell? ⟨wr.heap.size + 1, 0, none⟩ = some (.string x.f0) := by rw [cell_blk (hoth _ (by omega) (by omega))]; exact o0
            have hs1 : (ChangeMaps.setBlock (wx.alloc (.cells (Array.replicate (lims.length + 1) (Value.int .i64 0)) 3)).drew w1.heap.size ob).cell? ⟨wr.heap.size + 1, 1, none⟩ = some (.string x.f1) := by rw [cell_blk (hoth _ (by omega) (by omega))]; exact o1
            have HOT := Lib.hid hoth; clear hoth
            have HS4 := Lib.hid hS4; clear hS4 e1
            have hwn : IntKind.i64.wrap ((lims.length : Int) + 1) = (lims.length : Int) + 1 := IntWalk.i64_in _ (by omega)
            go_wp2
            go_region_held3 (fun w' => w'.cell? ⟨wr.heap.size + 1, 0, none⟩ = some (.string x.f0) ∧ w'.cell? ⟨wr.heap.size + 1, 1, none⟩ = some (.string x.f1)) (first | (go_keep; done) | exact ⟨hs0, hs1⟩) (fail)
            go_wp2
            go_meet
            exact Hmid.out _ (below_setBlock ((hbx.alloc (by omega) _).drew) (by omega)) HOT.out ⟨_, _, _, HS4.out, putS_self _ _ _, fun b amt => by unfold stepS; rw [putS_putS, hSk]; rfl⟩
        case rest =>
          obtain ⟨hBy, hrowy, hzy, q0, q1, q2, q3, HRy⟩ := hcut
          obtain ⟨G', S', s', hSy0, hSs, hput⟩ := HRy.out
          have hSy : SumsAt wc.drew w1.heap.size w1.heap.size (lims.length + 1) S' G' := hSy0.blocks rfl (fun _ _ _ => rfl)
          clear hSy0
          rw [← World.cell?_drew] at q0 q1 q2 q3
          replace hBy : Below w.heap.size w wc.drew := hBy.drew
          replace hrowy : wc.drew.heap[w.heap.size]? = some (.cells #[.slice none 0 0] 28 (0, 0)) := hrowy
          replace hzy : w1.heap.size < wc.drew.heap.size := hzy
          obtain ⟨hsl, hsB, hsne, hsc⟩ := hSy.2.2.1 _ _ hSs
          have hlk := hSy.1.lookup own_keyed encO_inj Tryd.underlying42 (z := .slice none 0 0) (by kernel_rfl) false x.own HKL.out
          have e1 : encO x.own = .agg #[.string x.f0, .string x.f1] := rfl
          rw [e1, hSs] at hlk
          simp only [Bool.false_eq_true, if_false, Option.map_some, Option.getD_some] at hlk
          have hcall := HB2.out wc.drew hBy (wrap64 (day - x.f2))
          obtain ⟨bk, hbk⟩ : ∃ bk, bucketN (wrap64 (day - x.f2)) lims = bk := ⟨_, rfl⟩
          have hbl : bk ≤ lims.length := by rw [← hbk]; exact bucketN_le _ _
          obtain ⟨g, hg⟩ : ∃ g, G' x.own = g := ⟨_, rfl⟩
          rw [hbk] at HT hcall
          rw [hg] at hlk hsc hsB hsne
          have hadd := hSy.add hSs (b := bk) (by omega) x.f3
          rw [hput, ← HT.out, hg] at hadd
          obtain ⟨z, hz0⟩ : ∃ z, s'.getD bk 0 = z := ⟨_, rfl⟩
          have hcz : wc.drew.cell? ⟨g, bk, none⟩ = some (.int .i64 z) := by
            rw [← hz0]
            simp [World.cell?, hsc, hsl, List.getD_eq_getElem?_getD, show bk < lims.length + 1 by omega]
          rw [hz0] at hadd
          have HADD := Lib.hid hadd
          have hscd := Lib.hid hsc
          clear hadd hput hSy hSs hsc hbk hg e1
          go_upto_region 11 with fail
          go_still_tail 15, (by kernel_rfl)
          have hcall' : Calls Tryd.prog 10 #[.int .i64 (IntKind.i64.wrap (day - x.f2)), .slice A2 lims.length c2] wc.drew (fun e w'' => e = .returned (.int .i64 (bk : Int)) ∧ w'' = wc.drew) := by rw [IntWalk.i64_left]; exact hcall.mono (fun e w' h => ⟨h.1, h.2.symm⟩)
          have hbi : (bk : Int) < (lims.length : Int) + 1 := by omega
          have hwz : IntKind.i64.wrap (z + x.f3) = wrap64 (z + x.f3) := IntWalk.i64_left _
          still_call hcall'
          repeat still_step
          refine wpStill_nil ?_
          change wpList _ _ _ _ _ wc.drew
          have hff : wc.drew.frozen? ⟨g, bk, none⟩ = false := by simp [World.frozen?, hscd.out]
          obtain ⟨wd, hwd⟩ : ∃ wd, wc.drew = wd := ⟨_, rfl⟩
          rw [hwd] at hBy hrowy hzy q0 q1 q2 q3 hcz HADD hff ⊢
          clear hwd hlk hcall hcall' hscd
          go_wp2
          go_roundg (l.length - (k + 1))
          case measure => omega
          case rel => exact ⟨k + 1, rfl, by omega, by go_num, hBy.setCell (by simp; omega) _, by rw [Below.heap_setCell _ _ _ _ (by simp; omega)]; exact hrowy, by simp [World.setCell]; omega, Lib.hid ⟨G', HADD.out⟩⟩
    · have hkl : k = l.length := by omega
      subst hkl
      rename World => wR
      obtain ⟨G, hS⟩ := HS.out
      rw [List.take_length] at hS
      obtain ⟨S, hSe⟩ : ∃ S, sumsOf l day lims = S := ⟨_, rfl⟩
      rw [hSe] at hS
      have HSE := Lib.hid hSe; clear hSe HS
      obtain ⟨todo0, ito, hrun0, hR0, hnd0, hmem0⟩ := hS.1.start encO_inj Tryd.underlying42
      have hP0 : Parted S l.length [] todo0 := ⟨by simpa using hnd0, fun k => by rw [List.nil_append, hmem0]; cases S k <;> simp, by rw [List.nil_append]; exact owners_few day lims l todo0 hnd0 (fun k hk => by rw [HSE.out]; have := (hmem0 k).1 hk; simpa using this)⟩
      have HP0 := Lib.hid hP0; have HS := Lib.hid hS; have HR0 := Lib.hid hR0
      clear hP0 hS hR0 hnd0 hmem0
      obtain ⟨i0, hi0, hi1, hi2, hi3⟩ := info_parts info_aged
      go_wp2
      go_loopg [14] todo0.length (fun g t wq => ∃ (todo done : List Own) (v : Value), g = todo.length ∧ Below w.heap.size w wq ∧ wR.heap.size < wq.heap.size ∧ wq.heap[w.heap.size]? = some (.cells #[v] 28 (0, 0)) ∧
        Hid (RangeAt Tryd.prog 44 encO wq w1.heap.size wR.heap.size (fun k => (S k).map fun _ => .slice (some ⟨G k, 0, none⟩) (lims.length + 1) (lims.length + 1)) todo) ∧
        Hid (wq.ownsRow (wR.heap.size + 1) 37 3 v done.length (flatO G (lims.length + 1) done)) ∧ Hid (∀ k s, S k = some s → wq.heap[G k]? = wR.heap[G k]?) ∧ Hid (Parted S l.length done todo))
      case atStart => exact ⟨todo0, [], _, rfl, hbr.alloc hz _, by simp, by rw [(Below.refl _ wR).alloc (Nat.le_refl _) ito |>.block _ (by omega)]; exact hrow, HR0, Lib.hid (World.ownsRow_nil _ _ _ _), Lib.hid (fun k s hs => (Below.refl _ wR).alloc (Nat.le_refl _) ito |>.block _ (HS.out.lt hs)), HP0⟩
      case round =>
        clear hrun0
        obtain ⟨todo, done, v, rfl, hbq, hzq, hrowq, HR, HO, HG, HP⟩ := hrel
        rcases HR.out.next encO_inj 0 with ⟨rfl, hrun⟩ | ⟨l1, x, l2, vx, wn, rfl, hMx, hrun, hRn, hgr, hszn, hent⟩
        · obtain ⟨A9, n9, c9, rfl⟩ : ∃ A n c, v = .slice A n c := by
            rcases HO.out.2 with ⟨rfl, _⟩ | ⟨g, cap, cur, rfl, _⟩
            · exact ⟨_, _, _, rfl⟩
            · exact ⟨_, _, _, rfl⟩
          obtain ⟨hnd, hmem, hfew⟩ := HP.out
          rw [List.append_nil] at hnd hfew
          have c6 : wr.cell? ⟨w.heap.size, 0, none⟩ = some (.slice A9 n9 c9) := by simp [World.cell?, hrowq]
          have hsort := sorted_rows HO.out c6 (by omega) (by omega) hnd (by omega)
          have HND := Lib.hid hnd; have HMEM := Lib.hid hmem; have HFEW := Lib.hid hfew
          clear hnd hmem hfew
          go_wp2_with (go_at_call 17; refine hsort.mono ?_; rintro e w9 ⟨rfl, ks, hperm, hpw, hown9, hb9, hoth9⟩; have hrow9 := (hb9.block w.heap.size (by omega)).trans hrowq; have c69 : w9.cell? ⟨w.heap.size, 0, none⟩ = some (.slice A9 n9 c9) := (by simp [World.cell?, hrow9]); have f69 : w9.frozen? ⟨w.heap.size, 0, none⟩ = false := (by simp [World.frozen?, hrow9]); have HPERM := Lib.hid hperm; have HPW := Lib.hid hpw; have HOTH := Lib.hid hoth9; have HOWN9 := Lib.hid hown9; clear hperm hpw hoth9 hown9)
          have hrowF := blk_set hrow9 0 (.slice A9 n9 c9)
          have cF : (w9.setCell ⟨w.heap.size, 0, none⟩ (.slice A9 n9 c9)).cell? ⟨w.heap.size, 0, none⟩ = some (.slice A9 n9 c9) := by simp [World.cell?, hrowF]
          refine bodyPost_ret (v := .tuple #[.slice A9 n9 c9, .int .i64 0]) (by simp [results, Tryd.results12, go_sem, cF]) rfl ⟨_, rfl, ?_, ?_⟩
          · have hn : lims.length + 1 ≤ maxLen := by unfold maxLen; omega
            have hkm : ∀ k, k ∈ ks ↔ (S k).isSome = true := fun k => by
              rw [HPERM.out.mem_iff]
              have := HMEM.out k
              rwa [List.append_nil] at this
            have hrep := rep_of_keys HPW.out hkm
            have hrr := rowsOf_rep l day lims
            rw [HSE.out] at hrr
            rw [← hrep.unique hrr]
            refine rows_S (base := wR.heap.size + 1) (ownsRow_setCell_below HOWN9.out (by simp; omega) _) (by omega) hn (HPERM.out.nodup_iff.2 HND.out) (fun k hk => ?_) (fun k hk k' hk' he => ?_)
            · obtain ⟨s, hs⟩ := Option.isSome_iff_exists.1 ((hkm k).1 hk)
              obtain ⟨h1, h2, h3, h4⟩ := HS.out.2.2.1 k s hs
              have h5 := HS.out.lt hs
              refine ⟨s, hs, h1, by omega, by omega, ?_⟩
              rw [Below.heap_setCell _ _ _ _ (by simp; omega), hb9.block (G k) (by omega), HG.out k s hs]
              exact h4
            · obtain ⟨s, hs⟩ := Option.isSome_iff_exists.1 ((hkm k).1 hk)
              obtain ⟨s', hs'⟩ := Option.isSome_iff_exists.1 ((hkm k').1 hk')
              exact HS.out.2.2.2 k k' s s' hs hs' he
          · exact (hbq.trans (hb9.mono (by omega))).setCell (Nat.le_refl _) _
        · obtain ⟨s, hs⟩ : ∃ s, S x = some s := by
            cases h : S x with
            | none => rw [h] at hMx; cases hMx
            | some s => exact ⟨s, rfl⟩
          rw [hs] at hMx
          obtain rfl := Option.some.inj hMx
          rw [show encO x = .agg #[.string x.1, .string x.2] from rfl] at hrun hent
          have HRN := Lib.hid hRn; have HSZ := Lib.hid hszn; clear hRn hMx
          have hwz : w.heap.size < wn.heap.size := by omega
          have hwz2 : wR.heap.size < wn.heap.size := by omega
          have hrown : wn.heap[w.heap.size]? = some (.cells #[v] 28 (0, 0)) := by rw [hgr.block _ (by omega) (by simp; omega)]; exact hrowq
          have c6 : wn.cell? ⟨w.heap.size, 0, none⟩ = some v := by simp [World.cell?, hrown]
          have hown : wn.ownsRow (wR.heap.size + 1) 37 3 v done.length (flatO G (lims.length + 1) done) := HO.out.kept hgr (by rcases HO.out.2 with ⟨rfl, _⟩ | ⟨g, cap, cur, rfl, hg, _⟩ <;> simp [Value.ownBlock]; omega)
          have hdl : done.length + 1 ≤ 10000 := by have := HP.out.2.2; simp at this; omega
          clear hszn
          have HOLD := Lib.hid (show ∀ wp : World, ((wn.alloc (.cells #[.string x.1, .string x.2] 44)).alloc (.cells #[.string x.1, .string x.2, .slice (some ⟨G x, 0, none⟩) (lims.length + 1) (lims.length + 1)] 37)).grownBy wp v.ownBlock → ∀ g, g ≤ wR.heap.size → wp.heap[g]? = wn.heap[g]? from fun wp hg g hle => by
            have hgn : g < wn.heap.size := by have := HSZ.out; omega
            rw [hg.block g (by simp; omega) (fun e => by have := own_base HO.out _ e.symm; omega)]
            exact ((Below.refl _ wn).alloc (Nat.le_refl _) _).alloc (by simp) _ |>.block g hgn)
          go_wp2_with (at_builtin; (refine wpList_append_own _ rfl (.tmp 67) (.tmp 74) 28 rfl (wR.heap.size + 1) 37 i0 _ 3 56 Tryd.underlying28 hi0 hi1 hi2 hi3 rfl (by decide) _ done.length _ rfl ((hown.alloc _).alloc _) ⟨wn.heap.size + 1, 0, none⟩ 1 1 (cellsO G (lims.length + 1) x) rfl rfl ?c1 ?c2 ?c3 ?c4 ?c5 ?_; (case c1 => intro j u hu; rw [Addr.add_lit]; have hj : j < 3 := (List.getElem?_eq_some_iff.1 hu).1; match j, hj with | 0, _ => (simp [cellsO] at hu; subst hu; simp) | 1, _ => (simp [cellsO] at hu; subst hu; simp) | 2, _ => (simp [cellsO] at hu; subst hu; simp)); (case c2 => intro u hu; simp [cellsO] at hu; rcases hu with rfl | rfl | rfl <;> rfl); (case c3 => unfold maxLen; omega); (case c4 => omega); (case c5 => simp <;> omega); intro v1 wp hown1 hgrow1 hnil1; obtain ⟨g1, cap1, rfl⟩ := own_some hown1; have hold := HOLD.out wp hgrow1; have hrowp := (hold _ (by omega)).trans hrown; have hp6 : wp.cell? ⟨w.heap.size, 0, none⟩ = some v := (by simp [World.cell?, hrowp]); have hpf : wp.frozen? ⟨w.heap.size, 0, none⟩ = false := (by simp [World.frozen?, hrowp]); have HOLDP := Lib.hid hold; clear hold hnil1))
          go_roundg (l1 ++ l2).length
          case measure => simp
          case rel =>
            have hset : ∀ g, g ≤ wR.heap.size → g ≠ w.heap.size → (wp.setCell ⟨w.heap.size, 0, none⟩ (.slice (some ⟨g1, 0, none⟩) (done.length + 1) cap1)).heap[g]? = wn.heap[g]? := fun g h1 h2 => (Below.heap_setCell _ _ _ _ (by simpa using h2)).trans (HOLDP.out g h1)
            have hbn : Below w.heap.size w wn := below_grown hbq hgr (fun g e => by cases e; omega) (by omega)
            have hbp : Below w.heap.size w wp := below_grown ((hbn.alloc (by omega) _).alloc (by simp; omega) _) hgrow1 (fun g e => by have := own_base HO.out g e; omega) (by simp; omega)
            refine ⟨l1 ++ l2, done ++ [x], _, rfl, hbp.setCell (Nat.le_refl _) _, ?_, by rw [blk_set hrowp 0 _]; rfl, Lib.hid (HRN.out.of_blocks (hset _ (by omega) (by omega)) (hset _ (Nat.le_refl _) (by omega))), Lib.hid ?_, Lib.hid (fun k s hk => ?_), Lib.hid HP.out.step⟩
            · have := hgrow1.size
              simp [World.setCell] at this ⊢; omega
            · rw [flatO_snoc, List.length_append]
              exact ownsRow_setCell_below hown1 (by simp; omega) _
            · have h1 := HS.out.lt hk
              have h2 := (HS.out.2.2.1 k s hk).2.1
              rw [hset (G k) (by omega) (by omega), hgr.block (G k) (by omega) (by simp; omega)]
              exact HG.out k s hk

end Go.Proofs.YtohfnpkoheafkaaDoor.PAg
