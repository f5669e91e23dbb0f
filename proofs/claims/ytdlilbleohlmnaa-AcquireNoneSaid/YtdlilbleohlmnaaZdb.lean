/- The walk of the program and the plain laws behind the statements of this seat, part 2. -/
import Derived.Test.YtdlilbleohlmnaaZda
import Derived.Test.YtdlilbleohlmnaaProg
import Derived.Below
import Derived.Deep.Draws
import Derived.Deep.AppendLies
import Derived.Maps.AppendAt
import Derived.OwnWalk
import Derived.Laws.BytesArg
import Derived.Laws.MakeOwn
import Derived.Laws.OwnMore
import Derived.Deep.OwnRows
import Derived.Tactics
import Derived.Lib.ConvBytes
import Derived.Laws.Slices
import Derived.WalkKit
import Derived.KernelRfl
import Derived.RowKit3
import Derived.Deep.LoopGhost
import Derived.Deep.QuietTactic
import Derived.BigQuiet
import Derived.WideLaws
import Derived.Deep.DeepCutAuto
import Derived.Deep.CutBlock
import Derived.Deep.RegionHeld3
import Derived.Laws.Rows
import Derived.Lib.AppendStr
import Derived.ArgAppend
import Derived.Laws.IdiomCopy
import Derived.OrdersHeld
import Derived.Laws.BitsLemmas
import Derived.RowKit
import Derived.Shelf.SlSortCmp.QuietGrown
import Derived.Lib.Strings
import Derived.Lib.Bytealg
import Derived.Lib.Hide
import Derived.WalkMore
import Derived.WalkSpells
import Derived.WalkLawsBesides
import Derived.Laws.BitsAllLaws
import Derived.ChangeKeysEq
set_option linter.all false
namespace Go.Proofs.Ytdlilbleohlmnaa
theorem pkA {α : Type} (l : List α) (i : Nat) (a : α) : l.toArray.setIfInBounds i a = (l.set i a).toArray := by simp
theorem pkZ {α : Type} (a b : α) (l : List α) : (a :: l).set 0 b = b :: l := rfl
theorem pkS {α : Type} (a b : α) (l : List α) (n : Nat) : (a :: l).set (n + 1) b = a :: l.set n b := rfl
end Go.Proofs.Ytdlilbleohlmnaa
namespace Go.Proofs.Ytdlilbleohlmnaa.PAq
open Go.RowKit Go.Proofs.YtdlilbleohlmnaaW.PrintWords Go.Proofs.YtdlilbleohlmnaaW.PrintLast
set_option linter.unusedVariables false
set_option linter.unusedSimpArgs false
def errW : Option Int → Value
  | none => .nilIface
  | some c => .iface 0 (.int .i64 c)
theorem errW_none : errW none = .nilIface := rfl
theorem errW_some (c : Int) : errW (some c) = .iface 0 (.int .i64 c) := rfl
theorem info3 : (Try.prog.info? 3).map (fun i => (i.zero, i.size, i.bytes)) = some (some (.int .i64 0), 1, 8) := by kernel_rfl
theorem info52 : (Try.prog.info? 52).map (fun i => (i.zero, i.size, i.bytes)) = some (some (.agg #[(.string ⟨#[]⟩), (.string ⟨#[]⟩), (.string ⟨#[]⟩), (.string ⟨#[]⟩), (.string ⟨#[]⟩), (.int .i64 0), (.int .i64 0)]), 7, 96) := by kernel_rfl
structure S62 where
  f0 : ByteArray
  f1 : ByteArray
  f2 : Int
  f3 : Bool
  f4 : ByteArray
  f5 : Bool
  f6 : Bool
  f7 : (List ByteArray)
def z62 : S62 := ⟨(⟨#[]⟩ : ByteArray), (⟨#[]⟩ : ByteArray), (0 : Int), false, (⟨#[]⟩ : ByteArray), false, false, ([] : List ByteArray)⟩
def k62 : Kd S62 := Kd.iso (Kd.pair Kd.string (Kd.pair Kd.string (Kd.pair (Kd.int .i64) (Kd.pair Kd.bool (Kd.pair Kd.string (Kd.pair Kd.bool (Kd.pair Kd.bool (Kd.slice 9 Kd.string)))))))) (fun x : S62 => (x.f0, x.f1, x.f2, x.f3, x.f4, x.f5, x.f6, x.f7))
theorem k62_open {w : World} {x : S62} {cs : List Value} (h : k62.K w x cs) : ∃ A7 c7, cs = [.string x.f0, .string x.f1, .int .i64 x.f2, .bool x.f3, .string x.f4, .bool x.f5, .bool x.f6, .slice A7 x.f7.length c7] ∧ x.f7.length ≤ c7 ∧ Kd.string.C w A7 x.f7.length x.f7 := by
  obtain ⟨_, _, rfl, rfl, ⟨_, _, rfl, rfl, ⟨_, _, rfl, rfl, ⟨_, _, rfl, rfl, ⟨_, _, rfl, rfl, ⟨_, _, rfl, rfl, ⟨_, _, rfl, rfl, ⟨A7, c7, rfl, l7, g7⟩⟩⟩⟩⟩⟩⟩⟩ := h
  exact ⟨A7, c7, rfl, l7, g7⟩
theorem k62_mk (w : World) (x : S62) {A7 : Option Addr} {c7 : Nat} (l7 : x.f7.length ≤ c7) (g7 : Kd.string.C w A7 x.f7.length x.f7) : k62.K w x [.string x.f0, .string x.f1, .int .i64 x.f2, .bool x.f3, .string x.f4, .bool x.f5, .bool x.f6, .slice A7 x.f7.length c7] := ⟨[.string x.f0], [.string x.f1, .int .i64 x.f2, .bool x.f3, .string x.f4, .bool x.f5, .bool x.f6, .slice A7 x.f7.length c7], rfl, rfl, ⟨[.string x.f1], [.int .i64 x.f2, .bool x.f3, .string x.f4, .bool x.f5, .bool x.f6, .slice A7 x.f7.length c7], rfl, rfl, ⟨[.int .i64 x.f2], [.bool x.f3, .string x.f4, .bool x.f5, .bool x.f6, .slice A7 x.f7.length c7], rfl, rfl, ⟨[.bool x.f3], [.string x.f4, .bool x.f5, .bool x.f6, .slice A7 x.f7.length c7], rfl, rfl, ⟨[.string x.f4], [.bool x.f5, .bool x.f6, .slice A7 x.f7.length c7], rfl, rfl, ⟨[.bool x.f5], [.bool x.f6, .slice A7 x.f7.length c7], rfl, rfl, ⟨[.bool x.f6], [.slice A7 x.f7.length c7], rfl, rfl, ⟨A7, c7, rfl, l7, g7⟩⟩⟩⟩⟩⟩⟩⟩
def rd_T62 (xs : List S62) (i : Int) : S62 := xs.getD i.toNat z62
theorem at_T62 {w : World} {A : Option Addr} {n : Nat} {xs : List S62} (h : Kd.C k62 w A n xs) (i : Int) (h0 : 0 ≤ i) (h1 : i < n) : ∃ ad A7 c7, A = some ad ∧ w.cell? (ad.add (i.toNat * 8)) = some (.string (rd_T62 xs i).f0) ∧ w.cell? ⟨(ad.add (i.toNat * 8)).block, (ad.add (i.toNat * 8)).off + 1, none⟩ = some (.string (rd_T62 xs i).f1) ∧ w.cell? ⟨(ad.add (i.toNat * 8)).block, (ad.add (i.toNat * 8)).off + 2, none⟩ = some (.int .i64 (rd_T62 xs i).f2) ∧ w.cell? ⟨(ad.add (i.toNat * 8)).block, (ad.add (i.toNat * 8)).off + 3, none⟩ = some (.bool (rd_T62 xs i).f3) ∧ w.cell? ⟨(ad.add (i.toNat * 8)).block, (ad.add (i.toNat * 8)).off + 4, none⟩ = some (.string (rd_T62 xs i).f4) ∧ w.cell? ⟨(ad.add (i.toNat * 8)).block, (ad.add (i.toNat * 8)).off + 5, none⟩ = some (.bool (rd_T62 xs i).f5) ∧ w.cell? ⟨(ad.add (i.toNat * 8)).block, (ad.add (i.toNat * 8)).off + 6, none⟩ = some (.bool (rd_T62 xs i).f6) ∧ w.cell? ⟨(ad.add (i.toNat * 8)).block, (ad.add (i.toNat * 8)).off + 7, none⟩ = some (.slice A7 (rd_T62 xs i).f7.length c7) ∧ (rd_T62 xs i).f7.length ≤ c7 ∧ Kd.string.C w A7 (rd_T62 xs i).f7.length (rd_T62 xs i).f7 := by
  obtain ⟨ad, c, e, _, hK, hc0⟩ := Kd.C_get h z62 i h0 h1
  have hc : ∀ j u, c[j]? = some u → w.cell? (ad.add (i.toNat * 8 + j)) = some u := hc0
  obtain ⟨A7, c7, rfl, l7, g7⟩ := k62_open hK
  exact ⟨ad, A7, c7, e, hc 0 _ rfl, by rw [← add_field _ _ 1 (by omega)]; exact hc 1 _ rfl, by rw [← add_field _ _ 2 (by omega)]; exact hc 2 _ rfl, by rw [← add_field _ _ 3 (by omega)]; exact hc 3 _ rfl, by rw [← add_field _ _ 4 (by omega)]; exact hc 4 _ rfl, by rw [← add_field _ _ 5 (by omega)]; exact hc 5 _ rfl, by rw [← add_field _ _ 6 (by omega)]; exact hc 6 _ rfl, by rw [← add_field _ _ 7 (by omega)]; exact hc 7 _ rfl, l7, g7⟩
structure S50 where
  f0 : ByteArray
  f1 : ByteArray
  f2 : ByteArray
  f3 : ByteArray
  f4 : ByteArray
def z50 : S50 := ⟨(⟨#[]⟩ : ByteArray), (⟨#[]⟩ : ByteArray), (⟨#[]⟩ : ByteArray), (⟨#[]⟩ : ByteArray), (⟨#[]⟩ : ByteArray)⟩
def k50 : Kd S50 := Kd.iso (Kd.pair Kd.string (Kd.pair Kd.string (Kd.pair Kd.string (Kd.pair Kd.string Kd.string)))) (fun x : S50 => (x.f0, x.f1, x.f2, x.f3, x.f4))
theorem k50_open {w : World} {x : S50} {cs : List Value} (h : k50.K w x cs) : cs = [.string x.f0, .string x.f1, .string x.f2, .string x.f3, .string x.f4] := by
  obtain ⟨_, _, rfl, rfl, ⟨_, _, rfl, rfl, ⟨_, _, rfl, rfl, ⟨_, _, rfl, rfl, rfl⟩⟩⟩⟩ := h
  exact rfl
theorem k50_mk (w : World) (x : S50)  : k50.K w x [.string x.f0, .string x.f1, .string x.f2, .string x.f3, .string x.f4] := ⟨[.string x.f0], [.string x.f1, .string x.f2, .string x.f3, .string x.f4], rfl, rfl, ⟨[.string x.f1], [.string x.f2, .string x.f3, .string x.f4], rfl, rfl, ⟨[.string x.f2], [.string x.f3, .string x.f4], rfl, rfl, ⟨[.string x.f3], [.string x.f4], rfl, rfl, rfl⟩⟩⟩⟩
theorem k50_mkM (w : World) (base : Nat) (ok : Nat → Prop) (x : S50)  : k50.M w base ok x [.string x.f0, .string x.f1, .string x.f2, .string x.f3, .string x.f4] := ⟨[.string x.f0], [.string x.f1, .string x.f2, .string x.f3, .string x.f4], rfl, rfl, ⟨[.string x.f1], [.string x.f2, .string x.f3, .string x.f4], rfl, rfl, ⟨[.string x.f2], [.string x.f3, .string x.f4], rfl, rfl, ⟨[.string x.f3], [.string x.f4], rfl, rfl, rfl⟩⟩⟩⟩
structure S52 where
  f0 : S50
  f1 : Int
  f2 : Int
def z52 : S52 := ⟨z50, (0 : Int), (0 : Int)⟩
def k52 : Kd S52 := Kd.iso (Kd.pair k50 (Kd.pair (Kd.int .i64) (Kd.int .i64))) (fun x : S52 => (x.f0, x.f1, x.f2))
theorem k52_open {w : World} {x : S52} {cs : List Value} (h : k52.K w x cs) : cs = [.string x.f0.f0, .string x.f0.f1, .string x.f0.f2, .string x.f0.f3, .string x.f0.f4, .int .i64 x.f1, .int .i64 x.f2] := by
  obtain ⟨_, _, rfl, s0, ⟨_, _, rfl, rfl, rfl⟩⟩ := h
  obtain rfl := k50_open s0
  exact rfl
theorem k52_mk (w : World) (x : S52)  : k52.K w x [.string x.f0.f0, .string x.f0.f1, .string x.f0.f2, .string x.f0.f3, .string x.f0.f4, .int .i64 x.f1, .int .i64 x.f2] := ⟨[.string x.f0.f0, .string x.f0.f1, .string x.f0.f2, .string x.f0.f3, .string x.f0.f4], [.int .i64 x.f1, .int .i64 x.f2], rfl, (k50_mk w x.f0 ), ⟨[.int .i64 x.f1], [.int .i64 x.f2], rfl, rfl, rfl⟩⟩
theorem k52_mkM (w : World) (base : Nat) (ok : Nat → Prop) (x : S52)  : k52.M w base ok x [.string x.f0.f0, .string x.f0.f1, .string x.f0.f2, .string x.f0.f3, .string x.f0.f4, .int .i64 x.f1, .int .i64 x.f2] := ⟨[.string x.f0.f0, .string x.f0.f1, .string x.f0.f2, .string x.f0.f3, .string x.f0.f4], [.int .i64 x.f1, .int .i64 x.f2], rfl, (k50_mkM w base ok x.f0 ), ⟨[.int .i64 x.f1], [.int .i64 x.f2], rfl, rfl, rfl⟩⟩
def rd_T52 (xs : List S52) (i : Int) : S52 := xs.getD i.toNat z52
theorem at_T52 {w : World} {A : Option Addr} {n : Nat} {xs : List S52} (h : Kd.C k52 w A n xs) (i : Int) (h0 : 0 ≤ i) (h1 : i < n) : ∃ ad , A = some ad ∧ w.cell? (ad.add (i.toNat * 7)) = some (.string (rd_T52 xs i).f0.f0) ∧ w.cell? ⟨(ad.add (i.toNat * 7)).block, (ad.add (i.toNat * 7)).off + 1, none⟩ = some (.string (rd_T52 xs i).f0.f1) ∧ w.cell? ⟨(ad.add (i.toNat * 7)).block, (ad.add (i.toNat * 7)).off + 2, none⟩ = some (.string (rd_T52 xs i).f0.f2) ∧ w.cell? ⟨(ad.add (i.toNat * 7)).block, (ad.add (i.toNat * 7)).off + 3, none⟩ = some (.string (rd_T52 xs i).f0.f3) ∧ w.cell? ⟨(ad.add (i.toNat * 7)).block, (ad.add (i.toNat * 7)).off + 4, none⟩ = some (.string (rd_T52 xs i).f0.f4) ∧ w.cell? ⟨(ad.add (i.toNat * 7)).block, (ad.add (i.toNat * 7)).off + 5, none⟩ = some (.int .i64 (rd_T52 xs i).f1) ∧ w.cell? ⟨(ad.add (i.toNat * 7)).block, (ad.add (i.toNat * 7)).off + 6, none⟩ = some (.int .i64 (rd_T52 xs i).f2) := by
  obtain ⟨ad, c, e, _, hK, hc0⟩ := Kd.C_get h z52 i h0 h1
  have hc : ∀ j u, c[j]? = some u → w.cell? (ad.add (i.toNat * 7 + j)) = some u := hc0
  obtain rfl := k52_open hK
  exact ⟨ad, e, hc 0 _ rfl, by rw [← add_field _ _ 1 (by omega)]; exact hc 1 _ rfl, by rw [← add_field _ _ 2 (by omega)]; exact hc 2 _ rfl, by rw [← add_field _ _ 3 (by omega)]; exact hc 3 _ rfl, by rw [← add_field _ _ 4 (by omega)]; exact hc 4 _ rfl, by rw [← add_field _ _ 5 (by omega)]; exact hc 5 _ rfl, by rw [← add_field _ _ 6 (by omega)]; exact hc 6 _ rfl⟩
structure S114 where
  f0 : Bool
  f1 : Int
def z114 : S114 := ⟨false, (0 : Int)⟩
def k114 : Kd S114 := Kd.iso (Kd.pair Kd.bool (Kd.int .i64)) (fun x : S114 => (x.f0, x.f1))
theorem k114_open {w : World} {x : S114} {cs : List Value} (h : k114.K w x cs) : cs = [.bool x.f0, .int .i64 x.f1] := by
  obtain ⟨_, _, rfl, rfl, rfl⟩ := h
  exact rfl
theorem k114_mk (w : World) (x : S114)  : k114.K w x [.bool x.f0, .int .i64 x.f1] := ⟨[.bool x.f0], [.int .i64 x.f1], rfl, rfl, rfl⟩
def rd_T114 (xs : List S114) (i : Int) : S114 := xs.getD i.toNat z114
theorem at_T114 {w : World} {A : Option Addr} {n : Nat} {xs : List S114} (h : Kd.C k114 w A n xs) (i : Int) (h0 : 0 ≤ i) (h1 : i < n) : ∃ ad , A = some ad ∧ w.cell? (ad.add (i.toNat * 2)) = some (.bool (rd_T114 xs i).f0) ∧ w.cell? ⟨(ad.add (i.toNat * 2)).block, (ad.add (i.toNat * 2)).off + 1, none⟩ = some (.int .i64 (rd_T114 xs i).f1) := by
  obtain ⟨ad, c, e, _, hK, hc0⟩ := Kd.C_get h z114 i h0 h1
  have hc : ∀ j u, c[j]? = some u → w.cell? (ad.add (i.toNat * 2 + j)) = some u := hc0
  obtain rfl := k114_open hK
  exact ⟨ad, e, hc 0 _ rfl, by rw [← add_field _ _ 1 (by omega)]; exact hc 1 _ rfl⟩
end Go.Proofs.Ytdlilbleohlmnaa.PAq
namespace Go.Proofs.Ytdlilbleohlmnaa.PAq
open Go.RowKit Go.Lib Go.Sort Go.Proofs.YtdlilbleohlmnaaW.PrintWords Go.Proofs.YtdlilbleohlmnaaW.PrintLast
structure Grn (w w' : World) : Prop where
  b : Below w.heap.size w w'
  d : w.drawn ≤ w'.drawn
theorem Grn.refl (w : World) : Grn w w := ⟨Below.refl _ _, Nat.le_refl _⟩
theorem Grn.trans {a b c : World} (h : Grn a b) (k : Grn b c) : Grn a c := ⟨h.b.trans (k.b.mono h.b.size), Nat.le_trans h.d k.d⟩
theorem Grn.drew {a w : World} (h : Grn a w) : Grn a w.drew := ⟨h.b.drew, Nat.le_succ_of_le h.d⟩
theorem Grn.alloc {a w : World} (h : Grn a w) (o : Obj) : Grn a (w.alloc o) := ⟨h.b.alloc h.b.size o, h.d⟩
theorem Grn.set {a w : World} (h : Grn a w) {p : Addr} (hp : a.heap.size ≤ p.block) (u : Value) : Grn a (w.setCell p u) := ⟨h.b.setCell hp u, h.d⟩
theorem Grn.blk {w w' : World} (h : Grn w w') {z : Nat} {o : Obj} (hz : w.heap[z]? = some o) : w'.heap[z]? = some o := by
  have hl : z < w.heap.size := (Array.getElem?_eq_some_iff.mp hz).1
  rw [h.b.block z hl, hz]
theorem Grn.form {w w' : World} (h : Grn w w') : ∃ q os, w' = grow (w.drewN q) os := by
  obtain ⟨hb, hd⟩ := h
  refine ⟨w'.drawn - w.drawn, w'.heap.extract w.heap.size w'.heap.size, ?_⟩
  have hh : w.heap ++ w'.heap.extract w.heap.size w'.heap.size = w'.heap := by
    apply Array.ext_getElem?
    intro k
    by_cases c : k < w.heap.size
    · rw [Array.getElem?_append_left c, hb.block k c]
    · have hs := hb.size
      rw [Array.getElem?_append_right (by omega), Array.getElem?_extract]
      by_cases c2 : k < w'.heap.size
      · rw [if_pos (by omega), show w.heap.size + (k - w.heap.size) = k by omega]
      · rw [if_neg (by omega), Array.getElem?_eq_none (by omega)]
  have ho := hb.os
  have ht := hb.tape
  have hu := hb.output
  cases w'
  cases w
  simp only [grow, World.drewN] at *
  subst ho ht hu
  congr 1
  · exact hh.symm
  · omega
theorem Grn.of_form {w w' : World} (h : ∃ q os, w' = grow (w.drewN q) os) : Grn w w' := by
  obtain ⟨q, os, rfl⟩ := h
  refine ⟨⟨rfl, rfl, rfl, ?_, fun k hk => ?_⟩, ?_⟩
  · show w.heap.size ≤ (w.heap ++ os).size
    rw [Array.size_append]; omega
  · show (w.heap ++ os)[k]? = _
    exact Array.getElem?_append_left hk
  · show w.drawn ≤ w.drawn + q
    omega
set_option maxRecDepth 100000 in
theorem go_cmpString (a b : ByteArray) (w : World) :
    Calls Try.prog 89 #[.string a, .string b] w fun e w' => e = .returned (.int .i64 (Lib.compareBytes a.data.toList b.data.toList)) ∧ w' = w := by
  go_enter Try.func89, Try.ntmps89
  go_wp2
  rw [run_callFunc_extern Try.func95 (by kernel_rfl) (by kernel_rfl) (by kernel_rfl) (e := Extern.BytealgCompare.compare) (by kernel_rfl), Lib.run_compareString]
  simp only [Result.andThen]
  rw [Oper.upon_value]
  go_wp2
  go_ret
  exact ⟨rfl, rfl⟩
theorem go_compare (a b : ByteArray) (w : World) :
    Calls Try.prog 57 #[.string a, .string b] w fun e w' => e = .returned (.int .i64 (Lib.compareBytes a.data.toList b.data.toList)) ∧ w' = w := by
  go_enter Try.func57, Try.ntmps57
  go_wp2_with (go_at_call 89; refine (go_cmpString _ _ _).mono ?_; rintro e w' ⟨rfl, rfl⟩)
  go_ret
  exact ⟨rfl, rfl⟩
theorem go_parts (x : S50) (w : World) :
    Calls Try.prog 56 #[.agg #[.string x.f0, .string x.f1, .string x.f2, .string x.f3, .string x.f4]] w fun e w' => e = .returned (.agg #[.string x.f0, .string x.f1, .string x.f2, .string x.f3, .string x.f4]) ∧ Grn w w' := by
  go_enter Try.func56, Try.ntmps56
  go_wp2
  refine bodyPost_ret (v := .agg #[.string x.f0, .string x.f1, .string x.f2, .string x.f3, .string x.f4]) (by simp [results, Try.results56, go_sem]) rfl ⟨rfl, ?_⟩
  exact ((Grn.refl w).alloc _).alloc _
def cmpL : List ByteArray → List ByteArray → Int
  | a :: l, b :: m => if Lib.compareBytes a.data.toList b.data.toList = 0 then cmpL l m else Lib.compareBytes a.data.toList b.data.toList
  | _, _ => 0
def keyL (x : S50) : List ByteArray := [x.f0, x.f1, x.f2, x.f3, x.f4]
def keyCmp (x y : S50) : Int := cmpL (keyL x) (keyL y)
set_option maxHeartbeats 8000000 in
set_option maxRecDepth 100000 in
theorem go_keyCmp (x y : S50) (w : World) :
    Calls Try.prog 35 #[.agg #[.string x.f0, .string x.f1, .string x.f2, .string x.f3, .string x.f4], .agg #[.string y.f0, .string y.f1, .string y.f2, .string y.f3, .string y.f4]] w fun e w' => e = .returned (.int .i64 (keyCmp x y)) ∧ Grn w w' := by
  go_enter Try.func35, Try.ntmps35
  go_upto_region 1 with fail
  have gr0 : Grn w ((w.alloc (.cells #[.string x.f0, .string x.f1, .string x.f2, .string x.f3, .string x.f4] 50)).alloc (.cells #[.string y.f0, .string y.f1, .string y.f2, .string y.f3, .string y.f4] 50)) := ((Grn.refl w).alloc _).alloc _
  have hx1 := (Go.MapKept.heap_alloc w (.cells #[.string x.f0, .string x.f1, .string x.f2, .string x.f3, .string x.f4] 50)).1
  have hy1 := (Go.MapKept.heap_alloc (w.alloc (.cells #[.string x.f0, .string x.f1, .string x.f2, .string x.f3, .string x.f4] 50)) (.cells #[.string y.f0, .string y.f1, .string y.f2, .string y.f3, .string y.f4] 50)).1
  have hx2 := ((Grn.refl (w.alloc (.cells #[.string x.f0, .string x.f1, .string x.f2, .string x.f3, .string x.f4] 50))).alloc (.cells #[.string y.f0, .string y.f1, .string y.f2, .string y.f3, .string y.f4] 50)).blk hx1
  rw [World.size_alloc] at hy1
  obtain ⟨w1, hw1⟩ : ∃ W, (w.alloc (.cells #[.string x.f0, .string x.f1, .string x.f2, .string x.f3, .string x.f4] 50)).alloc (.cells #[.string y.f0, .string y.f1, .string y.f2, .string y.f3, .string y.f4] 50) = W := ⟨_, rfl⟩
  obtain ⟨z2, hz2⟩ : ∃ z, w.heap.size = z := ⟨_, rfl⟩
  obtain ⟨z3, hz3⟩ : ∃ z, w.heap.size + 1 = z := ⟨_, rfl⟩
  rw [hw1] at gr0 hx2 hy1 ⊢
  rw [hz3] at hy1 ⊢
  rw [hz2] at hx2 ⊢
  have HS := Lib.hid (show ∀ w' : World, Grn w1 w' → w'.cell? ⟨z2, 0, none⟩ = some (.string x.f0) ∧ w'.cell? ⟨z2, 1, none⟩ = some (.string x.f1) ∧ w'.cell? ⟨z2, 2, none⟩ = some (.string x.f2) ∧ w'.cell? ⟨z2, 3, none⟩ = some (.string x.f3) ∧ w'.cell? ⟨z2, 4, none⟩ = some (.string x.f4) ∧ w'.cell? ⟨z3, 0, none⟩ = some (.string y.f0) ∧ w'.cell? ⟨z3, 1, none⟩ = some (.string y.f1) ∧ w'.cell? ⟨z3, 2, none⟩ = some (.string y.f2) ∧ w'.cell? ⟨z3, 3, none⟩ = some (.string y.f3) ∧ w'.cell? ⟨z3, 4, none⟩ = some (.string y.f4) from fun w' gr => ⟨blk_cell (gr.blk hx2) 0, blk_cell (gr.blk hx2) 1, blk_cell (gr.blk hx2) 2, blk_cell (gr.blk hx2) 3, blk_cell (gr.blk hx2) 4, blk_cell (gr.blk hy1) 0, blk_cell (gr.blk hy1) 1, blk_cell (gr.blk hy1) 2, blk_cell (gr.blk hy1) 3, blk_cell (gr.blk hy1) 4⟩)
  have gr_ : Grn w1 w1.drew := (Grn.refl w1).drew
  clear hx1 hw1 hz2 hz3
  refine start_ (n := 8) (S := fun w' => w'.cell? ⟨z2, 0, none⟩ = some (.string x.f0) ∧ w'.cell? ⟨z2, 1, none⟩ = some (.string x.f1) ∧ w'.cell? ⟨z2, 2, none⟩ = some (.string x.f2) ∧ w'.cell? ⟨z2, 3, none⟩ = some (.string x.f3) ∧ w'.cell? ⟨z2, 4, none⟩ = some (.string x.f4) ∧ w'.cell? ⟨z3, 0, none⟩ = some (.string y.f0) ∧ w'.cell? ⟨z3, 1, none⟩ = some (.string y.f1) ∧ w'.cell? ⟨z3, 2, none⟩ = some (.string y.f2) ∧ w'.cell? ⟨z3, 3, none⟩ = some (.string y.f3) ∧ w'.cell? ⟨z3, 4, none⟩ = some (.string y.f4)) (ds := [6, 7]) #[false, false, false, false, false, false, false, false] (by kernel_rfl) rfl rfl ⟨(HS.out _ gr_).1, (HS.out _ gr_).2.1, (HS.out _ gr_).2.2.1, (HS.out _ gr_).2.2.2.1, (HS.out _ gr_).2.2.2.2.1, (HS.out _ gr_).2.2.2.2.2.1, (HS.out _ gr_).2.2.2.2.2.2.1, (HS.out _ gr_).2.2.2.2.2.2.2.1, (HS.out _ gr_).2.2.2.2.2.2.2.2.1, (HS.out _ gr_).2.2.2.2.2.2.2.2.2⟩ (fun hHeld => ?_)
  refine take_ (i := 0) (N := some 9) (v := ?_) (a' := ?_) #[true, false, false, false, false, false, false, false] rfl rfl (by kernel_rfl) (fun _ _ _ h => h) (Or.inl ⟨by rfl, ?_⟩) hHeld ?_ ?_
  rotate_left
  · rintro w' ⟨s0, s1, s2, s3, s4, s5, s6, s7, s8, s9⟩
    go_simp
    with_reducible rfl
  rotate_left
  · simp only [Act.put, pkA, pkZ, pkS, i64_w, i32_w]
    rfl
  refine take_ (i := 2) (N := some 11) (v := ?_) (a' := ?_) #[true, false, true, false, false, false, false, false] rfl rfl (by kernel_rfl) (fun _ _ _ h => h) (Or.inl ⟨by rfl, ?_⟩) hHeld ?_ ?_
  rotate_left
  · rintro w' ⟨s0, s1, s2, s3, s4, s5, s6, s7, s8, s9⟩
    go_simp
    with_reducible rfl
  rotate_left
  · simp only [Act.put, pkA, pkZ, pkS, i64_w, i32_w]
    rfl
  refine join_ (σ := Nat × Nat) 2 #[true, true, true, true, true, true, false, false] (fun q => [(10, .agg #[.string x.f0, .string x.f1, .string x.f2, .string x.f3, .string x.f4]), (12, .agg #[.string y.f0, .string y.f1, .string y.f2, .string y.f3, .string y.f4]), (5, .pointer (some ⟨q.1, 0, none⟩)), (6, .pointer (some ⟨q.2, 0, none⟩))]) (fun q w' => Grn w1 w' ∧ w'.heap[q.1]? = some (.cells #[.string ⟨#[]⟩, .string ⟨#[]⟩, .string ⟨#[]⟩, .string ⟨#[]⟩, .string ⟨#[]⟩] 96 (0, 0)) ∧ w'.heap[q.2]? = some (.cells #[.string ⟨#[]⟩, .string ⟨#[]⟩, .string ⟨#[]⟩, .string ⟨#[]⟩, .string ⟨#[]⟩] 96 (0, 0)) ∧ q.1 ≠ q.2 ∧ w1.heap.size ≤ q.1 ∧ w1.heap.size ≤ q.2) ?_ ?_
  rotate_left
  · intro hCont
    refine three_ (i := 1) (j := 4) (k := 5) (Ni := some 10) (Nj := some 5) (Nk := some 6) #[true, true, true, false, false, false, false, false] #[true, false, true, false, true, false, false, false] #[true, false, true, false, false, true, false, false] rfl rfl rfl rfl rfl rfl (by kernel_rfl) (by decide) (by decide) (by decide) (fun K hK => ?_) (fun K hK => ?_) (fun K hK => ?_)
    · skip
      refine goes_ Try.func56 (by kernel_rfl) rfl #[.agg #[.string x.f0, .string x.f1, .string x.f2, .string x.f3, .string x.f4]] (by rfl) rfl rfl (by simp only [List.map_toArray, List.map_cons, List.map_nil]; rfl) ?_
      refine (go_parts x _).mono ?_
      rintro e wv1 ⟨rfl, gs1_⟩
      refine ⟨_, rfl, ?_⟩
      have gr_1_ := gr_.trans gs1_
      refine hK.out _ _ ⟨(HS.out _ gr_1_).1, (HS.out _ gr_1_).2.1, (HS.out _ gr_1_).2.2.1, (HS.out _ gr_1_).2.2.2.1, (HS.out _ gr_1_).2.2.2.2.1, (HS.out _ gr_1_).2.2.2.2.2.1, (HS.out _ gr_1_).2.2.2.2.2.2.1, (HS.out _ gr_1_).2.2.2.2.2.2.2.1, (HS.out _ gr_1_).2.2.2.2.2.2.2.2.1, (HS.out _ gr_1_).2.2.2.2.2.2.2.2.2⟩ (fun hHeld => ?_)
      clear hK K
      refine norm_ (a' := ?_) ?_ ?_
      rotate_left
      · show Act.put _ (some 10) _ = _
        simp only [Act.put, pkA, pkZ, pkS, i64_w, i32_w]
        rfl
      refine three_ (i := 3) (j := 4) (k := 5) (Ni := some 12) (Nj := some 5) (Nk := some 6) #[true, true, true, true, false, false, false, false] #[true, true, true, false, true, false, false, false] #[true, true, true, false, false, true, false, false] rfl rfl rfl rfl rfl rfl (by kernel_rfl) (by decide) (by decide) (by decide) (fun K hK => ?_) (fun K hK => ?_) (fun K hK => ?_)
      · skip
        refine goes_ Try.func56 (by kernel_rfl) rfl #[.agg #[.string y.f0, .string y.f1, .string y.f2, .string y.f3, .string y.f4]] (by rfl) rfl rfl (by simp only [List.map_toArray, List.map_cons, List.map_nil]; rfl) ?_
        refine (go_parts y _).mono ?_
        rintro e wv3 ⟨rfl, gs3_⟩
        refine ⟨_, rfl, ?_⟩
        have gr_1_3_ := gr_1_.trans gs3_
        refine hK.out _ _ ⟨(HS.out _ gr_1_3_).1, (HS.out _ gr_1_3_).2.1, (HS.out _ gr_1_3_).2.2.1, (HS.out _ gr_1_3_).2.2.2.1, (HS.out _ gr_1_3_).2.2.2.2.1, (HS.out _ gr_1_3_).2.2.2.2.2.1, (HS.out _ gr_1_3_).2.2.2.2.2.2.1, (HS.out _ gr_1_3_).2.2.2.2.2.2.2.1, (HS.out _ gr_1_3_).2.2.2.2.2.2.2.2.1, (HS.out _ gr_1_3_).2.2.2.2.2.2.2.2.2⟩ (fun hHeld => ?_)
        clear hK K
        refine norm_ (a' := ?_) ?_ ?_
        rotate_left
        · show Act.put _ (some 12) _ = _
          simp only [Act.put, pkA, pkZ, pkS, i64_w, i32_w]
          rfl
        refine two_ (i := 4) (j := 5) (Ni := some 5) (Nj := some 6) #[true, true, true, true, true, false, false, false] #[true, true, true, true, false, true, false, false] rfl rfl rfl rfl (by kernel_rfl) (by decide) (by decide) (fun K hK => ?_) (fun K hK => ?_)
        · skip
          refine value_ (w1 := ?_) (v := ?_) (by rfl) rfl ?_ ?_
          rotate_left 2
          · go_simp
            constructor
            · rfl
            · rfl
          have gs4_ : Grn (wv3) ((wv3).alloc (.cells #[.string ⟨#[]⟩, .string ⟨#[]⟩, .string ⟨#[]⟩, .string ⟨#[]⟩, .string ⟨#[]⟩] 96)) := (Grn.refl _).alloc _
          have gr_1_3_4_ := gr_1_3_.trans gs4_
          have h4_1_3_4_ := (Go.MapKept.heap_alloc (wv3) (.cells #[.string ⟨#[]⟩, .string ⟨#[]⟩, .string ⟨#[]⟩, .string ⟨#[]⟩, .string ⟨#[]⟩] 96)).1
          have l4_1_3_ := gr_1_3_.b.size
          obtain ⟨z4, hz4⟩ : ∃ z, (wv3).heap.size = z := ⟨_, rfl⟩
          rw [hz4] at h4_1_3_4_ l4_1_3_ ⊢
          obtain ⟨wv4, hwv4⟩ : ∃ W, (wv3).alloc (.cells #[.string ⟨#[]⟩, .string ⟨#[]⟩, .string ⟨#[]⟩, .string ⟨#[]⟩, .string ⟨#[]⟩] 96) = W := ⟨_, rfl⟩
          rw [hwv4] at gr_1_3_4_ h4_1_3_4_ ⊢
          clear hwv4 hz4 gs4_
          refine hK.out _ _ ⟨(HS.out _ gr_1_3_4_).1, (HS.out _ gr_1_3_4_).2.1, (HS.out _ gr_1_3_4_).2.2.1, (HS.out _ gr_1_3_4_).2.2.2.1, (HS.out _ gr_1_3_4_).2.2.2.2.1, (HS.out _ gr_1_3_4_).2.2.2.2.2.1, (HS.out _ gr_1_3_4_).2.2.2.2.2.2.1, (HS.out _ gr_1_3_4_).2.2.2.2.2.2.2.1, (HS.out _ gr_1_3_4_).2.2.2.2.2.2.2.2.1, (HS.out _ gr_1_3_4_).2.2.2.2.2.2.2.2.2⟩ (fun hHeld => ?_)
          clear hK K
          refine norm_ (a' := ?_) ?_ ?_
          rotate_left
          · show Act.put _ (some 5) _ = _
            simp only [Act.put, pkA, pkZ, pkS, i64_w, i32_w]
            rfl
          refine one_ (i := 5) (N := some 6) #[true, true, true, true, true, true, false, false] rfl rfl (by kernel_rfl) (by decide) (fun K hK => ?_)
          refine value_ (w1 := ?_) (v := ?_) (by rfl) rfl ?_ ?_
          rotate_left 2
          · go_simp
            constructor
            · rfl
            · rfl
          have gs5_ : Grn (wv4) ((wv4).alloc (.cells #[.string ⟨#[]⟩, .string ⟨#[]⟩, .string ⟨#[]⟩, .string ⟨#[]⟩, .string ⟨#[]⟩] 96)) := (Grn.refl _).alloc _
          have gr_1_3_4_5_ := gr_1_3_4_.trans gs5_
          have h5_1_3_4_5_ := (Go.MapKept.heap_alloc (wv4) (.cells #[.string ⟨#[]⟩, .string ⟨#[]⟩, .string ⟨#[]⟩, .string ⟨#[]⟩, .string ⟨#[]⟩] 96)).1
          have l5_1_3_4_ := gr_1_3_4_.b.size
          have h4_1_3_4_5_ := gs5_.blk h4_1_3_4_
          obtain ⟨z5, hz5⟩ : ∃ z, (wv4).heap.size = z := ⟨_, rfl⟩
          rw [hz5] at h5_1_3_4_5_ l5_1_3_4_ ⊢
          have ne_ : z4 ≠ z5 := by have := (Array.getElem?_eq_some_iff.mp h4_1_3_4_).1; omega
          obtain ⟨wv5, hwv5⟩ : ∃ W, (wv4).alloc (.cells #[.string ⟨#[]⟩, .string ⟨#[]⟩, .string ⟨#[]⟩, .string ⟨#[]⟩, .string ⟨#[]⟩] 96) = W := ⟨_, rfl⟩
          rw [hwv5] at gr_1_3_4_5_ h5_1_3_4_5_ h4_1_3_4_5_ ⊢
          clear hwv5 hz5 gs5_
          refine hK.out _ _ ⟨(HS.out _ gr_1_3_4_5_).1, (HS.out _ gr_1_3_4_5_).2.1, (HS.out _ gr_1_3_4_5_).2.2.1, (HS.out _ gr_1_3_4_5_).2.2.2.1, (HS.out _ gr_1_3_4_5_).2.2.2.2.1, (HS.out _ gr_1_3_4_5_).2.2.2.2.2.1, (HS.out _ gr_1_3_4_5_).2.2.2.2.2.2.1, (HS.out _ gr_1_3_4_5_).2.2.2.2.2.2.2.1, (HS.out _ gr_1_3_4_5_).2.2.2.2.2.2.2.2.1, (HS.out _ gr_1_3_4_5_).2.2.2.2.2.2.2.2.2⟩ (fun hHeld => ?_)
          clear hK K
          refine norm_ (a' := ?_) ?_ ?_
          rotate_left
          · show Act.put _ (some 6) _ = _
            simp only [Act.put, pkA, pkZ, pkS, i64_w, i32_w]
            rfl
          exact norm_ (by simp only [putAll, Act.put, pkA, pkZ, pkS]) (hCont (z4, z5) _ ⟨gr_1_3_4_5_, h4_1_3_4_5_, h5_1_3_4_5_, ne_, l4_1_3_, l5_1_3_4_⟩)
        · skip
          refine value_ (w1 := ?_) (v := ?_) (by rfl) rfl ?_ ?_
          rotate_left 2
          · go_simp
            constructor
            · rfl
            · rfl
          have gs5_ : Grn (wv3) ((wv3).alloc (.cells #[.string ⟨#[]⟩, .string ⟨#[]⟩, .string ⟨#[]⟩, .string ⟨#[]⟩, .string ⟨#[]⟩] 96)) := (Grn.refl _).alloc _
          have gr_1_3_5_ := gr_1_3_.trans gs5_
          have h5_1_3_5_ := (Go.MapKept.heap_alloc (wv3) (.cells #[.string ⟨#[]⟩, .string ⟨#[]⟩, .string ⟨#[]⟩, .string ⟨#[]⟩, .string ⟨#[]⟩] 96)).1
          have l5_1_3_ := gr_1_3_.b.size
          obtain ⟨z5, hz5⟩ : ∃ z, (wv3).heap.size = z := ⟨_, rfl⟩
          rw [hz5] at h5_1_3_5_ l5_1_3_ ⊢
          obtain ⟨wv5, hwv5⟩ : ∃ W, (wv3).alloc (.cells #[.string ⟨#[]⟩, .string ⟨#[]⟩, .string ⟨#[]⟩, .string ⟨#[]⟩, .string ⟨#[]⟩] 96) = W := ⟨_, rfl⟩
          rw [hwv5] at gr_1_3_5_ h5_1_3_5_ ⊢
          clear hwv5 hz5 gs5_
          refine hK.out _ _ ⟨(HS.out _ gr_1_3_5_).1, (HS.out _ gr_1_3_5_).2.1, (HS.out _ gr_1_3_5_).2.2.1, (HS.out _ gr_1_3_5_).2.2.2.1, (HS.out _ gr_1_3_5_).2.2.2.2.1, (HS.out _ gr_1_3_5_).2.2.2.2.2.1, (HS.out _ gr_1_3_5_).2.2.2.2.2.2.1, (HS.out _ gr_1_3_5_).2.2.2.2.2.2.2.1, (HS.out _ gr_1_3_5_).2.2.2.2.2.2.2.2.1, (HS.out _ gr_1_3_5_).2.2.2.2.2.2.2.2.2⟩ (fun hHeld => ?_)
          clear hK K
          refine norm_ (a' := ?_) ?_ ?_
          rotate_left
          · show Act.put _ (some 6) _ = _
            simp only [Act.put, pkA, pkZ, pkS, i64_w, i32_w]
            rfl
          refine one_ (i := 4) (N := some 5) #[true, true, true, true, true, true, false, false] rfl rfl (by kernel_rfl) (by decide) (fun K hK => ?_)
          refine value_ (w1 := ?_) (v := ?_) (by rfl) rfl ?_ ?_
          rotate_left 2
          · go_simp
            constructor
            · rfl
            · rfl
          have gs4_ : Grn (wv5) ((wv5).alloc (.cells #[.string ⟨#[]⟩, .string ⟨#[]⟩, .string ⟨#[]⟩, .string ⟨#[]⟩, .string ⟨#[]⟩] 96)) := (Grn.refl _).alloc _
          have gr_1_3_5_4_ := gr_1_3_5_.trans gs4_
          have h4_1_3_5_4_ := (Go.MapKept.heap_alloc (wv5) (.cells #[.string ⟨#[]⟩, .string ⟨#[]⟩, .string ⟨#[]⟩, .string ⟨#[]⟩, .string ⟨#[]⟩] 96)).1
          have l4_1_3_5_ := gr_1_3_5_.b.size
          have h5_1_3_5_4_ := gs4_.blk h5_1_3_5_
          obtain ⟨z4, hz4⟩ : ∃ z, (wv5).heap.size = z := ⟨_, rfl⟩
          rw [hz4] at h4_1_3_5_4_ l4_1_3_5_ ⊢
          have ne_ : z5 ≠ z4 := by have := (Array.getElem?_eq_some_iff.mp h5_1_3_5_).1; omega
          obtain ⟨wv4, hwv4⟩ : ∃ W, (wv5).alloc (.cells #[.string ⟨#[]⟩, .string ⟨#[]⟩, .string ⟨#[]⟩, .string ⟨#[]⟩, .string ⟨#[]⟩] 96) = W := ⟨_, rfl⟩
          rw [hwv4] at gr_1_3_5_4_ h4_1_3_5_4_ h5_1_3_5_4_ ⊢
          clear hwv4 hz4 gs4_
          refine hK.out _ _ ⟨(HS.out _ gr_1_3_5_4_).1, (HS.out _ gr_1_3_5_4_).2.1, (HS.out _ gr_1_3_5_4_).2.2.1, (HS.out _ gr_1_3_5_4_).2.2.2.1, (HS.out _ gr_1_3_5_4_).2.2.2.2.1, (HS.out _ gr_1_3_5_4_).2.2.2.2.2.1, (HS.out _ gr_1_3_5_4_).2.2.2.2.2.2.1, (HS.out _ gr_1_3_5_4_).2.2.2.2.2.2.2.1, (HS.out _ gr_1_3_5_4_).2.2.2.2.2.2.2.2.1, (HS.out _ gr_1_3_5_4_).2.2.2.2.2.2.2.2.2⟩ (fun hHeld => ?_)
          clear hK K
          refine norm_ (a' := ?_) ?_ ?_
          rotate_left
          · show Act.put _ (some 5) _ = _
            simp only [Act.put, pkA, pkZ, pkS, i64_w, i32_w]
            rfl
          exact norm_ (by simp only [putAll, Act.put, pkA, pkZ, pkS]) (hCont (z4, z5) _ ⟨gr_1_3_5_4_, h4_1_3_5_4_, h5_1_3_5_4_, ne_.symm, l4_1_3_5_, l5_1_3_⟩)
      · skip
        refine value_ (w1 := ?_) (v := ?_) (by rfl) rfl ?_ ?_
        rotate_left 2
        · go_simp
          constructor
          · rfl
          · rfl
        have gs4_ : Grn (wv1) ((wv1).alloc (.cells #[.string ⟨#[]⟩, .string ⟨#[]⟩, .string ⟨#[]⟩, .string ⟨#[]⟩, .string ⟨#[]⟩] 96)) := (Grn.refl _).alloc _
        have gr_1_4_ := gr_1_.trans gs4_
        have h4_1_4_ := (Go.MapKept.heap_alloc (wv1) (.cells #[.string ⟨#[]⟩, .string ⟨#[]⟩, .string ⟨#[]⟩, .string ⟨#[]⟩, .string ⟨#[]⟩] 96)).1
        have l4_1_ := gr_1_.b.size
        obtain ⟨z4, hz4⟩ : ∃ z, (wv1).heap.size = z := ⟨_, rfl⟩
        rw [hz4] at h4_1_4_ l4_1_ ⊢
        obtain ⟨wv4, hwv4⟩ : ∃ W, (wv1).alloc (.cells #[.string ⟨#[]⟩, .string ⟨#[]⟩, .string ⟨#[]⟩, .string ⟨#[]⟩, .string ⟨#[]⟩] 96) = W := ⟨_, rfl⟩
        rw [hwv4] at gr_1_4_ h4_1_4_ ⊢
        clear hwv4 hz4 gs4_
        refine hK.out _ _ ⟨(HS.out _ gr_1_4_).1, (HS.out _ gr_1_4_).2.1, (HS.out _ gr_1_4_).2.2.1, (HS.out _ gr_1_4_).2.2.2.1, (HS.out _ gr_1_4_).2.2.2.2.1, (HS.out _ gr_1_4_).2.2.2.2.2.1, (HS.out _ gr_1_4_).2.2.2.2.2.2.1, (HS.out _ gr_1_4_).2.2.2.2.2.2.2.1, (HS.out _ gr_1_4_).2.2.2.2.2.2.2.2.1, (HS.out _ gr_1_4_).2.2.2.2.2.2.2.2.2⟩ (fun hHeld => ?_)
        clear hK K
        refine norm_ (a' := ?_) ?_ ?_
        rotate_left
        · show Act.put _ (some 5) _ = _
          simp only [Act.put, pkA, pkZ, pkS, i64_w, i32_w]
          rfl
        refine two_ (i := 3) (j := 5) (Ni := some 12) (Nj := some 6) #[true, true, true, true, true, false, false, false] #[true, true, true, false, true, true, false, false] rfl rfl rfl rfl (by kernel_rfl) (by decide) (by decide) (fun K hK => ?_) (fun K hK => ?_)
        · skip
          refine goes_ Try.func56 (by kernel_rfl) rfl #[.agg #[.string y.f0, .string y.f1, .string y.f2, .string y.f3, .string y.f4]] (by rfl) rfl rfl (by simp only [List.map_toArray, List.map_cons, List.map_nil]; rfl) ?_
          refine (go_parts y _).mono ?_
          rintro e wv3 ⟨rfl, gs3_⟩
          refine ⟨_, rfl, ?_⟩
          have gr_1_4_3_ := gr_1_4_.trans gs3_
          have h4_1_4_3_ := gs3_.blk h4_1_4_
          refine hK.out _ _ ⟨(HS.out _ gr_1_4_3_).1, (HS.out _ gr_1_4_3_).2.1, (HS.out _ gr_1_4_3_).2.2.1, (HS.out _ gr_1_4_3_).2.2.2.1, (HS.out _ gr_1_4_3_).2.2.2.2.1, (HS.out _ gr_1_4_3_).2.2.2.2.2.1, (HS.out _ gr_1_4_3_).2.2.2.2.2.2.1, (HS.out _ gr_1_4_3_).2.2.2.2.2.2.2.1, (HS.out _ gr_1_4_3_).2.2.2.2.2.2.2.2.1, (HS.out _ gr_1_4_3_).2.2.2.2.2.2.2.2.2⟩ (fun hHeld => ?_)
          clear hK K
          refine norm_ (a' := ?_) ?_ ?_
          rotate_left
          · show Act.put _ (some 12) _ = _
            simp only [Act.put, pkA, pkZ, pkS, i64_w, i32_w]
            rfl
          refine one_ (i := 5) (N := some 6) #[true, true, true, true, true, true, false, false] rfl rfl (by kernel_rfl) (by decide) (fun K hK => ?_)
          refine value_ (w1 := ?_) (v := ?_) (by rfl) rfl ?_ ?_
          rotate_left 2
          · go_simp
            constructor
            · rfl
            · rfl
          have gs5_ : Grn (wv3) ((wv3).alloc (.cells #[.string ⟨#[]⟩, .string ⟨#[]⟩, .string ⟨#[]⟩, .string ⟨#[]⟩, .string ⟨#[]⟩] 96)) := (Grn.refl _).alloc _
          have gr_1_4_3_5_ := gr_1_4_3_.trans gs5_
          have h5_1_4_3_5_ := (Go.MapKept.heap_alloc (wv3) (.cells #[.string ⟨#[]⟩, .string ⟨#[]⟩, .string ⟨#[]⟩, .string ⟨#[]⟩, .string ⟨#[]⟩] 96)).1
          have l5_1_4_3_ := gr_1_4_3_.b.size
          have h4_1_4_3_5_ := gs5_.blk h4_1_4_3_
          obtain ⟨z5, hz5⟩ : ∃ z, (wv3).heap.size = z := ⟨_, rfl⟩
          rw [hz5] at h5_1_4_3_5_ l5_1_4_3_ ⊢
          have ne_ : z4 ≠ z5 := by have := (Array.getElem?_eq_some_iff.mp h4_1_4_3_).1; omega
          obtain ⟨wv5, hwv5⟩ : ∃ W, (wv3).alloc (.cells #[.string ⟨#[]⟩, .string ⟨#[]⟩, .string ⟨#[]⟩, .string ⟨#[]⟩, .string ⟨#[]⟩] 96) = W := ⟨_, rfl⟩
          rw [hwv5] at gr_1_4_3_5_ h5_1_4_3_5_ h4_1_4_3_5_ ⊢
          clear hwv5 hz5 gs5_
          refine hK.out _ _ ⟨(HS.out _ gr_1_4_3_5_).1, (HS.out _ gr_1_4_3_5_).2.1, (HS.out _ gr_1_4_3_5_).2.2.1, (HS.out _ gr_1_4_3_5_).2.2.2.1, (HS.out _ gr_1_4_3_5_).2.2.2.2.1, (HS.out _ gr_1_4_3_5_).2.2.2.2.2.1, (HS.out _ gr_1_4_3_5_).2.2.2.2.2.2.1, (HS.out _ gr_1_4_3_5_).2.2.2.2.2.2.2.1, (HS.out _ gr_1_4_3_5_).2.2.2.2.2.2.2.2.1, (HS.out _ gr_1_4_3_5_).2.2.2.2.2.2.2.2.2⟩ (fun hHeld => ?_)
          clear hK K
          refine norm_ (a' := ?_) ?_ ?_
          rotate_left
          · show Act.put _ (some 6) _ = _
            simp only [Act.put, pkA, pkZ, pkS, i64_w, i32_w]
            rfl
          exact norm_ (by simp only [putAll, Act.put, pkA, pkZ, pkS]) (hCont (z4, z5) _ ⟨gr_1_4_3_5_, h4_1_4_3_5_, h5_1_4_3_5_, ne_, l4_1_, l5_1_4_3_⟩)
        · skip
          refine value_ (w1 := ?_) (v := ?_) (by rfl) rfl ?_ ?_
          rotate_left 2
          · go_simp
            constructor
            · rfl
            · rfl
          have gs5_ : Grn (wv4) ((wv4).alloc (.cells #[.string ⟨#[]⟩, .string ⟨#[]⟩, .string ⟨#[]⟩, .string ⟨#[]⟩, .string ⟨#[]⟩] 96)) := (Grn.refl _).alloc _
          have gr_1_4_5_ := gr_1_4_.trans gs5_
          have h5_1_4_5_ := (Go.MapKept.heap_alloc (wv4) (.cells #[.string ⟨#[]⟩, .string ⟨#[]⟩, .string ⟨#[]⟩, .string ⟨#[]⟩, .string ⟨#[]⟩] 96)).1
          have l5_1_4_ := gr_1_4_.b.size
          have h4_1_4_5_ := gs5_.blk h4_1_4_
          obtain ⟨z5, hz5⟩ : ∃ z, (wv4).heap.size = z := ⟨_, rfl⟩
          rw [hz5] at h5_1_4_5_ l5_1_4_ ⊢
          have ne_ : z4 ≠ z5 := by have := (Array.getElem?_eq_some_iff.mp h4_1_4_).1; omega
          obtain ⟨wv5, hwv5⟩ : ∃ W, (wv4).alloc (.cells #[.string ⟨#[]⟩, .string ⟨#[]⟩, .string ⟨#[]⟩, .string ⟨#[]⟩, .string ⟨#[]⟩] 96) = W := ⟨_, rfl⟩
          rw [hwv5] at gr_1_4_5_ h5_1_4_5_ h4_1_4_5_ ⊢
          clear hwv5 hz5 gs5_
          refine hK.out _ _ ⟨(HS.out _ gr_1_4_5_).1, (HS.out _ gr_1_4_5_).2.1, (HS.out _ gr_1_4_5_).2.2.1, (HS.out _ gr_1_4_5_).2.2.2.1, (HS.out _ gr_1_4_5_).2.2.2.2.1, (HS.out _ gr_1_4_5_).2.2.2.2.2.1, (HS.out _ gr_1_4_5_).2.2.2.2.2.2.1, (HS.out _ gr_1_4_5_).2.2.2.2.2.2.2.1, (HS.out _ gr_1_4_5_).2.2.2.2.2.2.2.2.1, (HS.out _ gr_1_4_5_).2.2.2.2.2.2.2.2.2⟩ (fun hHeld => ?_)
          clear hK K
          refine norm_ (a' := ?_) ?_ ?_
          rotate_left
          · show Act.put _ (some 6) _ = _
            simp only [Act.put, pkA, pkZ, pkS, i64_w, i32_w]
            rfl
          refine one_ (i := 3) (N := some 12) #[true, true, true, true, true, true, false, false] rfl rfl (by kernel_rfl) (by decide) (fun K hK => ?_)
          refine goes_ Try.func56 (by kernel_rfl) rfl #[.agg #[.string y.f0, .string y.f1, .string y.f2, .string y.f3, .string y.f4]] (by rfl) rfl rfl (by simp only [List.map_toArray, List.map_cons, List.map_nil]; rfl) ?_
          refine (go_parts y _).mono ?_
          rintro e wv3 ⟨rfl, gs3_⟩
          refine ⟨_, rfl, ?_⟩
          have gr_1_4_5_3_ := gr_1_4_5_.trans gs3_
          have h4_1_4_5_3_ := gs3_.blk h4_1_4_5_
          have h5_1_4_5_3_ := gs3_.blk h5_1_4_5_
          refine hK.out _ _ ⟨(HS.out _ gr_1_4_5_3_).1, (HS.out _ gr_1_4_5_3_).2.1, (HS.out _ gr_1_4_5_3_).2.2.1, (HS.out _ gr_1_4_5_3_).2.2.2.1, (HS.out _ gr_1_4_5_3_).2.2.2.2.1, (HS.out _ gr_1_4_5_3_).2.2.2.2.2.1, (HS.out _ gr_1_4_5_3_).2.2.2.2.2.2.1, (HS.out _ gr_1_4_5_3_).2.2.2.2.2.2.2.1, (HS.out _ gr_1_4_5_3_).2.2.2.2.2.2.2.2.1, (HS.out _ gr_1_4_5_3_).2.2.2.2.2.2.2.2.2⟩ (fun hHeld => ?_)
          clear hK K
          refine norm_ (a' := ?_) ?_ ?_
          rotate_left
          · show Act.put _ (some 12) _ = _
            simp only [Act.put, pkA, pkZ, pkS, i64_w, i32_w]
            rfl
          exact norm_ (by simp only [putAll, Act.put, pkA, pkZ, pkS]) (hCont (z4, z5) _ ⟨gr_1_4_5_3_, h4_1_4_5_3_, h5_1_4_5_3_, ne_, l4_1_, l5_1_4_⟩)
      · skip
        refine value_ (w1 := ?_) (v := ?_) (by rfl) rfl ?_ ?_
        rotate_left 2
        · go_simp
          constructor
          · rfl
          · rfl
        have gs5_ : Grn (wv1) ((wv1).alloc (.cells #[.string ⟨#[]⟩, .string ⟨#[]⟩, .string ⟨#[]⟩, .string ⟨#[]⟩, .string ⟨#[]⟩] 96)) := (Grn.refl _).alloc _
        have gr_1_5_ := gr_1_.trans gs5_
        have h5_1_5_ := (Go.MapKept.heap_alloc (wv1) (.cells #[.string ⟨#[]⟩, .string ⟨#[]⟩, .string ⟨#[]⟩, .string ⟨#[]⟩, .string ⟨#[]⟩] 96)).1
        have l5_1_ := gr_1_.b.size
        obtain ⟨z5, hz5⟩ : ∃ z, (wv1).heap.size = z := ⟨_, rfl⟩
        rw [hz5] at h5_1_5_ l5_1_ ⊢
        obtain ⟨wv5, hwv5⟩ : ∃ W, (wv1).alloc (.cells #[.string ⟨#[]⟩, .string ⟨#[]⟩, .string ⟨#[]⟩, .string ⟨#[]⟩, .string ⟨#[]⟩] 96) = W := ⟨_, rfl⟩
        rw [hwv5] at gr_1_5_ h5_1_5_ ⊢
        clear hwv5 hz5 gs5_
        refine hK.out _ _ ⟨(HS.out _ gr_1_5_).1, (HS.out _ gr_1_5_).2.1, (HS.out _ gr_1_5_).2.2.1, (HS.out _ gr_1_5_).2.2.2.1, (HS.out _ gr_1_5_).2.2.2.2.1, (HS.out _ gr_1_5_).2.2.2.2.2.1, (HS.out _ gr_1_5_).2.2.2.2.2.2.1, (HS.out _ gr_1_5_).2.2.2.2.2.2.2.1, (HS.out _ gr_1_5_).2.2.2.2.2.2.2.2.1, (HS.out _ gr_1_5_).2.2.2.2.2.2.2.2.2⟩ (fun hHeld => ?_)
        clear hK K
        refine norm_ (a' := ?_) ?_ ?_
        rotate_left
        · show Act.put _ (some 6) _ = _
          simp only [Act.put, pkA, pkZ, pkS, i64_w, i32_w]
          rfl
        refine two_ (i := 3) (j := 4) (Ni := some 12) (Nj := some 5) #[true, true, true, true, false, true, false, false] #[true, true, true, false, true, true, false, false] rfl rfl rfl rfl (by kernel_rfl) (by decide) (by decide) (fun K hK => ?_) (fun K hK => ?_)
        · skip
          refine goes_ Try.func56 (by kernel_rfl) rfl #[.agg #[.string y.f0, .string y.f1, .string y.f2, .string y.f3, .string y.f4]] (by rfl) rfl rfl (by simp only [List.map_toArray, List.map_cons, List.map_nil]; rfl) ?_
          refine (go_parts y _).mono ?_
          rintro e wv3 ⟨rfl, gs3_⟩
          refine ⟨_, rfl, ?_⟩
          have gr_1_5_3_ := gr_1_5_.trans gs3_
          have h5_1_5_3_ := gs3_.blk h5_1_5_
          refine hK.out _ _ ⟨(HS.out _ gr_1_5_3_).1, (HS.out _ gr_1_5_3_).2.1, (HS.out _ gr_1_5_3_).2.2.1, (HS.out _ gr_1_5_3_).2.2.2.1, (HS.out _ gr_1_5_3_).2.2.2.2.1, (HS.out _ gr_1_5_3_).2.2.2.2.2.1, (HS.out _ gr_1_5_3_).2.2.2.2.2.2.1, (HS.out _ gr_1_5_3_).2.2.2.2.2.2.2.1, (HS.out _ gr_1_5_3_).2.2.2.2.2.2.2.2.1, (HS.out _ gr_1_5_3_).2.2.2.2.2.2.2.2.2⟩ (fun hHeld => ?_)
          clear hK K
          refine norm_ (a' := ?_) ?_ ?_
          rotate_left
          · show Act.put _ (some 12) _ = _
            simp only [Act.put, pkA, pkZ, pkS, i64_w, i32_w]
            rfl
          refine one_ (i := 4) (N := some 5) #[true, true, true, true, true, true, false, false] rfl rfl (by kernel_rfl) (by decide) (fun K hK => ?_)
          refine value_ (w1 := ?_) (v := ?_) (by rfl) rfl ?_ ?_
          rotate_left 2
          · go_simp
            constructor
            · rfl
            · rfl
          have gs4_ : Grn (wv3) ((wv3).alloc (.cells #[.string ⟨#[]⟩, .string ⟨#[]⟩, .string ⟨#[]⟩, .string ⟨#[]⟩, .string ⟨#[]⟩] 96)) := (Grn.refl _).alloc _
          have gr_1_5_3_4_ := gr_1_5_3_.trans gs4_
          have h4_1_5_3_4_ := (Go.MapKept.heap_alloc (wv3) (.cells #[.string ⟨#[]⟩, .string ⟨#[]⟩, .string ⟨#[]⟩, .string ⟨#[]⟩, .string ⟨#[]⟩] 96)).1
          have l4_1_5_3_ := gr_1_5_3_.b.size
          have h5_1_5_3_4_ := gs4_.blk h5_1_5_3_
          obtain ⟨z4, hz4⟩ : ∃ z, (wv3).heap.size = z := ⟨_, rfl⟩
          rw [hz4] at h4_1_5_3_4_ l4_1_5_3_ ⊢
          have ne_ : z5 ≠ z4 := by have := (Array.getElem?_eq_some_iff.mp h5_1_5_3_).1; omega
          obtain ⟨wv4, hwv4⟩ : ∃ W, (wv3).alloc (.cells #[.string ⟨#[]⟩, .string ⟨#[]⟩, .string ⟨#[]⟩, .string ⟨#[]⟩, .string ⟨#[]⟩] 96) = W := ⟨_, rfl⟩
          rw [hwv4] at gr_1_5_3_4_ h4_1_5_3_4_ h5_1_5_3_4_ ⊢
          clear hwv4 hz4 gs4_
          refine hK.out _ _ ⟨(HS.out _ gr_1_5_3_4_).1, (HS.out _ gr_1_5_3_4_).2.1, (HS.out _ gr_1_5_3_4_).2.2.1, (HS.out _ gr_1_5_3_4_).2.2.2.1, (HS.out _ gr_1_5_3_4_).2.2.2.2.1, (HS.out _ gr_1_5_3_4_).2.2.2.2.2.1, (HS.out _ gr_1_5_3_4_).2.2.2.2.2.2.1, (HS.out _ gr_1_5_3_4_).2.2.2.2.2.2.2.1, (HS.out _ gr_1_5_3_4_).2.2.2.2.2.2.2.2.1, (HS.out _ gr_1_5_3_4_).2.2.2.2.2.2.2.2.2⟩ (fun hHeld => ?_)
          clear hK K
          refine norm_ (a' := ?_) ?_ ?_
          rotate_left
          · show Act.put _ (some 5) _ = _
            simp only [Act.put, pkA, pkZ, pkS, i64_w, i32_w]
            rfl
          exact norm_ (by simp only [putAll, Act.put, pkA, pkZ, pkS]) (hCont (z4, z5) _ ⟨gr_1_5_3_4_, h4_1_5_3_4_, h5_1_5_3_4_, ne_.symm, l4_1_5_3_, l5_1_⟩)
        · skip
          refine value_ (w1 := ?_) (v := ?_) (by rfl) rfl ?_ ?_
          rotate_left 2
          · go_simp
            constructor
            · rfl
            · rfl
          have gs4_ : Grn (wv5) ((wv5).alloc (.cells #[.string ⟨#[]⟩, .string ⟨#[]⟩, .string ⟨#[]⟩, .string ⟨#[]⟩, .string ⟨#[]⟩] 96)) := (Grn.refl _).alloc _
          have gr_1_5_4_ := gr_1_5_.trans gs4_
          have h4_1_5_4_ := (Go.MapKept.heap_alloc (wv5) (.cells #[.string ⟨#[]⟩, .string ⟨#[]⟩, .string ⟨#[]⟩, .string ⟨#[]⟩, .string ⟨#[]⟩] 96)).1
          have l4_1_5_ := gr_1_5_.b.size
          have h5_1_5_4_ := gs4_.blk h5_1_5_
          obtain ⟨z4, hz4⟩ : ∃ z, (wv5).heap.size = z := ⟨_, rfl⟩
          rw [hz4] at h4_1_5_4_ l4_1_5_ ⊢
          have ne_ : z5 ≠ z4 := by have := (Array.getElem?_eq_some_iff.mp h5_1_5_).1; omega
          obtain ⟨wv4, hwv4⟩ : ∃ W, (wv5).alloc (.cells #[.string ⟨#[]⟩, .string ⟨#[]⟩, .string ⟨#[]⟩, .string ⟨#[]⟩, .string ⟨#[]⟩] 96) = W := ⟨_, rfl⟩
          rw [hwv4] at gr_1_5_4_ h4_1_5_4_ h5_1_5_4_ ⊢
          clear hwv4 hz4 gs4_
          refine hK.out _ _ ⟨(HS.out _ gr_1_5_4_).1, (HS.out _ gr_1_5_4_).2.1, (HS.out _ gr_1_5_4_).2.2.1, (HS.out _ gr_1_5_4_).2.2.2.1, (HS.out _ gr_1_5_4_).2.2.2.2.1, (HS.out _ gr_1_5_4_).2.2.2.2.2.1, (HS.out _ gr_1_5_4_).2.2.2.2.2.2.1, (HS.out _ gr_1_5_4_).2.2.2.2.2.2.2.1, (HS.out _ gr_1_5_4_).2.2.2.2.2.2.2.2.1, (HS.out _ gr_1_5_4_).2.2.2.2.2.2.2.2.2⟩ (fun hHeld => ?_)
          clear hK K
          refine norm_ (a' := ?_) ?_ ?_
          rotate_left
          · show Act.put _ (some 5) _ = _
            simp only [Act.put, pkA, pkZ, pkS, i64_w, i32_w]
            rfl
          refine one_ (i := 3) (N := some 12) #[true, true, true, true, true, true, false, false] rfl rfl (by kernel_rfl) (by decide) (fun K hK => ?_)
          refine goes_ Try.func56 (by kernel_rfl) rfl #[.agg #[.string y.f0, .string y.f1, .string y.f2, .string y.f3, .string y.f4]] (by rfl) rfl rfl (by simp only [List.map_toArray, List.map_cons, List.map_nil]; rfl) ?_
          refine (go_parts y _).mono ?_
          rintro e wv3 ⟨rfl, gs3_⟩
          refine ⟨_, rfl, ?_⟩
          have gr_1_5_4_3_ := gr_1_5_4_.trans gs3_
          have h5_1_5_4_3_ := gs3_.blk h5_1_5_4_
          have h4_1_5_4_3_ := gs3_.blk h4_1_5_4_
          refine hK.out _ _ ⟨(HS.out _ gr_1_5_4_3_).1, (HS.out _ gr_1_5_4_3_).2.1, (HS.out _ gr_1_5_4_3_).2.2.1, (HS.out _ gr_1_5_4_3_).2.2.2.1, (HS.out _ gr_1_5_4_3_).2.2.2.2.1, (HS.out _ gr_1_5_4_3_).2.2.2.2.2.1, (HS.out _ gr_1_5_4_3_).2.2.2.2.2.2.1, (HS.out _ gr_1_5_4_3_).2.2.2.2.2.2.2.1, (HS.out _ gr_1_5_4_3_).2.2.2.2.2.2.2.2.1, (HS.out _ gr_1_5_4_3_).2.2.2.2.2.2.2.2.2⟩ (fun hHeld => ?_)
          clear hK K
          refine norm_ (a' := ?_) ?_ ?_
          rotate_left
          · show Act.put _ (some 12) _ = _
            simp only [Act.put, pkA, pkZ, pkS, i64_w, i32_w]
            rfl
          exact norm_ (by simp only [putAll, Act.put, pkA, pkZ, pkS]) (hCont (z4, z5) _ ⟨gr_1_5_4_3_, h4_1_5_4_3_, h5_1_5_4_3_, ne_.symm, l4_1_5_, l5_1_⟩)
    · skip
      refine value_ (w1 := ?_) (v := ?_) (by rfl) rfl ?_ ?_
      rotate_left 2
      · go_simp
        constructor
        · rfl
        · rfl
      have gr_4_ : Grn w1 ((w1.alloc (.cells #[.string ⟨#[]⟩, .string ⟨#[]⟩, .string ⟨#[]⟩, .string ⟨#[]⟩, .string ⟨#[]⟩] 96)).drew) := ((Grn.refl _).alloc _).drew
      have h4_4_ : ((w1.alloc (.cells #[.string ⟨#[]⟩, .string ⟨#[]⟩, .string ⟨#[]⟩, .string ⟨#[]⟩, .string ⟨#[]⟩] 96)).drew).heap[w1.heap.size]? = some (.cells #[.string ⟨#[]⟩, .string ⟨#[]⟩, .string ⟨#[]⟩, .string ⟨#[]⟩, .string ⟨#[]⟩] 96 (0, 0)) := (Go.MapKept.heap_alloc w1 (.cells #[.string ⟨#[]⟩, .string ⟨#[]⟩, .string ⟨#[]⟩, .string ⟨#[]⟩, .string ⟨#[]⟩] 96)).1
      have l4_ := Nat.le_refl w1.heap.size
      obtain ⟨z4, hz4⟩ : ∃ z, w1.heap.size = z := ⟨_, rfl⟩
      rw [hz4] at h4_4_ ⊢
      replace l4_ : w1.heap.size ≤ z4 := by omega
      obtain ⟨wv4, hwv4⟩ : ∃ W, (w1.alloc (.cells #[.string ⟨#[]⟩, .string ⟨#[]⟩, .string ⟨#[]⟩, .string ⟨#[]⟩, .string ⟨#[]⟩] 96)).drew = W := ⟨_, rfl⟩
      rw [hwv4] at gr_4_ h4_4_ ⊢
      clear hwv4 hz4
      refine hK.out _ _ ⟨(HS.out _ gr_4_).1, (HS.out _ gr_4_).2.1, (HS.out _ gr_4_).2.2.1, (HS.out _ gr_4_).2.2.2.1, (HS.out _ gr_4_).2.2.2.2.1, (HS.out _ gr_4_).2.2.2.2.2.1, (HS.out _ gr_4_).2.2.2.2.2.2.1, (HS.out _ gr_4_).2.2.2.2.2.2.2.1, (HS.out _ gr_4_).2.2.2.2.2.2.2.2.1, (HS.out _ gr_4_).2.2.2.2.2.2.2.2.2⟩ (fun hHeld => ?_)
      clear hK K
      refine norm_ (a' := ?_) ?_ ?_
      rotate_left
      · show Act.put _ (some 5) _ = _
        simp only [Act.put, pkA, pkZ, pkS, i64_w, i32_w]
        rfl
      refine two_ (i := 1) (j := 5) (Ni := some 10) (Nj := some 6) #[true, true, true, false, true, false, false, false] #[true, false, true, false, true, true, false, false] rfl rfl rfl rfl (by kernel_rfl) (by decide) (by decide) (fun K hK => ?_) (fun K hK => ?_)
      · skip
        refine goes_ Try.func56 (by kernel_rfl) rfl #[.agg #[.string x.f0, .string x.f1, .string x.f2, .string x.f3, .string x.f4]] (by rfl) rfl rfl (by simp only [List.map_toArray, List.map_cons, List.map_nil]; rfl) ?_
        refine (go_parts x _).mono ?_
        rintro e wv1 ⟨rfl, gs1_⟩
        refine ⟨_, rfl, ?_⟩
        have gr_4_1_ := gr_4_.trans gs1_
        have h4_4_1_ := gs1_.blk h4_4_
        refine hK.out _ _ ⟨(HS.out _ gr_4_1_).1, (HS.out _ gr_4_1_).2.1, (HS.out _ gr_4_1_).2.2.1, (HS.out _ gr_4_1_).2.2.2.1, (HS.out _ gr_4_1_).2.2.2.2.1, (HS.out _ gr_4_1_).2.2.2.2.2.1, (HS.out _ gr_4_1_).2.2.2.2.2.2.1, (HS.out _ gr_4_1_).2.2.2.2.2.2.2.1, (HS.out _ gr_4_1_).2.2.2.2.2.2.2.2.1, (HS.out _ gr_4_1_).2.2.2.2.2.2.2.2.2⟩ (fun hHeld => ?_)
        clear hK K
        refine norm_ (a' := ?_) ?_ ?_
        rotate_left
        · show Act.put _ (some 10) _ = _
          simp only [Act.put, pkA, pkZ, pkS, i64_w, i32_w]
          rfl
        refine two_ (i := 3) (j := 5) (Ni := some 12) (Nj := some 6) #[true, true, true, true, true, false, false, false] #[true, true, true, false, true, true, false, false] rfl rfl rfl rfl (by kernel_rfl) (by decide) (by decide) (fun K hK => ?_) (fun K hK => ?_)
        · skip
          refine goes_ Try.func56 (by kernel_rfl) rfl #[.agg #[.string y.f0, .string y.f1, .string y.f2, .string y.f3, .string y.f4]] (by rfl) rfl rfl (by simp only [List.map_toArray, List.map_cons, List.map_nil]; rfl) ?_
          refine (go_parts y _).mono ?_
          rintro e wv3 ⟨rfl, gs3_⟩
          refine ⟨_, rfl, ?_⟩
          have gr_4_1_3_ := gr_4_1_.trans gs3_
          have h4_4_1_3_ := gs3_.blk h4_4_1_
          refine hK.out _ _ ⟨(HS.out _ gr_4_1_3_).1, (HS.out _ gr_4_1_3_).2.1, (HS.out _ gr_4_1_3_).2.2.1, (HS.out _ gr_4_1_3_).2.2.2.1, (HS.out _ gr_4_1_3_).2.2.2.2.1, (HS.out _ gr_4_1_3_).2.2.2.2.2.1, (HS.out _ gr_4_1_3_).2.2.2.2.2.2.1, (HS.out _ gr_4_1_3_).2.2.2.2.2.2.2.1, (HS.out _ gr_4_1_3_).2.2.2.2.2.2.2.2.1, (HS.out _ gr_4_1_3_).2.2.2.2.2.2.2.2.2⟩ (fun hHeld => ?_)
          clear hK K
          refine norm_ (a' := ?_) ?_ ?_
          rotate_left
          · show Act.put _ (some 12) _ = _
            simp only [Act.put, pkA, pkZ, pkS, i64_w, i32_w]
            rfl
          refine one_ (i := 5) (N := some 6) #[true, true, true, true, true, true, false, false] rfl rfl (by kernel_rfl) (by decide) (fun K hK => ?_)
          refine value_ (w1 := ?_) (v := ?_) (by rfl) rfl ?_ ?_
          rotate_left 2
          · go_simp
            constructor
            · rfl
            · rfl
          have gs5_ : Grn (wv3) ((wv3).alloc (.cells #[.string ⟨#[]⟩, .string ⟨#[]⟩, .string ⟨#[]⟩, .string ⟨#[]⟩, .string ⟨#[]⟩] 96)) := (Grn.refl _).alloc _
          have gr_4_1_3_5_ := gr_4_1_3_.trans gs5_
          have h5_4_1_3_5_ := (Go.MapKept.heap_alloc (wv3) (.cells #[.string ⟨#[]⟩, .string ⟨#[]⟩, .string ⟨#[]⟩, .string ⟨#[]⟩, .string ⟨#[]⟩] 96)).1
          have l5_4_1_3_ := gr_4_1_3_.b.size
          have h4_4_1_3_5_ := gs5_.blk h4_4_1_3_
          obtain ⟨z5, hz5⟩ : ∃ z, (wv3).heap.size = z := ⟨_, rfl⟩
          rw [hz5] at h5_4_1_3_5_ l5_4_1_3_ ⊢
          have ne_ : z4 ≠ z5 := by have := (Array.getElem?_eq_some_iff.mp h4_4_1_3_).1; omega
          obtain ⟨wv5, hwv5⟩ : ∃ W, (wv3).alloc (.cells #[.string ⟨#[]⟩, .string ⟨#[]⟩, .string ⟨#[]⟩, .string ⟨#[]⟩, .string ⟨#[]⟩] 96) = W := ⟨_, rfl⟩
          rw [hwv5] at gr_4_1_3_5_ h5_4_1_3_5_ h4_4_1_3_5_ ⊢
          clear hwv5 hz5 gs5_
          refine hK.out _ _ ⟨(HS.out _ gr_4_1_3_5_).1, (HS.out _ gr_4_1_3_5_).2.1, (HS.out _ gr_4_1_3_5_).2.2.1, (HS.out _ gr_4_1_3_5_).2.2.2.1, (HS.out _ gr_4_1_3_5_).2.2.2.2.1, (HS.out _ gr_4_1_3_5_).2.2.2.2.2.1, (HS.out _ gr_4_1_3_5_).2.2.2.2.2.2.1, (HS.out _ gr_4_1_3_5_).2.2.2.2.2.2.2.1, (HS.out _ gr_4_1_3_5_).2.2.2.2.2.2.2.2.1, (HS.out _ gr_4_1_3_5_).2.2.2.2.2.2.2.2.2⟩ (fun hHeld => ?_)
          clear hK K
          refine norm_ (a' := ?_) ?_ ?_
          rotate_left
          · show Act.put _ (some 6) _ = _
            simp only [Act.put, pkA, pkZ, pkS, i64_w, i32_w]
            rfl
          exact norm_ (by simp only [putAll, Act.put, pkA, pkZ, pkS]) (hCont (z4, z5) _ ⟨gr_4_1_3_5_, h4_4_1_3_5_, h5_4_1_3_5_, ne_, l4_, l5_4_1_3_⟩)
        · skip
          refine value_ (w1 := ?_) (v := ?_) (by rfl) rfl ?_ ?_
          rotate_left 2
          · go_simp
            constructor
            · rfl
            · rfl
          have gs5_ : Grn (wv1) ((wv1).alloc (.cells #[.string ⟨#[]⟩, .string ⟨#[]⟩, .string ⟨#[]⟩, .string ⟨#[]⟩, .string ⟨#[]⟩] 96)) := (Grn.refl _).alloc _
          have gr_4_1_5_ := gr_4_1_.trans gs5_
          have h5_4_1_5_ := (Go.MapKept.heap_alloc (wv1) (.cells #[.string ⟨#[]⟩, .string ⟨#[]⟩, .string ⟨#[]⟩, .string ⟨#[]⟩, .string ⟨#[]⟩] 96)).1
          have l5_4_1_ := gr_4_1_.b.size
          have h4_4_1_5_ := gs5_.blk h4_4_1_
          obtain ⟨z5, hz5⟩ : ∃ z, (wv1).heap.size = z := ⟨_, rfl⟩
          rw [hz5] at h5_4_1_5_ l5_4_1_ ⊢
          have ne_ : z4 ≠ z5 := by have := (Array.getElem?_eq_some_iff.mp h4_4_1_).1; omega
          obtain ⟨wv5, hwv5⟩ : ∃ W, (wv1).alloc (.cells #[.string ⟨#[]⟩, .string ⟨#[]⟩, .string ⟨#[]⟩, .string ⟨#[]⟩, .string ⟨#[]⟩] 96) = W := ⟨_, rfl⟩
          rw [hwv5] at gr_4_1_5_ h5_4_1_5_ h4_4_1_5_ ⊢
          clear hwv5 hz5 gs5_
          refine hK.out _ _ ⟨(HS.out _ gr_4_1_5_).1, (HS.out _ gr_4_1_5_).2.1, (HS.out _ gr_4_1_5_).2.2.1, (HS.out _ gr_4_1_5_).2.2.2.1, (HS.out _ gr_4_1_5_).2.2.2.2.1, (HS.out _ gr_4_1_5_).2.2.2.2.2.1, (HS.out _ gr_4_1_5_).2.2.2.2.2.2.1, (HS.out _ gr_4_1_5_).2.2.2.2.2.2.2.1, (HS.out _ gr_4_1_5_).2.2.2.2.2.2.2.2.1, (HS.out _ gr_4_1_5_).2.2.2.2.2.2.2.2.2⟩ (fun hHeld => ?_)
          clear hK K
          refine norm_ (a' := ?_) ?_ ?_
          rotate_left
          · show Act.put _ (some 6) _ = _
            simp only [Act.put, pkA, pkZ, pkS, i64_w, i32_w]
            rfl
          refine one_ (i := 3) (N := some 12) #[true, true, true, true, true, true, false, false] rfl rfl (by kernel_rfl) (by decide) (fun K hK => ?_)
          refine goes_ Try.func56 (by kernel_rfl) rfl #[.agg #[.string y.f0, .string y.f1, .string y.f2, .string y.f3, .string y.f4]] (by rfl) rfl rfl (by simp only [List.map_toArray, List.map_cons, List.map_nil]; rfl) ?_
          refine (go_parts y _).mono ?_
          rintro e wv3 ⟨rfl, gs3_⟩
          refine ⟨_, rfl, ?_⟩
          have gr_4_1_5_3_ := gr_4_1_5_.trans gs3_
          have h4_4_1_5_3_ := gs3_.blk h4_4_1_5_
          have h5_4_1_5_3_ := gs3_.blk h5_4_1_5_
          refine hK.out _ _ ⟨(HS.out _ gr_4_1_5_3_).1, (HS.out _ gr_4_1_5_3_).2.1, (HS.out _ gr_4_1_5_3_).2.2.1, (HS.out _ gr_4_1_5_3_).2.2.2.1, (HS.out _ gr_4_1_5_3_).2.2.2.2.1, (HS.out _ gr_4_1_5_3_).2.2.2.2.2.1, (HS.out _ gr_4_1_5_3_).2.2.2.2.2.2.1, (HS.out _ gr_4_1_5_3_).2.2.2.2.2.2.2.1, (HS.out _ gr_4_1_5_3_).2.2.2.2.2.2.2.2.1, (HS.out _ gr_4_1_5_3_).2.2.2.2.2.2.2.2.2⟩ (fun hHeld => ?_)
          clear hK K
          refine norm_ (a' := ?_) ?_ ?_
          rotate_left
          · show Act.put _ (some 12) _ = _
            simp only [Act.put, pkA, pkZ, pkS, i64_w, i32_w]
            rfl
          exact norm_ (by simp only [putAll, Act.put, pkA, pkZ, pkS]) (hCont (z4, z5) _ ⟨gr_4_1_5_3_, h4_4_1_5_3_, h5_4_1_5_3_, ne_, l4_, l5_4_1_⟩)
      · skip
        refine value_ (w1 := ?_) (v := ?_) (by rfl) rfl ?_ ?_
        rotate_left 2
        · go_simp
          constructor
          · rfl
          · rfl
        have gs5_ : Grn (wv4) ((wv4).alloc (.cells #[.string ⟨#[]⟩, .string ⟨#[]⟩, .string ⟨#[]⟩, .string ⟨#[]⟩, .string ⟨#[]⟩] 96)) := (Grn.refl _).alloc _
        have gr_4_5_ := gr_4_.trans gs5_
        have h5_4_5_ := (Go.MapKept.heap_alloc (wv4) (.cells #[.string ⟨#[]⟩, .string ⟨#[]⟩, .string ⟨#[]⟩, .string ⟨#[]⟩, .string ⟨#[]⟩] 96)).1
        have l5_4_ := gr_4_.b.size
        have h4_4_5_ := gs5_.blk h4_4_
        obtain ⟨z5, hz5⟩ : ∃ z, (wv4).heap.size = z := ⟨_, rfl⟩
        rw [hz5] at h5_4_5_ l5_4_ ⊢
        have ne_ : z4 ≠ z5 := by have := (Array.getElem?_eq_some_iff.mp h4_4_).1; omega
        obtain ⟨wv5, hwv5⟩ : ∃ W, (wv4).alloc (.cells #[.string ⟨#[]⟩, .string ⟨#[]⟩, .string ⟨#[]⟩, .string ⟨#[]⟩, .string ⟨#[]⟩] 96) = W := ⟨_, rfl⟩
        rw [hwv5] at gr_4_5_ h5_4_5_ h4_4_5_ ⊢
        clear hwv5 hz5 gs5_
        refine hK.out _ _ ⟨(HS.out _ gr_4_5_).1, (HS.out _ gr_4_5_).2.1, (HS.out _ gr_4_5_).2.2.1, (HS.out _ gr_4_5_).2.2.2.1, (HS.out _ gr_4_5_).2.2.2.2.1, (HS.out _ gr_4_5_).2.2.2.2.2.1, (HS.out _ gr_4_5_).2.2.2.2.2.2.1, (HS.out _ gr_4_5_).2.2.2.2.2.2.2.1, (HS.out _ gr_4_5_).2.2.2.2.2.2.2.2.1, (HS.out _ gr_4_5_).2.2.2.2.2.2.2.2.2⟩ (fun hHeld => ?_)
        clear hK K
        refine norm_ (a' := ?_) ?_ ?_
        rotate_left
        · show Act.put _ (some 6) _ = _
          simp only [Act.put, pkA, pkZ, pkS, i64_w, i32_w]
          rfl
        refine one_ (i := 1) (N := some 10) #[true, true, true, false, true, true, false, false] rfl rfl (by kernel_rfl) (by decide) (fun K hK => ?_)
        refine goes_ Try.func56 (by kernel_rfl) rfl #[.agg #[.string x.f0, .string x.f1, .string x.f2, .string x.f3, .string x.f4]] (by rfl) rfl rfl (by simp only [List.map_toArray, List.map_cons, List.map_nil]; rfl) ?_
        refine (go_parts x _).mono ?_
        rintro e wv1 ⟨rfl, gs1_⟩
        refine ⟨_, rfl, ?_⟩
        have gr_4_5_1_ := gr_4_5_.trans gs1_
        have h4_4_5_1_ := gs1_.blk h4_4_5_
        have h5_4_5_1_ := gs1_.blk h5_4_5_
        refine hK.out _ _ ⟨(HS.out _ gr_4_5_1_).1, (HS.out _ gr_4_5_1_).2.1, (HS.out _ gr_4_5_1_).2.2.1, (HS.out _ gr_4_5_1_).2.2.2.1, (HS.out _ gr_4_5_1_).2.2.2.2.1, (HS.out _ gr_4_5_1_).2.2.2.2.2.1, (HS.out _ gr_4_5_1_).2.2.2.2.2.2.1, (HS.out _ gr_4_5_1_).2.2.2.2.2.2.2.1, (HS.out _ gr_4_5_1_).2.2.2.2.2.2.2.2.1, (HS.out _ gr_4_5_1_).2.2.2.2.2.2.2.2.2⟩ (fun hHeld => ?_)
        clear hK K
        refine norm_ (a' := ?_) ?_ ?_
        rotate_left
        · show Act.put _ (some 10) _ = _
          simp only [Act.put, pkA, pkZ, pkS, i64_w, i32_w]
          rfl
        refine one_ (i := 3) (N := some 12) #[true, true, true, true, true, true, false, false] rfl rfl (by kernel_rfl) (by decide) (fun K hK => ?_)
        refine goes_ Try.func56 (by kernel_rfl) rfl #[.agg #[.string y.f0, .string y.f1, .string y.f2, .string y.f3, .string y.f4]] (by rfl) rfl rfl (by simp only [List.map_toArray, List.map_cons, List.map_nil]; rfl) ?_
        refine (go_parts y _).mono ?_
        rintro e wv3 ⟨rfl, gs3_⟩
        refine ⟨_, rfl, ?_⟩
        have gr_4_5_1_3_ := gr_4_5_1_.trans gs3_
        have h4_4_5_1_3_ := gs3_.blk h4_4_5_1_
        have h5_4_5_1_3_ := gs3_.blk h5_4_5_1_
        refine hK.out _ _ ⟨(HS.out _ gr_4_5_1_3_).1, (HS.out _ gr_4_5_1_3_).2.1, (HS.out _ gr_4_5_1_3_).2.2.1, (HS.out _ gr_4_5_1_3_).2.2.2.1, (HS.out _ gr_4_5_1_3_).2.2.2.2.1, (HS.out _ gr_4_5_1_3_).2.2.2.2.2.1, (HS.out _ gr_4_5_1_3_).2.2.2.2.2.2.1, (HS.out _ gr_4_5_1_3_).2.2.2.2.2.2.2.1, (HS.out _ gr_4_5_1_3_).2.2.2.2.2.2.2.2.1, (HS.out _ gr_4_5_1_3_).2.2.2.2.2.2.2.2.2⟩ (fun hHeld => ?_)
        clear hK K
        refine norm_ (a' := ?_) ?_ ?_
        rotate_left
        · show Act.put _ (some 12) _ = _
          simp only [Act.put, pkA, pkZ, pkS, i64_w, i32_w]
          rfl
        exact norm_ (by simp only [putAll, Act.put, pkA, pkZ, pkS]) (hCont (z4, z5) _ ⟨gr_4_5_1_3_, h4_4_5_1_3_, h5_4_5_1_3_, ne_, l4_, l5_4_⟩)
    · skip
      refine value_ (w1 := ?_) (v := ?_) (by rfl) rfl ?_ ?_
      rotate_left 2
      · go_simp
        constructor
        · rfl
        · rfl
      have gr_5_ : Grn w1 ((w1.alloc (.cells #[.string ⟨#[]⟩, .string ⟨#[]⟩, .string ⟨#[]⟩, .string ⟨#[]⟩, .string ⟨#[]⟩] 96)).drew) := ((Grn.refl _).alloc _).drew
      have h5_5_ : ((w1.alloc (.cells #[.string ⟨#[]⟩, .string ⟨#[]⟩, .string ⟨#[]⟩, .string ⟨#[]⟩, .string ⟨#[]⟩] 96)).drew).heap[w1.heap.size]? = some (.cells #[.string ⟨#[]⟩, .string ⟨#[]⟩, .string ⟨#[]⟩, .string ⟨#[]⟩, .string ⟨#[]⟩] 96 (0, 0)) := (Go.MapKept.heap_alloc w1 (.cells #[.string ⟨#[]⟩, .string ⟨#[]⟩, .string ⟨#[]⟩, .string ⟨#[]⟩, .string ⟨#[]⟩] 96)).1
      have l5_ := Nat.le_refl w1.heap.size
      obtain ⟨z5, hz5⟩ : ∃ z, w1.heap.size = z := ⟨_, rfl⟩
      rw [hz5] at h5_5_ ⊢
      replace l5_ : w1.heap.size ≤ z5 := by omega
      obtain ⟨wv5, hwv5⟩ : ∃ W, (w1.alloc (.cells #[.string ⟨#[]⟩, .string ⟨#[]⟩, .string ⟨#[]⟩, .string ⟨#[]⟩, .string ⟨#[]⟩] 96)).drew = W := ⟨_, rfl⟩
      rw [hwv5] at gr_5_ h5_5_ ⊢
      clear hwv5 hz5
      refine hK.out _ _ ⟨(HS.out _ gr_5_).1, (HS.out _ gr_5_).2.1, (HS.out _ gr_5_).2.2.1, (HS.out _ gr_5_).2.2.2.1, (HS.out _ gr_5_).2.2.2.2.1, (HS.out _ gr_5_).2.2.2.2.2.1, (HS.out _ gr_5_).2.2.2.2.2.2.1, (HS.out _ gr_5_).2.2.2.2.2.2.2.1, (HS.out _ gr_5_).2.2.2.2.2.2.2.2.1, (HS.out _ gr_5_).2.2.2.2.2.2.2.2.2⟩ (fun hHeld => ?_)
      clear hK K
      refine norm_ (a' := ?_) ?_ ?_
      rotate_left
      · show Act.put _ (some 6) _ = _
        simp only [Act.put, pkA, pkZ, pkS, i64_w, i32_w]
        rfl
      refine two_ (i := 1) (j := 4) (Ni := some 10) (Nj := some 5) #[true, true, true, false, false, true, false, false] #[true, false, true, false, true, true, false, false] rfl rfl rfl rfl (by kernel_rfl) (by decide) (by decide) (fun K hK => ?_) (fun K hK => ?_)
      · skip
        refine goes_ Try.func56 (by kernel_rfl) rfl #[.agg #[.string x.f0, .string x.f1, .string x.f2, .string x.f3, .string x.f4]] (by rfl) rfl rfl (by simp only [List.map_toArray, List.map_cons, List.map_nil]; rfl) ?_
        refine (go_parts x _).mono ?_
        rintro e wv1 ⟨rfl, gs1_⟩
        refine ⟨_, rfl, ?_⟩
        have gr_5_1_ := gr_5_.trans gs1_
        have h5_5_1_ := gs1_.blk h5_5_
        refine hK.out _ _ ⟨(HS.out _ gr_5_1_).1, (HS.out _ gr_5_1_).2.1, (HS.out _ gr_5_1_).2.2.1, (HS.out _ gr_5_1_).2.2.2.1, (HS.out _ gr_5_1_).2.2.2.2.1, (HS.out _ gr_5_1_).2.2.2.2.2.1, (HS.out _ gr_5_1_).2.2.2.2.2.2.1, (HS.out _ gr_5_1_).2.2.2.2.2.2.2.1, (HS.out _ gr_5_1_).2.2.2.2.2.2.2.2.1, (HS.out _ gr_5_1_).2.2.2.2.2.2.2.2.2⟩ (fun hHeld => ?_)
        clear hK K
        refine norm_ (a' := ?_) ?_ ?_
        rotate_left
        · show Act.put _ (some 10) _ = _
          simp only [Act.put, pkA, pkZ, pkS, i64_w, i32_w]
          rfl
        refine two_ (i := 3) (j := 4) (Ni := some 12) (Nj := some 5) #[true, true, true, true, false, true, false, false] #[true, true, true, false, true, true, false, false] rfl rfl rfl rfl (by kernel_rfl) (by decide) (by decide) (fun K hK => ?_) (fun K hK => ?_)
        · skip
          refine goes_ Try.func56 (by kernel_rfl) rfl #[.agg #[.string y.f0, .string y.f1, .string y.f2, .string y.f3, .string y.f4]] (by rfl) rfl rfl (by simp only [List.map_toArray, List.map_cons, List.map_nil]; rfl) ?_
          refine (go_parts y _).mono ?_
          rintro e wv3 ⟨rfl, gs3_⟩
          refine ⟨_, rfl, ?_⟩
          have gr_5_1_3_ := gr_5_1_.trans gs3_
          have h5_5_1_3_ := gs3_.blk h5_5_1_
          refine hK.out _ _ ⟨(HS.out _ gr_5_1_3_).1, (HS.out _ gr_5_1_3_).2.1, (HS.out _ gr_5_1_3_).2.2.1, (HS.out _ gr_5_1_3_).2.2.2.1, (HS.out _ gr_5_1_3_).2.2.2.2.1, (HS.out _ gr_5_1_3_).2.2.2.2.2.1, (HS.out _ gr_5_1_3_).2.2.2.2.2.2.1, (HS.out _ gr_5_1_3_).2.2.2.2.2.2.2.1, (HS.out _ gr_5_1_3_).2.2.2.2.2.2.2.2.1, (HS.out _ gr_5_1_3_).2.2.2.2.2.2.2.2.2⟩ (fun hHeld => ?_)
          clear hK K
          refine norm_ (a' := ?_) ?_ ?_
          rotate_left
          · show Act.put _ (some 12) _ = _
            simp only [Act.put, pkA, pkZ, pkS, i64_w, i32_w]
            rfl
          refine one_ (i := 4) (N := some 5) #[true, true, true, true, true, true, false, false] rfl rfl (by kernel_rfl) (by decide) (fun K hK => ?_)
          refine value_ (w1 := ?_) (v := ?_) (by rfl) rfl ?_ ?_
          rotate_left 2
          · go_simp
            constructor
            · rfl
            · rfl
          have gs4_ : Grn (wv3) ((wv3).alloc (.cells #[.string ⟨#[]⟩, .string ⟨#[]⟩, .string ⟨#[]⟩, .string ⟨#[]⟩, .string ⟨#[]⟩] 96)) := (Grn.refl _).alloc _
          have gr_5_1_3_4_ := gr_5_1_3_.trans gs4_
          have h4_5_1_3_4_ := (Go.MapKept.heap_alloc (wv3) (.cells #[.string ⟨#[]⟩, .string ⟨#[]⟩, .string ⟨#[]⟩, .string ⟨#[]⟩, .string ⟨#[]⟩] 96)).1
          have l4_5_1_3_ := gr_5_1_3_.b.size
          have h5_5_1_3_4_ := gs4_.blk h5_5_1_3_
          obtain ⟨z4, hz4⟩ : ∃ z, (wv3).heap.size = z := ⟨_, rfl⟩
          rw [hz4] at h4_5_1_3_4_ l4_5_1_3_ ⊢
          have ne_ : z5 ≠ z4 := by have := (Array.getElem?_eq_some_iff.mp h5_5_1_3_).1; omega
          obtain ⟨wv4, hwv4⟩ : ∃ W, (wv3).alloc (.cells #[.string ⟨#[]⟩, .string ⟨#[]⟩, .string ⟨#[]⟩, .string ⟨#[]⟩, .string ⟨#[]⟩] 96) = W := ⟨_, rfl⟩
          rw [hwv4] at gr_5_1_3_4_ h4_5_1_3_4_ h5_5_1_3_4_ ⊢
          clear hwv4 hz4 gs4_
          refine hK.out _ _ ⟨(HS.out _ gr_5_1_3_4_).1, (HS.out _ gr_5_1_3_4_).2.1, (HS.out _ gr_5_1_3_4_).2.2.1, (HS.out _ gr_5_1_3_4_).2.2.2.1, (HS.out _ gr_5_1_3_4_).2.2.2.2.1, (HS.out _ gr_5_1_3_4_).2.2.2.2.2.1, (HS.out _ gr_5_1_3_4_).2.2.2.2.2.2.1, (HS.out _ gr_5_1_3_4_).2.2.2.2.2.2.2.1, (HS.out _ gr_5_1_3_4_).2.2.2.2.2.2.2.2.1, (HS.out _ gr_5_1_3_4_).2.2.2.2.2.2.2.2.2⟩ (fun hHeld => ?_)
          clear hK K
          refine norm_ (a' := ?_) ?_ ?_
          rotate_left
          · show Act.put _ (some 5) _ = _
            simp only [Act.put, pkA, pkZ, pkS, i64_w, i32_w]
            rfl
          exact norm_ (by simp only [putAll, Act.put, pkA, pkZ, pkS]) (hCont (z4, z5) _ ⟨gr_5_1_3_4_, h4_5_1_3_4_, h5_5_1_3_4_, ne_.symm, l4_5_1_3_, l5_⟩)
        · skip
          refine value_ (w1 := ?_) (v := ?_) (by rfl) rfl ?_ ?_
          rotate_left 2
          · go_simp
            constructor
            · rfl
            · rfl
          have gs4_ : Grn (wv1) ((wv1).alloc (.cells #[.string ⟨#[]⟩, .string ⟨#[]⟩, .string ⟨#[]⟩, .string ⟨#[]⟩, .string ⟨#[]⟩] 96)) := (Grn.refl _).alloc _
          have gr_5_1_4_ := gr_5_1_.trans gs4_
          have h4_5_1_4_ := (Go.MapKept.heap_alloc (wv1) (.cells #[.string ⟨#[]⟩, .string ⟨#[]⟩, .string ⟨#[]⟩, .string ⟨#[]⟩, .string ⟨#[]⟩] 96)).1
          have l4_5_1_ := gr_5_1_.b.size
          have h5_5_1_4_ := gs4_.blk h5_5_1_
          obtain ⟨z4, hz4⟩ : ∃ z, (wv1).heap.size = z := ⟨_, rfl⟩
          rw [hz4] at h4_5_1_4_ l4_5_1_ ⊢
          have ne_ : z5 ≠ z4 := by have := (Array.getElem?_eq_some_iff.mp h5_5_1_).1; omega
          obtain ⟨wv4, hwv4⟩ : ∃ W, (wv1).alloc (.cells #[.string ⟨#[]⟩, .string ⟨#[]⟩, .string ⟨#[]⟩, .string ⟨#[]⟩, .string ⟨#[]⟩] 96) = W := ⟨_, rfl⟩
          rw [hwv4] at gr_5_1_4_ h4_5_1_4_ h5_5_1_4_ ⊢
          clear hwv4 hz4 gs4_
          refine hK.out _ _ ⟨(HS.out _ gr_5_1_4_).1, (HS.out _ gr_5_1_4_).2.1, (HS.out _ gr_5_1_4_).2.2.1, (HS.out _ gr_5_1_4_).2.2.2.1, (HS.out _ gr_5_1_4_).2.2.2.2.1, (HS.out _ gr_5_1_4_).2.2.2.2.2.1, (HS.out _ gr_5_1_4_).2.2.2.2.2.2.1, (HS.out _ gr_5_1_4_).2.2.2.2.2.2.2.1, (HS.out _ gr_5_1_4_).2.2.2.2.2.2.2.2.1, (HS.out _ gr_5_1_4_).2.2.2.2.2.2.2.2.2⟩ (fun hHeld => ?_)
          clear hK K
          refine norm_ (a' := ?_) ?_ ?_
          rotate_left
          · show Act.put _ (some 5) _ = _
            simp only [Act.put, pkA, pkZ, pkS, i64_w, i32_w]
            rfl
          refine one_ (i := 3) (N := some 12) #[true, true, true, true, true, true, false, false] rfl rfl (by kernel_rfl) (by decide) (fun K hK => ?_)
          refine goes_ Try.func56 (by kernel_rfl) rfl #[.agg #[.string y.f0, .string y.f1, .string y.f2, .string y.f3, .string y.f4]] (by rfl) rfl rfl (by simp only [List.map_toArray, List.map_cons, List.map_nil]; rfl) ?_
          refine (go_parts y _).mono ?_
          rintro e wv3 ⟨rfl, gs3_⟩
          refine ⟨_, rfl, ?_⟩
          have gr_5_1_4_3_ := gr_5_1_4_.trans gs3_
          have h5_5_1_4_3_ := gs3_.blk h5_5_1_4_
          have h4_5_1_4_3_ := gs3_.blk h4_5_1_4_
          refine hK.out _ _ ⟨(HS.out _ gr_5_1_4_3_).1, (HS.out _ gr_5_1_4_3_).2.1, (HS.out _ gr_5_1_4_3_).2.2.1, (HS.out _ gr_5_1_4_3_).2.2.2.1, (HS.out _ gr_5_1_4_3_).2.2.2.2.1, (HS.out _ gr_5_1_4_3_).2.2.2.2.2.1, (HS.out _ gr_5_1_4_3_).2.2.2.2.2.2.1, (HS.out _ gr_5_1_4_3_).2.2.2.2.2.2.2.1, (HS.out _ gr_5_1_4_3_).2.2.2.2.2.2.2.2.1, (HS.out _ gr_5_1_4_3_).2.2.2.2.2.2.2.2.2⟩ (fun hHeld => ?_)
          clear hK K
          refine norm_ (a' := ?_) ?_ ?_
          rotate_left
          · show Act.put _ (some 12) _ = _
            simp only [Act.put, pkA, pkZ, pkS, i64_w, i32_w]
            rfl
          exact norm_ (by simp only [putAll, Act.put, pkA, pkZ, pkS]) (hCont (z4, z5) _ ⟨gr_5_1_4_3_, h4_5_1_4_3_, h5_5_1_4_3_, ne_.symm, l4_5_1_, l5_⟩)
      · skip
        refine value_ (w1 := ?_) (v := ?_) (by rfl) rfl ?_ ?_
        rotate_left 2
        · go_simp
          constructor
          · rfl
          · rfl
        have gs4_ : Grn (wv5) ((wv5).alloc (.cells #[.string ⟨#[]⟩, .string ⟨#[]⟩, .string ⟨#[]⟩, .string ⟨#[]⟩, .string ⟨#[]⟩] 96)) := (Grn.refl _).alloc _
        have gr_5_4_ := gr_5_.trans gs4_
        have h4_5_4_ := (Go.MapKept.heap_alloc (wv5) (.cells #[.string ⟨#[]⟩, .string ⟨#[]⟩, .string ⟨#[]⟩, .string ⟨#[]⟩, .string ⟨#[]⟩] 96)).1
        have l4_5_ := gr_5_.b.size
        have h5_5_4_ := gs4_.blk h5_5_
        obtain ⟨z4, hz4⟩ : ∃ z, (wv5).heap.size = z := ⟨_, rfl⟩
        rw [hz4] at h4_5_4_ l4_5_ ⊢
        have ne_ : z5 ≠ z4 := by have := (Array.getElem?_eq_some_iff.mp h5_5_).1; omega
        obtain ⟨wv4, hwv4⟩ : ∃ W, (wv5).alloc (.cells #[.string ⟨#[]⟩, .string ⟨#[]⟩, .string ⟨#[]⟩, .string ⟨#[]⟩, .string ⟨#[]⟩] 96) = W := ⟨_, rfl⟩
        rw [hwv4] at gr_5_4_ h4_5_4_ h5_5_4_ ⊢
        clear hwv4 hz4 gs4_
        refine hK.out _ _ ⟨(HS.out _ gr_5_4_).1, (HS.out _ gr_5_4_).2.1, (HS.out _ gr_5_4_).2.2.1, (HS.out _ gr_5_4_).2.2.2.1, (HS.out _ gr_5_4_).2.2.2.2.1, (HS.out _ gr_5_4_).2.2.2.2.2.1, (HS.out _ gr_5_4_).2.2.2.2.2.2.1, (HS.out _ gr_5_4_).2.2.2.2.2.2.2.1, (HS.out _ gr_5_4_).2.2.2.2.2.2.2.2.1, (HS.out _ gr_5_4_).2.2.2.2.2.2.2.2.2⟩ (fun hHeld => ?_)
        clear hK K
        refine norm_ (a' := ?_) ?_ ?_
        rotate_left
        · show Act.put _ (some 5) _ = _
          simp only [Act.put, pkA, pkZ, pkS, i64_w, i32_w]
          rfl
        refine one_ (i := 1) (N := some 10) #[true, true, true, false, true, true, false, false] rfl rfl (by kernel_rfl) (by decide) (fun K hK => ?_)
        refine goes_ Try.func56 (by kernel_rfl) rfl #[.agg #[.string x.f0, .string x.f1, .string x.f2, .string x.f3, .string x.f4]] (by rfl) rfl rfl (by simp only [List.map_toArray, List.map_cons, List.map_nil]; rfl) ?_
        refine (go_parts x _).mono ?_
        rintro e wv1 ⟨rfl, gs1_⟩
        refine ⟨_, rfl, ?_⟩
        have gr_5_4_1_ := gr_5_4_.trans gs1_
        have h5_5_4_1_ := gs1_.blk h5_5_4_
        have h4_5_4_1_ := gs1_.blk h4_5_4_
        refine hK.out _ _ ⟨(HS.out _ gr_5_4_1_).1, (HS.out _ gr_5_4_1_).2.1, (HS.out _ gr_5_4_1_).2.2.1, (HS.out _ gr_5_4_1_).2.2.2.1, (HS.out _ gr_5_4_1_).2.2.2.2.1, (HS.out _ gr_5_4_1_).2.2.2.2.2.1, (HS.out _ gr_5_4_1_).2.2.2.2.2.2.1, (HS.out _ gr_5_4_1_).2.2.2.2.2.2.2.1, (HS.out _ gr_5_4_1_).2.2.2.2.2.2.2.2.1, (HS.out _ gr_5_4_1_).2.2.2.2.2.2.2.2.2⟩ (fun hHeld => ?_)
        clear hK K
        refine norm_ (a' := ?_) ?_ ?_
        rotate_left
        · show Act.put _ (some 10) _ = _
          simp only [Act.put, pkA, pkZ, pkS, i64_w, i32_w]
          rfl
        refine one_ (i := 3) (N := some 12) #[true, true, true, true, true, true, false, false] rfl rfl (by kernel_rfl) (by decide) (fun K hK => ?_)
        refine goes_ Try.func56 (by kernel_rfl) rfl #[.agg #[.string y.f0, .string y.f1, .string y.f2, .string y.f3, .string y.f4]] (by rfl) rfl rfl (by simp only [List.map_toArray, List.map_cons, List.map_nil]; rfl) ?_
        refine (go_parts y _).mono ?_
        rintro e wv3 ⟨rfl, gs3_⟩
        refine ⟨_, rfl, ?_⟩
        have gr_5_4_1_3_ := gr_5_4_1_.trans gs3_
        have h5_5_4_1_3_ := gs3_.blk h5_5_4_1_
        have h4_5_4_1_3_ := gs3_.blk h4_5_4_1_
        refine hK.out _ _ ⟨(HS.out _ gr_5_4_1_3_).1, (HS.out _ gr_5_4_1_3_).2.1, (HS.out _ gr_5_4_1_3_).2.2.1, (HS.out _ gr_5_4_1_3_).2.2.2.1, (HS.out _ gr_5_4_1_3_).2.2.2.2.1, (HS.out _ gr_5_4_1_3_).2.2.2.2.2.1, (HS.out _ gr_5_4_1_3_).2.2.2.2.2.2.1, (HS.out _ gr_5_4_1_3_).2.2.2.2.2.2.2.1, (HS.out _ gr_5_4_1_3_).2.2.2.2.2.2.2.2.1, (HS.out _ gr_5_4_1_3_).2.2.2.2.2.2.2.2.2⟩ (fun hHeld => ?_)
        clear hK K
        refine norm_ (a' := ?_) ?_ ?_
        rotate_left
        · show Act.put _ (some 12) _ = _
          simp only [Act.put, pkA, pkZ, pkS, i64_w, i32_w]
          rfl
        exact norm_ (by simp only [putAll, Act.put, pkA, pkZ, pkS]) (hCont (z4, z5) _ ⟨gr_5_4_1_3_, h4_5_4_1_3_, h5_5_4_1_3_, ne_.symm, l4_5_, l5_⟩)
  rintro ⟨z5, z6⟩ wj ⟨grj, h5, h6, h56, l5, l6⟩
  have hHeld := HS.out _ grj
  have e5_0 := blk_cell h5 0
  have e5_1 := blk_cell h5 1
  have e5_2 := blk_cell h5 2
  have e5_3 := blk_cell h5 3
  have e5_4 := blk_cell h5 4
  have f5_0 := blk_frozen h5 0
  have f5_1 := blk_frozen h5 1
  have f5_2 := blk_frozen h5 2
  have f5_3 := blk_frozen h5 3
  have f5_4 := blk_frozen h5 4
  refine norm_ (a' := ?_) ?_ ?_
  rotate_left
  · simp only [putAll, Act.put, pkA, pkZ, pkS]
    rfl
  refine last_ (i := 6) (N := none) #[true, true, true, true, true, true, true, false] rfl rfl (by kernel_rfl) (by decide) (fun K hK => ?_)
  refine skip_ (w1 := ?_) (by rfl) rfl ?_ ?_
  rotate_left
  · go_simp
    rfl
  have h5s : (((((wj.setCell ⟨z5, 0, none⟩ (.string x.f0)).setCell ⟨z5, 1, none⟩ (.string x.f1)).setCell ⟨z5, 2, none⟩ (.string x.f2)).setCell ⟨z5, 3, none⟩ (.string x.f3)).setCell ⟨z5, 4, none⟩ (.string x.f4)).heap[z5]? = some (.cells #[.string x.f0, .string x.f1, .string x.f2, .string x.f3, .string x.f4] 96 (0, 0)) := (blk_set (blk_set (blk_set (blk_set (blk_set h5 0 (.string x.f0)) 1 (.string x.f1)) 2 (.string x.f2)) 3 (.string x.f3)) 4 (.string x.f4))
  have g6s : Grn w1 (((((wj.setCell ⟨z5, 0, none⟩ (.string x.f0)).setCell ⟨z5, 1, none⟩ (.string x.f1)).setCell ⟨z5, 2, none⟩ (.string x.f2)).setCell ⟨z5, 3, none⟩ (.string x.f3)).setCell ⟨z5, 4, none⟩ (.string x.f4)) := (((((grj.set (p := ⟨z5, 0, none⟩) l5 _).set (p := ⟨z5, 1, none⟩) l5 _).set (p := ⟨z5, 2, none⟩) l5 _).set (p := ⟨z5, 3, none⟩) l5 _).set (p := ⟨z5, 4, none⟩) l5 _)
  have h6s : (((((wj.setCell ⟨z5, 0, none⟩ (.string x.f0)).setCell ⟨z5, 1, none⟩ (.string x.f1)).setCell ⟨z5, 2, none⟩ (.string x.f2)).setCell ⟨z5, 3, none⟩ (.string x.f3)).setCell ⟨z5, 4, none⟩ (.string x.f4)).heap[z6]? = some (.cells #[.string ⟨#[]⟩, .string ⟨#[]⟩, .string ⟨#[]⟩, .string ⟨#[]⟩, .string ⟨#[]⟩] 96 (0, 0)) := ((Below.heap_setCell _ _ _ _ (Ne.symm h56)).trans ((Below.heap_setCell _ _ _ _ (Ne.symm h56)).trans ((Below.heap_setCell _ _ _ _ (Ne.symm h56)).trans ((Below.heap_setCell _ _ _ _ (Ne.symm h56)).trans ((Below.heap_setCell _ _ _ _ (Ne.symm h56)).trans h6)))))
  obtain ⟨w6, hw6⟩ : ∃ W, (((((wj.setCell ⟨z5, 0, none⟩ (.string x.f0)).setCell ⟨z5, 1, none⟩ (.string x.f1)).setCell ⟨z5, 2, none⟩ (.string x.f2)).setCell ⟨z5, 3, none⟩ (.string x.f3)).setCell ⟨z5, 4, none⟩ (.string x.f4)) = W := ⟨_, rfl⟩
  rw [hw6] at h5s g6s h6s ⊢
  clear hw6
  have e6_0 := blk_cell h6s 0
  have e6_1 := blk_cell h6s 1
  have e6_2 := blk_cell h6s 2
  have e6_3 := blk_cell h6s 3
  have e6_4 := blk_cell h6s 4
  have f6_0 := blk_frozen h6s 0
  have f6_1 := blk_frozen h6s 1
  have f6_2 := blk_frozen h6s 2
  have f6_3 := blk_frozen h6s 3
  have f6_4 := blk_frozen h6s 4
  refine hK.out _ _ ?_
  clear hK K
  refine last_ (i := 7) (N := none) #[true, true, true, true, true, true, true, true] rfl rfl (by kernel_rfl) (by decide) (fun K hK => ?_)
  refine skip_ (w1 := ?_) (by rfl) rfl ?_ ?_
  rotate_left
  · go_simp
    rfl
  have h6t : (((((w6.setCell ⟨z6, 0, none⟩ (.string y.f0)).setCell ⟨z6, 1, none⟩ (.string y.f1)).setCell ⟨z6, 2, none⟩ (.string y.f2)).setCell ⟨z6, 3, none⟩ (.string y.f3)).setCell ⟨z6, 4, none⟩ (.string y.f4)).heap[z6]? = some (.cells #[.string y.f0, .string y.f1, .string y.f2, .string y.f3, .string y.f4] 96 (0, 0)) := (blk_set (blk_set (blk_set (blk_set (blk_set h6s 0 (.string y.f0)) 1 (.string y.f1)) 2 (.string y.f2)) 3 (.string y.f3)) 4 (.string y.f4))
  have g7s : Grn w1 (((((w6.setCell ⟨z6, 0, none⟩ (.string y.f0)).setCell ⟨z6, 1, none⟩ (.string y.f1)).setCell ⟨z6, 2, none⟩ (.string y.f2)).setCell ⟨z6, 3, none⟩ (.string y.f3)).setCell ⟨z6, 4, none⟩ (.string y.f4)) := (((((g6s.set (p := ⟨z6, 0, none⟩) l6 _).set (p := ⟨z6, 1, none⟩) l6 _).set (p := ⟨z6, 2, none⟩) l6 _).set (p := ⟨z6, 3, none⟩) l6 _).set (p := ⟨z6, 4, none⟩) l6 _)
  have h5t : (((((w6.setCell ⟨z6, 0, none⟩ (.string y.f0)).setCell ⟨z6, 1, none⟩ (.string y.f1)).setCell ⟨z6, 2, none⟩ (.string y.f2)).setCell ⟨z6, 3, none⟩ (.string y.f3)).setCell ⟨z6, 4, none⟩ (.string y.f4)).heap[z5]? = some (.cells #[.string x.f0, .string x.f1, .string x.f2, .string x.f3, .string x.f4] 96 (0, 0)) := ((Below.heap_setCell _ _ _ _ h56).trans ((Below.heap_setCell _ _ _ _ h56).trans ((Below.heap_setCell _ _ _ _ h56).trans ((Below.heap_setCell _ _ _ _ h56).trans ((Below.heap_setCell _ _ _ _ h56).trans h5s)))))
  obtain ⟨w7, hw7⟩ : ∃ W, (((((w6.setCell ⟨z6, 0, none⟩ (.string y.f0)).setCell ⟨z6, 1, none⟩ (.string y.f1)).setCell ⟨z6, 2, none⟩ (.string y.f2)).setCell ⟨z6, 3, none⟩ (.string y.f3)).setCell ⟨z6, 4, none⟩ (.string y.f4)) = W := ⟨_, rfl⟩
  rw [hw7] at h6t g7s h5t ⊢
  clear hw7
  refine hK.out _ _ ?_
  clear hK K
  refine done_ (by kernel_rfl) ?_
  have g0 : Grn w w7 := gr0.trans g7s
  clear gr_ HS gr0 g7s hx2 hy1 h5 h6 h5s h6s g6s grj hHeld e5_0 f5_0 e6_0 f6_0 e5_1 f5_1 e6_1 f6_1 e5_2 f5_2 e6_2 f6_2 e5_3 f5_3 e6_3 f6_3 e5_4 f5_4 e6_4 f6_4
  have hcl5 : ∀ (x : S50) (k : Nat) (_ : k < 5), (#[.string x.f0, .string x.f1, .string x.f2, .string x.f3, .string x.f4] : Array Value)[k]? = some (.string (keyL x)[k]!) := by
    intro x k hk
    rcases (by omega : k = 0 ∨ k = 1 ∨ k = 2 ∨ k = 3 ∨ k = 4) with rfl | rfl | rfl | rfl | rfl <;> rfl
  have HCL := Lib.hid hcl5
  clear hcl5
  go_wp2
  go_loopg [13] 5 (fun gk v13 wr => ∃ (k : Nat), gk = 5 - k ∧ k ≤ 5 ∧ v13 = .int .i64 k ∧ Grn w wr ∧ wr.heap[z5]? = some (.cells #[.string x.f0, .string x.f1, .string x.f2, .string x.f3, .string x.f4] 96 (0, 0)) ∧ wr.heap[z6]? = some (.cells #[.string y.f0, .string y.f1, .string y.f2, .string y.f3, .string y.f4] 96 (0, 0)) ∧ Hid (cmpL ((keyL x).drop k) ((keyL y).drop k) = keyCmp x y))
  case atStart => exact ⟨0, rfl, by omega, rfl, g0, h5t, h6t, Lib.hid rfl⟩
  case round =>
    obtain ⟨k, rfl, hk, rfl, hg, hb5, hb6, HI⟩ := hrel
    clear h5t h6t g0
    by_cases hlt : k < 5
    · have hltz : (k : Int) < 5 := by omega
      obtain ⟨a, ha⟩ : ∃ a, (keyL x)[k]! = a := ⟨_, rfl⟩
      obtain ⟨b, hb⟩ : ∃ b, (keyL y)[k]! = b := ⟨_, rfl⟩
      have HI2 : Hid ((if Lib.compareBytes a.data.toList b.data.toList = 0 then cmpL ((keyL x).drop (k + 1)) ((keyL y).drop (k + 1)) else Lib.compareBytes a.data.toList b.data.toList) = keyCmp x y) := Lib.hid (by
        have h0 := HI.out
        have hlx : k < (keyL x).length := hlt
        have hly : k < (keyL y).length := hlt
        rw [List.drop_eq_getElem_cons hlx, List.drop_eq_getElem_cons hly, cmpL, ← getElem!_pos (keyL x) k hlx, ← getElem!_pos (keyL y) k hly, ha, hb] at h0
        exact h0)
      have HS5 := Lib.hid (show ∀ w' : World, Grn wr w' → w'.cell? ⟨z5, k, none⟩ = some (.string a) ∧ w'.cell? ⟨z6, k, none⟩ = some (.string b) from fun w' gr => ⟨(blk_cell (gr.blk hb5) k).trans ((HCL.out x k hlt).trans (by rw [ha])), (blk_cell (gr.blk hb6) k).trans ((HCL.out y k hlt).trans (by rw [hb]))⟩)
      clear ha hb HI
      obtain ⟨c, hc⟩ : ∃ c, Lib.compareBytes a.data.toList b.data.toList = c := ⟨_, rfl⟩
      have HC := Lib.hid hc
      rw [hc] at HI2
      clear hc
      go_upto_region 5 with fail
      have gr5 : Grn wr wr.drew := (Grn.refl _).drew
      refine start_ (n := 8) (S := fun w' => w'.cell? ⟨z5, k, none⟩ = some (.string a) ∧ w'.cell? ⟨z6, k, none⟩ = some (.string b)) (ds := []) #[false, false, false, false, false, false, false, false] (by kernel_rfl) rfl rfl ⟨(HS5.out _ gr5).1, (HS5.out _ gr5).2⟩ (fun hHeld => ?_)
      refine pure_ (i := 0) (N := some 16) (v := ?_) (a' := ?_) #[true, false, false, false, false, false, false, false] rfl rfl (by kernel_rfl) (fun _ _ _ h => h) (Or.inl ⟨by rfl, ?_⟩) ?_ ?_
      rotate_left
      · intro w'
        go_simp
        with_reducible rfl
      rotate_left
      · simp only [Act.put, pkA, pkZ, pkS, i64_w, i32_w]
        rfl
      refine pure_ (i := 1) (N := some 17) (v := ?_) (a' := ?_) #[true, true, false, false, false, false, false, false] rfl rfl (by kernel_rfl) (fun _ _ _ h => h) (Or.inl ⟨by rfl, ?_⟩) ?_ ?_
      rotate_left
      · intro w'
        go_simp
        with_reducible rfl
      rotate_left
      · simp only [Act.put, pkA, pkZ, pkS, i64_w, i32_w]
        rfl
      refine pure_ (i := 3) (N := some 19) (v := ?_) (a' := ?_) #[true, true, false, true, false, false, false, false] rfl rfl (by kernel_rfl) (fun _ _ _ h => h) (Or.inl ⟨by rfl, ?_⟩) ?_ ?_
      rotate_left
      · intro w'
        go_simp
        with_reducible rfl
      rotate_left
      · simp only [Act.put, pkA, pkZ, pkS, i64_w, i32_w]
        rfl
      refine pure_ (i := 4) (N := some 20) (v := ?_) (a' := ?_) #[true, true, false, true, true, false, false, false] rfl rfl (by kernel_rfl) (fun _ _ _ h => h) (Or.inl ⟨by rfl, ?_⟩) ?_ ?_
      rotate_left
      · intro w'
        go_simp
        with_reducible rfl
      rotate_left
      · simp only [Act.put, pkA, pkZ, pkS, i64_w, i32_w]
        rfl
      refine take_ (i := 2) (N := some 18) (v := ?_) (a' := ?_) #[true, true, true, true, true, false, false, false] rfl rfl (by kernel_rfl) (fun _ _ _ h => h) (Or.inl ⟨by rfl, ?_⟩) hHeld ?_ ?_
      rotate_left
      · rintro w' ⟨s0, s1⟩
        go_simp
        with_reducible rfl
      rotate_left
      · simp only [Act.put, pkA, pkZ, pkS, i64_w, i32_w]
        rfl
      refine take_ (i := 5) (N := some 21) (v := ?_) (a' := ?_) #[true, true, true, true, true, true, false, false] rfl rfl (by kernel_rfl) (fun _ _ _ h => h) (Or.inl ⟨by rfl, ?_⟩) hHeld ?_ ?_
      rotate_left
      · rintro w' ⟨s0, s1⟩
        go_simp
        with_reducible rfl
      rotate_left
      · simp only [Act.put, pkA, pkZ, pkS, i64_w, i32_w]
        rfl
      refine one_ (i := 6) (N := some 22) #[true, true, true, true, true, true, true, false] rfl rfl (by kernel_rfl) (by decide) (fun K hK => ?_)
      refine goes_ Try.func57 (by kernel_rfl) rfl #[.string a, .string b] (by rfl) rfl rfl (by simp only [List.map_toArray, List.map_cons, List.map_nil]; rfl) ?_
      refine (go_compare a b _).mono ?_
      rw [HC.out]
      rintro e w6 ⟨rfl, hw6⟩
      subst hw6
      refine ⟨_, rfl, ?_⟩
      refine hK.out _ _ ⟨(HS5.out _ gr5).1, (HS5.out _ gr5).2⟩ (fun hHeld => ?_)
      clear hK K
      refine norm_ (a' := ?_) ?_ ?_
      rotate_left
      · show Act.put _ (some 22) _ = _
        simp only [Act.put, pkA, pkZ, pkS, i64_w, i32_w]
        rfl
      refine pure_ (i := 7) (N := some 8) (v := ?_) (a' := ?_) #[true, true, true, true, true, true, true, true] rfl rfl (by kernel_rfl) (fun _ _ _ h => h) (Or.inl ⟨by rfl, ?_⟩) ?_ ?_
      rotate_left
      · intro w'
        go_simp
        with_reducible rfl
      rotate_left
      · simp only [Act.put, pkA, pkZ, pkS, i64_w, i32_w]
        rfl
      refine done_ (by kernel_rfl) ?_
      obtain ⟨wn, hwn⟩ : ∃ W, wr.drew = W := ⟨_, rfl⟩
      rw [hwn] at gr5 ⊢
      have hg1 := hg.trans gr5
      have hb51 := gr5.blk hb5
      have hb61 := gr5.blk hb6
      clear hwn hHeld
      by_cases hc0 : c = 0
      · have hc1 : (c == 0) = true := by rw [hc0]; rfl
        have HI3 : Hid (cmpL ((keyL x).drop (k + 1)) ((keyL y).drop (k + 1)) = keyCmp x y) := Lib.hid (by rw [← HI2.out, if_pos hc0])
        clear hc0
        go_wp2
        go_roundg (5 - (k + 1))
        case measure => omega
        case rel => exact ⟨k + 1, rfl, by omega, by go_num, hg1, hb51, hb61, HI3⟩
      · have hc1 : (c == 0) = false := beq_eq_false_iff_ne.mpr hc0
        have HI3 : Hid (c = keyCmp x y) := Lib.hid (by rw [← HI2.out, if_neg hc0])
        clear hc0
        go_wp2
        go_ret
        exact ⟨by rw [← HI3.out]; rfl, hg1⟩
    · have hk5 : k = 5 := by omega
      subst hk5
      have HI3 : Hid (0 = keyCmp x y) := HI
      go_wp2
      go_ret
      exact ⟨by rw [← HI3.out]; rfl, hg⟩
end Go.Proofs.Ytdlilbleohlmnaa.PAq
namespace Go.Proofs.Ytdlilbleohlmnaa.PAq
open Go.RowKit Go.Proofs.YtdlilbleohlmnaaW.PrintWords Go.Proofs.YtdlilbleohlmnaaW.PrintLast
set_option linter.unusedVariables false
set_option linter.unusedSimpArgs false
mutual
def accountinglaw45_large.j0 : Nat → Bool → ByteArray → ByteArray → Int → Int → Int → ByteArray → ByteArray → ByteArray → ByteArray → List (S52) → Option (Bool)
  | 0, _, _, _, _, _, _, _, _, _, _, _ => none
  | k + 1, x47, x141000, x141001, x141002, x141003, x141004, x141005, x141006, x141007, x141008, x141009 => if x47 = true then (some true) else (accountinglaw45_large.l0 k 0 x141000 x141001 x141002 x141003 x141004 x141005 x141006 x141007 x141008 x141009)
def accountinglaw45_large.l0 : Nat → Int → ByteArray → ByteArray → Int → Int → Int → ByteArray → ByteArray → ByteArray → ByteArray → List (S52) → Option (Bool)
  | 0, _, _, _, _, _, _, _, _, _, _, _ => none
  | k + 1, x4, x141000, x141001, x141002, x141003, x141004, x141005, x141006, x141007, x141008, x141009 => if x4 < (x141009.length : Int) then (if 0 ≤ x4 then (if (wrap64 ((wrap64 ((wrap64 ((wrap64 ((((rd_T52 x141009 x4).f0.f0).size : Int) + (((rd_T52 x141009 x4).f0.f1).size : Int))) + (((rd_T52 x141009 x4).f0.f2).size : Int))) + (((rd_T52 x141009 x4).f0.f3).size : Int))) + (((rd_T52 x141009 x4).f0.f4).size : Int))) > 400 then (some true) else (accountinglaw45_large.l0 k (wrap64 (x4 + 1)) x141000 x141001 x141002 x141003 x141004 x141005 x141006 x141007 x141008 x141009)) else (none)) else (some false)
end
def accountinglaw45_large.f (k : Nat) (l0_0 : List (S62)) (a0_1 : ByteArray) (a0_2 : ByteArray) (a0_3 : Int) (a0_4 : Int) (a0_5 : Int) (a0_6 : ByteArray) (a0_7 : ByteArray) (a0_8 : ByteArray) (a0_9 : ByteArray) (l0_10 : List (S52)) (a0_11 : ByteArray) (a0_12 : Int) : Option (Bool) := if (l0_0.length : Int) > 60 then (accountinglaw45_large.j0 k true a0_1 a0_2 a0_3 a0_4 a0_5 a0_6 a0_7 a0_8 a0_9 l0_10) else (if (l0_10.length : Int) > 60 then (accountinglaw45_large.j0 k true a0_1 a0_2 a0_3 a0_4 a0_5 a0_6 a0_7 a0_8 a0_9 l0_10) else (accountinglaw45_large.j0 k (decide ((wrap64 ((wrap64 ((wrap64 ((wrap64 ((wrap64 ((wrap64 ((a0_1.size : Int) + (a0_2.size : Int))) + (a0_6.size : Int))) + (a0_7.size : Int))) + (a0_8.size : Int))) + (a0_9.size : Int))) + (a0_11.size : Int))) > 400)) a0_1 a0_2 a0_3 a0_4 a0_5 a0_6 a0_7 a0_8 a0_9 l0_10))
set_option maxHeartbeats 8000000 in
set_option maxRecDepth 100000 in
theorem accountinglaw45_large.calls (k : Nat) (A0_0 : Option Addr) (c0_0 : Nat) (l0_0 : List (S62)) (a0_1 : ByteArray) (a0_2 : ByteArray) (a0_3 : Int) (a0_4 : Int) (a0_5 : Int) (a0_6 : ByteArray) (a0_7 : ByteArray) (a0_8 : ByteArray) (a0_9 : ByteArray) (A0_10 : Option Addr) (c0_10 : Nat) (l0_10 : List (S52)) (a0_11 : ByteArray) (a0_12 : Int) (r : Bool) (w : World) (hr0_0 : Kd.C k62 w A0_0 l0_0.length l0_0) (hc0_0 : l0_0.length ≤ c0_0) (hr0_10 : Kd.C k52 w A0_10 l0_10.length l0_10) (hc0_10 : l0_10.length ≤ c0_10) (h : accountinglaw45_large.f k l0_0 a0_1 a0_2 a0_3 a0_4 a0_5 a0_6 a0_7 a0_8 a0_9 l0_10 a0_11 a0_12 = some r) :
    Calls Try.prog 15 #[.agg #[.slice A0_0 l0_0.length c0_0, .string a0_1, .string a0_2, .int .i64 a0_3, .int .i64 a0_4, .int .i64 a0_5, .string a0_6, .string a0_7, .string a0_8, .string a0_9, .slice A0_10 l0_10.length c0_10, .string a0_11, .int .i64 a0_12]] w fun e w' => e = .returned (.bool r) ∧ Below w.heap.size w w' := by
  have hu38 := Try.underlying38
  have hu36 := Try.underlying36
  have hu50 := Try.underlying50
  have HR0_0 := Aside0.mk hr0_0
  have HC0_0 := Aside0.mk hc0_0
  clear hr0_0 hc0_0
  have HR0_10 := Aside0.mk hr0_10
  have HC0_10 := Aside0.mk hc0_10
  clear hr0_10 hc0_10
  have HB := Aside0.mk (Below.refl w.heap.size w)
  have H : (if (l0_0.length : Int) > 60 then (accountinglaw45_large.j0 k true a0_1 a0_2 a0_3 a0_4 a0_5 a0_6 a0_7 a0_8 a0_9 l0_10) else (if (l0_10.length : Int) > 60 then (accountinglaw45_large.j0 k true a0_1 a0_2 a0_3 a0_4 a0_5 a0_6 a0_7 a0_8 a0_9 l0_10) else (accountinglaw45_large.j0 k (decide ((wrap64 ((wrap64 ((wrap64 ((wrap64 ((wrap64 ((wrap64 ((a0_1.size : Int) + (a0_2.size : Int))) + (a0_6.size : Int))) + (a0_7.size : Int))) + (a0_8.size : Int))) + (a0_9.size : Int))) + (a0_11.size : Int))) > 400)) a0_1 a0_2 a0_3 a0_4 a0_5 a0_6 a0_7 a0_8 a0_9 l0_10))) = some r := h
  clear h
  have HC2 := Aside0.mk H
  clear H
  go_enter Try.func15, Try.ntmps15
  go_upto_region 2 with (first | ((with_reducible refine gate_dst (N := 1) rfl ?_); (try (refine gate_guard (by rfl) ?_; dsimp only)); refine box_event ?hg (N := 1) ?hd (cs := #[.slice A0_0 l0_0.length c0_0, .string a0_1, .string a0_2, .int .i64 a0_3, .int .i64 a0_4, .int .i64 a0_5, .string a0_6, .string a0_7, .string a0_8, .string a0_9, .slice A0_10 l0_10.length c0_10, .string a0_11, .int .i64 a0_12]) (t := 38) ?hr ?_; (case hd => rfl); (case hg => rfl); (case hr => first | (go_simp; done) | (go_simp; rfl)); intro gb139 hg w3 hbox hb; have n0_ := Aside0.mk (below_step (by repeat (first | (with_reducible first | exact HB.out | apply below_alloc | apply pw_below_drewN | apply below_drew1) | exact HB.out)) hb); have n1_ := Aside0.mk (hbox); have n2_ := Aside0.mk ((by rw [hg]; exact (below_size (by repeat (first | (with_reducible first | exact HB.out | apply below_alloc | apply pw_below_drewN | apply below_drew1) | exact HB.out))) : w.heap.size ≤ gb139)); have n3_ := Aside0.mk ((by rw [hg]; exact (below_size (by repeat (first | (with_reducible first | exact HB.out | apply below_alloc | apply pw_below_drewN | apply below_drew1) | exact HB.out))) : w.heap.size ≤ gb139)); clear HB; have HB := n0_; have BK139 := n1_; have GW139 := n2_; have GE139 := n3_; clear n0_ n1_ n2_ n3_; clear hb hbox hg; have hcz4_0 : w3.cell? ⟨gb139, 0, none⟩ = some (.slice A0_0 l0_0.length c0_0) := (blk_cell BK139.out 0).trans rfl; have hcz4_1 : w3.cell? ⟨gb139, 1, none⟩ = some (.string a0_1) := (blk_cell BK139.out 1).trans rfl; have hcz4_2 : w3.cell? ⟨gb139, 2, none⟩ = some (.string a0_2) := (blk_cell BK139.out 2).trans rfl; have hcz4_3 : w3.cell? ⟨gb139, 3, none⟩ = some (.int .i64 a0_3) := (blk_cell BK139.out 3).trans rfl; have hcz4_4 : w3.cell? ⟨gb139, 4, none⟩ = some (.int .i64 a0_4) := (blk_cell BK139.out 4).trans rfl; have hcz4_5 : w3.cell? ⟨gb139, 5, none⟩ = some (.int .i64 a0_5) := (blk_cell BK139.out 5).trans rfl; have hcz4_6 : w3.cell? ⟨gb139, 6, none⟩ = some (.string a0_6) := (blk_cell BK139.out 6).trans rfl; have hcz4_7 : w3.cell? ⟨gb139, 7, none⟩ = some (.string a0_7) := (blk_cell BK139.out 7).trans rfl; have hcz4_8 : w3.cell? ⟨gb139, 8, none⟩ = some (.string a0_8) := (blk_cell BK139.out 8).trans rfl; have hcz4_9 : w3.cell? ⟨gb139, 9, none⟩ = some (.string a0_9) := (blk_cell BK139.out 9).trans rfl; have hcz4_10 : w3.cell? ⟨gb139, 10, none⟩ = some (.slice A0_10 l0_10.length c0_10) := (blk_cell BK139.out 10).trans rfl; have hcz4_11 : w3.cell? ⟨gb139, 11, none⟩ = some (.string a0_11) := (blk_cell BK139.out 11).trans rfl; have hcz4_12 : w3.cell? ⟨gb139, 12, none⟩ = some (.int .i64 a0_12) := (blk_cell BK139.out 12).trans rfl; have hfz4_0 := blk_frozen BK139.out 0; have hfz4_1 := blk_frozen BK139.out 1; have hfz4_2 := blk_frozen BK139.out 2; have hfz4_3 := blk_frozen BK139.out 3; have hfz4_4 := blk_frozen BK139.out 4; have hfz4_5 := blk_frozen BK139.out 5; have hfz4_6 := blk_frozen BK139.out 6; have hfz4_7 := blk_frozen BK139.out 7; have hfz4_8 := blk_frozen BK139.out 8; have hfz4_9 := blk_frozen BK139.out 9; have hfz4_10 := blk_frozen BK139.out 10; have hfz4_11 := blk_frozen BK139.out 11; have hfz4_12 := blk_frozen BK139.out 12) | ((with_reducible refine gate_dst (N := 3) rfl ?_); (try (refine gate_guard (by rfl) ?_; dsimp only)); refine box_event ?hg (N := 3) ?hd (cs := #[.string (⟨#[]⟩ : ByteArray), .string (⟨#[]⟩ : ByteArray), .int .i64 0, .int .i64 0, .int .i64 0, .string (⟨#[]⟩ : ByteArray), .string (⟨#[]⟩ : ByteArray), .string (⟨#[]⟩ : ByteArray), .string (⟨#[]⟩ : ByteArray), .slice none 0 0]) (t := 36) ?hr ?_; (case hd => rfl); (case hg => rfl); (case hr => first | (go_simp; done) | (go_simp; rfl)); intro gb140 hg w5 hbox hb; have n0_ := Aside0.mk (blk_below (g := gb139) (o := .cells #[.slice A0_0 l0_0.length c0_0, .string a0_1, .string a0_2, .int .i64 a0_3, .int .i64 a0_4, .int .i64 a0_5, .string a0_6, .string a0_7, .string a0_8, .string a0_9, .slice A0_10 l0_10.length c0_10, .string a0_11, .int .i64 a0_12] 38 (0, 0)) (by (with_reducible repeat (first | refine blk_drewN ?_ _ | refine blk_drew ?_ | refine blk_alloc ?_ _)); exact BK139.out) hb); have n1_ := Aside0.mk (below_step (by repeat (first | (with_reducible first | exact HB.out | apply below_alloc | apply pw_below_drewN | apply below_drew1 | refine below_set ?_ GE139.out) | exact HB.out)) hb); have n2_ := Aside0.mk (hbox); have n3_ := Aside0.mk ((by rw [hg]; exact (below_size (by repeat (first | (with_reducible first | exact HB.out | apply below_alloc | apply pw_below_drewN | apply below_drew1 | refine below_set ?_ GE139.out) | exact HB.out))) : w.heap.size ≤ gb140)); have n4_ := Aside0.mk ((by rw [hg]; exact (below_size (by repeat (first | (with_reducible first | exact HB.out | apply below_alloc | apply pw_below_drewN | apply below_drew1 | refine below_set ?_ GE139.out) | exact HB.out))) : w.heap.size ≤ gb140)); have n5_ := Aside0.mk ((by rw [hg]; exact Nat.ne_of_lt (blk_lt (g := gb139) (o := .cells #[.slice A0_0 l0_0.length c0_0, .string a0_1, .string a0_2, .int .i64 a0_3, .int .i64 a0_4, .int .i64 a0_5, .string a0_6, .string a0_7, .string a0_8, .string a0_9, .slice A0_10 l0_10.length c0_10, .string a0_11, .int .i64 a0_12] 38 (0, 0)) (by (with_reducible repeat (first | refine blk_drewN ?_ _ | refine blk_drew ?_ | refine blk_alloc ?_ _)); exact BK139.out)) : gb139 ≠ gb140)); have n6_ := Aside0.mk ((by rw [hg]; exact Nat.ne_of_gt (blk_lt (g := gb139) (o := .cells #[.slice A0_0 l0_0.length c0_0, .string a0_1, .string a0_2, .int .i64 a0_3, .int .i64 a0_4, .int .i64 a0_5, .string a0_6, .string a0_7, .string a0_8, .string a0_9, .slice A0_10 l0_10.length c0_10, .string a0_11, .int .i64 a0_12] 38 (0, 0)) (by (with_reducible repeat (first | refine blk_drewN ?_ _ | refine blk_drew ?_ | refine blk_alloc ?_ _)); exact BK139.out)) : gb140 ≠ gb139)); clear BK139; clear HB; have BK139 := n0_; have HB := n1_; have BK140 := n2_; have GW140 := n3_; have GE140 := n4_; have NB139_140 := n5_; have NB140_139 := n6_; clear n0_ n1_ n2_ n3_ n4_ n5_ n6_; clear hb hbox hg; have hnb6 := NB140_139.out; have hnc6 := NB139_140.out; have hcz7_0 : w5.cell? ⟨gb140, 0, none⟩ = some (.string (⟨#[]⟩ : ByteArray)) := (blk_cell BK140.out 0).trans rfl; have hcz7_1 : w5.cell? ⟨gb140, 1, none⟩ = some (.string (⟨#[]⟩ : ByteArray)) := (blk_cell BK140.out 1).trans rfl; have hcz7_2 : w5.cell? ⟨gb140, 2, none⟩ = some (.int .i64 0) := (blk_cell BK140.out 2).trans rfl; have hcz7_3 : w5.cell? ⟨gb140, 3, none⟩ = some (.int .i64 0) := (blk_cell BK140.out 3).trans rfl; have hcz7_4 : w5.cell? ⟨gb140, 4, none⟩ = some (.int .i64 0) := (blk_cell BK140.out 4).trans rfl; have hcz7_5 : w5.cell? ⟨gb140, 5, none⟩ = some (.string (⟨#[]⟩ : ByteArray)) := (blk_cell BK140.out 5).trans rfl; have hcz7_6 : w5.cell? ⟨gb140, 6, none⟩ = some (.string (⟨#[]⟩ : ByteArray)) := (blk_cell BK140.out 6).trans rfl; have hcz7_7 : w5.cell? ⟨gb140, 7, none⟩ = some (.string (⟨#[]⟩ : ByteArray)) := (blk_cell BK140.out 7).trans rfl; have hcz7_8 : w5.cell? ⟨gb140, 8, none⟩ = some (.string (⟨#[]⟩ : ByteArray)) := (blk_cell BK140.out 8).trans rfl; have hcz7_9 : w5.cell? ⟨gb140, 9, none⟩ = some (.slice none 0 0) := (blk_cell BK140.out 9).trans rfl; have hfz7_0 := blk_frozen BK140.out 0; have hfz7_1 := blk_frozen BK140.out 1; have hfz7_2 := blk_frozen BK140.out 2; have hfz7_3 := blk_frozen BK140.out 3; have hfz7_4 := blk_frozen BK140.out 4; have hfz7_5 := blk_frozen BK140.out 5; have hfz7_6 := blk_frozen BK140.out 6; have hfz7_7 := blk_frozen BK140.out 7; have hfz7_8 := blk_frozen BK140.out 8; have hfz7_9 := blk_frozen BK140.out 9))
  (try simp only [Act.put, pkA, pkZ, pkS])
  go_cut [47] (fun v47 wc => ∃ (kq : Nat) (x47_1 : Bool), v47 = .bool x47_1 ∧ Aside0 (accountinglaw45_large.j0 kq x47_1 a0_1 a0_2 a0_3 a0_4 a0_5 a0_6 a0_7 a0_8 a0_9 l0_10 = some r) ∧ Aside0 (kq ≤ k) ∧ Aside0 (wc.heap[gb139]? = some (.cells #[(.slice A0_0 l0_0.length c0_0), .string a0_1, .string a0_2, .int .i64 a0_3, .int .i64 a0_4, .int .i64 a0_5, .string a0_6, .string a0_7, .string a0_8, .string a0_9, (.slice A0_10 l0_10.length c0_10), .string a0_11, .int .i64 a0_12] 38 (0, 0))) ∧ Aside0 (wc.heap[gb140]? = some (.cells #[.string a0_1, .string a0_2, .int .i64 a0_3, .int .i64 a0_4, .int .i64 a0_5, .string a0_6, .string a0_7, .string a0_8, .string a0_9, (.slice A0_10 l0_10.length c0_10)] 36 (0, 0))) ∧ Aside0 (Below w.heap.size w wc))
  case first =>
    have H := HC2.out
    clear HC2
    by_cases c8 : (l0_0.length : Int) > 60
    · rw [if_pos c8] at H
      have c8b0 : decide (60 < (l0_0.length : Int)) = true := decide_eq_true c8
      have c8b1 : decide (60 < l0_0.length) = true := decide_eq_true (by omega)
      clear c8
      (first | rw [c8b0] | (simp only [i64_w, i32_w]; rw [c8b0]) | skip)
      have H' := Aside0.mk H
      clear H
      have hnb9 := NB139_140.out
      have hnc9 := NB140_139.out
      have hcz10_0 : w5.cell? ⟨gb139, 0, none⟩ = some (.slice A0_0 l0_0.length c0_0) := (blk_cell BK139.out 0).trans rfl
      have hcz10_1 : w5.cell? ⟨gb139, 1, none⟩ = some (.string a0_1) := (blk_cell BK139.out 1).trans rfl
      have hcz10_2 : w5.cell? ⟨gb139, 2, none⟩ = some (.string a0_2) := (blk_cell BK139.out 2).trans rfl
      have hcz10_3 : w5.cell? ⟨gb139, 3, none⟩ = some (.int .i64 a0_3) := (blk_cell BK139.out 3).trans rfl
      have hcz10_4 : w5.cell? ⟨gb139, 4, none⟩ = some (.int .i64 a0_4) := (blk_cell BK139.out 4).trans rfl
      have hcz10_5 : w5.cell? ⟨gb139, 5, none⟩ = some (.int .i64 a0_5) := (blk_cell BK139.out 5).trans rfl
      have hcz10_6 : w5.cell? ⟨gb139, 6, none⟩ = some (.string a0_6) := (blk_cell BK139.out 6).trans rfl
      have hcz10_7 : w5.cell? ⟨gb139, 7, none⟩ = some (.string a0_7) := (blk_cell BK139.out 7).trans rfl
      have hcz10_8 : w5.cell? ⟨gb139, 8, none⟩ = some (.string a0_8) := (blk_cell BK139.out 8).trans rfl
      have hcz10_9 : w5.cell? ⟨gb139, 9, none⟩ = some (.string a0_9) := (blk_cell BK139.out 9).trans rfl
      have hcz10_10 : w5.cell? ⟨gb139, 10, none⟩ = some (.slice A0_10 l0_10.length c0_10) := (blk_cell BK139.out 10).trans rfl
      have hcz10_11 : w5.cell? ⟨gb139, 11, none⟩ = some (.string a0_11) := (blk_cell BK139.out 11).trans rfl
      have hcz10_12 : w5.cell? ⟨gb139, 12, none⟩ = some (.int .i64 a0_12) := (blk_cell BK139.out 12).trans rfl
      have hfz10_0 := blk_frozen BK139.out 0
      have hfz10_1 := blk_frozen BK139.out 1
      have hfz10_2 := blk_frozen BK139.out 2
      have hfz10_3 := blk_frozen BK139.out 3
      have hfz10_4 := blk_frozen BK139.out 4
      have hfz10_5 := blk_frozen BK139.out 5
      have hfz10_6 := blk_frozen BK139.out 6
      have hfz10_7 := blk_frozen BK139.out 7
      have hfz10_8 := blk_frozen BK139.out 8
      have hfz10_9 := blk_frozen BK139.out 9
      have hfz10_10 := blk_frozen BK139.out 10
      have hfz10_11 := blk_frozen BK139.out 11
      have hfz10_12 := blk_frozen BK139.out 12
      go_wp2
      go_meet
      case rel => exact ⟨_, (true), (by first | rfl | (simp; done) | (simp [*]; done)), H', ⟨by first | omega | exact Nat.le_refl _⟩, ⟨by (with_reducible repeat (first | refine blk_drewN ?_ _ | refine blk_drew ?_ | refine blk_alloc ?_ _)); refine blk_far ?_ NB139_140.out _; (with_reducible repeat (first | refine blk_drewN ?_ _ | refine blk_drew ?_ | refine blk_alloc ?_ _)); refine blk_far ?_ NB139_140.out _; (with_reducible repeat (first | refine blk_drewN ?_ _ | refine blk_drew ?_ | refine blk_alloc ?_ _)); refine blk_far ?_ NB139_140.out _; (with_reducible repeat (first | refine blk_drewN ?_ _ | refine blk_drew ?_ | refine blk_alloc ?_ _)); refine blk_far ?_ NB139_140.out _; (with_reducible repeat (first | refine blk_drewN ?_ _ | refine blk_drew ?_ | refine blk_alloc ?_ _)); refine blk_far ?_ NB139_140.out _; (with_reducible repeat (first | refine blk_drewN ?_ _ | refine blk_drew ?_ | refine blk_alloc ?_ _)); refine blk_far ?_ NB139_140.out _; (with_reducible repeat (first | refine blk_drewN ?_ _ | refine blk_drew ?_ | refine blk_alloc ?_ _)); refine blk_far ?_ NB139_140.out _; (with_reducible repeat (first | refine blk_drewN ?_ _ | refine blk_drew ?_ | refine blk_alloc ?_ _)); refine blk_far ?_ NB139_140.out _; (with_reducible repeat (first | refine blk_drewN ?_ _ | refine blk_drew ?_ | refine blk_alloc ?_ _)); refine blk_far ?_ NB139_140.out _; (with_reducible repeat (first | refine blk_drewN ?_ _ | refine blk_drew ?_ | refine blk_alloc ?_ _)); refine blk_far ?_ NB139_140.out _; (with_reducible repeat (first | refine blk_drewN ?_ _ | refine blk_drew ?_ | refine blk_alloc ?_ _)); exact BK139.out⟩, ⟨by (with_reducible repeat (first | refine blk_drewN ?_ _ | refine blk_drew ?_ | refine blk_alloc ?_ _)); refine blk_put (cs := #[.string a0_1, .string a0_2, .int .i64 a0_3, .int .i64 a0_4, .int .i64 a0_5, .string a0_6, .string a0_7, .string a0_8, .string a0_9, .slice none 0 0]) ?_ 9 _ rfl; (with_reducible repeat (first | refine blk_drewN ?_ _ | refine blk_drew ?_ | refine blk_alloc ?_ _)); refine blk_put (cs := #[.string a0_1, .string a0_2, .int .i64 a0_3, .int .i64 a0_4, .int .i64 a0_5, .string a0_6, .string a0_7, .string a0_8, .string (⟨#[]⟩ : ByteArray), .slice none 0 0]) ?_ 8 _ rfl; (with_reducible repeat (first | refine blk_drewN ?_ _ | refine blk_drew ?_ | refine blk_alloc ?_ _)); refine blk_put (cs := #[.string a0_1, .string a0_2, .int .i64 a0_3, .int .i64 a0_4, .int .i64 a0_5, .string a0_6, .string a0_7, .string (⟨#[]⟩ : ByteArray), .string (⟨#[]⟩ : ByteArray), .slice none 0 0]) ?_ 7 _ rfl; (with_reducible repeat (first | refine blk_drewN ?_ _ | refine blk_drew ?_ | refine blk_alloc ?_ _)); refine blk_put (cs := #[.string a0_1, .string a0_2, .int .i64 a0_3, .int .i64 a0_4, .int .i64 a0_5, .string a0_6, .string (⟨#[]⟩ : ByteArray), .string (⟨#[]⟩ : ByteArray), .string (⟨#[]⟩ : ByteArray), .slice none 0 0]) ?_ 6 _ rfl; (with_reducible repeat (first | refine blk_drewN ?_ _ | refine blk_drew ?_ | refine blk_alloc ?_ _)); refine blk_put (cs := #[.string a0_1, .string a0_2, .int .i64 a0_3, .int .i64 a0_4, .int .i64 a0_5, .string (⟨#[]⟩ : ByteArray), .string (⟨#[]⟩ : ByteArray), .string (⟨#[]⟩ : ByteArray), .string (⟨#[]⟩ : ByteArray), .slice none 0 0]) ?_ 5 _ rfl; (with_reducible repeat (first | refine blk_drewN ?_ _ | refine blk_drew ?_ | refine blk_alloc ?_ _)); refine blk_put (cs := #[.string a0_1, .string a0_2, .int .i64 a0_3, .int .i64 a0_4, .int .i64 0, .string (⟨#[]⟩ : ByteArray), .string (⟨#[]⟩ : ByteArray), .string (⟨#[]⟩ : ByteArray), .string (⟨#[]⟩ : ByteArray), .slice none 0 0]) ?_ 4 _ rfl; (with_reducible repeat (first | refine blk_drewN ?_ _ | refine blk_drew ?_ | refine blk_alloc ?_ _)); refine blk_put (cs := #[.string a0_1, .string a0_2, .int .i64 a0_3, .int .i64 0, .int .i64 0, .string (⟨#[]⟩ : ByteArray), .string (⟨#[]⟩ : ByteArray), .string (⟨#[]⟩ : ByteArray), .string (⟨#[]⟩ : ByteArray), .slice none 0 0]) ?_ 3 _ rfl; (with_reducible repeat (first | refine blk_drewN ?_ _ | refine blk_drew ?_ | refine blk_alloc ?_ _)); refine blk_put (cs := #[.string a0_1, .string a0_2, .int .i64 0, .int .i64 0, .int .i64 0, .string (⟨#[]⟩ : ByteArray), .string (⟨#[]⟩ : ByteArray), .string (⟨#[]⟩ : ByteArray), .string (⟨#[]⟩ : ByteArray), .slice none 0 0]) ?_ 2 _ rfl; (with_reducible repeat (first | refine blk_drewN ?_ _ | refine blk_drew ?_ | refine blk_alloc ?_ _)); refine blk_put (cs := #[.string a0_1, .string (⟨#[]⟩ : ByteArray), .int .i64 0, .int .i64 0, .int .i64 0, .string (⟨#[]⟩ : ByteArray), .string (⟨#[]⟩ : ByteArray), .string (⟨#[]⟩ : ByteArray), .string (⟨#[]⟩ : ByteArray), .slice none 0 0]) ?_ 1 _ rfl; (with_reducible repeat (first | refine blk_drewN ?_ _ | refine blk_drew ?_ | refine blk_alloc ?_ _)); refine blk_put (cs := #[.string (⟨#[]⟩ : ByteArray), .string (⟨#[]⟩ : ByteArray), .int .i64 0, .int .i64 0, .int .i64 0, .string (⟨#[]⟩ : ByteArray), .string (⟨#[]⟩ : ByteArray), .string (⟨#[]⟩ : ByteArray), .string (⟨#[]⟩ : ByteArray), .slice none 0 0]) ?_ 0 _ rfl; (with_reducible repeat (first | refine blk_drewN ?_ _ | refine blk_drew ?_ | refine blk_alloc ?_ _)); exact BK140.out⟩, ⟨by repeat (first | (with_reducible first | exact HB.out | apply below_alloc | apply pw_below_drewN | apply below_drew1 | refine below_set ?_ GE139.out | refine below_set ?_ GE140.out) | exact HB.out)⟩⟩
    · rw [if_neg c8] at H
      have c8b0 : decide (60 < (l0_0.length : Int)) = false := decide_eq_false c8
      have c8b1 : decide (60 < l0_0.length) = false := decide_eq_false (by omega)
      clear c8
      (first | rw [c8b0] | (simp only [i64_w, i32_w]; rw [c8b0]) | skip)
      by_cases c11 : (l0_10.length : Int) > 60
      · rw [if_pos c11] at H
        have c11b0 : decide (60 < (l0_10.length : Int)) = true := decide_eq_true c11
        have c11b1 : decide (60 < l0_10.length) = true := decide_eq_true (by omega)
        clear c11
        have H' := Aside0.mk H
        clear H
        have hnb12 := NB139_140.out
        have hnc12 := NB140_139.out
        have hcz13_0 : w5.cell? ⟨gb139, 0, none⟩ = some (.slice A0_0 l0_0.length c0_0) := (blk_cell BK139.out 0).trans rfl
        have hcz13_1 : w5.cell? ⟨gb139, 1, none⟩ = some (.string a0_1) := (blk_cell BK139.out 1).trans rfl
        have hcz13_2 : w5.cell? ⟨gb139, 2, none⟩ = some (.string a0_2) := (blk_cell BK139.out 2).trans rfl
        have hcz13_3 : w5.cell? ⟨gb139, 3, none⟩ = some (.int .i64 a0_3) := (blk_cell BK139.out 3).trans rfl
        have hcz13_4 : w5.cell? ⟨gb139, 4, none⟩ = some (.int .i64 a0_4) := (blk_cell BK139.out 4).trans rfl
        have hcz13_5 : w5.cell? ⟨gb139, 5, none⟩ = some (.int .i64 a0_5) := (blk_cell BK139.out 5).trans rfl
        have hcz13_6 : w5.cell? ⟨gb139, 6, none⟩ = some (.string a0_6) := (blk_cell BK139.out 6).trans rfl
        have hcz13_7 : w5.cell? ⟨gb139, 7, none⟩ = some (.string a0_7) := (blk_cell BK139.out 7).trans rfl
        have hcz13_8 : w5.cell? ⟨gb139, 8, none⟩ = some (.string a0_8) := (blk_cell BK139.out 8).trans rfl
        have hcz13_9 : w5.cell? ⟨gb139, 9, none⟩ = some (.string a0_9) := (blk_cell BK139.out 9).trans rfl
        have hcz13_10 : w5.cell? ⟨gb139, 10, none⟩ = some (.slice A0_10 l0_10.length c0_10) := (blk_cell BK139.out 10).trans rfl
        have hcz13_11 : w5.cell? ⟨gb139, 11, none⟩ = some (.string a0_11) := (blk_cell BK139.out 11).trans rfl
        have hcz13_12 : w5.cell? ⟨gb139, 12, none⟩ = some (.int .i64 a0_12) := (blk_cell BK139.out 12).trans rfl
        have hfz13_0 := blk_frozen BK139.out 0
        have hfz13_1 := blk_frozen BK139.out 1
        have hfz13_2 := blk_frozen BK139.out 2
        have hfz13_3 := blk_frozen BK139.out 3
        have hfz13_4 := blk_frozen BK139.out 4
        have hfz13_5 := blk_frozen BK139.out 5
        have hfz13_6 := blk_frozen BK139.out 6
        have hfz13_7 := blk_frozen BK139.out 7
        have hfz13_8 := blk_frozen BK139.out 8
        have hfz13_9 := blk_frozen BK139.out 9
        have hfz13_10 := blk_frozen BK139.out 10
        have hfz13_11 := blk_frozen BK139.out 11
        have hfz13_12 := blk_frozen BK139.out 12
        have hcz14_0 : w5.cell? ⟨gb140, 0, none⟩ = some (.string (⟨#[]⟩ : ByteArray)) := (blk_cell BK140.out 0).trans rfl
        have hcz14_1 : w5.cell? ⟨gb140, 1, none⟩ = some (.string (⟨#[]⟩ : ByteArray)) := (blk_cell BK140.out 1).trans rfl
        have hcz14_2 : w5.cell? ⟨gb140, 2, none⟩ = some (.int .i64 0) := (blk_cell BK140.out 2).trans rfl
        have hcz14_3 : w5.cell? ⟨gb140, 3, none⟩ = some (.int .i64 0) := (blk_cell BK140.out 3).trans rfl
        have hcz14_4 : w5.cell? ⟨gb140, 4, none⟩ = some (.int .i64 0) := (blk_cell BK140.out 4).trans rfl
        have hcz14_5 : w5.cell? ⟨gb140, 5, none⟩ = some (.string (⟨#[]⟩ : ByteArray)) := (blk_cell BK140.out 5).trans rfl
        have hcz14_6 : w5.cell? ⟨gb140, 6, none⟩ = some (.string (⟨#[]⟩ : ByteArray)) := (blk_cell BK140.out 6).trans rfl
        have hcz14_7 : w5.cell? ⟨gb140, 7, none⟩ = some (.string (⟨#[]⟩ : ByteArray)) := (blk_cell BK140.out 7).trans rfl
        have hcz14_8 : w5.cell? ⟨gb140, 8, none⟩ = some (.string (⟨#[]⟩ : ByteArray)) := (blk_cell BK140.out 8).trans rfl
        have hcz14_9 : w5.cell? ⟨gb140, 9, none⟩ = some (.slice none 0 0) := (blk_cell BK140.out 9).trans rfl
        have hfz14_0 := blk_frozen BK140.out 0
        have hfz14_1 := blk_frozen BK140.out 1
        have hfz14_2 := blk_frozen BK140.out 2
        have hfz14_3 := blk_frozen BK140.out 3
        have hfz14_4 := blk_frozen BK140.out 4
        have hfz14_5 := blk_frozen BK140.out 5
        have hfz14_6 := blk_frozen BK140.out 6
        have hfz14_7 := blk_frozen BK140.out 7
        have hfz14_8 := blk_frozen BK140.out 8
        have hfz14_9 := blk_frozen BK140.out 9
        go_wp2
        go_meet
        case rel => exact ⟨_, (true), (by first | rfl | (simp; done) | (simp [*]; done)), H', ⟨by first | omega | exact Nat.le_refl _⟩, ⟨by (with_reducible repeat (first | refine blk_drewN ?_ _ | refine blk_drew ?_ | refine blk_alloc ?_ _)); refine blk_far ?_ NB139_140.out _; (with_reducible repeat (first | refine blk_drewN ?_ _ | refine blk_drew ?_ | refine blk_alloc ?_ _)); refine blk_far ?_ NB139_140.out _; (with_reducible repeat (first | refine blk_drewN ?_ _ | refine blk_drew ?_ | refine blk_alloc ?_ _)); refine blk_far ?_ NB139_140.out _; (with_reducible repeat (first | refine blk_drewN ?_ _ | refine blk_drew ?_ | refine blk_alloc ?_ _)); refine blk_far ?_ NB139_140.out _; (with_reducible repeat (first | refine blk_drewN ?_ _ | refine blk_drew ?_ | refine blk_alloc ?_ _)); refine blk_far ?_ NB139_140.out _; (with_reducible repeat (first | refine blk_drewN ?_ _ | refine blk_drew ?_ | refine blk_alloc ?_ _)); refine blk_far ?_ NB139_140.out _; (with_reducible repeat (first | refine blk_drewN ?_ _ | refine blk_drew ?_ | refine blk_alloc ?_ _)); refine blk_far ?_ NB139_140.out _; (with_reducible repeat (first | refine blk_drewN ?_ _ | refine blk_drew ?_ | refine blk_alloc ?_ _)); refine blk_far ?_ NB139_140.out _; (with_reducible repeat (first | refine blk_drewN ?_ _ | refine blk_drew ?_ | refine blk_alloc ?_ _)); refine blk_far ?_ NB139_140.out _; (with_reducible repeat (first | refine blk_drewN ?_ _ | refine blk_drew ?_ | refine blk_alloc ?_ _)); refine blk_far ?_ NB139_140.out _; (with_reducible repeat (first | refine blk_drewN ?_ _ | refine blk_drew ?_ | refine blk_alloc ?_ _)); exact BK139.out⟩, ⟨by (with_reducible repeat (first | refine blk_drewN ?_ _ | refine blk_drew ?_ | refine blk_alloc ?_ _)); refine blk_put (cs := #[.string a0_1, .string a0_2, .int .i64 a0_3, .int .i64 a0_4, .int .i64 a0_5, .string a0_6, .string a0_7, .string a0_8, .string a0_9, .slice none 0 0]) ?_ 9 _ rfl; (with_reducible repeat (first | refine blk_drewN ?_ _ | refine blk_drew ?_ | refine blk_alloc ?_ _)); refine blk_put (cs := #[.string a0_1, .string a0_2, .int .i64 a0_3, .int .i64 a0_4, .int .i64 a0_5, .string a0_6, .string a0_7, .string a0_8, .string (⟨#[]⟩ : ByteArray), .slice none 0 0]) ?_ 8 _ rfl; (with_reducible repeat (first | refine blk_drewN ?_ _ | refine blk_drew ?_ | refine blk_alloc ?_ _)); refine blk_put (cs := #[.string a0_1, .string a0_2, .int .i64 a0_3, .int .i64 a0_4, .int .i64 a0_5, .string a0_6, .string a0_7, .string (⟨#[]⟩ : ByteArray), .string (⟨#[]⟩ : ByteArray), .slice none 0 0]) ?_ 7 _ rfl; (with_reducible repeat (first | refine blk_drewN ?_ _ | refine blk_drew ?_ | refine blk_alloc ?_ _)); refine blk_put (cs := #[.string a0_1, .string a0_2, .int .i64 a0_3, .int .i64 a0_4, .int .i64 a0_5, .string a0_6, .string (⟨#[]⟩ : ByteArray), .string (⟨#[]⟩ : ByteArray), .string (⟨#[]⟩ : ByteArray), .slice none 0 0]) ?_ 6 _ rfl; (with_reducible repeat (first | refine blk_drewN ?_ _ | refine blk_drew ?_ | refine blk_alloc ?_ _)); refine blk_put (cs := #[.string a0_1, .string a0_2, .int .i64 a0_3, .int .i64 a0_4, .int .i64 a0_5, .string (⟨#[]⟩ : ByteArray), .string (⟨#[]⟩ : ByteArray), .string (⟨#[]⟩ : ByteArray), .string (⟨#[]⟩ : ByteArray), .slice none 0 0]) ?_ 5 _ rfl; (with_reducible repeat (first | refine blk_drewN ?_ _ | refine blk_drew ?_ | refine blk_alloc ?_ _)); refine blk_put (cs := #[.string a0_1, .string a0_2, .int .i64 a0_3, .int .i64 a0_4, .int .i64 0, .string (⟨#[]⟩ : ByteArray), .string (⟨#[]⟩ : ByteArray), .string (⟨#[]⟩ : ByteArray), .string (⟨#[]⟩ : ByteArray), .slice none 0 0]) ?_ 4 _ rfl; (with_reducible repeat (first | refine blk_drewN ?_ _ | refine blk_drew ?_ | refine blk_alloc ?_ _)); refine blk_put (cs := #[.string a0_1, .string a0_2, .int .i64 a0_3, .int .i64 0, .int .i64 0, .string (⟨#[]⟩ : ByteArray), .string (⟨#[]⟩ : ByteArray), .string (⟨#[]⟩ : ByteArray), .string (⟨#[]⟩ : ByteArray), .slice none 0 0]) ?_ 3 _ rfl; (with_reducible repeat (first | refine blk_drewN ?_ _ | refine blk_drew ?_ | refine blk_alloc ?_ _)); refine blk_put (cs := #[.string a0_1, .string a0_2, .int .i64 0, .int .i64 0, .int .i64 0, .string (⟨#[]⟩ : ByteArray), .string (⟨#[]⟩ : ByteArray), .string (⟨#[]⟩ : ByteArray), .string (⟨#[]⟩ : ByteArray), .slice none 0 0]) ?_ 2 _ rfl; (with_reducible repeat (first | refine blk_drewN ?_ _ | refine blk_drew ?_ | refine blk_alloc ?_ _)); refine blk_put (cs := #[.string a0_1, .string (⟨#[]⟩ : ByteArray), .int .i64 0, .int .i64 0, .int .i64 0, .string (⟨#[]⟩ : ByteArray), .string (⟨#[]⟩ : ByteArray), .string (⟨#[]⟩ : ByteArray), .string (⟨#[]⟩ : ByteArray), .slice none 0 0]) ?_ 1 _ rfl; (with_reducible repeat (first | refine blk_drewN ?_ _ | refine blk_drew ?_ | refine blk_alloc ?_ _)); refine blk_put (cs := #[.string (⟨#[]⟩ : ByteArray), .string (⟨#[]⟩ : ByteArray), .int .i64 0, .int .i64 0, .int .i64 0, .string (⟨#[]⟩ : ByteArray), .string (⟨#[]⟩ : ByteArray), .string (⟨#[]⟩ : ByteArray), .string (⟨#[]⟩ : ByteArray), .slice none 0 0]) ?_ 0 _ rfl; (with_reducible repeat (first | refine blk_drewN ?_ _ | refine blk_drew ?_ | refine blk_alloc ?_ _)); exact BK140.out⟩, ⟨by repeat (first | (with_reducible first | exact HB.out | apply below_alloc | apply pw_below_drewN | apply below_drew1 | refine below_set ?_ GE139.out | refine below_set ?_ GE140.out) | exact HB.out)⟩⟩
      · rw [if_neg c11] at H
        have c11b0 : decide (60 < (l0_10.length : Int)) = false := decide_eq_false c11
        have c11b1 : decide (60 < l0_10.length) = false := decide_eq_false (by omega)
        clear c11
        have H' := Aside0.mk H
        clear H
        have hnb15 := NB139_140.out
        have hnc15 := NB140_139.out
        have hcz16_0 : w5.cell? ⟨gb139, 0, none⟩ = some (.slice A0_0 l0_0.length c0_0) := (blk_cell BK139.out 0).trans rfl
        have hcz16_1 : w5.cell? ⟨gb139, 1, none⟩ = some (.string a0_1) := (blk_cell BK139.out 1).trans rfl
        have hcz16_2 : w5.cell? ⟨gb139, 2, none⟩ = some (.string a0_2) := (blk_cell BK139.out 2).trans rfl
        have hcz16_3 : w5.cell? ⟨gb139, 3, none⟩ = some (.int .i64 a0_3) := (blk_cell BK139.out 3).trans rfl
        have hcz16_4 : w5.cell? ⟨gb139, 4, none⟩ = some (.int .i64 a0_4) := (blk_cell BK139.out 4).trans rfl
        have hcz16_5 : w5.cell? ⟨gb139, 5, none⟩ = some (.int .i64 a0_5) := (blk_cell BK139.out 5).trans rfl
        have hcz16_6 : w5.cell? ⟨gb139, 6, none⟩ = some (.string a0_6) := (blk_cell BK139.out 6).trans rfl
        have hcz16_7 : w5.cell? ⟨gb139, 7, none⟩ = some (.string a0_7) := (blk_cell BK139.out 7).trans rfl
        have hcz16_8 : w5.cell? ⟨gb139, 8, none⟩ = some (.string a0_8) := (blk_cell BK139.out 8).trans rfl
        have hcz16_9 : w5.cell? ⟨gb139, 9, none⟩ = some (.string a0_9) := (blk_cell BK139.out 9).trans rfl
        have hcz16_10 : w5.cell? ⟨gb139, 10, none⟩ = some (.slice A0_10 l0_10.length c0_10) := (blk_cell BK139.out 10).trans rfl
        have hcz16_11 : w5.cell? ⟨gb139, 11, none⟩ = some (.string a0_11) := (blk_cell BK139.out 11).trans rfl
        have hcz16_12 : w5.cell? ⟨gb139, 12, none⟩ = some (.int .i64 a0_12) := (blk_cell BK139.out 12).trans rfl
        have hfz16_0 := blk_frozen BK139.out 0
        have hfz16_1 := blk_frozen BK139.out 1
        have hfz16_2 := blk_frozen BK139.out 2
        have hfz16_3 := blk_frozen BK139.out 3
        have hfz16_4 := blk_frozen BK139.out 4
        have hfz16_5 := blk_frozen BK139.out 5
        have hfz16_6 := blk_frozen BK139.out 6
        have hfz16_7 := blk_frozen BK139.out 7
        have hfz16_8 := blk_frozen BK139.out 8
        have hfz16_9 := blk_frozen BK139.out 9
        have hfz16_10 := blk_frozen BK139.out 10
        have hfz16_11 := blk_frozen BK139.out 11
        have hfz16_12 := blk_frozen BK139.out 12
        have hcz17_0 : w5.cell? ⟨gb140, 0, none⟩ = some (.string (⟨#[]⟩ : ByteArray)) := (blk_cell BK140.out 0).trans rfl
        have hcz17_1 : w5.cell? ⟨gb140, 1, none⟩ = some (.string (⟨#[]⟩ : ByteArray)) := (blk_cell BK140.out 1).trans rfl
        have hcz17_2 : w5.cell? ⟨gb140, 2, none⟩ = some (.int .i64 0) := (blk_cell BK140.out 2).trans rfl
        have hcz17_3 : w5.cell? ⟨gb140, 3, none⟩ = some (.int .i64 0) := (blk_cell BK140.out 3).trans rfl
        have hcz17_4 : w5.cell? ⟨gb140, 4, none⟩ = some (.int .i64 0) := (blk_cell BK140.out 4).trans rfl
        have hcz17_5 : w5.cell? ⟨gb140, 5, none⟩ = some (.string (⟨#[]⟩ : ByteArray)) := (blk_cell BK140.out 5).trans rfl
        have hcz17_6 : w5.cell? ⟨gb140, 6, none⟩ = some (.string (⟨#[]⟩ : ByteArray)) := (blk_cell BK140.out 6).trans rfl
        have hcz17_7 : w5.cell? ⟨gb140, 7, none⟩ = some (.string (⟨#[]⟩ : ByteArray)) := (blk_cell BK140.out 7).trans rfl
        have hcz17_8 : w5.cell? ⟨gb140, 8, none⟩ = some (.string (⟨#[]⟩ : ByteArray)) := (blk_cell BK140.out 8).trans rfl
        have hcz17_9 : w5.cell? ⟨gb140, 9, none⟩ = some (.slice none 0 0) := (blk_cell BK140.out 9).trans rfl
        have hfz17_0 := blk_frozen BK140.out 0
        have hfz17_1 := blk_frozen BK140.out 1
        have hfz17_2 := blk_frozen BK140.out 2
        have hfz17_3 := blk_frozen BK140.out 3
        have hfz17_4 := blk_frozen BK140.out 4
        have hfz17_5 := blk_frozen BK140.out 5
        have hfz17_6 := blk_frozen BK140.out 6
        have hfz17_7 := blk_frozen BK140.out 7
        have hfz17_8 := blk_frozen BK140.out 8
        have hfz17_9 := blk_frozen BK140.out 9
        go_wp2
        go_meet
        case rel => exact ⟨_, (decide ((wrap64 ((wrap64 ((wrap64 ((wrap64 ((wrap64 ((wrap64 ((a0_1.size : Int) + (a0_2.size : Int))) + (a0_6.size : Int))) + (a0_7.size : Int))) + (a0_8.size : Int))) + (a0_9.size : Int))) + (a0_11.size : Int))) > 400)), (by first | rfl | (simp; done) | (simp [*]; done)), H', ⟨by first | omega | exact Nat.le_refl _⟩, ⟨by (with_reducible repeat (first | refine blk_drewN ?_ _ | refine blk_drew ?_ | refine blk_alloc ?_ _)); refine blk_far ?_ NB139_140.out _; (with_reducible repeat (first | refine blk_drewN ?_ _ | refine blk_drew ?_ | refine blk_alloc ?_ _)); refine blk_far ?_ NB139_140.out _; (with_reducible repeat (first | refine blk_drewN ?_ _ | refine blk_drew ?_ | refine blk_alloc ?_ _)); refine blk_far ?_ NB139_140.out _; (with_reducible repeat (first | refine blk_drewN ?_ _ | refine blk_drew ?_ | refine blk_alloc ?_ _)); refine blk_far ?_ NB139_140.out _; (with_reducible repeat (first | refine blk_drewN ?_ _ | refine blk_drew ?_ | refine blk_alloc ?_ _)); refine blk_far ?_ NB139_140.out _; (with_reducible repeat (first | refine blk_drewN ?_ _ | refine blk_drew ?_ | refine blk_alloc ?_ _)); refine blk_far ?_ NB139_140.out _; (with_reducible repeat (first | refine blk_drewN ?_ _ | refine blk_drew ?_ | refine blk_alloc ?_ _)); refine blk_far ?_ NB139_140.out _; (with_reducible repeat (first | refine blk_drewN ?_ _ | refine blk_drew ?_ | refine blk_alloc ?_ _)); refine blk_far ?_ NB139_140.out _; (with_reducible repeat (first | refine blk_drewN ?_ _ | refine blk_drew ?_ | refine blk_alloc ?_ _)); refine blk_far ?_ NB139_140.out _; (with_reducible repeat (first | refine blk_drewN ?_ _ | refine blk_drew ?_ | refine blk_alloc ?_ _)); refine blk_far ?_ NB139_140.out _; (with_reducible repeat (first | refine blk_drewN ?_ _ | refine blk_drew ?_ | refine blk_alloc ?_ _)); exact BK139.out⟩, ⟨by (with_reducible repeat (first | refine blk_drewN ?_ _ | refine blk_drew ?_ | refine blk_alloc ?_ _)); refine blk_put (cs := #[.string a0_1, .string a0_2, .int .i64 a0_3, .int .i64 a0_4, .int .i64 a0_5, .string a0_6, .string a0_7, .string a0_8, .string a0_9, .slice none 0 0]) ?_ 9 _ rfl; (with_reducible repeat (first | refine blk_drewN ?_ _ | refine blk_drew ?_ | refine blk_alloc ?_ _)); refine blk_put (cs := #[.string a0_1, .string a0_2, .int .i64 a0_3, .int .i64 a0_4, .int .i64 a0_5, .string a0_6, .string a0_7, .string a0_8, .string (⟨#[]⟩ : ByteArray), .slice none 0 0]) ?_ 8 _ rfl; (with_reducible repeat (first | refine blk_drewN ?_ _ | refine blk_drew ?_ | refine blk_alloc ?_ _)); refine blk_put (cs := #[.string a0_1, .string a0_2, .int .i64 a0_3, .int .i64 a0_4, .int .i64 a0_5, .string a0_6, .string a0_7, .string (⟨#[]⟩ : ByteArray), .string (⟨#[]⟩ : ByteArray), .slice none 0 0]) ?_ 7 _ rfl; (with_reducible repeat (first | refine blk_drewN ?_ _ | refine blk_drew ?_ | refine blk_alloc ?_ _)); refine blk_put (cs := #[.string a0_1, .string a0_2, .int .i64 a0_3, .int .i64 a0_4, .int .i64 a0_5, .string a0_6, .string (⟨#[]⟩ : ByteArray), .string (⟨#[]⟩ : ByteArray), .string (⟨#[]⟩ : ByteArray), .slice none 0 0]) ?_ 6 _ rfl; (with_reducible repeat (first | refine blk_drewN ?_ _ | refine blk_drew ?_ | refine blk_alloc ?_ _)); refine blk_put (cs := #[.string a0_1, .string a0_2, .int .i64 a0_3, .int .i64 a0_4, .int .i64 a0_5, .string (⟨#[]⟩ : ByteArray), .string (⟨#[]⟩ : ByteArray), .string (⟨#[]⟩ : ByteArray), .string (⟨#[]⟩ : ByteArray), .slice none 0 0]) ?_ 5 _ rfl; (with_reducible repeat (first | refine blk_drewN ?_ _ | refine blk_drew ?_ | refine blk_alloc ?_ _)); refine blk_put (cs := #[.string a0_1, .string a0_2, .int .i64 a0_3, .int .i64 a0_4, .int .i64 0, .string (⟨#[]⟩ : ByteArray), .string (⟨#[]⟩ : ByteArray), .string (⟨#[]⟩ : ByteArray), .string (⟨#[]⟩ : ByteArray), .slice none 0 0]) ?_ 4 _ rfl; (with_reducible repeat (first | refine blk_drewN ?_ _ | refine blk_drew ?_ | refine blk_alloc ?_ _)); refine blk_put (cs := #[.string a0_1, .string a0_2, .int .i64 a0_3, .int .i64 0, .int .i64 0, .string (⟨#[]⟩ : ByteArray), .string (⟨#[]⟩ : ByteArray), .string (⟨#[]⟩ : ByteArray), .string (⟨#[]⟩ : ByteArray), .slice none 0 0]) ?_ 3 _ rfl; (with_reducible repeat (first | refine blk_drewN ?_ _ | refine blk_drew ?_ | refine blk_alloc ?_ _)); refine blk_put (cs := #[.string a0_1, .string a0_2, .int .i64 0, .int .i64 0, .int .i64 0, .string (⟨#[]⟩ : ByteArray), .string (⟨#[]⟩ : ByteArray), .string (⟨#[]⟩ : ByteArray), .string (⟨#[]⟩ : ByteArray), .slice none 0 0]) ?_ 2 _ rfl; (with_reducible repeat (first | refine blk_drewN ?_ _ | refine blk_drew ?_ | refine blk_alloc ?_ _)); refine blk_put (cs := #[.string a0_1, .string (⟨#[]⟩ : ByteArray), .int .i64 0, .int .i64 0, .int .i64 0, .string (⟨#[]⟩ : ByteArray), .string (⟨#[]⟩ : ByteArray), .string (⟨#[]⟩ : ByteArray), .string (⟨#[]⟩ : ByteArray), .slice none 0 0]) ?_ 1 _ rfl; (with_reducible repeat (first | refine blk_drewN ?_ _ | refine blk_drew ?_ | refine blk_alloc ?_ _)); refine blk_put (cs := #[.string (⟨#[]⟩ : ByteArray), .string (⟨#[]⟩ : ByteArray), .int .i64 0, .int .i64 0, .int .i64 0, .string (⟨#[]⟩ : ByteArray), .string (⟨#[]⟩ : ByteArray), .string (⟨#[]⟩ : ByteArray), .string (⟨#[]⟩ : ByteArray), .slice none 0 0]) ?_ 0 _ rfl; (with_reducible repeat (first | refine blk_drewN ?_ _ | refine blk_drew ?_ | refine blk_alloc ?_ _)); exact BK140.out⟩, ⟨by repeat (first | (with_reducible first | exact HB.out | apply below_alloc | apply pw_below_drewN | apply below_drew1 | refine below_set ?_ GE139.out | refine below_set ?_ GE140.out) | exact HB.out)⟩⟩
  case rest =>
    clear HC2
    try clear c1
    try clear p2
    try clear c6
    try clear p6
    try clear c8
    try clear c8b0
    try clear c8b1
    try clear c9
    try clear c11
    try clear c11b0
    try clear c11b1
    try clear c12
    try clear c15
    try clear hcz10_0
    try clear hcz10_1
    try clear hcz10_10
    try clear hcz10_11
    try clear hcz10_12
    try clear hcz10_2
    try clear hcz10_3
    try clear hcz10_4
    try clear hcz10_5
    try clear hcz10_6
    try clear hcz10_7
    try clear hcz10_8
    try clear hcz10_9
    try clear hcz13_0
    try clear hcz13_1
    try clear hcz13_10
    try clear hcz13_11
    try clear hcz13_12
    try clear hcz13_2
    try clear hcz13_3
    try clear hcz13_4
    try clear hcz13_5
    try clear hcz13_6
    try clear hcz13_7
    try clear hcz13_8
    try clear hcz13_9
    try clear hcz14_0
    try clear hcz14_1
    try clear hcz14_2
    try clear hcz14_3
    try clear hcz14_4
    try clear hcz14_5
    try clear hcz14_6
    try clear hcz14_7
    try clear hcz14_8
    try clear hcz14_9
    try clear hcz16_0
    try clear hcz16_1
    try clear hcz16_10
    try clear hcz16_11
    try clear hcz16_12
    try clear hcz16_2
    try clear hcz16_3
    try clear hcz16_4
    try clear hcz16_5
    try clear hcz16_6
    try clear hcz16_7
    try clear hcz16_8
    try clear hcz16_9
    try clear hcz17_0
    try clear hcz17_1
    try clear hcz17_2
    try clear hcz17_3
    try clear hcz17_4
    try clear hcz17_5
    try clear hcz17_6
    try clear hcz17_7
    try clear hcz17_8
    try clear hcz17_9
    try clear hcz4_0
    try clear hcz4_1
    try clear hcz4_10
    try clear hcz4_11
    try clear hcz4_12
    try clear hcz4_2
    try clear hcz4_3
    try clear hcz4_4
    try clear hcz4_5
    try clear hcz4_6
    try clear hcz4_7
    try clear hcz4_8
    try clear hcz4_9
    try clear hcz7_0
    try clear hcz7_1
    try clear hcz7_2
    try clear hcz7_3
    try clear hcz7_4
    try clear hcz7_5
    try clear hcz7_6
    try clear hcz7_7
    try clear hcz7_8
    try clear hcz7_9
    try clear hfz10_0
    try clear hfz10_1
    try clear hfz10_10
    try clear hfz10_11
    try clear hfz10_12
    try clear hfz10_2
    try clear hfz10_3
    try clear hfz10_4
    try clear hfz10_5
    try clear hfz10_6
    try clear hfz10_7
    try clear hfz10_8
    try clear hfz10_9
    try clear hfz13_0
    try clear hfz13_1
    try clear hfz13_10
    try clear hfz13_11
    try clear hfz13_12
    try clear hfz13_2
    try clear hfz13_3
    try clear hfz13_4
    try clear hfz13_5
    try clear hfz13_6
    try clear hfz13_7
    try clear hfz13_8
    try clear hfz13_9
    try clear hfz14_0
    try clear hfz14_1
    try clear hfz14_2
    try clear hfz14_3
    try clear hfz14_4
    try clear hfz14_5
    try clear hfz14_6
    try clear hfz14_7
    try clear hfz14_8
    try clear hfz14_9
    try clear hfz16_0
    try clear hfz16_1
    try clear hfz16_10
    try clear hfz16_11
    try clear hfz16_12
    try clear hfz16_2
    try clear hfz16_3
    try clear hfz16_4
    try clear hfz16_5
    try clear hfz16_6
    try clear hfz16_7
    try clear hfz16_8
    try clear hfz16_9
    try clear hfz17_0
    try clear hfz17_1
    try clear hfz17_2
    try clear hfz17_3
    try clear hfz17_4
    try clear hfz17_5
    try clear hfz17_6
    try clear hfz17_7
    try clear hfz17_8
    try clear hfz17_9
    try clear hfz4_0
    try clear hfz4_1
    try clear hfz4_10
    try clear hfz4_11
    try clear hfz4_12
    try clear hfz4_2
    try clear hfz4_3
    try clear hfz4_4
    try clear hfz4_5
    try clear hfz4_6
    try clear hfz4_7
    try clear hfz4_8
    try clear hfz4_9
    try clear hfz7_0
    try clear hfz7_1
    try clear hfz7_2
    try clear hfz7_3
    try clear hfz7_4
    try clear hfz7_5
    try clear hfz7_6
    try clear hfz7_7
    try clear hfz7_8
    try clear hfz7_9
    obtain ⟨kq, x47_1, rfl, HA, HJ1, BK139, BK140, HB⟩ := hcut
    cases kq with
    | zero => exact absurd HA.out (by simp [accountinglaw45_large.j0])
    | succ kj1 =>
      have H := HA.out
      clear HA
      simp only [accountinglaw45_large.j0] at H
      by_cases c18 : x47_1 = true
      · subst c18
        have H1 : (some true) = some r := by rw [if_pos rfl] at H; exact H
        clear H
        have H := H1
        clear H1
        obtain rfl := Option.some.inj H
        go_wp2
        go_ret
        exact ⟨by first | rfl | (simp [errW_none, errW_some] <;> rfl) | (simp [*, errW_none, errW_some] <;> rfl), by repeat (first | (with_reducible first | exact HB.out | apply below_alloc | apply pw_below_drewN | apply below_drew1 | refine below_set ?_ GE139.out | refine below_set ?_ GE140.out) | exact HB.out)⟩
      · replace c18 := Bool.eq_false_iff.mpr c18
        subst c18
        have H1 : (accountinglaw45_large.l0 kj1 0 a0_1 a0_2 a0_3 a0_4 a0_5 a0_6 a0_7 a0_8 a0_9 l0_10) = some r := by rw [if_neg (show ¬ (false = true) by decide)] at H; exact H
        clear H
        have H := H1
        clear H1
        have H' := Aside0.mk H
        clear H
        go_wp2
        go_loopg [4] kj1 (fun kq v4 w' => ∃ (x4_2 : Int), v4 = .int .i64 x4_2 ∧ Aside0 (accountinglaw45_large.l0 kq x4_2 a0_1 a0_2 a0_3 a0_4 a0_5 a0_6 a0_7 a0_8 a0_9 l0_10 = some r) ∧ Aside0 (kq ≤ kj1) ∧ Aside0 (w'.heap[gb139]? = some (.cells #[(.slice A0_0 l0_0.length c0_0), .string a0_1, .string a0_2, .int .i64 a0_3, .int .i64 a0_4, .int .i64 a0_5, .string a0_6, .string a0_7, .string a0_8, .string a0_9, (.slice A0_10 l0_10.length c0_10), .string a0_11, .int .i64 a0_12] 38 (0, 0))) ∧ Aside0 (w'.heap[gb140]? = some (.cells #[.string a0_1, .string a0_2, .int .i64 a0_3, .int .i64 a0_4, .int .i64 a0_5, .string a0_6, .string a0_7, .string a0_8, .string a0_9, (.slice A0_10 l0_10.length c0_10)] 36 (0, 0))) ∧ Aside0 (Below w.heap.size w w'))
        case atStart => exact ⟨(0), (by first | rfl | (simp; done) | (simp [*]; done)), H', ⟨Nat.le_refl _⟩, ⟨by (with_reducible repeat (first | refine blk_drewN ?_ _ | refine blk_drew ?_ | refine blk_alloc ?_ _)); exact BK139.out⟩, ⟨by (with_reducible repeat (first | refine blk_drewN ?_ _ | refine blk_drew ?_ | refine blk_alloc ?_ _)); exact BK140.out⟩, ⟨by repeat (first | (with_reducible first | exact HB.out | apply below_alloc | apply pw_below_drewN | apply below_drew1 | refine below_set ?_ GE139.out | refine below_set ?_ GE140.out) | exact HB.out)⟩⟩
        case round =>
          clear H'
          try clear c1
          try clear p2
          try clear c6
          try clear p6
          try clear c8
          try clear c8b0
          try clear c8b1
          try clear c9
          try clear c11
          try clear c11b0
          try clear c11b1
          try clear c12
          try clear c15
          try clear c18
          try clear hcz10_0
          try clear hcz10_1
          try clear hcz10_10
          try clear hcz10_11
          try clear hcz10_12
          try clear hcz10_2
          try clear hcz10_3
          try clear hcz10_4
          try clear hcz10_5
          try clear hcz10_6
          try clear hcz10_7
          try clear hcz10_8
          try clear hcz10_9
          try clear hcz13_0
          try clear hcz13_1
          try clear hcz13_10
          try clear hcz13_11
          try clear hcz13_12
          try clear hcz13_2
          try clear hcz13_3
          try clear hcz13_4
          try clear hcz13_5
          try clear hcz13_6
          try clear hcz13_7
          try clear hcz13_8
          try clear hcz13_9
          try clear hcz14_0
          try clear hcz14_1
          try clear hcz14_2
          try clear hcz14_3
          try clear hcz14_4
          try clear hcz14_5
          try clear hcz14_6
          try clear hcz14_7
          try clear hcz14_8
          try clear hcz14_9
          try clear hcz16_0
          try clear hcz16_1
          try clear hcz16_10
          try clear hcz16_11
          try clear hcz16_12
          try clear hcz16_2
          try clear hcz16_3
          try clear hcz16_4
          try clear hcz16_5
          try clear hcz16_6
          try clear hcz16_7
          try clear hcz16_8
          try clear hcz16_9
          try clear hcz17_0
          try clear hcz17_1
          try clear hcz17_2
          try clear hcz17_3
          try clear hcz17_4
          try clear hcz17_5
          try clear hcz17_6
          try clear hcz17_7
          try clear hcz17_8
          try clear hcz17_9
          try clear hcz4_0
          try clear hcz4_1
          try clear hcz4_10
          try clear hcz4_11
          try clear hcz4_12
          try clear hcz4_2
          try clear hcz4_3
          try clear hcz4_4
          try clear hcz4_5
          try clear hcz4_6
          try clear hcz4_7
          try clear hcz4_8
          try clear hcz4_9
          try clear hcz7_0
          try clear hcz7_1
          try clear hcz7_2
          try clear hcz7_3
          try clear hcz7_4
          try clear hcz7_5
          try clear hcz7_6
          try clear hcz7_7
          try clear hcz7_8
          try clear hcz7_9
          try clear hfz10_0
          try clear hfz10_1
          try clear hfz10_10
          try clear hfz10_11
          try clear hfz10_12
          try clear hfz10_2
          try clear hfz10_3
          try clear hfz10_4
          try clear hfz10_5
          try clear hfz10_6
          try clear hfz10_7
          try clear hfz10_8
          try clear hfz10_9
          try clear hfz13_0
          try clear hfz13_1
          try clear hfz13_10
          try clear hfz13_11
          try clear hfz13_12
          try clear hfz13_2
          try clear hfz13_3
          try clear hfz13_4
          try clear hfz13_5
          try clear hfz13_6
          try clear hfz13_7
          try clear hfz13_8
          try clear hfz13_9
          try clear hfz14_0
          try clear hfz14_1
          try clear hfz14_2
          try clear hfz14_3
          try clear hfz14_4
          try clear hfz14_5
          try clear hfz14_6
          try clear hfz14_7
          try clear hfz14_8
          try clear hfz14_9
          try clear hfz16_0
          try clear hfz16_1
          try clear hfz16_10
          try clear hfz16_11
          try clear hfz16_12
          try clear hfz16_2
          try clear hfz16_3
          try clear hfz16_4
          try clear hfz16_5
          try clear hfz16_6
          try clear hfz16_7
          try clear hfz16_8
          try clear hfz16_9
          try clear hfz17_0
          try clear hfz17_1
          try clear hfz17_2
          try clear hfz17_3
          try clear hfz17_4
          try clear hfz17_5
          try clear hfz17_6
          try clear hfz17_7
          try clear hfz17_8
          try clear hfz17_9
          try clear hfz4_0
          try clear hfz4_1
          try clear hfz4_10
          try clear hfz4_11
          try clear hfz4_12
          try clear hfz4_2
          try clear hfz4_3
          try clear hfz4_4
          try clear hfz4_5
          try clear hfz4_6
          try clear hfz4_7
          try clear hfz4_8
          try clear hfz4_9
          try clear hfz7_0
          try clear hfz7_1
          try clear hfz7_2
          try clear hfz7_3
          try clear hfz7_4
          try clear hfz7_5
          try clear hfz7_6
          try clear hfz7_7
          try clear hfz7_8
          try clear hfz7_9
          try clear p2
          try clear p6
          obtain ⟨x4_2, rfl, HA, HK2, BK139, BK140, HB⟩ := hrel
          cases gk with
          | zero => exact absurd HA.out (by simp [accountinglaw45_large.l0])
          | succ k2 =>
            have H := HA.out
            clear HA
            simp only [accountinglaw45_large.l0] at H
            by_cases c19 : x4_2 < (l0_10.length : Int)
            · rw [if_pos c19] at H
              have c19b0 : decide (x4_2 < (l0_10.length : Int)) = true := decide_eq_true c19
              clear c19
              by_cases c20 : 0 ≤ x4_2
              · rw [if_pos c20] at H
                have c20b0 : decide (0 ≤ x4_2) = true := decide_eq_true c20
                clear c20
                by_cases c21 : (wrap64 ((wrap64 ((wrap64 ((wrap64 ((((rd_T52 l0_10 x4_2).f0.f0).size : Int) + (((rd_T52 l0_10 x4_2).f0.f1).size : Int))) + (((rd_T52 l0_10 x4_2).f0.f2).size : Int))) + (((rd_T52 l0_10 x4_2).f0.f3).size : Int))) + (((rd_T52 l0_10 x4_2).f0.f4).size : Int))) > 400
                · rw [if_pos c21] at H
                  have c21b0 : decide (400 < (wrap64 ((wrap64 ((wrap64 ((wrap64 ((((rd_T52 l0_10 x4_2).f0.f0).size : Int) + (((rd_T52 l0_10 x4_2).f0.f1).size : Int))) + (((rd_T52 l0_10 x4_2).f0.f2).size : Int))) + (((rd_T52 l0_10 x4_2).f0.f3).size : Int))) + (((rd_T52 l0_10 x4_2).f0.f4).size : Int)))) = true := decide_eq_true c21
                  clear c21
                  obtain rfl := Option.some.inj H
                  have hnb22 := NB140_139.out
                  have hnc22 := NB139_140.out
                  have hcz23_0 : wr.cell? ⟨gb140, 0, none⟩ = some (.string a0_1) := (blk_cell BK140.out 0).trans rfl
                  have hcz23_1 : wr.cell? ⟨gb140, 1, none⟩ = some (.string a0_2) := (blk_cell BK140.out 1).trans rfl
                  have hcz23_2 : wr.cell? ⟨gb140, 2, none⟩ = some (.int .i64 a0_3) := (blk_cell BK140.out 2).trans rfl
                  have hcz23_3 : wr.cell? ⟨gb140, 3, none⟩ = some (.int .i64 a0_4) := (blk_cell BK140.out 3).trans rfl
                  have hcz23_4 : wr.cell? ⟨gb140, 4, none⟩ = some (.int .i64 a0_5) := (blk_cell BK140.out 4).trans rfl
                  have hcz23_5 : wr.cell? ⟨gb140, 5, none⟩ = some (.string a0_6) := (blk_cell BK140.out 5).trans rfl
                  have hcz23_6 : wr.cell? ⟨gb140, 6, none⟩ = some (.string a0_7) := (blk_cell BK140.out 6).trans rfl
                  have hcz23_7 : wr.cell? ⟨gb140, 7, none⟩ = some (.string a0_8) := (blk_cell BK140.out 7).trans rfl
                  have hcz23_8 : wr.cell? ⟨gb140, 8, none⟩ = some (.string a0_9) := (blk_cell BK140.out 8).trans rfl
                  have hcz23_9 : wr.cell? ⟨gb140, 9, none⟩ = some (.slice A0_10 l0_10.length c0_10) := (blk_cell BK140.out 9).trans rfl
                  have hfz23_0 := blk_frozen BK140.out 0
                  have hfz23_1 := blk_frozen BK140.out 1
                  have hfz23_2 := blk_frozen BK140.out 2
                  have hfz23_3 := blk_frozen BK140.out 3
                  have hfz23_4 := blk_frozen BK140.out 4
                  have hfz23_5 := blk_frozen BK140.out 5
                  have hfz23_6 := blk_frozen BK140.out 6
                  have hfz23_7 := blk_frozen BK140.out 7
                  have hfz23_8 := blk_frozen BK140.out 8
                  have hfz23_9 := blk_frozen BK140.out 9
                  have p141 : 0 ≤ (x4_2 : Int) := of_decide_eq_true (by first | (with_reducible assumption) | assumption)
                  have q141 : x4_2 < (l0_10.length : Int) := of_decide_eq_true (by first | (with_reducible assumption) | assumption)
                  obtain ⟨ad141, e141, hx141_0, hx141_1, hx141_2, hx141_3, hx141_4, hx141_5, hx141_6⟩ := at_T52 HR0_10.out x4_2 p141 q141
                  cases e141
                  replace hx141_0 := (HB.out.cell (World.block_lt_of_cell? w _ hx141_0)).trans hx141_0
                  replace hx141_1 := (HB.out.cell (World.block_lt_of_cell? w _ hx141_1)).trans hx141_1
                  replace hx141_2 := (HB.out.cell (World.block_lt_of_cell? w _ hx141_2)).trans hx141_2
                  replace hx141_3 := (HB.out.cell (World.block_lt_of_cell? w _ hx141_3)).trans hx141_3
                  replace hx141_4 := (HB.out.cell (World.block_lt_of_cell? w _ hx141_4)).trans hx141_4
                  replace hx141_5 := (HB.out.cell (World.block_lt_of_cell? w _ hx141_5)).trans hx141_5
                  replace hx141_6 := (HB.out.cell (World.block_lt_of_cell? w _ hx141_6)).trans hx141_6
                  replace p141 := eq_true p141
                  replace q141 := eq_true q141
                  go_wp2_with (first | ((with_reducible refine gate_dst (N := 5) rfl ?_); (try (refine gate_guard (by rfl) ?_; dsimp only)); refine box_event ?hg (N := 5) ?hd (cs := #[.string (⟨#[]⟩ : ByteArray), .string (⟨#[]⟩ : ByteArray), .string (⟨#[]⟩ : ByteArray), .string (⟨#[]⟩ : ByteArray), .string (⟨#[]⟩ : ByteArray)]) (t := 50) ?hr ?_; (case hd => rfl); (case hg => rfl); (case hr => first | (go_simp; done) | (go_simp; rfl)); intro gb142 hg w24 hbox hb; have n0_ := Aside0.mk (blk_below (g := gb139) (o := .cells #[.slice A0_0 l0_0.length c0_0, .string a0_1, .string a0_2, .int .i64 a0_3, .int .i64 a0_4, .int .i64 a0_5, .string a0_6, .string a0_7, .string a0_8, .string a0_9, .slice (some ad141) l0_10.length c0_10, .string a0_11, .int .i64 a0_12] 38 (0, 0)) (by (with_reducible repeat (first | refine blk_drewN ?_ _ | refine blk_drew ?_ | refine blk_alloc ?_ _)); exact BK139.out) hb); have n1_ := Aside0.mk (blk_below (g := gb140) (o := .cells #[.string a0_1, .string a0_2, .int .i64 a0_3, .int .i64 a0_4, .int .i64 a0_5, .string a0_6, .string a0_7, .string a0_8, .string a0_9, .slice (some ad141) l0_10.length c0_10] 36 (0, 0)) (by (with_reducible repeat (first | refine blk_drewN ?_ _ | refine blk_drew ?_ | refine blk_alloc ?_ _)); exact BK140.out) hb); have n2_ := Aside0.mk (below_step (by repeat (first | (with_reducible first | exact HB.out | apply below_alloc | apply pw_below_drewN | apply below_drew1 | refine below_set ?_ GE139.out | refine below_set ?_ GE140.out) | exact HB.out)) hb); have n3_ := Aside0.mk (hbox); have n4_ := Aside0.mk ((by rw [hg]; exact (below_size (by repeat (first | (with_reducible first | exact HB.out | apply below_alloc | apply pw_below_drewN | apply below_drew1 | refine below_set ?_ GE139.out | refine below_set ?_ GE140.out) | exact HB.out))) : w.heap.size ≤ gb142)); have n5_ := Aside0.mk ((by rw [hg]; exact (below_size (by repeat (first | (with_reducible first | exact HB.out | apply below_alloc | apply pw_below_drewN | apply below_drew1 | refine below_set ?_ GE139.out | refine below_set ?_ GE140.out) | exact HB.out))) : w.heap.size ≤ gb142)); have n6_ := Aside0.mk ((by rw [hg]; exact Nat.ne_of_lt (blk_lt (g := gb139) (o := .cells #[.slice A0_0 l0_0.length c0_0, .string a0_1, .string a0_2, .int .i64 a0_3, .int .i64 a0_4, .int .i64 a0_5, .string a0_6, .string a0_7, .string a0_8, .string a0_9, .slice (some ad141) l0_10.length c0_10, .string a0_11, .int .i64 a0_12] 38 (0, 0)) (by (with_reducible repeat (first | refine blk_drewN ?_ _ | refine blk_drew ?_ | refine blk_alloc ?_ _)); exact BK139.out)) : gb139 ≠ gb142)); have n7_ := Aside0.mk ((by rw [hg]; exact Nat.ne_of_gt (blk_lt (g := gb139) (o := .cells #[.slice A0_0 l0_0.length c0_0, .string a0_1, .string a0_2, .int .i64 a0_3, .int .i64 a0_4, .int .i64 a0_5, .string a0_6, .string a0_7, .string a0_8, .string a0_9, .slice (some ad141) l0_10.length c0_10, .string a0_11, .int .i64 a0_12] 38 (0, 0)) (by (with_reducible repeat (first | refine blk_drewN ?_ _ | refine blk_drew ?_ | refine blk_alloc ?_ _)); exact BK139.out)) : gb142 ≠ gb139)); have n8_ := Aside0.mk ((by rw [hg]; exact Nat.ne_of_lt (blk_lt (g := gb140) (o := .cells #[.string a0_1, .string a0_2, .int .i64 a0_3, .int .i64 a0_4, .int .i64 a0_5, .string a0_6, .string a0_7, .string a0_8, .string a0_9, .slice (some ad141) l0_10.length c0_10] 36 (0, 0)) (by (with_reducible repeat (first | refine blk_drewN ?_ _ | refine blk_drew ?_ | refine blk_alloc ?_ _)); exact BK140.out)) : gb140 ≠ gb142)); have n9_ := Aside0.mk ((by rw [hg]; exact Nat.ne_of_gt (blk_lt (g := gb140) (o := .cells #[.string a0_1, .string a0_2, .int .i64 a0_3, .int .i64 a0_4, .int .i64 a0_5, .string a0_6, .string a0_7, .string a0_8, .string a0_9, .slice (some ad141) l0_10.length c0_10] 36 (0, 0)) (by (with_reducible repeat (first | refine blk_drewN ?_ _ | refine blk_drew ?_ | refine blk_alloc ?_ _)); exact BK140.out)) : gb142 ≠ gb140)); clear BK139; clear BK140; clear HB; have BK139 := n0_; have BK140 := n1_; have HB := n2_; have BK142 := n3_; have GW142 := n4_; have GE142 := n5_; have NB139_142 := n6_; have NB142_139 := n7_; have NB140_142 := n8_; have NB142_140 := n9_; clear n0_ n1_ n2_ n3_ n4_ n5_ n6_ n7_ n8_ n9_; clear hb hbox hg; have hnb25 := NB142_139.out; have hnc25 := NB139_142.out; have hnb26 := NB142_140.out; have hnc26 := NB140_142.out; have hcz27_0 : w24.cell? ⟨gb142, 0, none⟩ = some (.string (⟨#[]⟩ : ByteArray)) := (blk_cell BK142.out 0).trans rfl; have hcz27_1 : w24.cell? ⟨gb142, 1, none⟩ = some (.string (⟨#[]⟩ : ByteArray)) := (blk_cell BK142.out 1).trans rfl; have hcz27_2 : w24.cell? ⟨gb142, 2, none⟩ = some (.string (⟨#[]⟩ : ByteArray)) := (blk_cell BK142.out 2).trans rfl; have hcz27_3 : w24.cell? ⟨gb142, 3, none⟩ = some (.string (⟨#[]⟩ : ByteArray)) := (blk_cell BK142.out 3).trans rfl; have hcz27_4 : w24.cell? ⟨gb142, 4, none⟩ = some (.string (⟨#[]⟩ : ByteArray)) := (blk_cell BK142.out 4).trans rfl; have hfz27_0 := blk_frozen BK142.out 0; have hfz27_1 := blk_frozen BK142.out 1; have hfz27_2 := blk_frozen BK142.out 2; have hfz27_3 := blk_frozen BK142.out 3; have hfz27_4 := blk_frozen BK142.out 4))
                  go_ret
                  exact ⟨by first | rfl | (simp [errW_none, errW_some] <;> rfl) | (simp [*, errW_none, errW_some] <;> rfl), by repeat (first | (with_reducible first | exact HB.out | apply below_alloc | apply pw_below_drewN | apply below_drew1 | refine below_set ?_ GE139.out | refine below_set ?_ GE140.out | refine below_set ?_ GE142.out) | exact HB.out)⟩
                · rw [if_neg c21] at H
                  have c21b0 : decide (400 < (wrap64 ((wrap64 ((wrap64 ((wrap64 ((((rd_T52 l0_10 x4_2).f0.f0).size : Int) + (((rd_T52 l0_10 x4_2).f0.f1).size : Int))) + (((rd_T52 l0_10 x4_2).f0.f2).size : Int))) + (((rd_T52 l0_10 x4_2).f0.f3).size : Int))) + (((rd_T52 l0_10 x4_2).f0.f4).size : Int)))) = false := decide_eq_false c21
                  clear c21
                  have H' := Aside0.mk H
                  clear H
                  have hnb28 := NB140_139.out
                  have hnc28 := NB139_140.out
                  have hcz29_0 : wr.cell? ⟨gb140, 0, none⟩ = some (.string a0_1) := (blk_cell BK140.out 0).trans rfl
                  have hcz29_1 : wr.cell? ⟨gb140, 1, none⟩ = some (.string a0_2) := (blk_cell BK140.out 1).trans rfl
                  have hcz29_2 : wr.cell? ⟨gb140, 2, none⟩ = some (.int .i64 a0_3) := (blk_cell BK140.out 2).trans rfl
                  have hcz29_3 : wr.cell? ⟨gb140, 3, none⟩ = some (.int .i64 a0_4) := (blk_cell BK140.out 3).trans rfl
                  have hcz29_4 : wr.cell? ⟨gb140, 4, none⟩ = some (.int .i64 a0_5) := (blk_cell BK140.out 4).trans rfl
                  have hcz29_5 : wr.cell? ⟨gb140, 5, none⟩ = some (.string a0_6) := (blk_cell BK140.out 5).trans rfl
                  have hcz29_6 : wr.cell? ⟨gb140, 6, none⟩ = some (.string a0_7) := (blk_cell BK140.out 6).trans rfl
                  have hcz29_7 : wr.cell? ⟨gb140, 7, none⟩ = some (.string a0_8) := (blk_cell BK140.out 7).trans rfl
                  have hcz29_8 : wr.cell? ⟨gb140, 8, none⟩ = some (.string a0_9) := (blk_cell BK140.out 8).trans rfl
                  have hcz29_9 : wr.cell? ⟨gb140, 9, none⟩ = some (.slice A0_10 l0_10.length c0_10) := (blk_cell BK140.out 9).trans rfl
                  have hfz29_0 := blk_frozen BK140.out 0
                  have hfz29_1 := blk_frozen BK140.out 1
                  have hfz29_2 := blk_frozen BK140.out 2
                  have hfz29_3 := blk_frozen BK140.out 3
                  have hfz29_4 := blk_frozen BK140.out 4
                  have hfz29_5 := blk_frozen BK140.out 5
                  have hfz29_6 := blk_frozen BK140.out 6
                  have hfz29_7 := blk_frozen BK140.out 7
                  have hfz29_8 := blk_frozen BK140.out 8
                  have hfz29_9 := blk_frozen BK140.out 9
                  have p141 : 0 ≤ (x4_2 : Int) := of_decide_eq_true (by first | (with_reducible assumption) | assumption)
                  have q141 : x4_2 < (l0_10.length : Int) := of_decide_eq_true (by first | (with_reducible assumption) | assumption)
                  obtain ⟨ad141, e141, hx141_0, hx141_1, hx141_2, hx141_3, hx141_4, hx141_5, hx141_6⟩ := at_T52 HR0_10.out x4_2 p141 q141
                  cases e141
                  replace hx141_0 := (HB.out.cell (World.block_lt_of_cell? w _ hx141_0)).trans hx141_0
                  replace hx141_1 := (HB.out.cell (World.block_lt_of_cell? w _ hx141_1)).trans hx141_1
                  replace hx141_2 := (HB.out.cell (World.block_lt_of_cell? w _ hx141_2)).trans hx141_2
                  replace hx141_3 := (HB.out.cell (World.block_lt_of_cell? w _ hx141_3)).trans hx141_3
                  replace hx141_4 := (HB.out.cell (World.block_lt_of_cell? w _ hx141_4)).trans hx141_4
                  replace hx141_5 := (HB.out.cell (World.block_lt_of_cell? w _ hx141_5)).trans hx141_5
                  replace hx141_6 := (HB.out.cell (World.block_lt_of_cell? w _ hx141_6)).trans hx141_6
                  replace p141 := eq_true p141
                  replace q141 := eq_true q141
                  go_wp2_with (first | ((with_reducible refine gate_dst (N := 5) rfl ?_); (try (refine gate_guard (by rfl) ?_; dsimp only)); refine box_event ?hg (N := 5) ?hd (cs := #[.string (⟨#[]⟩ : ByteArray), .string (⟨#[]⟩ : ByteArray), .string (⟨#[]⟩ : ByteArray), .string (⟨#[]⟩ : ByteArray), .string (⟨#[]⟩ : ByteArray)]) (t := 50) ?hr ?_; (case hd => rfl); (case hg => rfl); (case hr => first | (go_simp; done) | (go_simp; rfl)); intro gb142 hg w30 hbox hb; have n0_ := Aside0.mk (blk_below (g := gb139) (o := .cells #[.slice A0_0 l0_0.length c0_0, .string a0_1, .string a0_2, .int .i64 a0_3, .int .i64 a0_4, .int .i64 a0_5, .string a0_6, .string a0_7, .string a0_8, .string a0_9, .slice (some ad141) l0_10.length c0_10, .string a0_11, .int .i64 a0_12] 38 (0, 0)) (by (with_reducible repeat (first | refine blk_drewN ?_ _ | refine blk_drew ?_ | refine blk_alloc ?_ _)); exact BK139.out) hb); have n1_ := Aside0.mk (blk_below (g := gb140) (o := .cells #[.string a0_1, .string a0_2, .int .i64 a0_3, .int .i64 a0_4, .int .i64 a0_5, .string a0_6, .string a0_7, .string a0_8, .string a0_9, .slice (some ad141) l0_10.length c0_10] 36 (0, 0)) (by (with_reducible repeat (first | refine blk_drewN ?_ _ | refine blk_drew ?_ | refine blk_alloc ?_ _)); exact BK140.out) hb); have n2_ := Aside0.mk (below_step (by repeat (first | (with_reducible first | exact HB.out | apply below_alloc | apply pw_below_drewN | apply below_drew1 | refine below_set ?_ GE139.out | refine below_set ?_ GE140.out) | exact HB.out)) hb); have n3_ := Aside0.mk (hbox); have n4_ := Aside0.mk ((by rw [hg]; exact (below_size (by repeat (first | (with_reducible first | exact HB.out | apply below_alloc | apply pw_below_drewN | apply below_drew1 | refine below_set ?_ GE139.out | refine below_set ?_ GE140.out) | exact HB.out))) : w.heap.size ≤ gb142)); have n5_ := Aside0.mk ((by rw [hg]; exact (below_size (by repeat (first | (with_reducible first | exact HB.out | apply below_alloc | apply pw_below_drewN | apply below_drew1 | refine below_set ?_ GE139.out | refine below_set ?_ GE140.out) | exact HB.out))) : w.heap.size ≤ gb142)); have n6_ := Aside0.mk ((by rw [hg]; exact Nat.ne_of_lt (blk_lt (g := gb139) (o := .cells #[.slice A0_0 l0_0.length c0_0, .string a0_1, .string a0_2, .int .i64 a0_3, .int .i64 a0_4, .int .i64 a0_5, .string a0_6, .string a0_7, .string a0_8, .string a0_9, .slice (some ad141) l0_10.length c0_10, .string a0_11, .int .i64 a0_12] 38 (0, 0)) (by (with_reducible repeat (first | refine blk_drewN ?_ _ | refine blk_drew ?_ | refine blk_alloc ?_ _)); exact BK139.out)) : gb139 ≠ gb142)); have n7_ := Aside0.mk ((by rw [hg]; exact Nat.ne_of_gt (blk_lt (g := gb139) (o := .cells #[.slice A0_0 l0_0.length c0_0, .string a0_1, .string a0_2, .int .i64 a0_3, .int .i64 a0_4, .int .i64 a0_5, .string a0_6, .string a0_7, .string a0_8, .string a0_9, .slice (some ad141) l0_10.length c0_10, .string a0_11, .int .i64 a0_12] 38 (0, 0)) (by (with_reducible repeat (first | refine blk_drewN ?_ _ | refine blk_drew ?_ | refine blk_alloc ?_ _)); exact BK139.out)) : gb142 ≠ gb139)); have n8_ := Aside0.mk ((by rw [hg]; exact Nat.ne_of_lt (blk_lt (g := gb140) (o := .cells #[.string a0_1, .string a0_2, .int .i64 a0_3, .int .i64 a0_4, .int .i64 a0_5, .string a0_6, .string a0_7, .string a0_8, .string a0_9, .slice (some ad141) l0_10.length c0_10] 36 (0, 0)) (by (with_reducible repeat (first | refine blk_drewN ?_ _ | refine blk_drew ?_ | refine blk_alloc ?_ _)); exact BK140.out)) : gb140 ≠ gb142)); have n9_ := Aside0.mk ((by rw [hg]; exact Nat.ne_of_gt (blk_lt (g := gb140) (o := .cells #[.string a0_1, .string a0_2, .int .i64 a0_3, .int .i64 a0_4, .int .i64 a0_5, .string a0_6, .string a0_7, .string a0_8, .string a0_9, .slice (some ad141) l0_10.length c0_10] 36 (0, 0)) (by (with_reducible repeat (first | refine blk_drewN ?_ _ | refine blk_drew ?_ | refine blk_alloc ?_ _)); exact BK140.out)) : gb142 ≠ gb140)); clear BK139; clear BK140; clear HB; have BK139 := n0_; have BK140 := n1_; have HB := n2_; have BK142 := n3_; have GW142 := n4_; have GE142 := n5_; have NB139_142 := n6_; have NB142_139 := n7_; have NB140_142 := n8_; have NB142_140 := n9_; clear n0_ n1_ n2_ n3_ n4_ n5_ n6_ n7_ n8_ n9_; clear hb hbox hg; have hnb31 := NB142_139.out; have hnc31 := NB139_142.out; have hnb32 := NB142_140.out; have hnc32 := NB140_142.out; have hcz33_0 : w30.cell? ⟨gb142, 0, none⟩ = some (.string (⟨#[]⟩ : ByteArray)) := (blk_cell BK142.out 0).trans rfl; have hcz33_1 : w30.cell? ⟨gb142, 1, none⟩ = some (.string (⟨#[]⟩ : ByteArray)) := (blk_cell BK142.out 1).trans rfl; have hcz33_2 : w30.cell? ⟨gb142, 2, none⟩ = some (.string (⟨#[]⟩ : ByteArray)) := (blk_cell BK142.out 2).trans rfl; have hcz33_3 : w30.cell? ⟨gb142, 3, none⟩ = some (.string (⟨#[]⟩ : ByteArray)) := (blk_cell BK142.out 3).trans rfl; have hcz33_4 : w30.cell? ⟨gb142, 4, none⟩ = some (.string (⟨#[]⟩ : ByteArray)) := (blk_cell BK142.out 4).trans rfl; have hfz33_0 := blk_frozen BK142.out 0; have hfz33_1 := blk_frozen BK142.out 1; have hfz33_2 := blk_frozen BK142.out 2; have hfz33_3 := blk_frozen BK142.out 3; have hfz33_4 := blk_frozen BK142.out 4))
                  go_roundg k2
                  case measure => have := HJ1.out; have := HK2.out; omega
                  case rel => exact ⟨(wrap64 (x4_2 + 1)), (by first | rfl | (simp; done) | (simp [*]; done)), H', ⟨by have := HJ1.out; have := HK2.out; omega⟩, ⟨by (with_reducible repeat (first | refine blk_drewN ?_ _ | refine blk_drew ?_ | refine blk_alloc ?_ _)); refine blk_far ?_ NB139_142.out _; (with_reducible repeat (first | refine blk_drewN ?_ _ | refine blk_drew ?_ | refine blk_alloc ?_ _)); refine blk_far ?_ NB139_142.out _; (with_reducible repeat (first | refine blk_drewN ?_ _ | refine blk_drew ?_ | refine blk_alloc ?_ _)); refine blk_far ?_ NB139_142.out _; (with_reducible repeat (first | refine blk_drewN ?_ _ | refine blk_drew ?_ | refine blk_alloc ?_ _)); refine blk_far ?_ NB139_142.out _; (with_reducible repeat (first | refine blk_drewN ?_ _ | refine blk_drew ?_ | refine blk_alloc ?_ _)); refine blk_far ?_ NB139_142.out _; (with_reducible repeat (first | refine blk_drewN ?_ _ | refine blk_drew ?_ | refine blk_alloc ?_ _)); exact BK139.out⟩, ⟨by (with_reducible repeat (first | refine blk_drewN ?_ _ | refine blk_drew ?_ | refine blk_alloc ?_ _)); refine blk_far ?_ NB140_142.out _; (with_reducible repeat (first | refine blk_drewN ?_ _ | refine blk_drew ?_ | refine blk_alloc ?_ _)); refine blk_far ?_ NB140_142.out _; (with_reducible repeat (first | refine blk_drewN ?_ _ | refine blk_drew ?_ | refine blk_alloc ?_ _)); refine blk_far ?_ NB140_142.out _; (with_reducible repeat (first | refine blk_drewN ?_ _ | refine blk_drew ?_ | refine blk_alloc ?_ _)); refine blk_far ?_ NB140_142.out _; (with_reducible repeat (first | refine blk_drewN ?_ _ | refine blk_drew ?_ | refine blk_alloc ?_ _)); refine blk_far ?_ NB140_142.out _; (with_reducible repeat (first | refine blk_drewN ?_ _ | refine blk_drew ?_ | refine blk_alloc ?_ _)); exact BK140.out⟩, ⟨by repeat (first | (with_reducible first | exact HB.out | apply below_alloc | apply pw_below_drewN | apply below_drew1 | refine below_set ?_ GE139.out | refine below_set ?_ GE140.out | refine below_set ?_ GE142.out) | exact HB.out)⟩⟩
              · rw [if_neg c20] at H
                exact absurd H (by simp)
            · rw [if_neg c19] at H
              have c19b0 : decide (x4_2 < (l0_10.length : Int)) = false := decide_eq_false c19
              clear c19
              obtain rfl := Option.some.inj H
              have hnb34 := NB140_139.out
              have hnc34 := NB139_140.out
              have hcz35_0 : wr.cell? ⟨gb140, 0, none⟩ = some (.string a0_1) := (blk_cell BK140.out 0).trans rfl
              have hcz35_1 : wr.cell? ⟨gb140, 1, none⟩ = some (.string a0_2) := (blk_cell BK140.out 1).trans rfl
              have hcz35_2 : wr.cell? ⟨gb140, 2, none⟩ = some (.int .i64 a0_3) := (blk_cell BK140.out 2).trans rfl
              have hcz35_3 : wr.cell? ⟨gb140, 3, none⟩ = some (.int .i64 a0_4) := (blk_cell BK140.out 3).trans rfl
              have hcz35_4 : wr.cell? ⟨gb140, 4, none⟩ = some (.int .i64 a0_5) := (blk_cell BK140.out 4).trans rfl
              have hcz35_5 : wr.cell? ⟨gb140, 5, none⟩ = some (.string a0_6) := (blk_cell BK140.out 5).trans rfl
              have hcz35_6 : wr.cell? ⟨gb140, 6, none⟩ = some (.string a0_7) := (blk_cell BK140.out 6).trans rfl
              have hcz35_7 : wr.cell? ⟨gb140, 7, none⟩ = some (.string a0_8) := (blk_cell BK140.out 7).trans rfl
              have hcz35_8 : wr.cell? ⟨gb140, 8, none⟩ = some (.string a0_9) := (blk_cell BK140.out 8).trans rfl
              have hcz35_9 : wr.cell? ⟨gb140, 9, none⟩ = some (.slice A0_10 l0_10.length c0_10) := (blk_cell BK140.out 9).trans rfl
              have hfz35_0 := blk_frozen BK140.out 0
              have hfz35_1 := blk_frozen BK140.out 1
              have hfz35_2 := blk_frozen BK140.out 2
              have hfz35_3 := blk_frozen BK140.out 3
              have hfz35_4 := blk_frozen BK140.out 4
              have hfz35_5 := blk_frozen BK140.out 5
              have hfz35_6 := blk_frozen BK140.out 6
              have hfz35_7 := blk_frozen BK140.out 7
              have hfz35_8 := blk_frozen BK140.out 8
              have hfz35_9 := blk_frozen BK140.out 9
              go_wp2
              go_ret
              exact ⟨by first | rfl | (simp [errW_none, errW_some] <;> rfl) | (simp [*, errW_none, errW_some] <;> rfl), by repeat (first | (with_reducible first | exact HB.out | apply below_alloc | apply pw_below_drewN | apply below_drew1 | refine below_set ?_ GE139.out | refine below_set ?_ GE140.out) | exact HB.out)⟩
def accountinglaw45_buy.f (a0 : Int) : Option (ByteArray × ByteArray × Int × Int × Int × ByteArray × ByteArray × ByteArray × ByteArray × (List (S52))) := some ((⟨#[97]⟩ : ByteArray), (⟨#[98]⟩ : ByteArray), a0, 3, 4, (⟨#[49, 53]⟩ : ByteArray), (⟨#[49, 57]⟩ : ByteArray), (⟨#[52, 57]⟩ : ByteArray), (⟨#[51, 57]⟩ : ByteArray), (([(⟨(⟨(⟨#[98]⟩ : ByteArray), (⟨#[51, 48]⟩ : ByteArray), (⟨#[69, 85, 82]⟩ : ByteArray), (⟨#[]⟩ : ByteArray), (⟨#[]⟩ : ByteArray)⟩ : S50), (-100), (-100)⟩ : S52), (⟨(⟨(⟨#[98]⟩ : ByteArray), (⟨#[51, 49]⟩ : ByteArray), (⟨#[69, 85, 82]⟩ : ByteArray), (⟨#[]⟩ : ByteArray), (⟨#[]⟩ : ByteArray)⟩ : S50), (-22), (-22)⟩ : S52)] : List (S52))))
set_option maxHeartbeats 8000000 in
set_option maxRecDepth 100000 in
theorem accountinglaw45_buy.calls (a0 : Int) (r1 : ByteArray) (r2 : ByteArray) (r3 : Int) (r4 : Int) (r5 : Int) (r6 : ByteArray) (r7 : ByteArray) (r8 : ByteArray) (r9 : ByteArray) (r10 : List (S52)) (w : World) (h : accountinglaw45_buy.f a0 = some (r1, r2, r3, r4, r5, r6, r7, r8, r9, r10)) :
    Calls Try.prog 25 #[.int .i64 a0] w fun e w' => ∃ v9_ : Value, e = .returned (.agg #[.string r1, .string r2, .int .i64 r3, .int .i64 r4, .int .i64 r5, .string r6, .string r7, .string r8, .string r9, v9_]) ∧ Kd.R k52 52 w' w.heap.size (fun _ => True) v9_ r10 ∧ Below w.heap.size w w' := by
  have hu36 := Try.underlying36
  have hu23 := Try.underlying23
  have hu50 := Try.underlying50
  have hu52 := Try.underlying52
  have HB := Aside0.mk (Below.refl w.heap.size w)
  have H : (some ((⟨#[97]⟩ : ByteArray), (⟨#[98]⟩ : ByteArray), a0, 3, 4, (⟨#[49, 53]⟩ : ByteArray), (⟨#[49, 57]⟩ : ByteArray), (⟨#[52, 57]⟩ : ByteArray), (⟨#[51, 57]⟩ : ByteArray), (([(⟨(⟨(⟨#[98]⟩ : ByteArray), (⟨#[51, 48]⟩ : ByteArray), (⟨#[69, 85, 82]⟩ : ByteArray), (⟨#[]⟩ : ByteArray), (⟨#[]⟩ : ByteArray)⟩ : S50), (-100), (-100)⟩ : S52), (⟨(⟨(⟨#[98]⟩ : ByteArray), (⟨#[51, 49]⟩ : ByteArray), (⟨#[69, 85, 82]⟩ : ByteArray), (⟨#[]⟩ : ByteArray), (⟨#[]⟩ : ByteArray)⟩ : S50), (-22), (-22)⟩ : S52)] : List (S52))))) = some (r1, r2, r3, r4, r5, r6, r7, r8, r9, r10) := h
  clear h
  obtain ⟨y144, hy144⟩ : ∃ y_ : List (S52), y_ = (([(⟨(⟨(⟨#[98]⟩ : ByteArray), (⟨#[51, 48]⟩ : ByteArray), (⟨#[69, 85, 82]⟩ : ByteArray), (⟨#[]⟩ : ByteArray), (⟨#[]⟩ : ByteArray)⟩ : S50), (-100), (-100)⟩ : S52), (⟨(⟨(⟨#[98]⟩ : ByteArray), (⟨#[51, 49]⟩ : ByteArray), (⟨#[69, 85, 82]⟩ : ByteArray), (⟨#[]⟩ : ByteArray), (⟨#[]⟩ : ByteArray)⟩ : S50), (-22), (-22)⟩ : S52)] : List (S52))) := ⟨_, rfl⟩
  replace H : (some ((⟨#[97]⟩ : ByteArray), (⟨#[98]⟩ : ByteArray), a0, 3, 4, (⟨#[49, 53]⟩ : ByteArray), (⟨#[49, 57]⟩ : ByteArray), (⟨#[52, 57]⟩ : ByteArray), (⟨#[51, 57]⟩ : ByteArray), y144)) = some (r1, r2, r3, r4, r5, r6, r7, r8, r9, r10) := by first | (rw [hy144]; with_reducible exact H) | (have H2_ := (Option.bind_some _ _).symm.trans H; rw [hy144]; with_reducible exact H2_) | (have H2_ := (Option.bind_some _ _).symm.trans H; with_reducible exact H2_) | with_reducible exact H | (rw [hy144]; exact H) | exact H
  have Ny144 := Aside0.mk hy144
  clear hy144
  simp only [Option.some.injEq, Prod.mk.injEq] at H
  obtain ⟨rfl, rfl, rfl, rfl, rfl, rfl, rfl, rfl, rfl, rfl⟩ := H
  go_enter Try.func25, Try.ntmps25
  go_wp2_with (first | ((with_reducible refine gate_dst (N := 2) rfl ?_); refine box_event ?hg (N := 2) ?hd (cs := #[.string (⟨#[]⟩ : ByteArray), .string (⟨#[]⟩ : ByteArray), .int .i64 0, .int .i64 0, .int .i64 0, .string (⟨#[]⟩ : ByteArray), .string (⟨#[]⟩ : ByteArray), .string (⟨#[]⟩ : ByteArray), .string (⟨#[]⟩ : ByteArray), .slice none 0 0]) (t := 36) ?hr ?_; (case hd => rfl); (case hg => rfl); (case hr => first | (go_simp; done) | (go_simp; rfl)); intro gb143 hg w2 hbox hb; have n0_ := Aside0.mk (below_step (by repeat (first | (with_reducible first | exact HB.out | apply below_alloc | apply pw_below_drewN | apply below_drew1) | exact HB.out)) hb); have n1_ := Aside0.mk (hbox); have n2_ := Aside0.mk ((by rw [hg]; exact (below_size (by repeat (first | (with_reducible first | exact HB.out | apply below_alloc | apply pw_below_drewN | apply below_drew1) | exact HB.out))) : w.heap.size ≤ gb143)); have n3_ := Aside0.mk ((by rw [hg]; exact (below_size (by repeat (first | (with_reducible first | exact HB.out | apply below_alloc | apply pw_below_drewN | apply below_drew1) | exact HB.out))) : w.heap.size ≤ gb143)); clear HB; have HB := n0_; have BK143 := n1_; have GW143 := n2_; have GE143 := n3_; clear n0_ n1_ n2_ n3_; clear hb hbox hg) | ((with_reducible refine gate_dst (N := 9) rfl ?_); refine Kd.R_lit k52 _ 52 ?hg (N := 9) ?hd (xs := ([(⟨(⟨(⟨#[98]⟩ : ByteArray), (⟨#[51, 48]⟩ : ByteArray), (⟨#[69, 85, 82]⟩ : ByteArray), (⟨#[]⟩ : ByteArray), (⟨#[]⟩ : ByteArray)⟩ : S50), (-100), (-100)⟩ : S52), (⟨(⟨(⟨#[98]⟩ : ByteArray), (⟨#[51, 49]⟩ : ByteArray), (⟨#[69, 85, 82]⟩ : ByteArray), (⟨#[]⟩ : ByteArray), (⟨#[]⟩ : ByteArray)⟩ : S50), (-22), (-22)⟩ : S52)] : List (S52))) (inner := [.string (⟨#[98]⟩ : ByteArray), .string (⟨#[51, 48]⟩ : ByteArray), .string (⟨#[69, 85, 82]⟩ : ByteArray), .string (⟨#[]⟩ : ByteArray), .string (⟨#[]⟩ : ByteArray), .int .i64 (-100), .int .i64 (-100), .string (⟨#[98]⟩ : ByteArray), .string (⟨#[51, 49]⟩ : ByteArray), .string (⟨#[69, 85, 82]⟩ : ByteArray), .string (⟨#[]⟩ : ByteArray), .string (⟨#[]⟩ : ByteArray), .int .i64 (-22), .int .i64 (-22)]) (ok := fun _ => True) (okp := fun _ => True) ?hr ?hp (fun _ hk => hk) trivial (Below.refl _ _) (Nat.le_refl _) (by simp) ?_; (case hd => rfl); (case hg => rfl); (case hr => first | (go_simp; done) | (go_simp; rfl)); (case hp => exact (Reps.c7 (show Kd.M k52 _ _ _ (⟨(⟨(⟨#[98]⟩ : ByteArray), (⟨#[51, 48]⟩ : ByteArray), (⟨#[69, 85, 82]⟩ : ByteArray), (⟨#[]⟩ : ByteArray), (⟨#[]⟩ : ByteArray)⟩ : S50), (-100), (-100)⟩ : S52) [.string (⟨#[98]⟩ : ByteArray), .string (⟨#[51, 48]⟩ : ByteArray), .string (⟨#[69, 85, 82]⟩ : ByteArray), .string (⟨#[]⟩ : ByteArray), .string (⟨#[]⟩ : ByteArray), .int .i64 (-100), .int .i64 (-100)] from (k52_mkM _ _ _ (⟨(⟨(⟨#[98]⟩ : ByteArray), (⟨#[51, 48]⟩ : ByteArray), (⟨#[69, 85, 82]⟩ : ByteArray), (⟨#[]⟩ : ByteArray), (⟨#[]⟩ : ByteArray)⟩ : S50), (-100), (-100)⟩ : S52) )) (Reps.c7 (show Kd.M k52 _ _ _ (⟨(⟨(⟨#[98]⟩ : ByteArray), (⟨#[51, 49]⟩ : ByteArray), (⟨#[69, 85, 82]⟩ : ByteArray), (⟨#[]⟩ : ByteArray), (⟨#[]⟩ : ByteArray)⟩ : S50), (-22), (-22)⟩ : S52) [.string (⟨#[98]⟩ : ByteArray), .string (⟨#[51, 49]⟩ : ByteArray), .string (⟨#[69, 85, 82]⟩ : ByteArray), .string (⟨#[]⟩ : ByteArray), .string (⟨#[]⟩ : ByteArray), .int .i64 (-22), .int .i64 (-22)] from (k52_mkM _ _ _ (⟨(⟨(⟨#[98]⟩ : ByteArray), (⟨#[51, 49]⟩ : ByteArray), (⟨#[69, 85, 82]⟩ : ByteArray), (⟨#[]⟩ : ByteArray), (⟨#[]⟩ : ByteArray)⟩ : S50), (-22), (-22)⟩ : S52) )) (Reps.none _ _)))); intro v145 w3 ho4 hb hg_ hnew_; clear hg_ hnew_; (first | rw [← Ny144.out] at ho4 | (simp only [Int.reduceToNat] at ho4; rw [← Ny144.out] at ho4)); have n0_ := Aside0.mk (Kd.R_lower ho4 (below_size (by repeat (first | (with_reducible first | exact HB.out | apply below_alloc | apply pw_below_drewN | apply below_drew1 | refine below_set ?_ GE143.out) | exact HB.out)))); have n1_ := Aside0.mk (blk_below (g := gb143) (o := .cells #[.string (⟨#[]⟩ : ByteArray), .string (⟨#[]⟩ : ByteArray), .int .i64 0, .int .i64 0, .int .i64 0, .string (⟨#[]⟩ : ByteArray), .string (⟨#[]⟩ : ByteArray), .string (⟨#[]⟩ : ByteArray), .string (⟨#[]⟩ : ByteArray), .slice none 0 0] 36 (0, 0)) (by (with_reducible repeat (first | refine blk_drewN ?_ _ | refine blk_drew ?_ | refine blk_alloc ?_ _)); exact BK143.out) hb); have n2_ := Aside0.mk (below_step (by repeat (first | (with_reducible first | exact HB.out | apply below_alloc | apply pw_below_drewN | apply below_drew1 | refine below_set ?_ GE143.out) | exact HB.out)) hb); clear BK143; clear HB; have HO146 := n0_; have BK143 := n1_; have HB := n2_; clear n0_ n1_ n2_; clear hb ho4; obtain ⟨Ao5, co5, eo5⟩ := Kd.R_slice HO146.out; subst eo5; have hcz6_0 : w3.cell? ⟨gb143, 0, none⟩ = some (.string (⟨#[]⟩ : ByteArray)) := (blk_cell BK143.out 0).trans rfl; have hcz6_1 : w3.cell? ⟨gb143, 1, none⟩ = some (.string (⟨#[]⟩ : ByteArray)) := (blk_cell BK143.out 1).trans rfl; have hcz6_2 : w3.cell? ⟨gb143, 2, none⟩ = some (.int .i64 0) := (blk_cell BK143.out 2).trans rfl; have hcz6_3 : w3.cell? ⟨gb143, 3, none⟩ = some (.int .i64 0) := (blk_cell BK143.out 3).trans rfl; have hcz6_4 : w3.cell? ⟨gb143, 4, none⟩ = some (.int .i64 0) := (blk_cell BK143.out 4).trans rfl; have hcz6_5 : w3.cell? ⟨gb143, 5, none⟩ = some (.string (⟨#[]⟩ : ByteArray)) := (blk_cell BK143.out 5).trans rfl; have hcz6_6 : w3.cell? ⟨gb143, 6, none⟩ = some (.string (⟨#[]⟩ : ByteArray)) := (blk_cell BK143.out 6).trans rfl; have hcz6_7 : w3.cell? ⟨gb143, 7, none⟩ = some (.string (⟨#[]⟩ : ByteArray)) := (blk_cell BK143.out 7).trans rfl; have hcz6_8 : w3.cell? ⟨gb143, 8, none⟩ = some (.string (⟨#[]⟩ : ByteArray)) := (blk_cell BK143.out 8).trans rfl; have hcz6_9 : w3.cell? ⟨gb143, 9, none⟩ = some (.slice none 0 0) := (blk_cell BK143.out 9).trans rfl; have hfz6_0 := blk_frozen BK143.out 0; have hfz6_1 := blk_frozen BK143.out 1; have hfz6_2 := blk_frozen BK143.out 2; have hfz6_3 := blk_frozen BK143.out 3; have hfz6_4 := blk_frozen BK143.out 4; have hfz6_5 := blk_frozen BK143.out 5; have hfz6_6 := blk_frozen BK143.out 6; have hfz6_7 := blk_frozen BK143.out 7; have hfz6_8 := blk_frozen BK143.out 8; have hfz6_9 := blk_frozen BK143.out 9))
  refine bodyPost_ret (results_cell_row rfl _ _ gb143 36 #[.string (⟨#[97]⟩ : ByteArray), .string (⟨#[98]⟩ : ByteArray), .int .i64 a0, .int .i64 3, .int .i64 4, .string (⟨#[49, 53]⟩ : ByteArray), .string (⟨#[49, 57]⟩ : ByteArray), .string (⟨#[52, 57]⟩ : ByteArray), .string (⟨#[51, 57]⟩ : ByteArray), .slice Ao5 y144.length co5] (0, 0) _ rfl (by (with_reducible repeat (first | refine blk_drewN ?_ _ | refine blk_drew ?_ | refine blk_alloc ?_ _)); refine blk_put (cs := #[.string (⟨#[97]⟩ : ByteArray), .string (⟨#[98]⟩ : ByteArray), .int .i64 a0, .int .i64 3, .int .i64 4, .string (⟨#[49, 53]⟩ : ByteArray), .string (⟨#[49, 57]⟩ : ByteArray), .string (⟨#[52, 57]⟩ : ByteArray), .string (⟨#[51, 57]⟩ : ByteArray), .slice none 0 0]) ?_ 9 _ rfl; (with_reducible repeat (first | refine blk_drewN ?_ _ | refine blk_drew ?_ | refine blk_alloc ?_ _)); refine blk_put (cs := #[.string (⟨#[97]⟩ : ByteArray), .string (⟨#[98]⟩ : ByteArray), .int .i64 a0, .int .i64 3, .int .i64 4, .string (⟨#[49, 53]⟩ : ByteArray), .string (⟨#[49, 57]⟩ : ByteArray), .string (⟨#[52, 57]⟩ : ByteArray), .string (⟨#[]⟩ : ByteArray), .slice none 0 0]) ?_ 8 _ rfl; (with_reducible repeat (first | refine blk_drewN ?_ _ | refine blk_drew ?_ | refine blk_alloc ?_ _)); refine blk_put (cs := #[.string (⟨#[97]⟩ : ByteArray), .string (⟨#[98]⟩ : ByteArray), .int .i64 a0, .int .i64 3, .int .i64 4, .string (⟨#[49, 53]⟩ : ByteArray), .string (⟨#[49, 57]⟩ : ByteArray), .string (⟨#[]⟩ : ByteArray), .string (⟨#[]⟩ : ByteArray), .slice none 0 0]) ?_ 7 _ rfl; (with_reducible repeat (first | refine blk_drewN ?_ _ | refine blk_drew ?_ | refine blk_alloc ?_ _)); refine blk_put (cs := #[.string (⟨#[97]⟩ : ByteArray), .string (⟨#[98]⟩ : ByteArray), .int .i64 a0, .int .i64 3, .int .i64 4, .string (⟨#[49, 53]⟩ : ByteArray), .string (⟨#[]⟩ : ByteArray), .string (⟨#[]⟩ : ByteArray), .string (⟨#[]⟩ : ByteArray), .slice none 0 0]) ?_ 6 _ rfl; (with_reducible repeat (first | refine blk_drewN ?_ _ | refine blk_drew ?_ | refine blk_alloc ?_ _)); refine blk_put (cs := #[.string (⟨#[97]⟩ : ByteArray), .string (⟨#[98]⟩ : ByteArray), .int .i64 a0, .int .i64 3, .int .i64 4, .string (⟨#[]⟩ : ByteArray), .string (⟨#[]⟩ : ByteArray), .string (⟨#[]⟩ : ByteArray), .string (⟨#[]⟩ : ByteArray), .slice none 0 0]) ?_ 5 _ rfl; (with_reducible repeat (first | refine blk_drewN ?_ _ | refine blk_drew ?_ | refine blk_alloc ?_ _)); refine blk_put (cs := #[.string (⟨#[97]⟩ : ByteArray), .string (⟨#[98]⟩ : ByteArray), .int .i64 a0, .int .i64 3, .int .i64 0, .string (⟨#[]⟩ : ByteArray), .string (⟨#[]⟩ : ByteArray), .string (⟨#[]⟩ : ByteArray), .string (⟨#[]⟩ : ByteArray), .slice none 0 0]) ?_ 4 _ rfl; (with_reducible repeat (first | refine blk_drewN ?_ _ | refine blk_drew ?_ | refine blk_alloc ?_ _)); refine blk_put (cs := #[.string (⟨#[97]⟩ : ByteArray), .string (⟨#[98]⟩ : ByteArray), .int .i64 a0, .int .i64 0, .int .i64 0, .string (⟨#[]⟩ : ByteArray), .string (⟨#[]⟩ : ByteArray), .string (⟨#[]⟩ : ByteArray), .string (⟨#[]⟩ : ByteArray), .slice none 0 0]) ?_ 3 _ rfl; (with_reducible repeat (first | refine blk_drewN ?_ _ | refine blk_drew ?_ | refine blk_alloc ?_ _)); refine blk_put (cs := #[.string (⟨#[97]⟩ : ByteArray), .string (⟨#[98]⟩ : ByteArray), .int .i64 0, .int .i64 0, .int .i64 0, .string (⟨#[]⟩ : ByteArray), .string (⟨#[]⟩ : ByteArray), .string (⟨#[]⟩ : ByteArray), .string (⟨#[]⟩ : ByteArray), .slice none 0 0]) ?_ 2 _ rfl; (with_reducible repeat (first | refine blk_drewN ?_ _ | refine blk_drew ?_ | refine blk_alloc ?_ _)); refine blk_put (cs := #[.string (⟨#[97]⟩ : ByteArray), .string (⟨#[]⟩ : ByteArray), .int .i64 0, .int .i64 0, .int .i64 0, .string (⟨#[]⟩ : ByteArray), .string (⟨#[]⟩ : ByteArray), .string (⟨#[]⟩ : ByteArray), .string (⟨#[]⟩ : ByteArray), .slice none 0 0]) ?_ 1 _ rfl; (with_reducible repeat (first | refine blk_drewN ?_ _ | refine blk_drew ?_ | refine blk_alloc ?_ _)); refine blk_put (cs := #[.string (⟨#[]⟩ : ByteArray), .string (⟨#[]⟩ : ByteArray), .int .i64 0, .int .i64 0, .int .i64 0, .string (⟨#[]⟩ : ByteArray), .string (⟨#[]⟩ : ByteArray), .string (⟨#[]⟩ : ByteArray), .string (⟨#[]⟩ : ByteArray), .slice none 0 0]) ?_ 0 _ rfl; (with_reducible repeat (first | refine blk_drewN ?_ _ | refine blk_drew ?_ | refine blk_alloc ?_ _)); exact BK143.out) Try.underlying36 rfl (by kernel_rfl)) rfl ?_
  exact ⟨_, by first | rfl | (simp [errW_none, errW_some] <;> rfl) | (simp [*, errW_none, errW_some] <;> rfl), by (with_reducible repeat (first | apply Kd.R_alloc | apply Kd.R_drewN | apply Kd.R_drew)); exact Kd.R_mono (Kd.R_far (p := ⟨gb143, 9, none⟩) (Kd.R_far (p := ⟨gb143, 8, none⟩) (Kd.R_far (p := ⟨gb143, 7, none⟩) (Kd.R_far (p := ⟨gb143, 6, none⟩) (Kd.R_far (p := ⟨gb143, 5, none⟩) (Kd.R_far (p := ⟨gb143, 4, none⟩) (Kd.R_far (p := ⟨gb143, 3, none⟩) (Kd.R_far (p := ⟨gb143, 2, none⟩) (Kd.R_far (p := ⟨gb143, 1, none⟩) (Kd.R_far (p := ⟨gb143, 0, none⟩) (Kd.R_types HO146.out BK143.out (by decide)) (fun _ hk => hk.2) (.string (⟨#[97]⟩ : ByteArray))) (fun _ hk => hk.2) (.string (⟨#[98]⟩ : ByteArray))) (fun _ hk => hk.2) (.int .i64 a0)) (fun _ hk => hk.2) (.int .i64 3)) (fun _ hk => hk.2) (.int .i64 4)) (fun _ hk => hk.2) (.string (⟨#[49, 53]⟩ : ByteArray))) (fun _ hk => hk.2) (.string (⟨#[49, 57]⟩ : ByteArray))) (fun _ hk => hk.2) (.string (⟨#[52, 57]⟩ : ByteArray))) (fun _ hk => hk.2) (.string (⟨#[51, 57]⟩ : ByteArray))) (fun _ hk => hk.2) (.slice Ao5 y144.length co5)) (fun _ hk => trivial), by repeat (first | (with_reducible first | exact HB.out | apply below_alloc | apply pw_below_drewN | apply below_drew1 | refine below_set ?_ GE143.out) | exact HB.out)⟩
def sheet_far.f (a0 : Int) : Option (Bool) := if a0 > 1000000000000000 then (some true) else (some (decide (a0 < (-1000000000000000))))
set_option maxHeartbeats 8000000 in
set_option maxRecDepth 100000 in
theorem sheet_far.calls (a0 : Int) (r : Bool) (w : World) (h : sheet_far.f a0 = some r) :
    Calls Try.prog 34 #[.int .i64 a0] w fun e w' => e = .returned (.bool r) ∧ Drawn0 w w' := by
  have H : (if a0 > 1000000000000000 then (some true) else (some (decide (a0 < (-1000000000000000))))) = some r := h
  clear h
  by_cases c2 : a0 > 1000000000000000
  · rw [if_pos c2] at H
    have c2b0 : decide (1000000000000000 < a0) = true := decide_eq_true c2
    clear c2
    obtain rfl := Option.some.inj H
    go_enter Try.func34, Try.ntmps34
    go_wp2
    go_ret
    exact ⟨by first | rfl | (simp; done) | (simp [*]; done), by repeat (first | exact Drawn0.refl _ | apply Drawn0.step)⟩
  · rw [if_neg c2] at H
    have c2b0 : decide (1000000000000000 < a0) = false := decide_eq_false c2
    clear c2
    obtain rfl := Option.some.inj H
    go_enter Try.func34, Try.ntmps34
    go_wp2
    go_ret
    exact ⟨by first | rfl | (simp; done) | (simp [*]; done), by repeat (first | exact Drawn0.refl _ | apply Drawn0.step)⟩
def acquire_large.f (a0 : Int) : Option (Bool) := if a0 > 1000000000000000 then (some true) else (some (decide (a0 < (-1000000000000000))))
set_option maxHeartbeats 8000000 in
set_option maxRecDepth 100000 in
theorem acquire_large.calls (a0 : Int) (r : Bool) (w : World) (h : acquire_large.f a0 = some r) :
    Calls Try.prog 19 #[.int .i64 a0] w fun e w' => e = .returned (.bool r) ∧ Drawn0 w w' := by
  have H : (if a0 > 1000000000000000 then (some true) else (some (decide (a0 < (-1000000000000000))))) = some r := h
  clear h
  by_cases c2 : a0 > 1000000000000000
  · rw [if_pos c2] at H
    have c2b0 : decide (1000000000000000 < a0) = true := decide_eq_true c2
    clear c2
    obtain rfl := Option.some.inj H
    go_enter Try.func19, Try.ntmps19
    go_wp2
    go_ret
    exact ⟨by first | rfl | (simp; done) | (simp [*]; done), by repeat (first | exact Drawn0.refl _ | apply Drawn0.step)⟩
  · rw [if_neg c2] at H
    have c2b0 : decide (1000000000000000 < a0) = false := decide_eq_false c2
    clear c2
    obtain rfl := Option.some.inj H
    go_enter Try.func19, Try.ntmps19
    go_wp2
    go_ret
    exact ⟨by first | rfl | (simp; done) | (simp [*]; done), by repeat (first | exact Drawn0.refl _ | apply Drawn0.step)⟩
def acquire_isMode.f (a0 : Int) : Option (Bool) := if a0 ≥ 1 then (some (decide (a0 ≤ 5))) else (some false)
set_option maxHeartbeats 8000000 in
set_option maxRecDepth 100000 in
theorem acquire_isMode.calls (a0 : Int) (r : Bool) (w : World) (h : acquire_isMode.f a0 = some r) :
    Calls Try.prog 17 #[.int .i64 a0] w fun e w' => e = .returned (.bool r) ∧ Drawn0 w w' := by
  have H : (if a0 ≥ 1 then (some (decide (a0 ≤ 5))) else (some false)) = some r := h
  clear h
  by_cases c2 : a0 ≥ 1
  · rw [if_pos c2] at H
    have c2b0 : decide (1 ≤ a0) = true := decide_eq_true c2
    clear c2
    obtain rfl := Option.some.inj H
    go_enter Try.func17, Try.ntmps17
    go_wp2
    go_ret
    exact ⟨by first | rfl | (simp; done) | (simp [*]; done), by repeat (first | exact Drawn0.refl _ | apply Drawn0.step)⟩
  · rw [if_neg c2] at H
    have c2b0 : decide (1 ≤ a0) = false := decide_eq_false c2
    clear c2
    obtain rfl := Option.some.inj H
    go_enter Try.func17, Try.ntmps17
    go_wp2
    go_ret
    exact ⟨by first | rfl | (simp; done) | (simp [*]; done), by repeat (first | exact Drawn0.refl _ | apply Drawn0.step)⟩
def acquire_whole.f  : Option (Int × Int) := some (1, 1)
set_option maxHeartbeats 8000000 in
set_option maxRecDepth 100000 in
theorem acquire_whole.calls  (r1 : Int) (r2 : Int) (w : World) (h : acquire_whole.f  = some (r1, r2)) :
    Calls Try.prog 36 #[] w fun e w' => e = .returned (.agg #[.int .i64 r1, .int .i64 r2]) ∧ Below w.heap.size w w' := by
  have hu23 := Try.underlying23
  have HB := Aside0.mk (Below.refl w.heap.size w)
  have H : (some (1, 1)) = some (r1, r2) := h
  clear h
  simp only [Option.some.injEq, Prod.mk.injEq] at H
  obtain ⟨rfl, rfl⟩ := H
  go_enter Try.func36, Try.ntmps36
  go_wp2_with (first | ((with_reducible refine gate_dst (N := 0) rfl ?_); refine box_event ?hg (N := 0) ?hd (cs := #[.int .i64 0, .int .i64 0]) (t := 23) ?hr ?_; (case hd => rfl); (case hg => rfl); (case hr => first | (go_simp; done) | (go_simp; rfl)); intro gb157 hg w1 hbox hb; have n0_ := Aside0.mk (below_step (by repeat (first | (with_reducible first | exact HB.out | apply below_alloc | apply pw_below_drewN | apply below_drew1) | exact HB.out)) hb); have n1_ := Aside0.mk (hbox); have n2_ := Aside0.mk ((by rw [hg]; exact (below_size (by repeat (first | (with_reducible first | exact HB.out | apply below_alloc | apply pw_below_drewN | apply below_drew1) | exact HB.out))) : w.heap.size ≤ gb157)); have n3_ := Aside0.mk ((by rw [hg]; exact (below_size (by repeat (first | (with_reducible first | exact HB.out | apply below_alloc | apply pw_below_drewN | apply below_drew1) | exact HB.out))) : w.heap.size ≤ gb157)); clear HB; have HB := n0_; have BK157 := n1_; have GW157 := n2_; have GE157 := n3_; clear n0_ n1_ n2_ n3_; clear hb hbox hg; have hcz2_0 : w1.cell? ⟨gb157, 0, none⟩ = some (.int .i64 0) := (blk_cell BK157.out 0).trans rfl; have hcz2_1 : w1.cell? ⟨gb157, 1, none⟩ = some (.int .i64 0) := (blk_cell BK157.out 1).trans rfl; have hfz2_0 := blk_frozen BK157.out 0; have hfz2_1 := blk_frozen BK157.out 1))
  refine bodyPost_ret (results_cell_row rfl _ _ gb157 23 #[.int .i64 1, .int .i64 1] (0, 0) _ rfl (by (with_reducible repeat (first | refine blk_drewN ?_ _ | refine blk_drew ?_ | refine blk_alloc ?_ _)); refine blk_put (cs := #[.int .i64 1, .int .i64 0]) ?_ 1 _ rfl; (with_reducible repeat (first | refine blk_drewN ?_ _ | refine blk_drew ?_ | refine blk_alloc ?_ _)); refine blk_put (cs := #[.int .i64 0, .int .i64 0]) ?_ 0 _ rfl; (with_reducible repeat (first | refine blk_drewN ?_ _ | refine blk_drew ?_ | refine blk_alloc ?_ _)); exact BK157.out) Try.underlying23 rfl (by kernel_rfl)) rfl ?_
  exact ⟨by first | rfl | (simp [errW_none, errW_some] <;> rfl) | (simp [*, errW_none, errW_some] <;> rfl), by repeat (first | (with_reducible first | exact HB.out | apply below_alloc | apply pw_below_drewN | apply below_drew1 | refine below_set ?_ GE157.out) | exact HB.out)⟩
set_option linter.unusedVariables false
set_option linter.unusedSimpArgs false
theorem eqA23 (d : Nat) (w : World) (x0 y0 : Int) (x1 y1 : Int) :
    (Op.equalIn (d + 2) 23 (.agg #[.int .i64 x0, .int .i64 x1]) (.agg #[.int .i64 y0, .int .i64 y1])).run Try.prog w = .ok (x0 == y0 && (x1 == y1)) w := by
  refine eqA_of Try.underlying23 (by kernel_rfl) ?_
  refine eqf_cons (by rfl) (by go_simp; rfl) (by go_simp; rfl) (by go_simp) ?_
  exact eqf_last (by rfl) (by go_simp; rfl) (by go_simp; rfl) (by go_simp)
end Go.Proofs.Ytdlilbleohlmnaa.PAq
namespace Go.Proofs.Ytdlilbleohlmnaa
open Go.RowKit
theorem bcell {W w1 : World} (hb : Below W.heap.size W w1) : (∀ b o, b < W.heap.size → w1.cell? ⟨b, o, none⟩ = W.cell? ⟨b, o, none⟩) ∧ (∀ b o, b < W.heap.size → w1.frozen? ⟨b, o, none⟩ = W.frozen? ⟨b, o, none⟩) :=
  ⟨fun b o h => hb.cell (p := ⟨b, o, none⟩) h, fun b o h => hb.frozen (p := ⟨b, o, none⟩) h⟩
def isUp (b : UInt8) : Bool := decide (65 ≤ b.toNat) && decide (b.toNat ≤ 90)
def codeB (s : ByteArray) : Bool := s.data.toList.all isUp && decide (s.size = 3)
theorem codeB_bad (s : ByteArray) (k : Nat) (h : k < s.size) (hb : isUp s[k] = false) : codeB s = false := by
  unfold codeB
  have : s.data.toList.all isUp = false := by
    rw [List.all_eq_false]
    exact ⟨s[k], by show s.data[k] ∈ _; simp, by simp [hb]⟩
  rw [this]; rfl
theorem codeB_all (s : ByteArray) (h : ∀ k (hk : k < s.size), isUp s[k] = true) : codeB s = decide (s.size = 3) := by
  unfold codeB
  have : s.data.toList.all isUp = true := by
    rw [List.all_eq_true]
    intro x hx
    obtain ⟨i, hi, rfl⟩ := List.getElem_of_mem hx
    exact h i (by simpa using hi)
  rw [this]; rfl
set_option maxRecDepth 100000 in
set_option maxHeartbeats 1000000 in
theorem money_Code.calls (s : ByteArray) (w : World) (hs : s.size ≤ 140737488351232) :
    Calls Try.prog 50 #[.string s] w fun e w' => e = .returned (.bool (codeB s)) ∧ Below w.heap.size w w' := by
  go_enter Try.func50, Try.ntmps50
  go_wp2
  go_loopw [3] (fun n w' => ∃ pos : Nat, w' = w.iter s pos ∧ pos ≤ s.size ∧ n = .int .i64 pos ∧ ∀ k (hk : k < s.size), k < pos → isUp s[k] = true) (fun _ w' => s.size - w'.iterPos w.heap.size)
  case atStart => exact ⟨0, rfl, Nat.zero_le _, rfl, fun k _ h => absurd h (Nat.not_lt_zero _)⟩
  case round =>
    obtain ⟨pos, rfl, hps, rfl, hall⟩ := hrel
    have HA := Lib.hid hall; clear hall
    by_cases hp : pos < s.size
    · have hnx : ∀ ty, (Instr.next (.pointer (some ⟨w.heap.size, 0, none⟩)) true ty).run Try.prog (w.iter s pos) = _ := fun ty => run_next_any w s pos ty hp
      by_cases ha : (s[pos]'hp).toNat < 128
      · rw [decode_ascii s pos hp ha] at hnx
        by_cases hu : isUp s[pos] = true
        · have hu' : 65 ≤ (s[pos]'hp).toNat ∧ (s[pos]'hp).toNat ≤ 90 := by simpa [isUp] using hu
          have h1 : decide (((s[pos]'hp).toNat : Int) < 65) = false := by simp; omega
          have h2 : decide (90 < ((s[pos]'hp).toNat : Int)) = false := by simp; omega
          have HU := Lib.hid hu; clear hu hu'
          go_wp2
          go_roundw
          case rel =>
            refine ⟨pos + 1, rfl, by omega, by go_num, fun k hk hlt => ?_⟩
            by_cases e : k = pos
            · subst e; exact HU.out
            · exact HA.out k hk (by omega)
          case measure => simp; omega
        · have hu0 : isUp s[pos] = false := by simpa using hu
          have HC := Lib.hid (codeB_bad s pos hp hu0)
          have hu' : ¬ (65 ≤ (s[pos]'hp).toNat ∧ (s[pos]'hp).toNat ≤ 90) := by simpa [isUp] using hu
          clear hu hu0
          by_cases h1 : (s[pos]'hp).toNat < 65
          · have h1' : decide (((s[pos]'hp).toNat : Int) < 65) = true := by simp; omega
            clear hu'
            go_wp2
            go_ret
            exact ⟨by rw [HC.out]; rfl, (Below.refl _ _).alloc (Nat.le_refl _) _⟩
          · have h1' : decide (((s[pos]'hp).toNat : Int) < 65) = false := by simp; omega
            have h2' : decide (90 < ((s[pos]'hp).toNat : Int)) = true := by simp; omega
            clear hu'
            go_wp2
            go_ret
            exact ⟨by rw [HC.out]; rfl, (Below.refl _ _).alloc (Nat.le_refl _) _⟩
      · have hd := (decode_high s pos hp (by omega)).1
        have hu0 : isUp s[pos] = false := by simp [isUp]; omega
        have HC := Lib.hid (codeB_bad s pos hp hu0)
        generalize (Utf8.decode s pos).1 = c at hnx hd
        generalize pos + (Utf8.decode s pos).2 = pos' at hnx
        have h1' : decide ((c : Int) < 65) = false := by simp; omega
        have h2' : decide (90 < (c : Int)) = true := by simp; omega
        clear hu0
        go_wp2
        go_ret
        exact ⟨by rw [HC.out]; rfl, (Below.refl _ _).alloc (Nat.le_refl _) _⟩
    · have hnx : ∀ ty, (Instr.next (.pointer (some ⟨w.heap.size, 0, none⟩)) true ty).run Try.prog (w.iter s pos) = _ := fun ty => run_next_end w s pos ty hp
      have e : pos = s.size := by omega
      subst e
      have HC := Lib.hid (codeB_all s (fun k hk => HA.out k hk hk))
      go_wp2
      go_ret
      exact ⟨by rw [HC.out]; show Ending.returned (.bool _) = _; congr 2; rw [Bool.eq_iff_iff]; simp; omega, (Below.refl _ _).alloc (Nat.le_refl _) _⟩
def absI (a : Int) : Int := if a < 0 then -a else a
theorem absI_nn (a : Int) : 0 ≤ absI a := by unfold absI; split <;> omega
theorem absI_le (a : Int) (h0 : -9223372036854775808 ≤ a) (h1 : a ≤ 9223372036854775807) : absI a ≤ 9223372036854775808 := by unfold absI; split <;> omega
theorem and32 (x : Int) (h0 : 0 ≤ x) (h1 : x < 18446744073709551616) : bits .and .u64 x 4294967295 = x % 4294967296 := by
  rw [u64_and _ _ h0 h1 (by omega) (by omega)]
  have : x.toNat &&& (4294967295 : Int).toNat = x.toNat % 4294967296 := Nat.and_two_pow_sub_one_eq_mod x.toNat 32
  rw [this]; omega
theorem or32 (x y : Int) (h0 : 0 ≤ x) (h1 : x < 18446744073709551616) (hx : x % 4294967296 = 0) (h2 : 0 ≤ y) (h3 : y < 4294967296) : bits .or .u64 x y = x + y := by
  rw [u64_or _ _ h0 h1 h2 (by omega), nat_join 32 _ _ (by omega) (by omega)]; omega
theorem and1 (x : Int) (h0 : 0 ≤ x) (h1 : x < 18446744073709551616) : bits .and .u64 x 1 = x % 2 := by
  rw [u64_and _ _ h0 h1 (by omega) (by omega)]
  have : x.toNat &&& (1 : Int).toNat = x.toNat % 2 := Nat.and_two_pow_sub_one_eq_mod x.toNat 1
  rw [this]; omega
theorem or1 (x y : Int) (h0 : 0 ≤ x) (h1 : x < 18446744073709551616) (hx : x % 2 = 0) (h2 : 0 ≤ y) (h3 : y < 2) : bits .or .u64 x y = x + y := by
  rw [u64_or _ _ h0 h1 h2 (by omega), nat_join 1 _ _ (by omega) (by omega)]; omega
set_option maxHeartbeats 400000 in
theorem muldiv_magnitude.calls (a : Int) (w : World) (h0 : -9223372036854775808 ≤ a) (h1 : a ≤ 9223372036854775807) :
    Calls Try.prog 62 #[.int .i64 a] w fun e w' => e = .returned (.int .u64 (absI a)) ∧ w = w' := by
  by_cases h : a < 0
  all_goals
    go_enter Try.func62, Try.ntmps62
    go_wp2
    go_ret
    refine ⟨?_, rfl⟩
    show Ending.returned (.int .u64 _) = _
    congr 2
    simp only [absI, IntKind.wrap_u64, h, if_true]
    try simp only [if_false]
    omega
theorem mul_bd (x y m : Int) (h0 : 0 ≤ x) (h1 : x ≤ m) (h2 : 0 ≤ y) (h3 : y ≤ m) : 0 ≤ x * y ∧ x * y ≤ m * m :=
  ⟨Int.mul_nonneg h0 h2, Int.mul_le_mul h1 h3 h2 (by omega)⟩
theorem wrap_of (x : Int) (h0 : 0 ≤ x) (h1 : x < 18446744073709551616) : IntKind.u64.wrap x = x := by rw [IntKind.wrap_u64]; omega
theorem mul_words (a b a1 a0 b1 b0 : Int) (ha : a = a1 * 4294967296 + a0) (hb : b = b1 * 4294967296 + b0)
    (h1 : 0 ≤ a1) (h2 : a1 < 4294967296) (h3 : 0 ≤ a0) (h4 : a0 < 4294967296) (h5 : 0 ≤ b1) (h6 : b1 < 4294967296) (h7 : 0 ≤ b0) (h8 : b0 < 4294967296) :
    let bot := a0 * b0
    let mid := a1 * b0 + bot / 4294967296
    let oth := a0 * b1 + mid % 4294967296
    (0 ≤ bot ∧ bot < 18446744073709551616) ∧ (0 ≤ a1 * b0 ∧ a1 * b0 < 18446744073709551616) ∧ (0 ≤ mid ∧ mid < 18446744073709551616) ∧ (0 ≤ a0 * b1 ∧ a0 * b1 < 18446744073709551616) ∧
    (0 ≤ oth ∧ oth < 18446744073709551616) ∧ (0 ≤ a1 * b1 ∧ a1 * b1 < 18446744073709551616) ∧ (0 ≤ a1 * b1 + mid / 4294967296 ∧ a1 * b1 + mid / 4294967296 < 18446744073709551616) ∧
    a1 * b1 + mid / 4294967296 + oth / 4294967296 = a * b / 18446744073709551616 ∧ (0 ≤ a * b / 18446744073709551616 ∧ a * b / 18446744073709551616 < 18446744073709551616) ∧
    oth % 4294967296 * 4294967296 + bot % 4294967296 = a * b % 18446744073709551616 := by
  intro bot mid oth
  have e : a * b = (a1 * b1) * 18446744073709551616 + (a1 * b0 + a0 * b1) * 4294967296 + a0 * b0 := by subst ha hb; grind
  have p1 := mul_bd a0 b0 4294967295 h3 (by omega) h7 (by omega)
  have p2 := mul_bd a1 b0 4294967295 h1 (by omega) h7 (by omega)
  have p3 := mul_bd a0 b1 4294967295 h3 (by omega) h5 (by omega)
  have p4 := mul_bd a1 b1 4294967295 h1 (by omega) h5 (by omega)
  rw [e]
  simp only [oth, mid, bot]
  generalize a0 * b0 = x at *
  generalize a1 * b0 = y at *
  generalize a0 * b1 = z at *
  generalize a1 * b1 = t at *
  refine ⟨by omega, by omega, by omega, by omega, by omega, by omega, by omega, by omega, by omega, by omega⟩
set_option maxHeartbeats 400000 in
theorem muldiv_multiply.calls (a b : Int) (w : World) (ha0 : 0 ≤ a) (ha : a < 18446744073709551616) (hb0 : 0 ≤ b) (hb : b < 18446744073709551616) :
    Calls Try.prog 61 #[.int .u64 a, .int .u64 b] w fun e w' => e = .returned (.agg #[.int .u64 (a * b / 18446744073709551616), .int .u64 (a * b % 18446744073709551616)]) ∧ Below w.heap.size w w' := by
  go_enter Try.func61, Try.ntmps61
  go_wp2
  obtain ⟨q1, q2, q3, q4, q5, q6, q7, q8, q9, q10⟩ := mul_words a b (a / 4294967296) (a % 4294967296) (b / 4294967296) (b % 4294967296) (by omega) (by omega) (by omega) (by omega) (by omega) (by omega) (by omega) (by omega) (by omega) (by omega)
  refine bodyPost_ret (v := .agg #[.int .u64 _, .int .u64 _]) (by simp [results, Try.results61, go_sem]; exact ⟨rfl, rfl⟩) rfl ⟨?_, (Below.refl _ _).alloc (Nat.le_refl _) _⟩
  have r1 := and32 a ha0 ha
  have r2 := and32 b hb0 hb
  rw [r1, r2, wrap_of _ q1.1 q1.2, wrap_of _ q2.1 q2.2, wrap_of _ q3.1 q3.2, wrap_of _ q4.1 q4.2, and32 _ q3.1 q3.2, and32 _ q1.1 q1.2, wrap_of _ q5.1 q5.2, wrap_of _ q6.1 q6.2, wrap_of _ q7.1 q7.2, q8, wrap_of _ q9.1 q9.2]
  rw [or32 _ _ (by rw [IntKind.wrap_u64]; omega) (by rw [IntKind.wrap_u64]; omega) (by rw [IntKind.wrap_u64]; omega) (by omega) (by omega), ← q10, IntKind.wrap_u64]
  congr 5
  congr 1
  omega
def tk (R W : Int) (m : Nat) : Int := R * 2 ^ (64 - m) + W / 2 ^ m
theorem tk_start (R W : Int) (h : W < 18446744073709551616) (h0 : 0 ≤ W) : tk R W 64 = R := by
  unfold tk
  have : W / 2 ^ 64 = 0 := Int.ediv_eq_zero_of_lt h0 (by omega)
  rw [this]; simp
theorem tk_end (R W : Int) : tk R W 0 = R * 18446744073709551616 + W := by
  unfold tk; simp
theorem tk_step (R W : Int) (n : Nat) (h : n < 64) : tk R W n = 2 * tk R W (n + 1) + W / 2 ^ n % 2 := by
  unfold tk
  have e1 : (2 : Int) ^ (64 - n) = 2 * 2 ^ (64 - (n + 1)) := by
    rw [show 64 - n = (64 - (n + 1)) + 1 by omega, Int.pow_succ]; omega
  have e2 : W / 2 ^ (n + 1) = W / 2 ^ n / 2 := by
    rw [Int.pow_succ, Int.ediv_ediv_of_nonneg (Int.le_of_lt (Int.pow_pos (by omega)))]
  rw [e1, e2]
  have e3 := Int.emod_add_mul_ediv (W / 2 ^ n) 2
  generalize W / 2 ^ n = v at *
  generalize (2 : Int) ^ (64 - (n + 1)) = p at *
  have : R * (2 * p) = 2 * (R * p) := by grind
  omega
theorem tk_bound (R W c : Int) (m : Nat) (hm : m ≤ 64) (h0 : 0 ≤ R) (h1 : R < c) (hw0 : 0 ≤ W) (hw : W < 18446744073709551616) : 0 ≤ tk R W m ∧ tk R W m < c * 2 ^ (64 - m) := by
  unfold tk
  have hp : (0 : Int) < 2 ^ m := Int.pow_pos (by omega)
  have hq : (0 : Int) < 2 ^ (64 - m) := Int.pow_pos (by omega)
  have hpq : (2 : Int) ^ (64 - m) * 2 ^ m = 18446744073709551616 := by
    rw [← Int.pow_add, show 64 - m + m = 64 by omega]; rfl
  have a1 : W / 2 ^ m < 2 ^ (64 - m) := by
    apply Int.ediv_lt_of_lt_mul hp; rw [hpq]; exact hw
  have a2 : 0 ≤ W / 2 ^ m := Int.ediv_nonneg hw0 (Int.le_of_lt hp)
  have a3 : R * 2 ^ (64 - m) ≤ (c - 1) * 2 ^ (64 - m) := Int.mul_le_mul_of_nonneg_right (by omega) (Int.le_of_lt hq)
  have a4 : 0 ≤ R * 2 ^ (64 - m) := Int.mul_nonneg h0 (Int.le_of_lt hq)
  have a5 : (c - 1) * 2 ^ (64 - m) = c * 2 ^ (64 - m) - 2 ^ (64 - m) := by grind
  omega
theorem tk_quot (R W c : Int) (m : Nat) (hm : m ≤ 64) (h0 : 0 ≤ R) (h1 : R < c) (hw0 : 0 ≤ W) (hw : W < 18446744073709551616) : 0 ≤ tk R W m / c ∧ tk R W m / c < 2 ^ (64 - m) := by
  obtain ⟨a, b⟩ := tk_bound R W c m hm h0 h1 hw0 hw
  exact ⟨Int.ediv_nonneg a (by omega), Int.ediv_lt_of_lt_mul (by omega) (by rw [Int.mul_comm]; exact b)⟩
theorem div_next (t c b : Int) (_h0 : 0 ≤ t) (hc : 0 < c) (hb0 : 0 ≤ b) (hb : b < 2) :
    (c ≤ 2 * (t % c) + b → (2 * t + b) / c = 2 * (t / c) + 1 ∧ (2 * t + b) % c = 2 * (t % c) + b - c) ∧
    (2 * (t % c) + b < c → (2 * t + b) / c = 2 * (t / c) ∧ (2 * t + b) % c = 2 * (t % c) + b) := by
  have e := Int.emod_add_mul_ediv t c
  have r0 := Int.emod_nonneg t (by omega : c ≠ 0)
  have r1 := Int.emod_lt_of_pos t hc
  generalize t % c = r at *
  generalize t / c = q at *
  constructor
  · intro h
    have e1 : 2 * t + b = (2 * r + b - c) + c * (2 * q + 1) := by subst e; grind
    constructor
    · rw [e1, Int.add_mul_ediv_left _ _ (by omega), Int.ediv_eq_zero_of_lt (by omega) (by omega)]; omega
    · rw [e1, Int.add_mul_emod_self_left, Int.emod_eq_of_lt (by omega) (by omega)]
  · intro h
    have e1 : 2 * t + b = (2 * r + b) + c * (2 * q) := by subst e; grind
    constructor
    · rw [e1, Int.add_mul_ediv_left _ _ (by omega), Int.ediv_eq_zero_of_lt (by omega) (by omega)]; omega
    · rw [e1, Int.add_mul_emod_self_left, Int.emod_eq_of_lt (by omega) (by omega)]
theorem tk_zeros (R W c : Int) (m : Nat) (hm : m ≤ 64) (hc : 0 < c) (hr : tk R W m % c = 0) (hz : W * 2 ^ (64 - m) % 18446744073709551616 = 0) :
    tk R W 0 / c = tk R W m / c * 2 ^ m ∧ tk R W 0 % c = 0 := by
  have hp : (0 : Int) < 2 ^ m := Int.pow_pos (by omega)
  have hq : (0 : Int) < 2 ^ (64 - m) := Int.pow_pos (by omega)
  have hpq : (2 : Int) ^ m * 2 ^ (64 - m) = 18446744073709551616 := by
    rw [← Int.pow_add, show m + (64 - m) = 64 by omega]; rfl
  have hw : W % 2 ^ m = 0 := by
    rw [← hpq, Int.mul_comm W, Int.mul_comm (2 ^ m), Int.mul_emod_mul_of_pos _ _ hq] at hz
    rcases Int.mul_eq_zero.1 hz with h | h
    · omega
    · exact h
  have hW : W = W / 2 ^ m * 2 ^ m := (Int.ediv_mul_cancel (Int.dvd_of_emod_eq_zero hw)).symm
  have ht : tk R W 0 = tk R W m * 2 ^ m := by
    rw [tk_end, ← hpq]; unfold tk
    generalize W / 2 ^ m = v at *
    generalize (2 : Int) ^ m = p at *
    generalize (2 : Int) ^ (64 - m) = q at *
    subst hW; grind
  obtain ⟨u, hu⟩ := Int.dvd_of_emod_eq_zero hr
  rw [ht, hu]
  constructor
  · rw [Int.mul_assoc, Int.mul_ediv_cancel_left _ (by omega), Int.mul_ediv_cancel_left _ (by omega)]
  · rw [Int.mul_assoc, Int.mul_emod_right]
theorem bit_facts (R W c : Int) (n : Nat) (hn : n + 1 ≤ 64) (h0 : 0 ≤ R) (h1 : R < c) (hc : c ≤ 9223372036854775808) (hw0 : 0 ≤ W) (hw : W < 18446744073709551616) :
    ∃ r q b : Int, tk R W (n + 1) % c = r ∧ tk R W (n + 1) / c = q ∧ bits .and .u64 (W / 2 ^ n) 1 = b ∧ 0 ≤ b ∧ b < 2 ∧ 0 ≤ r ∧ r < c ∧ 0 ≤ q ∧ q < 9223372036854775808 ∧
      r / 9223372036854775808 = 0 ∧ IntKind.u64.wrap (r * 2) = r * 2 ∧ bits .or .u64 (r * 2) b = r * 2 + b ∧ IntKind.u64.wrap (q * 2) = q * 2 ∧ bits .or .u64 (q * 2) 1 = q * 2 + 1 ∧
      (c ≤ r * 2 + b → tk R W n / c = q * 2 + 1 ∧ tk R W n % c = r * 2 + b - c ∧ IntKind.u64.wrap (r * 2 + b - c) = r * 2 + b - c) ∧ (r * 2 + b < c → tk R W n / c = q * 2 ∧ tk R W n % c = r * 2 + b) := by
  have hcp : 0 < c := by omega
  have hb : bits .and .u64 (W / 2 ^ n) 1 = W / 2 ^ n % 2 := by
    have hp : (0 : Int) < 2 ^ n := Int.pow_pos (by omega)
    exact and1 _ (Int.ediv_nonneg hw0 (Int.le_of_lt hp)) (by have := Int.ediv_le_self (2 ^ n) hw0; omega)
  obtain ⟨t0, t1⟩ := tk_bound R W c (n + 1) hn h0 h1 hw0 hw
  obtain ⟨q0, q1⟩ := tk_quot R W c (n + 1) hn h0 h1 hw0 hw
  have r0 := Int.emod_nonneg (tk R W (n + 1)) (by omega : c ≠ 0)
  have r1 := Int.emod_lt_of_pos (tk R W (n + 1)) hcp
  have q2 : tk R W (n + 1) / c < 9223372036854775808 := by
    have e : (2 : Int) ^ (64 - (n + 1)) ≤ 2 ^ 63 := by
      obtain ⟨d, hd⟩ : ∃ d, 63 = (64 - (n + 1)) + d := ⟨n, by omega⟩
      rw [hd, Int.pow_add]
      have p1 : (0 : Int) < 2 ^ (64 - (n + 1)) := Int.pow_pos (by omega)
      have p2 : (0 : Int) < 2 ^ d := Int.pow_pos (by omega)
      have := Int.mul_le_mul_of_nonneg_left (show (1 : Int) ≤ 2 ^ d by omega) (Int.le_of_lt p1)
      omega
    have : (2 : Int) ^ 63 = 9223372036854775808 := rfl
    omega
  have st := tk_step R W n (by omega)
  have b0 : 0 ≤ W / 2 ^ n % 2 := Int.emod_nonneg _ (by omega)
  have b1 : W / 2 ^ n % 2 < 2 := Int.emod_lt_of_pos _ (by omega)
  have dn := div_next (tk R W (n + 1)) c (W / 2 ^ n % 2) t0 hcp b0 b1
  rw [← st] at dn
  refine ⟨_, _, _, rfl, rfl, hb, b0, b1, r0, r1, q0, q2, ?_, ?_, ?_, ?_, ?_, ?_, ?_⟩
  · exact Int.ediv_eq_zero_of_lt r0 (by omega)
  · exact wrap_of _ (by omega) (by omega)
  · exact or1 _ _ (by omega) (by omega) (by omega) b0 b1
  · exact wrap_of _ (by omega) (by omega)
  · exact or1 _ _ (by omega) (by omega) (by omega) (by omega) (by omega)
  · intro h
    obtain ⟨x, y⟩ := dn.1 (by omega)
    exact ⟨by omega, by omega, wrap_of _ (by omega) (by omega)⟩
  · intro h
    obtain ⟨x, y⟩ := dn.2 (by omega)
    exact ⟨by omega, by omega⟩
set_option maxRecDepth 100000 in
set_option maxHeartbeats 4000000 in
theorem muldiv_divide.calls (hi lo c : Int) (w : World) (h0 : 0 ≤ hi) (h1 : hi < 18446744073709551616) (l0 : 0 ≤ lo) (l1 : lo < 18446744073709551616) (c0 : 1 ≤ c) (c1 : c ≤ 9223372036854775808) :
    Calls Try.prog 63 #[.agg #[.int .u64 hi, .int .u64 lo], .int .u64 c] w fun e w' => e = .returned (.tuple #[.agg #[.int .u64 (hi / c), .int .u64 (tk (hi % c) lo 0 / c)], .int .u64 (tk (hi % c) lo 0 % c)]) ∧ Below w.heap.size w w' := by
  have i0 : ∀ W, (Instr.index 101 (.agg #[.int .u64 hi, .int .u64 lo]) (.int .i64 0)).run Try.prog W = .ok (.int .u64 hi) W := fun _ => by kernel_rfl
  have i1 : ∀ W, (Instr.index 101 (.agg #[.int .u64 hi, .int .u64 lo]) (.int .i64 1)).run Try.prog W = .ok (.int .u64 lo) W := fun _ => by kernel_rfl
  go_enter Try.func63, Try.ntmps63
  go_wp2
  go_step3
  go_wp2
  go_step3
  go_wp2
  go_loopg [5, 11] 3 (fun k r i wr => ∃ (iv : Nat) (R q0 q1 : Int), k = 3 - iv ∧ iv ≤ 2 ∧ i = .int .i64 iv ∧ r = .int .u64 R ∧
    ((iv = 0 ∧ R = 0 ∧ q0 = 0 ∧ q1 = 0) ∨ (iv = 1 ∧ R = hi % c ∧ q0 = hi / c ∧ q1 = 0) ∨ (iv = 2 ∧ R = tk (hi % c) lo 0 % c ∧ q0 = hi / c ∧ q1 = tk (hi % c) lo 0 / c)) ∧
    wr = (w.alloc (.cells #[.int .u64 hi, .int .u64 lo] 101)).alloc (.cells #[.int .u64 q0, .int .u64 q1] 101))
  case atStart => exact ⟨0, 0, 0, 0, rfl, by omega, rfl, rfl, .inl ⟨rfl, rfl, rfl, rfl⟩, rfl⟩
  case round =>
    obtain ⟨iv, R, q0, q1, hk, hi2, rfl, rfl, hst, rfl⟩ := hrel
    have hmb := Int.emod_nonneg hi (by omega : c ≠ 0)
    have hmc := Int.emod_lt_of_pos hi (by omega : 0 < c)
    rcases hst with ⟨rfl, rfl, rfl, rfl⟩ | ⟨rfl, rfl, rfl, rfl⟩ | ⟨rfl, rfl, rfl, rfl⟩
    · have TS1 := Lib.hid (show tk 0 hi 64 % c = 0 by rw [tk_start _ _ h1 h0]; simp)
      have TS2 := Lib.hid (show tk 0 hi 64 / c = 0 by rw [tk_start _ _ h1 h0]; simp)
      have TE1 := Lib.hid (show tk 0 hi 0 % c = hi % c by rw [tk_end]; simp)
      have TE2 := Lib.hid (show tk 0 hi 0 / c = hi / c by rw [tk_end]; simp)
      have RB := Lib.hid (show (0 : Int) ≤ 0 ∧ (0 : Int) < c by omega)
      go_wp2
      go_loopg [5, 8] 65 (fun k r b wr => ∃ m : Nat, k = m + 1 ∧ m ≤ 64 ∧ b = .int .i64 ((m : Int) - 1) ∧ r = .int .u64 (tk 0 hi m % c) ∧
        wr = (w.alloc (.cells #[.int .u64 hi, .int .u64 lo] 101)).alloc (.cells #[.int .u64 (tk 0 hi m / c), .int .u64 0] 101))
      case atStart => exact ⟨64, rfl, by omega, rfl, by rw [TS1.out], by rw [TS2.out]⟩
      case round =>
        obtain ⟨m, hgk, hm, rfl, rfl, rfl⟩ := hrel
        cases m with
        | zero =>
          have em : (((0 : Nat) : Int) - 1) = -1 := rfl
          rw [em]
          clear em
          go_wp2
          go_roundg (3 - 1)
          case measure => omega
          case rel => exact ⟨1, hi % c, hi / c, 0, rfl, by omega, rfl, by rw [TE1.out], .inr (.inl ⟨rfl, rfl, rfl, rfl⟩), by rw [TE2.out]⟩
        | succ n =>
          have em : ((n + 1 : Nat) : Int) - 1 = (n : Int) := by omega
          rw [em]
          clear em
          obtain ⟨r, q, b, e1, e2, e3, b0, b1, r0, r1, q0, q1, e4, e5, e6, e7, e8, dn1, dn2⟩ := bit_facts 0 hi c n hm RB.out.1 RB.out.2 c1 (by omega) (by omega)
          have TZ := Lib.hid (tk_zeros 0 hi c (n + 1) hm (by omega))
          rw [e1, e2] at TZ
          have hgr : ¬ (63 : Int) - n < 0 := by omega
          rw [e1, e2]
          have DN1 := Lib.hid dn1; have DN2 := Lib.hid dn2
          clear e1 e2 dn1 dn2
          by_cases hz : r = 0 ∧ hi * 2 ^ (63 - n) % 18446744073709551616 = 0
          · obtain ⟨hr0, hz⟩ := hz
            have TZ' := Lib.hid (TZ.out hr0 (by rw [show 64 - (n + 1) = 63 - n by omega]; exact hz))
            have hb1 : (r == 0) = true := by simp [hr0]
            have hb2 : (IntKind.u64.wrap (hi * 2 ^ (63 - n)) == 0) = true := by rw [IntKind.wrap_u64, hz]; rfl
            have HR0 := Lib.hid hr0
            clear hr0 hz
            have hqw : 0 ≤ q * 2 ^ (n + 1) ∧ q * 2 ^ (n + 1) < 18446744073709551616 := by
              rw [← TZ'.out.1]
              exact ⟨(tk_quot 0 hi c 0 (by omega) RB.out.1 RB.out.2 (by omega) (by omega)).1, by have := (tk_quot 0 hi c 0 (by omega) RB.out.1 RB.out.2 (by omega) (by omega)).2; simpa using this⟩
            have e9 : IntKind.u64.wrap (q * 2 ^ (n + 1)) = q * 2 ^ (n + 1) := wrap_of _ hqw.1 hqw.2
            clear hqw
            go_wp2
            go_roundg (3 - 1)
            case measure => omega
            case rel => exact ⟨1, hi % c, hi / c, 0, rfl, by omega, rfl, by rw [← TE1.out, TZ'.out.2, HR0.out], .inr (.inl ⟨rfl, rfl, rfl, rfl⟩), by rw [← TE2.out, TZ'.out.1]⟩
          · have hb2 : r = 0 → (IntKind.u64.wrap (hi * 2 ^ (63 - n)) == 0) = false := fun h => by rw [IntKind.wrap_u64, beq_eq_false_iff_ne]; exact fun h2 => hz ⟨h, h2⟩
            clear TZ hz
            rcases Int.lt_or_eq_of_le r0 with hr0 | hr0
            · have hb1 : (r == 0) = false := by simp; omega
              clear hb2
              by_cases hcmp : c ≤ r * 2 + b
              · have D := Lib.hid (DN1.out hcmp)
                clear DN1 DN2
                go_wp2
                go_roundg (n + 1)
                case measure => omega
                case rel => exact ⟨n, rfl, by omega, rfl, by rw [D.out.2.1], by rw [D.out.1]⟩
              · have D := Lib.hid (DN2.out (by omega))
                clear DN1 DN2
                go_wp2
                go_roundg (n + 1)
                case measure => omega
                case rel => exact ⟨n, rfl, by omega, rfl, by rw [D.out.2], by rw [D.out.1]⟩
            · have hb1 : (r == 0) = true := by simp [← hr0]
              have hb2' := hb2 hr0.symm
              clear hb2
              have HR0 := Lib.hid hr0
              clear hr0
              by_cases hcmp : c ≤ r * 2 + b
              · have D := Lib.hid (DN1.out hcmp)
                clear DN1 DN2
                go_wp2
                go_roundg (n + 1)
                case measure => omega
                case rel => exact ⟨n, rfl, by omega, rfl, by rw [D.out.2.1], by rw [D.out.1]⟩
              · have D := Lib.hid (DN2.out (by omega))
                clear DN1 DN2
                go_wp2
                go_roundg (n + 1)
                case measure => omega
                case rel => exact ⟨n, rfl, by omega, rfl, by rw [D.out.2], by rw [D.out.1]⟩
    · have TS1 := Lib.hid (show tk (hi % c) lo 64 % c = hi % c by rw [tk_start _ _ l1 l0]; exact Int.emod_eq_of_lt hmb hmc)
      have TS2 := Lib.hid (show tk (hi % c) lo 64 / c = 0 by rw [tk_start _ _ l1 l0]; exact Int.ediv_eq_zero_of_lt hmb hmc)
      have RB := Lib.hid (show (0 : Int) ≤ hi % c ∧ hi % c < c by omega)
      go_wp2
      go_loopg [5, 8] 65 (fun k r b wr => ∃ m : Nat, k = m + 1 ∧ m ≤ 64 ∧ b = .int .i64 ((m : Int) - 1) ∧ r = .int .u64 (tk (hi % c) lo m % c) ∧
        wr = (w.alloc (.cells #[.int .u64 hi, .int .u64 lo] 101)).alloc (.cells #[.int .u64 (hi / c), .int .u64 (tk (hi % c) lo m / c)] 101))
      case atStart => exact ⟨64, rfl, by omega, rfl, by rw [TS1.out], by rw [TS2.out]⟩
      case round =>
        obtain ⟨m, hgk, hm, rfl, rfl, rfl⟩ := hrel
        cases m with
        | zero =>
          have em : (((0 : Nat) : Int) - 1) = -1 := rfl
          rw [em]
          clear em
          go_wp2
          go_roundg (3 - 2)
          case measure => omega
          case rel => exact ⟨2, tk (hi % c) lo 0 % c, hi / c, tk (hi % c) lo 0 / c, rfl, by omega, rfl, rfl, .inr (.inr ⟨rfl, rfl, rfl, rfl⟩), rfl⟩
        | succ n =>
          have em : ((n + 1 : Nat) : Int) - 1 = (n : Int) := by omega
          rw [em]
          clear em
          obtain ⟨r, q, b, e1, e2, e3, b0, b1, r0, r1, q0, q1, e4, e5, e6, e7, e8, dn1, dn2⟩ := bit_facts (hi % c) lo c n hm RB.out.1 RB.out.2 c1 (by omega) (by omega)
          have TZ := Lib.hid (tk_zeros (hi % c) lo c (n + 1) hm (by omega))
          rw [e1, e2] at TZ
          have hgr : ¬ (63 : Int) - n < 0 := by omega
          rw [e1, e2]
          have DN1 := Lib.hid dn1; have DN2 := Lib.hid dn2
          clear e1 e2 dn1 dn2
          by_cases hz : r = 0 ∧ lo * 2 ^ (63 - n) % 18446744073709551616 = 0
          · obtain ⟨hr0, hz⟩ := hz
            have TZ' := Lib.hid (TZ.out hr0 (by rw [show 64 - (n + 1) = 63 - n by omega]; exact hz))
            have hb1 : (r == 0) = true := by simp [hr0]
            have hb2 : (IntKind.u64.wrap (lo * 2 ^ (63 - n)) == 0) = true := by rw [IntKind.wrap_u64, hz]; rfl
            have HR0 := Lib.hid hr0
            clear hr0 hz
            have hqw : 0 ≤ q * 2 ^ (n + 1) ∧ q * 2 ^ (n + 1) < 18446744073709551616 := by
              rw [← TZ'.out.1]
              exact ⟨(tk_quot (hi % c) lo c 0 (by omega) RB.out.1 RB.out.2 (by omega) (by omega)).1, by have := (tk_quot (hi % c) lo c 0 (by omega) RB.out.1 RB.out.2 (by omega) (by omega)).2; simpa using this⟩
            have e9 : IntKind.u64.wrap (q * 2 ^ (n + 1)) = q * 2 ^ (n + 1) := wrap_of _ hqw.1 hqw.2
            clear hqw
            go_wp2
            go_roundg (3 - 2)
            case measure => omega
            case rel => exact ⟨2, tk (hi % c) lo 0 % c, hi / c, tk (hi % c) lo 0 / c, rfl, by omega, rfl, by rw [TZ'.out.2, HR0.out], .inr (.inr ⟨rfl, rfl, rfl, rfl⟩), by rw [TZ'.out.1]⟩
          · have hb2 : r = 0 → (IntKind.u64.wrap (lo * 2 ^ (63 - n)) == 0) = false := fun h => by rw [IntKind.wrap_u64, beq_eq_false_iff_ne]; exact fun h2 => hz ⟨h, h2⟩
            clear TZ hz
            rcases Int.lt_or_eq_of_le r0 with hr0 | hr0
            · have hb1 : (r == 0) = false := by simp; omega
              clear hb2
              by_cases hcmp : c ≤ r * 2 + b
              · have D := Lib.hid (DN1.out hcmp)
                clear DN1 DN2
                go_wp2
                go_roundg (n + 1)
                case measure => omega
                case rel => exact ⟨n, rfl, by omega, rfl, by rw [D.out.2.1], by rw [D.out.1]⟩
              · have D := Lib.hid (DN2.out (by omega))
                clear DN1 DN2
                go_wp2
                go_roundg (n + 1)
                case measure => omega
                case rel => exact ⟨n, rfl, by omega, rfl, by rw [D.out.2], by rw [D.out.1]⟩
            · have hb1 : (r == 0) = true := by simp [← hr0]
              have hb2' := hb2 hr0.symm
              clear hb2
              have HR0 := Lib.hid hr0
              clear hr0
              by_cases hcmp : c ≤ r * 2 + b
              · have D := Lib.hid (DN1.out hcmp)
                clear DN1 DN2
                go_wp2
                go_roundg (n + 1)
                case measure => omega
                case rel => exact ⟨n, rfl, by omega, rfl, by rw [D.out.2.1], by rw [D.out.1]⟩
              · have D := Lib.hid (DN2.out (by omega))
                clear DN1 DN2
                go_wp2
                go_roundg (n + 1)
                case measure => omega
                case rel => exact ⟨n, rfl, by omega, rfl, by rw [D.out.2], by rw [D.out.1]⟩
    · go_wp2
      rw [Exit.noGoto_ret]
      refine bodyPost_ret (v := .tuple #[.agg #[.int .u64 (hi / c), .int .u64 (tk (hi % c) lo 0 / c)], .int .u64 (tk (hi % c) lo 0 % c)]) (by simp [results, Try.results63, go_sem]) rfl ⟨rfl, ((Below.refl _ _).alloc (Nat.le_refl _) _).alloc (by simp) _⟩
def awayB (mode : Int) (neg odd : Bool) (r c : Int) : Bool :=
  if r = 0 then false else if mode = 2 then true else if mode = 3 then decide (c - r ≤ r) else if mode = 4 then decide (c - r < r) || decide (r = c - r) && odd else if mode = 5 then neg else false
def sgnS (neg : Bool) (s : Int) : Int × Int :=
  if neg then (if 9223372036854775808 < s then (0, 4) else (-s, 0)) else if 9223372036854775808 ≤ s then (0, 4) else (s, 0)
def mdS (a b c mode : Int) : Int × Int :=
  if mode < 1 ∨ 5 < mode then (0, 10) else if c = 0 then (0, 2) else
    let p := absI a * absI b
    let neg := decide (p ≠ 0) && (((decide (a < 0)) != (decide (b < 0))) != (decide (c < 0)))
    let q := p / absI c
    sgnS neg (q + if awayB mode neg (decide (q % 2 = 1)) (p % absI c) (absI c) then 1 else 0)
set_option maxHeartbeats 1000000 in
theorem muldiv_away.calls (mode : Int) (neg odd : Bool) (r c : Int) (w : World) (h0 : 0 ≤ r) (h1 : r < c) (h2 : c ≤ 9223372036854775808) :
    Calls Try.prog 64 #[.int .i64 mode, .bool neg, .bool odd, .int .u64 r, .int .u64 c] w fun e w' => e = .returned (.bool (awayB mode neg odd r c)) ∧ w = w' := by
  have e1 : IntKind.u64.wrap (c - r) = c - r := wrap_of _ (by omega) (by omega)
  by_cases hr : r = 0
  · subst hr
    go_enter Try.func64, Try.ntmps64
    go_wp2
    go_ret
    exact ⟨by simp [awayB], rfl⟩
  · have b1 : (r == 0) = false := by simp [hr]
    by_cases m2 : mode = 2
    · subst m2
      go_enter Try.func64, Try.ntmps64
      go_wp2
      go_ret
      exact ⟨by simp [awayB, hr], rfl⟩
    · have b2 : (mode == 2) = false := by simp [m2]
      by_cases m3 : mode = 3
      · subst m3
        go_enter Try.func64, Try.ntmps64
        go_wp2
        go_ret
        exact ⟨by simp [awayB, hr], rfl⟩
      · have b3 : (mode == 3) = false := by simp [m3]
        by_cases m4 : mode = 4
        · subst m4
          by_cases c1 : c - r < r
          · go_enter Try.func64, Try.ntmps64
            go_wp2
            go_ret
            exact ⟨by simp [awayB, hr, c1], rfl⟩
          · by_cases c2 : r = c - r
            · have b5 : (r == c - r) = true := by simpa using c2
              have HC2 := Lib.hid c2; clear c2
              go_enter Try.func64, Try.ntmps64
              go_wp2
              go_ret
              refine ⟨?_, rfl⟩
              have := HC2.out
              have hlt : decide (c - r < r) = false := by simp; omega
              simp only [awayB, hr, if_false, hlt, Bool.false_or, show (4 : Int) ≠ 2 by omega, show (4 : Int) ≠ 3 by omega, if_true, decide_eq_true this, Bool.true_and]
              rfl
            · have b5 : (r == c - r) = false := by simpa using c2
              go_enter Try.func64, Try.ntmps64
              go_wp2
              go_ret
              exact ⟨by simp [awayB, hr, c1, c2], rfl⟩
        · have b4 : (mode == 4) = false := by simp [m4]
          by_cases m5 : mode = 5
          · subst m5
            go_enter Try.func64, Try.ntmps64
            go_wp2
            go_ret
            exact ⟨by simp [awayB, hr], rfl⟩
          · have b5 : (mode == 5) = false := by simp [m5]
            go_enter Try.func64, Try.ntmps64
            go_wp2
            go_ret
            exact ⟨by simp [awayB, hr, m2, m3, m4, m5], rfl⟩
set_option maxHeartbeats 1000000 in
theorem muldiv_signed.calls (neg : Bool) (s : Int) (w : World) (h0 : 0 ≤ s) (h1 : s < 18446744073709551616) :
    Calls Try.prog 65 #[.bool neg, .int .u64 s] w fun e w' => e = .returned (.tuple #[.int .i64 (sgnS neg s).1, .int .i64 (sgnS neg s).2]) ∧ w = w' := by
  cases neg
  · by_cases h : 9223372036854775808 ≤ s
    · have HF := Lib.hid (show sgnS false s = (0, 4) by simp [sgnS, h])
      go_enter Try.func65, Try.ntmps65
      go_wp2
      go_ret2
      refine ⟨?_, rfl⟩
      rw [HF.out]
      first | rfl | (simp; omega)
    · have HF := Lib.hid (show sgnS false s = (s, 0) by simp [sgnS, h])
      go_enter Try.func65, Try.ntmps65
      go_wp2
      go_ret2
      refine ⟨?_, rfl⟩
      rw [HF.out]
      first | rfl | (simp; omega)
  · by_cases hs0 : s = 0
    · subst hs0
      have HF := Lib.hid (show sgnS true 0 = (0, 0) by simp [sgnS])
      go_enter Try.func65, Try.ntmps65
      go_wp2
      go_ret2
      refine ⟨?_, rfl⟩
      rw [HF.out]
      have hw : wrap64 (wrap64 (-wrap64 (IntKind.u64.wrap (-1))) - 1) = 0 := by rw [IntKind.wrap_u64]; unfold wrap64; omega
      simp [hw]
    have hs : 1 ≤ s := by omega
    clear hs0
    by_cases h : 9223372036854775808 < s
    · have HF := Lib.hid (show sgnS true s = (0, 4) by simp [sgnS, h])
      go_enter Try.func65, Try.ntmps65
      go_wp2
      go_ret2
      refine ⟨?_, rfl⟩
      rw [HF.out]
      first | rfl | (simp; omega)
    · have HF := Lib.hid (show sgnS true s = (-s, 0) by simp [sgnS, h])
      go_enter Try.func65, Try.ntmps65
      go_wp2
      go_ret2
      refine ⟨?_, rfl⟩
      rw [HF.out]
      first | rfl | (simp; omega)
theorem info_u64 : (Try.prog.info? 78).map (·.size) = some 1 := by kernel_rfl
theorem part_u64 (cs : Array Value) (o : Nat) (v : Value) (w : World) (h1 : cs[o]? = some v) : (part 78 cs o).run Try.prog w = .ok v w := by
  simp [part, isAgg, run_underlying Try.underlying78, h1]
set_option maxHeartbeats 1000000 in
theorem eq_double (x y x' y' : Int) (w : World) : (Op.equalIn 10000 101 (.agg #[.int .u64 x, .int .u64 y]) (.agg #[.int .u64 x', .int .u64 y'])).run Try.prog w = .ok (x == x' && y == y') w := by
  obtain ⟨i, hi, hs⟩ := Option.map_eq_some_iff.1 info_u64
  have hc : Try.prog.cellsOf 78 = 1 := by simp [Program.cellsOf, hi, hs]
  rw [show (10000 : Nat) = 9998 + 1 + 1 from rfl, run_equalIn_array (w := w) (9998 + 1) _ _ Try.underlying101 hi, hc]
  have p0 : ∀ (a b : Int), (part 78 #[.int .u64 a, .int .u64 b] (0 * 1)).run Try.prog w = .ok (.int .u64 a) w := fun a b => part_u64 _ _ _ _ rfl
  have p1 : ∀ (a b : Int), (part 78 #[.int .u64 a, .int .u64 b] (1 * 1)).run Try.prog w = .ok (.int .u64 b) w := fun a b => part_u64 _ _ _ _ rfl
  have pe : ∀ (a b : Int), (Op.equalIn (9998 + 1) 78 (.int .u64 a) (.int .u64 b)).run Try.prog w = .ok (a == b) w := fun a b => run_equalIn_int w _ _ _ _ _ _ Try.underlying78
  have hr : List.range 2 = [0, 1] := rfl
  rw [hr]
  simp only [Op.eqItems, Sem.run_bind, p0, pe, Result.andThen_ok]
  cases h1 : (x == x')
  · simp
  · simp only [Bool.not_true, Bool.false_eq_true, if_false, Sem.run_bind, p1, pe, Result.andThen_ok]
    cases h2 : (y == y') <;> simp
theorem md_words (p ph pl c : Int) (_h0 : 0 ≤ p) (h1 : p / 18446744073709551616 = ph) (h2 : p % 18446744073709551616 = pl) (hc : 1 ≤ c) :
    p / c = ph / c * 18446744073709551616 + tk (ph % c) pl 0 / c ∧ p % c = tk (ph % c) pl 0 % c ∧ 0 ≤ tk (ph % c) pl 0 / c ∧ tk (ph % c) pl 0 / c < 18446744073709551616 ∧ 0 ≤ tk (ph % c) pl 0 % c ∧ tk (ph % c) pl 0 % c < c ∧ 0 ≤ ph / c := by
  have hp : p = ph * 18446744073709551616 + pl := by omega
  have hm0 := Int.emod_nonneg ph (by omega : c ≠ 0)
  have hm1 := Int.emod_lt_of_pos ph (by omega : 0 < c)
  have e := Int.emod_add_mul_ediv ph c
  obtain ⟨q0, q1⟩ := tk_quot (ph % c) pl c 0 (by omega) hm0 hm1 (by omega) (by omega)
  have ht : p = tk (ph % c) pl 0 + c * (ph / c * 18446744073709551616) := by
    rw [tk_end, hp]; grind
  refine ⟨?_, ?_, q0, by simpa using q1, Int.emod_nonneg _ (by omega), Int.emod_lt_of_pos _ (by omega), Int.ediv_nonneg (by omega) (by omega)⟩
  · conv => lhs; rw [ht]
    rw [Int.add_mul_ediv_left _ _ (by omega)]; omega
  · conv => lhs; rw [ht]
    rw [Int.add_mul_emod_self_left]
set_option maxRecDepth 100000 in
set_option maxHeartbeats 4000000 in
theorem muldiv_MulDiv.calls (a b c mode : Int) (w : World) (a0 : -9223372036854775808 ≤ a) (a1 : a ≤ 9223372036854775807) (b0 : -9223372036854775808 ≤ b) (b1 : b ≤ 9223372036854775807) (c0 : -9223372036854775808 ≤ c) (c1 : c ≤ 9223372036854775807) :
    Calls Try.prog 39 #[.int .i64 a, .int .i64 b, .int .i64 c, .int .i64 mode] w fun e w' => e = .returned (.tuple #[.int .i64 (mdS a b c mode).1, .int .i64 (mdS a b c mode).2]) ∧ Below w.heap.size w w' := by
  by_cases hm : mode < 1 ∨ 5 < mode
  · have HF := Lib.hid (show mdS a b c mode = (0, 10) by simp [mdS, hm])
    rcases hm with hm | hm
    all_goals
      go_enter Try.func39, Try.ntmps39
      go_wp2
      go_ret2
      exact ⟨by rw [HF.out]; rfl, Below.refl _ _⟩
  · by_cases hc : c = 0
    · have HF := Lib.hid (show mdS a b c mode = (0, 2) by simp [mdS, hm, hc])
      subst hc
      go_enter Try.func39, Try.ntmps39
      go_wp2
      go_ret2
      exact ⟨by rw [HF.out]; rfl, Below.refl _ _⟩
    · have bc : (c == 0) = false := by simp [hc]
      have m1 : 1 ≤ mode := by omega
      have m2 : mode ≤ 5 := by omega
      have A0 := absI_nn a; have A1 := absI_le a a0 a1
      have B0 := absI_nn b; have B1 := absI_le b b0 b1
      have C1 := absI_le c c0 c1
      have C0 : 1 ≤ absI c := by unfold absI; split <;> omega
      have C := muldiv_divide.calls
      obtain ⟨p, hp⟩ : ∃ p, absI a * absI b = p := ⟨_, rfl⟩
      have P0 : 0 ≤ p := by rw [← hp]; exact Int.mul_nonneg A0 B0
      have P1 : p < 340282366920938463463374607431768211456 := by
        have := mul_bd (absI a) (absI b) 9223372036854775808 A0 A1 B0 B1
        omega
      obtain ⟨ph, hph⟩ : ∃ ph, p / 18446744073709551616 = ph := ⟨_, rfl⟩
      obtain ⟨pl, hpl⟩ : ∃ pl, p % 18446744073709551616 = pl := ⟨_, rfl⟩
      have PH : 0 ≤ ph ∧ ph < 18446744073709551616 := by omega
      have PL : 0 ≤ pl ∧ pl < 18446744073709551616 := by omega
      obtain ⟨N, hN⟩ : ∃ N, (decide (p ≠ 0) && ((decide (a < 0) != decide (b < 0)) != decide (c < 0))) = N := ⟨_, rfl⟩
      have hz : (ph == 0 && pl == 0) = !decide (p ≠ 0) := by
        rw [Bool.eq_iff_iff]; simp; omega
      have ne := eq_double ph pl 0 0
      have HP := Lib.hid hp; have HPH := Lib.hid hph; have HPL := Lib.hid hpl; have HC := Lib.hid PH; have HD := Lib.hid PL; have HZ := Lib.hid hz; have HN := Lib.hid hN
      clear hm hc hp hph hpl C PH PL P1 hz hN
      go_enter Try.func39, Try.ntmps39
      go_upto_region 6 with (first
        | (go_at_call_of 62 (Value.int IntKind.i64 a); refine (muldiv_magnitude.calls a _ a0 a1).mono ?_; rintro e w' ⟨rfl, rfl⟩)
        | (go_at_call_of 62 (Value.int IntKind.i64 b); refine (muldiv_magnitude.calls b _ b0 b1).mono ?_; rintro e w' ⟨rfl, rfl⟩)
        | (go_at_call 61; refine (muldiv_multiply.calls _ _ _ A0 (by omega) B0 (by omega)).mono ?_; rintro e w1 ⟨rfl, hb1⟩; rw [HP.out, HPH.out, HPL.out]))
      go_cut [11] (fun s11 wx => s11 = .bool N ∧ wx = w1.alloc (.cells #[.int .u64 ph, .int .u64 pl] 101))
      case first =>
        by_cases hzz : (ph == 0 && pl == 0) = true
        · rw [hzz] at ne
          have HZZ := Lib.hid hzz; clear hzz
          go_wp2
          go_meet
          refine ⟨?_, rfl⟩
          rw [← HN.out]
          have := HZ.out; rw [HZZ.out] at this
          have e : decide (p ≠ 0) = false := by simpa using this.symm
          rw [e]; rfl
        · rw [Bool.not_eq_true] at hzz
          rw [hzz] at ne
          have HZZ := Lib.hid hzz; clear hzz
          go_wp2
          go_meet
          refine ⟨?_, rfl⟩
          rw [← HN.out]
          have := HZ.out; rw [HZZ.out] at this
          have e : decide (p ≠ 0) = true := by simpa using this.symm
          rw [e]; rfl
      case rest =>
        obtain ⟨rfl, rfl⟩ := hcut
        go_upto_region 7 with fail
        obtain ⟨ql, hql⟩ : ∃ ql, tk (ph % absI c) pl 0 / absI c = ql := ⟨_, rfl⟩
        obtain ⟨qh, hqh⟩ : ∃ qh, ph / absI c = qh := ⟨_, rfl⟩
        obtain ⟨r, hr⟩ : ∃ r, tk (ph % absI c) pl 0 % absI c = r := ⟨_, rfl⟩
        have HQL := Lib.hid hql; have HQH := Lib.hid hqh; have HR := Lib.hid hr
        clear hql hqh hr
        go_cut [12, 13] (fun s12 s13 wx => ∃ tb : Nat, s12 = .pointer (some ⟨tb, 0, none⟩) ∧ s13 = .int .u64 r ∧ wx.cell? ⟨tb, 0, none⟩ = some (.int .u64 qh) ∧ wx.cell? ⟨tb, 1, none⟩ = some (.int .u64 ql) ∧ Below w1.heap.size w1 wx)
        case first =>
          go_region_held3 (fun w' => w'.cell? ⟨w1.heap.size, 0, none⟩ = some (.int .u64 ph) ∧ w'.cell? ⟨w1.heap.size, 1, none⟩ = some (.int .u64 pl)) (first | go_keep | (refine ⟨?_, ?_⟩ <;> (rw [hcc _ _ (by simp <;> omega)]; simp)))
            (first
              | (go_at_call 62; refine (muldiv_magnitude.calls c _ c0 c1).mono ?_; rintro e w' ⟨rfl, rfl⟩)
              | (go_at_call 63; refine (muldiv_divide.calls ph pl _ _ HC.out.1 HC.out.2 HD.out.1 HD.out.2 C0 C1).mono ?_; rintro e w2 ⟨rfl, hb2⟩; rw [HQL.out, HQH.out, HR.out]; obtain ⟨hcc, hff⟩ := bcell hb2; have hz2 := hb2.size; simp only [World.size_drew, World.size_alloc] at hz2))
          all_goals
            go_wp2
            go_meet
            refine ⟨_, rfl, rfl, ?_, ?_, ?_⟩
            · first
                | (simp; done)
                | (rw [World.cell?_setCell_other _ _ _ _ (by simp), World.cell?_setCell_same' _ _ _ (by rw [hcc _ _ (by simp <;> omega)]; simp)])
            · first
                | (simp; done)
                | (rw [World.cell?_setCell_same' _ _ _ (by rw [World.cell?_setCell_other _ _ _ _ (by simp), hcc _ _ (by simp <;> omega)]; simp)])
            · first
                | exact ((((Below.refl _ _).alloc (Nat.le_refl _) _).drew).trans (hb2.mono (by simp <;> omega))).alloc (by omega) _
                | exact ((((((Below.refl _ _).alloc (Nat.le_refl _) _).alloc (by simp <;> omega) _).drew).trans (hb2.mono (by simp <;> omega))).setCell (by simp <;> omega) _).setCell (by simp <;> omega) _
        case rest =>
          obtain ⟨tb, rfl, rfl, hc0, hc1, hb3⟩ := hcut
          have hdq := md_words p ph pl (absI c) (by omega) HPH.out HPL.out C0
          rw [HQH.out, HQL.out, HR.out] at hdq
          obtain ⟨hq, hr, ql0, ql1, r0, r1, qh0⟩ := hdq
          have HB := Lib.hid (show Below w.heap.size w wc from hb1.trans (hb3.mono hb1.size))
          have HM : ∀ x, sgnS N (qh * 18446744073709551616 + ql + if awayB mode N (decide ((qh * 18446744073709551616 + ql) % 2 = 1)) r (absI c) then 1 else 0) = x → mdS a b c mode = x := by
            intro x hx
            unfold mdS
            rw [if_neg (by omega), if_neg (by intro h; subst h; simp at bc)]
            simp only [HP.out, HN.out, hq, hr, hx]
          have HM := Lib.hid HM
          clear hq hr
          by_cases hqz : qh = 0
          · subst hqz
            rw [Int.zero_mul, Int.zero_add] at HM
            obtain ⟨od, hod⟩ : ∃ od, decide (ql % 2 = 1) = od := ⟨_, rfl⟩
            rw [hod] at HM
            have hod' : (ql % 2 == 1) = od := hod
            have hod2 := muldiv_away.calls mode N od r (absI c)
            cases hup : awayB mode N od r (absI c)
            · have HUP := Lib.hid hup; clear hup hod hod2
              rw [HUP.out] at HM
              go_wp2_with (first
                | (go_at_call 62; refine (muldiv_magnitude.calls c _ c0 c1).mono ?_; rintro e w' ⟨rfl, rfl⟩)
                | (go_at_call 64; refine (muldiv_away.calls _ _ _ _ _ _ r0 r1 C1).mono ?_; rintro e w' ⟨rfl, rfl⟩; rw [HUP.out])
                | (go_at_call 65; refine (muldiv_signed.calls _ _ _ ql0 ql1).mono ?_; rintro e w' ⟨rfl, rfl⟩))
              go_ret2
              exact ⟨by rw [HM.out _ rfl]; simp, HB.out⟩
            · have HUP := Lib.hid hup; clear hup hod hod2
              rw [HUP.out] at HM
              by_cases hov : ql = 18446744073709551615
              · have HF := Lib.hid (show sgnS N (ql + if true = true then 1 else 0) = (0, 4) by subst hov; cases N <;> simp [sgnS])
                have e1 : IntKind.u64.wrap (ql + 1) = 0 := by rw [hov, IntKind.wrap_u64]; rfl
                clear hov
                go_wp2_with (first
                  | (go_at_call 62; refine (muldiv_magnitude.calls c _ c0 c1).mono ?_; rintro e w' ⟨rfl, rfl⟩)
                  | (go_at_call 64; refine (muldiv_away.calls _ _ _ _ _ _ r0 r1 C1).mono ?_; rintro e w' ⟨rfl, rfl⟩; rw [HUP.out]))
                go_ret2
                exact ⟨by rw [HM.out _ HF.out]; rfl, HB.out⟩
              · have e1 : IntKind.u64.wrap (ql + 1) = ql + 1 := wrap_of _ (by omega) (by omega)
                have e2 : (ql + 1 == 0) = false := by simp; omega
                go_wp2_with (first
                  | (go_at_call 62; refine (muldiv_magnitude.calls c _ c0 c1).mono ?_; rintro e w' ⟨rfl, rfl⟩)
                  | (go_at_call 64; refine (muldiv_away.calls _ _ _ _ _ _ r0 r1 C1).mono ?_; rintro e w' ⟨rfl, rfl⟩; rw [HUP.out])
                  | (go_at_call 65; refine (muldiv_signed.calls _ (ql + 1) _ (by omega) (by omega)).mono ?_; rintro e w' ⟨rfl, rfl⟩))
                go_ret2
                exact ⟨by rw [HM.out _ rfl]; simp, HB.out⟩
          · have bq : (qh != 0) = true := by simp [hqz]
            have HF : sgnS N (qh * 18446744073709551616 + ql + if awayB mode N (decide ((qh * 18446744073709551616 + ql) % 2 = 1)) r (absI c) then 1 else 0) = (0, 4) := by
              generalize hU : (if awayB mode N (decide ((qh * 18446744073709551616 + ql) % 2 = 1)) r (absI c) = true then (1 : Int) else 0) = u at *
              have hu : 0 ≤ u := by rw [← hU]; split <;> omega
              cases N <;> simp only [sgnS, if_true] <;> first | rw [if_pos (by omega)] | (simp; omega)
            have HF := Lib.hid (HM.out _ HF)
            go_wp2
            go_ret2
            exact ⟨by rw [HF.out]; rfl, HB.out⟩
end Go.Proofs.Ytdlilbleohlmnaa
namespace Go.Proofs.Ytdlilbleohlmnaa
open Go.RowKit Go.Lib
def cmpI (a b : Int) : Int := if a < b then -1 else if b < a then 1 else 0
def inI (n : Int) : Prop := -9223372036854775808 ≤ n ∧ n ≤ 9223372036854775807
def Two (w : World) (b : Nat) (x y : Value) : Prop := w.cell? ⟨b, 0, none⟩ = some x ∧ w.cell? ⟨b, 1, none⟩ = some y ∧ w.frozen? ⟨b, 0, none⟩ = false ∧ w.frozen? ⟨b, 1, none⟩ = false
theorem Two.new (w : World) (x y : Value) (t : TypeId) : Two (w.alloc (.cells #[x, y] t)) w.heap.size x y := ⟨by simp, by simp, by simp, by simp⟩
theorem Two.below {w w' : World} {b : Nat} {x y : Value} (h : Two w b x y) (hb : b < w.heap.size) (hB : Below w.heap.size w w') : Two w' b x y :=
  ⟨((bcell hB).1 b 0 hb).trans h.1, ((bcell hB).1 b 1 hb).trans h.2.1, ((bcell hB).2 b 0 hb).trans h.2.2.1, ((bcell hB).2 b 1 hb).trans h.2.2.2⟩
theorem Two.set {w : World} {b : Nat} {x y : Value} (h : Two w b x y) (u v : Value) : ((w.setCell ⟨b, 0, none⟩ u).setCell ⟨b, 1, none⟩ v).cell? ⟨b, 0, none⟩ = some u ∧ ((w.setCell ⟨b, 0, none⟩ u).setCell ⟨b, 1, none⟩ v).cell? ⟨b, 1, none⟩ = some v := by
  have h1 : (w.setCell ⟨b, 0, none⟩ u).cell? ⟨b, 1, none⟩ = some y := by rw [World.cell?_setCell_other _ _ _ _ (by simp)]; exact h.2.1
  have h0 : (w.setCell ⟨b, 0, none⟩ u).cell? ⟨b, 0, none⟩ = some u := World.cell?_setCell_same' _ _ _ (by rw [h.1]; rfl)
  exact ⟨by rw [World.cell?_setCell_other _ _ _ _ (by simp)]; exact h0, World.cell?_setCell_same' _ _ _ (by rw [h1]; rfl)⟩
theorem below_drewN (w : World) (n : Nat) : Below w.heap.size w (w.drewN n) := ⟨rfl, rfl, rfl, Nat.le_refl _, fun _ _ => rfl⟩
theorem Ba {a b : World} (h : Below a.heap.size a b) (o : Obj) : Below a.heap.size a (b.alloc o) := h.alloc h.size o
theorem Bn (a : World) (o : Obj) : Below a.heap.size a (a.alloc o) := (Below.refl _ _).alloc (Nat.le_refl _) o
theorem Bt {a b c : World} (h : Below a.heap.size a b) (k : Below b.heap.size b c) : Below a.heap.size a c := h.trans (k.mono h.size)
def dirI (a b : Int) : Int := if a = 0 ∨ b = 0 then 0 else if (decide (a < 0)) = (decide (b < 0)) then 1 else -1
theorem dir_ways (a b : Int) : (dirI a b = 0 ∧ a * b = 0 ∧ absI a * absI b = 0) ∨ (dirI a b = -1 ∧ a * b < 0 ∧ absI a * absI b = -(a * b)) ∨ (dirI a b = 1 ∧ 0 < a * b ∧ absI a * absI b = a * b) := by
  unfold dirI absI
  by_cases h0 : a = 0 ∨ b = 0
  · left
    rcases h0 with rfl | rfl <;> simp
  · rw [if_neg h0]
    by_cases ha : a < 0 <;> by_cases hb : b < 0
    · right; right
      have := Int.mul_pos_of_neg_of_neg ha hb
      simp [ha, hb, this, Int.neg_mul_neg]
    · right; left
      have := Int.mul_neg_of_neg_of_pos ha (by omega : 0 < b)
      simp [ha, hb, this, Int.neg_mul]
    · right; left
      have := Int.mul_neg_of_pos_of_neg (by omega : 0 < a) hb
      simp [ha, hb, this, Int.mul_neg]
    · right; right
      have := Int.mul_pos (by omega : 0 < a) (by omega : 0 < b)
      simp [ha, hb, this]
theorem cmp_dir (a b c d : Int) :
    (dirI a b < dirI c d → cmpI (a * b) (c * d) = -1) ∧ (dirI c d < dirI a b → cmpI (a * b) (c * d) = 1) ∧
    (dirI a b = dirI c d → dirI a b < 0 → cmpI (absI c * absI d) (absI a * absI b) = cmpI (a * b) (c * d)) ∧
    (dirI a b = dirI c d → ¬ dirI a b < 0 → cmpI (absI a * absI b) (absI c * absI d) = cmpI (a * b) (c * d)) := by
  unfold cmpI
  rcases dir_ways a b with ⟨e1, e2, e3⟩ | ⟨e1, e2, e3⟩ | ⟨e1, e2, e3⟩ <;> rcases dir_ways c d with ⟨f1, f2, f3⟩ | ⟨f1, f2, f3⟩ | ⟨f1, f2, f3⟩ <;>
    (rw [e1, f1, e3, f3]; generalize a * b = P at *; generalize c * d = Q at *; refine ⟨?_, ?_, ?_, ?_⟩ <;> intros <;> (repeat' split) <;> omega)
set_option maxHeartbeats 1000000 in
theorem muldiv_direction.calls (a b : Int) (w : World) :
    Calls Try.prog 90 #[.int .i64 a, .int .i64 b] w fun e w' => e = .returned (.int .i64 (dirI a b)) ∧ w = w' := by
  by_cases h1 : a = 0
  · have HF := Lib.hid (show dirI a b = 0 by unfold dirI; rw [if_pos (.inl h1)])
    subst h1
    go_enter Try.func90, Try.ntmps90
    go_wp2
    go_ret
    exact ⟨by rw [HF.out]; rfl, rfl⟩
  by_cases h2 : b = 0
  · have HF := Lib.hid (show dirI a b = 0 by unfold dirI; rw [if_pos (.inr h2)])
    have n1 : (a == 0) = false := by simp [h1]
    subst h2
    go_enter Try.func90, Try.ntmps90
    go_wp2
    go_ret
    exact ⟨by rw [HF.out]; rfl, rfl⟩
  have n1 : (a == 0) = false := by simp [h1]
  have n2 : (b == 0) = false := by simp [h2]
  have HF := Lib.hid (show dirI a b = if (decide (a < 0)) = (decide (b < 0)) then 1 else -1 by unfold dirI; rw [if_neg (by simp [h1, h2])])
  clear h1 h2
  obtain ⟨x, hx⟩ : ∃ x, decide (a < 0) = x := ⟨_, rfl⟩
  obtain ⟨y, hy⟩ : ∃ y, decide (b < 0) = y := ⟨_, rfl⟩
  rw [hx, hy] at HF
  cases x <;> cases y
  all_goals
    go_enter Try.func90, Try.ntmps90
    go_wp2
    go_ret
    exact ⟨by rw [HF.out]; rfl, rfl⟩
theorem cmp_words (a b c d : Int) (h0 : 0 ≤ b) (h1 : b < 18446744073709551616) (h2 : 0 ≤ d) (h3 : d < 18446744073709551616) :
    (a < c → cmpI (a * 18446744073709551616 + b) (c * 18446744073709551616 + d) = -1) ∧ (c < a → cmpI (a * 18446744073709551616 + b) (c * 18446744073709551616 + d) = 1) ∧
    (a = c → b < d → cmpI (a * 18446744073709551616 + b) (c * 18446744073709551616 + d) = -1) ∧ (a = c → d < b → cmpI (a * 18446744073709551616 + b) (c * 18446744073709551616 + d) = 1) ∧
    (a = c → b = d → cmpI (a * 18446744073709551616 + b) (c * 18446744073709551616 + d) = 0) := by
  unfold cmpI
  refine ⟨?_, ?_, ?_, ?_, ?_⟩ <;> intros <;> (repeat' split) <;> omega
set_option maxRecDepth 100000 in
set_option maxHeartbeats 4000000 in
theorem muldiv_compare.calls (a b c d r : Int) (w : World) (h0 : 0 ≤ b) (h1 : b < 18446744073709551616) (h2 : 0 ≤ d) (h3 : d < 18446744073709551616) (hr : cmpI (a * 18446744073709551616 + b) (c * 18446744073709551616 + d) = r) :
    Calls Try.prog 91 #[.agg #[.int .u64 a, .int .u64 b], .agg #[.int .u64 c, .int .u64 d]] w fun e w' => e = .returned (.int .i64 r) ∧ Below w.heap.size w w' := by
  have hcw := cmp_words a b c d h0 h1 h2 h3
  rw [hr] at hcw
  have HC := Lib.hid hcw
  clear hcw hr h0 h1 h2 h3
  go_enter Try.func91, Try.ntmps91
  go_wp2
  go_loopg [6] 2 (fun g s wr => ∃ k : Nat, g = 2 - k ∧ k ≤ 2 ∧ s = .int .i64 k ∧ Below w.heap.size w wr ∧ Two wr w.heap.size (.int .u64 a) (.int .u64 b) ∧ Two wr (w.heap.size + 1) (.int .u64 c) (.int .u64 d) ∧ w.heap.size + 1 < wr.heap.size ∧ Hid ((1 ≤ k → a = c) ∧ (2 ≤ k → b = d)))
  case atStart => exact ⟨0, rfl, by omega, rfl, Ba (Bn _ _) _, (Two.new w _ _ _).below (by simp) (Bn _ _), by have := Two.new (w.alloc (.cells #[.int .u64 a, .int .u64 b] 101)) (.int .u64 c) (.int .u64 d) 101; simpa using this, by simp, Lib.hid ⟨fun h => by omega, fun h => by omega⟩⟩
  case round =>
    obtain ⟨k, rfl, hk, rfl, hbr, t1, t2, hz, HI⟩ := hrel
    obtain ⟨x0, x1, _, _⟩ := id t1
    obtain ⟨y0, y1, _, _⟩ := id t2
    have hz0 : w.heap.size < wr.heap.size := by omega
    match k, hk with
    | 0, _ =>
      have e0 : ((0 : Nat) : Int) = 0 := rfl
      rw [e0]
      clear e0
      by_cases he : a = c
      · have n1 : (a == c) = true := by simp [he]
        have HE := Lib.hid he; clear he
        go_wp2
        go_quiet (fail)
        go_wp2
        go_roundg 1
        case measure => omega
        case rel => exact ⟨1, rfl, by omega, rfl, Bt hbr (below_drewN _ _), t1.below hz0 (below_drewN _ _), t2.below hz (below_drewN _ _), by simpa using hz, Lib.hid ⟨fun _ => HE.out, fun h => by omega⟩⟩
      · have n1 : (a == c) = false := by simp [he]
        by_cases hl : a < c
        · have HF := Lib.hid (HC.out.1 hl)
          go_wp2
          go_quiet (fail)
          go_wp2
          go_quiet (fail)
          go_wp2
          go_ret
          exact ⟨by rw [HF.out]; rfl, Bt hbr (Bt (below_drewN _ _) (below_drewN _ _))⟩
        · have hlb : decide (a < c) = false := decide_eq_false hl
          have HF := Lib.hid (HC.out.2.1 (by omega))
          clear he hl
          go_wp2
          go_quiet (fail)
          go_wp2
          go_quiet (fail)
          go_wp2
          go_ret
          exact ⟨by rw [HF.out]; rfl, Bt hbr (Bt (below_drewN _ _) (below_drewN _ _))⟩
    | 1, _ =>
      have e0 : ((1 : Nat) : Int) = 1 := rfl
      rw [e0]
      clear e0
      have HA := Lib.hid (HI.out.1 (by omega))
      by_cases he : b = d
      · have n1 : (b == d) = true := by simp [he]
        have HE := Lib.hid he; clear he
        go_wp2
        go_quiet (fail)
        go_wp2
        go_roundg 0
        case measure => omega
        case rel => exact ⟨2, rfl, by omega, rfl, Bt hbr (below_drewN _ _), t1.below hz0 (below_drewN _ _), t2.below hz (below_drewN _ _), by simpa using hz, Lib.hid ⟨fun _ => HA.out, fun _ => HE.out⟩⟩
      · have n1 : (b == d) = false := by simp [he]
        by_cases hl : b < d
        · have HF := Lib.hid (HC.out.2.2.1 HA.out hl)
          go_wp2
          go_quiet (fail)
          go_wp2
          go_quiet (fail)
          go_wp2
          go_ret
          exact ⟨by rw [HF.out]; rfl, Bt hbr (Bt (below_drewN _ _) (below_drewN _ _))⟩
        · have hlb : decide (b < d) = false := decide_eq_false hl
          have HF := Lib.hid (HC.out.2.2.2.1 HA.out (by omega))
          clear he hl
          go_wp2
          go_quiet (fail)
          go_wp2
          go_quiet (fail)
          go_wp2
          go_ret
          exact ⟨by rw [HF.out]; rfl, Bt hbr (Bt (below_drewN _ _) (below_drewN _ _))⟩
    | 2, _ =>
      have e0 : ((2 : Nat) : Int) = 2 := rfl
      rw [e0]
      clear e0
      have HF := Lib.hid (HC.out.2.2.2.2 (HI.out.1 (by omega)) (HI.out.2 (by omega)))
      go_wp2
      go_ret
      exact ⟨by rw [HF.out]; rfl, hbr⟩
set_option maxRecDepth 100000 in
set_option maxHeartbeats 4000000 in
theorem muldiv_Cmp.calls (a b c d : Int) (w : World) (ha : inI a) (hb : inI b) (hc : inI c) (hd : inI d) :
    Calls Try.prog 60 #[.int .i64 a, .int .i64 b, .int .i64 c, .int .i64 d] w fun e w' => e = .returned (.int .i64 (cmpI (a * b) (c * d))) ∧ Below w.heap.size w w' := by
  have A0 := absI_nn a; have A1 := absI_le a ha.1 ha.2
  have B0 := absI_nn b; have B1 := absI_le b hb.1 hb.2
  have C0 := absI_nn c; have C1 := absI_le c hc.1 hc.2
  have D0 := absI_nn d; have D1 := absI_le d hd.1 hd.2
  obtain ⟨d1, d2, d3, d4⟩ := cmp_dir a b c d
  obtain ⟨r, hr⟩ : ∃ r, cmpI (a * b) (c * d) = r := ⟨_, rfl⟩
  rw [hr] at d1 d2 d3 d4 ⊢
  clear hr
  obtain ⟨p, hp⟩ : ∃ p, absI a * absI b = p := ⟨_, rfl⟩
  obtain ⟨q, hq⟩ : ∃ q, absI c * absI d = q := ⟨_, rfl⟩
  obtain ⟨ph, hph⟩ : ∃ ph, p / 18446744073709551616 = ph := ⟨_, rfl⟩
  obtain ⟨pl, hpl⟩ : ∃ pl, p % 18446744073709551616 = pl := ⟨_, rfl⟩
  obtain ⟨qh, hqh⟩ : ∃ qh, q / 18446744073709551616 = qh := ⟨_, rfl⟩
  obtain ⟨ql, hql⟩ : ∃ ql, q % 18446744073709551616 = ql := ⟨_, rfl⟩
  have ep : ph * 18446744073709551616 + pl = p := by omega
  have eq : qh * 18446744073709551616 + ql = q := by omega
  have PL := Lib.hid (show 0 ≤ pl ∧ pl < 18446744073709551616 by omega)
  have QL := Lib.hid (show 0 ≤ ql ∧ ql < 18446744073709551616 by omega)
  rw [hp, hq, ← ep, ← eq] at d3 d4
  obtain ⟨L, hL⟩ : ∃ L, dirI a b = L := ⟨_, rfl⟩
  obtain ⟨R, hR⟩ : ∃ R, dirI c d = R := ⟨_, rfl⟩
  rw [hL, hR] at d1 d2 d3 d4
  have HD := Lib.hid (And.intro d1 (And.intro d2 (And.intro d3 d4)))
  have HP := Lib.hid hp; have HQ := Lib.hid hq; have HPH := Lib.hid hph; have HPL := Lib.hid hpl; have HQH := Lib.hid hqh; have HQL := Lib.hid hql; have HL := Lib.hid hL; have HR := Lib.hid hR
  clear d1 d2 d3 d4 hp hq hph hpl hqh hql hL hR ep eq
  have HB := Lib.hid (And.intro ha (And.intro hb (And.intro hc hd)))
  clear ha hb hc hd
  go_enter Try.func60, Try.ntmps60
  go_upto_region 2 with (first
    | (go_at_call_of 62 (Value.int IntKind.i64 a); refine (muldiv_magnitude.calls a _ HB.out.1.1 HB.out.1.2).mono ?_; rintro e w' ⟨rfl, rfl⟩)
    | (go_at_call_of 62 (Value.int IntKind.i64 b); refine (muldiv_magnitude.calls b _ HB.out.2.1.1 HB.out.2.1.2).mono ?_; rintro e w' ⟨rfl, rfl⟩)
    | (go_at_call_of 62 (Value.int IntKind.i64 c); refine (muldiv_magnitude.calls c _ HB.out.2.2.1.1 HB.out.2.2.1.2).mono ?_; rintro e w' ⟨rfl, rfl⟩)
    | (go_at_call_of 62 (Value.int IntKind.i64 d); refine (muldiv_magnitude.calls d _ HB.out.2.2.2.1 HB.out.2.2.2.2).mono ?_; rintro e w' ⟨rfl, rfl⟩)
    | (go_at_call_of 61 (Value.int IntKind.u64 (absI a)); refine (muldiv_multiply.calls _ _ _ A0 (by omega) B0 (by omega)).mono ?_; rintro e w1 ⟨rfl, hb1⟩; rw [HP.out, HPH.out, HPL.out])
    | (go_at_call_of 61 (Value.int IntKind.u64 (absI c)); refine (muldiv_multiply.calls _ _ _ C0 (by omega) D0 (by omega)).mono ?_; rintro e w2 ⟨rfl, hb2⟩; rw [HQ.out, HQH.out, HQL.out]))
  have hB2 := Lib.hid (show Below w.heap.size w ((w2.alloc (.cells #[.int .u64 ph, .int .u64 pl] 101)).alloc (.cells #[.int .u64 qh, .int .u64 ql] 101)) from Ba (Ba (Bt hb1 hb2) _) _)
  by_cases h1 : L < R
  · have HF := Lib.hid (HD.out.1 h1)
    go_wp2_with (first
      | (go_at_call_of 90 (Value.int IntKind.i64 a); refine (muldiv_direction.calls a b _).mono ?_; rintro e w' ⟨rfl, rfl⟩; rw [HL.out])
      | (go_at_call_of 90 (Value.int IntKind.i64 c); refine (muldiv_direction.calls c d _).mono ?_; rintro e w' ⟨rfl, rfl⟩; rw [HR.out]))
    go_ret
    exact ⟨by rw [HF.out]; rfl, hB2.out⟩
  by_cases h2 : R < L
  · have HF := Lib.hid (HD.out.2.1 h2)
    have n1 : decide (L < R) = false := decide_eq_false h1
    clear h1
    go_wp2_with (first
      | (go_at_call_of 90 (Value.int IntKind.i64 a); refine (muldiv_direction.calls a b _).mono ?_; rintro e w' ⟨rfl, rfl⟩; rw [HL.out])
      | (go_at_call_of 90 (Value.int IntKind.i64 c); refine (muldiv_direction.calls c d _).mono ?_; rintro e w' ⟨rfl, rfl⟩; rw [HR.out]))
    go_ret
    exact ⟨by rw [HF.out]; rfl, hB2.out⟩
  have n1 : decide (L < R) = false := decide_eq_false h1
  have n2 : decide (R < L) = false := decide_eq_false h2
  have HE := Lib.hid (show L = R by omega)
  clear h1 h2
  by_cases h3 : L < 0
  · have HF := HD.out.2.2.1 HE.out h3
    go_wp2_with (first
      | (go_at_call_of 90 (Value.int IntKind.i64 a); refine (muldiv_direction.calls a b _).mono ?_; rintro e w' ⟨rfl, rfl⟩; rw [HL.out])
      | (go_at_call_of 90 (Value.int IntKind.i64 c); refine (muldiv_direction.calls c d _).mono ?_; rintro e w' ⟨rfl, rfl⟩; rw [HR.out])
      | (go_at_call 91; refine (muldiv_compare.calls _ _ _ _ r _ QL.out.1 QL.out.2 PL.out.1 PL.out.2 HF).mono ?_; rintro e w3 ⟨rfl, hb3⟩))
    go_ret
    exact ⟨rfl, Bt hB2.out hb3⟩
  · have HF := HD.out.2.2.2 HE.out (by omega)
    have n3 : decide (L < 0) = false := decide_eq_false h3
    clear h3
    go_wp2_with (first
      | (go_at_call_of 90 (Value.int IntKind.i64 a); refine (muldiv_direction.calls a b _).mono ?_; rintro e w' ⟨rfl, rfl⟩; rw [HL.out])
      | (go_at_call_of 90 (Value.int IntKind.i64 c); refine (muldiv_direction.calls c d _).mono ?_; rintro e w' ⟨rfl, rfl⟩; rw [HR.out])
      | (go_at_call 91; refine (muldiv_compare.calls _ _ _ _ r _ PL.out.1 PL.out.2 QL.out.1 QL.out.2 HF).mono ?_; rintro e w3 ⟨rfl, hb3⟩))
    go_ret
    exact ⟨rfl, Bt hB2.out hb3⟩
end Go.Proofs.Ytdlilbleohlmnaa
