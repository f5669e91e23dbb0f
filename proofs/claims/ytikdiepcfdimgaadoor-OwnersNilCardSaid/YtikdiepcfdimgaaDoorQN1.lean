/- A part of the proof. -/
import Derived.Test.YtikdiepcfdimgaaDoorPOwx0
import Derived.Test.YtikdiepcfdimgaaDoorPOwx1
import Derived.Test.YtikdiepcfdimgaaDoorPOwx2
import Derived.IntWalk
import Derived.Maps.OwnOps
import Derived.WideLaws
import Derived.DeepKeys4
import Derived.KernelRfl
import Derived.RowKit3
import Derived.Maps.RangeWalk
import Derived.Deep.AppendLies
import Derived.Maps.AppendAt
import Derived.Test.YtikdiepcfdimgaaDoorWMore
import Derived.WideShapes
import Derived.Shelf.SlSorted.Search
import Derived.Test.YtikdiepcfdimgaaDoorV1
import Derived.StillTailTactics
import Derived.Deep.DeepCutAuto
import Derived.Lib.Hide
import Derived.Test.YtikdiepcfdimgaaDoorProg
import Derived.WalkKit
import Derived.Deep.LoopGhost
import Derived.Deep.QuietTactic
import Derived.BigQuiet
import Derived.WalkSpells
import Derived.WalkLawsBesides
import Derived.Shelf.SlSortFuncK.WholeK
import Derived.Shelf.GgSortFunc.Tiny
import Derived.Laws.BitsAllLaws
import Derived.Deep.RegionHeld3
import Derived.WalkMore
import Derived.Test.YtikdiepcfdimgaaDoorWWords
import Derived.ProofKit
import Derived.LaidMore
import Derived.OpenShut
import Derived.ShutString
import Derived.ChangeOld
import Derived.SizedLaws
import Derived.Stop.Joined
import Derived.Deep.Slices
set_option linter.all false
namespace Go.Proofs.YtikdiepcfdimgaaDoor.POw
open Go.RowKit Go.Proofs.YtikdiepcfdimgaaDoorW.PrintWords Go.Proofs.YtikdiepcfdimgaaDoorW.PrintLast Go.Proofs.YtikdiepcfdimgaaDoorW.PrintMore
theorem info9 : (Tryd.prog.info? 9).map (fun i => (i.zero, i.size, i.bytes)) = some (some (.string ⟨#[]⟩), 1, 16) := by kernel_rfl
theorem info28 : (Tryd.prog.info? 28).map (fun i => (i.zero, i.size, i.bytes)) = some (some (.agg #[(.int .i64 0), (.int .i64 0)]), 2, 16) := by kernel_rfl
theorem info41 : (Tryd.prog.info? 41).map (fun i => (i.zero, i.size, i.bytes)) = some (some (.agg #[(.string ⟨#[]⟩), (.string ⟨#[]⟩), (.int .i64 0), (.int .i64 0), (.int .i64 0)]), 5, 56) := by kernel_rfl
structure S28 where
  f0 : Int
  f1 : Int
def z28 : S28 := ⟨(0 : Int), (0 : Int)⟩
def k28 : Kd S28 := Kd.iso (Kd.pair (Kd.int .i64) (Kd.int .i64)) (fun x : S28 => (x.f0, x.f1))
theorem k28_open {w : World} {x : S28} {cs : List Value} (h : k28.K w x cs) : cs = [.int .i64 x.f0, .int .i64 x.f1] := by
  obtain ⟨_, _, rfl, rfl, rfl⟩ := h
  exact rfl
theorem k28_openM {w : World} {base : Nat} {ok : Nat → Prop} {x : S28} {cs : List Value} (h : k28.M w base ok x cs) : cs = [.int .i64 x.f0, .int .i64 x.f1] := by
  obtain ⟨_, _, rfl, rfl, rfl⟩ := h
  exact rfl
theorem k28_mk (w : World) (x : S28)  : k28.K w x [.int .i64 x.f0, .int .i64 x.f1] := ⟨[.int .i64 x.f0], [.int .i64 x.f1], rfl, rfl, rfl⟩
theorem k28_mkM (w : World) (base : Nat) (ok : Nat → Prop) (x : S28)  : k28.M w base ok x [.int .i64 x.f0, .int .i64 x.f1] := ⟨[.int .i64 x.f0], [.int .i64 x.f1], rfl, rfl, rfl⟩
def rd_T28 (xs : List S28) (i : Int) : S28 := xs.getD i.toNat z28
theorem at_T28 {w : World} {A : Option Addr} {n : Nat} {xs : List S28} (h : Kd.C k28 w A n xs) (i : Int) (h0 : 0 ≤ i) (h1 : i < n) : ∃ ad , A = some ad ∧ w.cell? (ad.add (i.toNat * 2)) = some (.int .i64 (rd_T28 xs i).f0) ∧ w.cell? ⟨(ad.add (i.toNat * 2)).block, (ad.add (i.toNat * 2)).off + 1, none⟩ = some (.int .i64 (rd_T28 xs i).f1) := by
  obtain ⟨ad, c, e, _, hK, hc0⟩ := Kd.C_get h z28 i h0 h1
  have hc : ∀ j u, c[j]? = some u → w.cell? (ad.add (i.toNat * 2 + j)) = some u := hc0
  obtain rfl := k28_open hK
  exact ⟨ad, e, hc 0 _ rfl, by rw [← add_field _ _ 1 (by omega)]; exact hc 1 _ rfl⟩
structure S41 where
  f0 : ByteArray
  f1 : ByteArray
  f2 : S28
  f3 : Int
def z41 : S41 := ⟨(⟨#[]⟩ : ByteArray), (⟨#[]⟩ : ByteArray), z28, (0 : Int)⟩
def k41 : Kd S41 := Kd.iso (Kd.pair Kd.string (Kd.pair Kd.string (Kd.pair k28 (Kd.int .i64)))) (fun x : S41 => (x.f0, x.f1, x.f2, x.f3))
theorem k41_open {w : World} {x : S41} {cs : List Value} (h : k41.K w x cs) : cs = [.string x.f0, .string x.f1, .int .i64 x.f2.f0, .int .i64 x.f2.f1, .int .i64 x.f3] := by
  obtain ⟨_, _, rfl, rfl, ⟨_, _, rfl, rfl, ⟨_, _, rfl, s2, rfl⟩⟩⟩ := h
  obtain rfl := k28_open s2
  exact rfl
theorem k41_openM {w : World} {base : Nat} {ok : Nat → Prop} {x : S41} {cs : List Value} (h : k41.M w base ok x cs) : cs = [.string x.f0, .string x.f1, .int .i64 x.f2.f0, .int .i64 x.f2.f1, .int .i64 x.f3] := by
  obtain ⟨_, _, rfl, rfl, ⟨_, _, rfl, rfl, ⟨_, _, rfl, s2, rfl⟩⟩⟩ := h
  obtain rfl := k28_openM s2
  exact rfl
theorem k41_mk (w : World) (x : S41)  : k41.K w x [.string x.f0, .string x.f1, .int .i64 x.f2.f0, .int .i64 x.f2.f1, .int .i64 x.f3] := ⟨[.string x.f0], [.string x.f1, .int .i64 x.f2.f0, .int .i64 x.f2.f1, .int .i64 x.f3], rfl, rfl, ⟨[.string x.f1], [.int .i64 x.f2.f0, .int .i64 x.f2.f1, .int .i64 x.f3], rfl, rfl, ⟨[.int .i64 x.f2.f0, .int .i64 x.f2.f1], [.int .i64 x.f3], rfl, (k28_mk w x.f2 ), rfl⟩⟩⟩
theorem k41_mkM (w : World) (base : Nat) (ok : Nat → Prop) (x : S41)  : k41.M w base ok x [.string x.f0, .string x.f1, .int .i64 x.f2.f0, .int .i64 x.f2.f1, .int .i64 x.f3] := ⟨[.string x.f0], [.string x.f1, .int .i64 x.f2.f0, .int .i64 x.f2.f1, .int .i64 x.f3], rfl, rfl, ⟨[.string x.f1], [.int .i64 x.f2.f0, .int .i64 x.f2.f1, .int .i64 x.f3], rfl, rfl, ⟨[.int .i64 x.f2.f0, .int .i64 x.f2.f1], [.int .i64 x.f3], rfl, (k28_mkM w base ok x.f2 ), rfl⟩⟩⟩
def rd_T41 (xs : List S41) (i : Int) : S41 := xs.getD i.toNat z41
theorem at_T41 {w : World} {A : Option Addr} {n : Nat} {xs : List S41} (h : Kd.C k41 w A n xs) (i : Int) (h0 : 0 ≤ i) (h1 : i < n) : ∃ ad , A = some ad ∧ w.cell? (ad.add (i.toNat * 5)) = some (.string (rd_T41 xs i).f0) ∧ w.cell? ⟨(ad.add (i.toNat * 5)).block, (ad.add (i.toNat * 5)).off + 1, none⟩ = some (.string (rd_T41 xs i).f1) ∧ w.cell? ⟨(ad.add (i.toNat * 5)).block, (ad.add (i.toNat * 5)).off + 2, none⟩ = some (.int .i64 (rd_T41 xs i).f2.f0) ∧ w.cell? ⟨(ad.add (i.toNat * 5)).block, (ad.add (i.toNat * 5)).off + 3, none⟩ = some (.int .i64 (rd_T41 xs i).f2.f1) ∧ w.cell? ⟨(ad.add (i.toNat * 5)).block, (ad.add (i.toNat * 5)).off + 4, none⟩ = some (.int .i64 (rd_T41 xs i).f3) := by
  obtain ⟨ad, c, e, _, hK, hc0⟩ := Kd.C_get h z41 i h0 h1
  have hc : ∀ j u, c[j]? = some u → w.cell? (ad.add (i.toNat * 5 + j)) = some u := hc0
  obtain rfl := k41_open hK
  exact ⟨ad, e, hc 0 _ rfl, by rw [← add_field _ _ 1 (by omega)]; exact hc 1 _ rfl, by rw [← add_field _ _ 2 (by omega)]; exact hc 2 _ rfl, by rw [← add_field _ _ 3 (by omega)]; exact hc 3 _ rfl, by rw [← add_field _ _ 4 (by omega)]; exact hc 4 _ rfl⟩
end Go.Proofs.YtikdiepcfdimgaaDoor.POw
namespace Go.Proofs.YtikdiepcfdimgaaDoor.POw
open Go.RowKit Go.Proofs.YtikdiepcfdimgaaDoorW.PrintWords Go.Proofs.YtikdiepcfdimgaaDoorW.PrintLast Go.Proofs.YtikdiepcfdimgaaDoorW.PrintMore
def V (b : Int) (f : Nat → Int) : Nat → Int
  | 0 => 0
  | n + 1 => V b f n + f n * b ^ n
def dg (l : List Int) (i : Nat) : Int := l.getD i 0
def val (b : Int) (l : List Int) : Int := V b (dg l) l.length
def Dg (b : Int) (l : List Int) : Prop := ∀ i, 0 ≤ dg l i ∧ dg l i < b
theorem V_congr {b : Int} {f g : Nat → Int} : ∀ {n : Nat}, (∀ i, i < n → f i = g i) → V b f n = V b g n
  | 0, _ => rfl
  | n + 1, h => by rw [V, V, V_congr (fun i hi => h i (by omega)), h n (by omega)]
theorem pow_pos_ {b : Int} (hb : 1 ≤ b) : ∀ n : Nat, 1 ≤ b ^ n
  | 0 => by simp
  | n + 1 => by
    have h := pow_pos_ hb n
    rw [Int.pow_succ]
    have : 1 * 1 ≤ b ^ n * b := Int.mul_le_mul h hb (by omega) (by omega)
    omega
theorem V_bounds {b : Int} (hb : 1 ≤ b) {f : Nat → Int} (hf : ∀ i, 0 ≤ f i ∧ f i < b) : ∀ n, 0 ≤ V b f n ∧ V b f n < b ^ n
  | 0 => by simp [V]
  | n + 1 => by
    obtain ⟨h1, h2⟩ := V_bounds hb hf n
    have hp := pow_pos_ hb n
    have h3 := Int.mul_nonneg (hf n).1 (show 0 ≤ b ^ n by omega)
    have h4 : f n * b ^ n ≤ (b - 1) * b ^ n := Int.mul_le_mul_of_nonneg_right (by have := (hf n).2; omega) (by omega)
    have h5 : (b - 1) * b ^ n = b ^ n * b - b ^ n := by rw [Int.sub_mul, Int.one_mul, Int.mul_comm]
    rw [V, Int.pow_succ]
    omega
theorem V_ext {b : Int} {l : List Int} : ∀ {n : Nat}, l.length ≤ n → V b (dg l) n = val b l
  | 0, h => by have : l.length = 0 := by omega
               unfold val; rw [this]
  | n + 1, h => by
    by_cases e : l.length = n + 1
    · unfold val; rw [e]
    · rw [V, V_ext (by omega)]
      have : dg l n = 0 := by unfold dg; rw [List.getD_eq_getElem?_getD, List.getElem?_eq_none (by omega)]; rfl
      rw [this]; omega
theorem dg_snoc (l : List Int) (d : Int) (i : Nat) : dg (l ++ [d]) i = if i < l.length then dg l i else if i = l.length then d else 0 := by
  unfold dg
  simp only [List.getD_eq_getElem?_getD]
  by_cases h : i < l.length
  · rw [if_pos h, List.getElem?_append_left h]
  · rw [if_neg h, List.getElem?_append_right (by omega)]
    by_cases e : i = l.length
    · subst e; simp
    · rw [if_neg e, List.getElem?_eq_none (by simp; omega)]; rfl
theorem val_snoc (b : Int) (l : List Int) (d : Int) : val b (l ++ [d]) = val b l + d * b ^ l.length := by
  unfold val
  rw [List.length_append]
  show V b (dg (l ++ [d])) (l.length + 1) = _
  rw [V, V_congr (g := dg l) (fun i hi => by rw [dg_snoc, if_pos hi]), dg_snoc, if_neg (by omega), if_pos rfl]
theorem Dg_snoc {b : Int} (hb : 1 ≤ b) {l : List Int} {d : Int} (h : Dg b l) (h0 : 0 ≤ d) (h1 : d < b) : Dg b (l ++ [d]) := by
  intro i
  rw [dg_snoc]
  split
  · exact h i
  · split
    · exact ⟨h0, h1⟩
    · omega
theorem Dg_nil {b : Int} (hb : 1 ≤ b) : Dg b [] := fun i => by unfold dg; simp; omega
theorem rd_dg (l : List Int) (i : Nat) : rd l (i : Int) = dg l i := by unfold rd dg; simp
theorem step_val {b c : Int} (hb : 1 ≤ b) (hc : 0 ≤ c) (hm : c ≤ 9223372036854775807) (out : List Int) : val b (out ++ [Int.tmod c b]) + wrap64 (Int.tdiv c b) * b ^ (out.length + 1) = val b out + c * b ^ out.length ∧ 0 ≤ Int.tmod c b ∧ Int.tmod c b < b ∧ wrap64 (Int.tdiv c b) = c / b ∧ 0 ≤ c / b ∧ c / b ≤ c := by
  have h1 : Int.tmod c b = c % b := Int.tmod_eq_emod_of_nonneg hc
  have h2 : Int.tdiv c b = c / b := Int.tdiv_eq_ediv_of_nonneg hc
  have h3 : 0 ≤ c / b := Int.ediv_nonneg hc (by omega)
  have h4 : c / b ≤ c := Int.ediv_le_self b hc
  have h5 : wrap64 (c / b) = c / b := IntWalk.wrap64_in _ (by omega)
  rw [h1, h2, h5, val_snoc]
  refine ⟨?_, Int.emod_nonneg _ (by omega), Int.emod_lt_of_pos _ (by omega), rfl, h3, h4⟩
  rw [Int.pow_succ, Int.mul_comm (b ^ out.length) b, ← Int.mul_assoc, Int.add_assoc, ← Int.add_mul]
  congr 2
  have := Int.emod_add_mul_ediv c b
  rw [Int.mul_comm (c / b) b]
  exact this
end Go.Proofs.YtikdiepcfdimgaaDoor.POw
namespace Go.Proofs.YtikdiepcfdimgaaDoor.POw
open Go.RowKit Go.Proofs.YtikdiepcfdimgaaDoorW.PrintWords Go.Proofs.YtikdiepcfdimgaaDoorW.PrintLast Go.Proofs.YtikdiepcfdimgaaDoorW.PrintMore
theorem wr_ {n : Int} (h : -9223372036854775808 ≤ n ∧ n ≤ 9223372036854775807) : wrap64 n = n := IntWalk.wrap64_in n h
theorem natTimes_main (x9 : List Int) (n : Int) (hn : 0 ≤ n ∧ n ≤ 1000000) (hd0 : Dg 1000000000 x9) (hl0 : x9.length ≤ 90000) : ∀ (g : Nat) (c : Int) (out : List Int), out.length + g = x9.length → 0 ≤ c → c ≤ n → Dg 1000000000 out → val 1000000000 out + c * 1000000000 ^ out.length = n * V 1000000000 (dg x9) out.length →
    ∃ k r, owners_natural_times.l0 k n out c x9 (x9.length : Int) (out.length : Int) = some r ∧ val 1000000000 r = n * val 1000000000 x9 ∧ Dg 1000000000 r ∧ r.length ≤ x9.length + 1
  | 0, c, out, hg, h0, h1, hd, hv => by
    by_cases hc : c = 0
    · subst hc
      refine ⟨1, out, ?_, ?_, hd, by omega⟩
      · rw [owners_natural_times.l0, if_neg (by omega), if_neg (by omega)]
      · rw [V_ext (by omega)] at hv; rw [← hv]; omega
    · refine ⟨1, out ++ [c], ?_, ?_, Dg_snoc (by omega) hd h0 (by omega), by simp; omega⟩
      · rw [owners_natural_times.l0, if_neg (by omega), if_pos (by omega), if_pos (by omega)]
      · rw [val_snoc, hv, V_ext (by omega)]
  | g + 1, c, out, hg, h0, h1, hd, hv => by
    obtain ⟨d0, d1⟩ := hd0 out.length
    have hp0 := Int.mul_nonneg d0 hn.1
    have hp1 : dg x9 out.length * n ≤ 999999999 * n := Int.mul_le_mul_of_nonneg_right (by omega) hn.1
    have hsum0 : 0 ≤ c + dg x9 out.length * n := by omega
    obtain ⟨s1, s2, s3, s4, s5, s6⟩ := step_val (b := 1000000000) (c := c + dg x9 out.length * n) (by omega) hsum0 (by omega) out
    have hcn : (c + dg x9 out.length * n) / 1000000000 ≤ n := by
      have : (c + dg x9 out.length * n) / 1000000000 ≤ (1000000000 * n) / 1000000000 := Int.ediv_le_ediv (by omega) (by omega)
      rw [Int.mul_ediv_cancel_left _ (by omega)] at this
      exact this
    have hlen : (out ++ [Int.tmod (c + dg x9 out.length * n) 1000000000]).length = out.length + 1 := by simp
    obtain ⟨k, r, hr, hvr, hdr, hrl⟩ := natTimes_main x9 n hn hd0 hl0 g ((c + dg x9 out.length * n) / 1000000000) (out ++ [Int.tmod (c + dg x9 out.length * n) 1000000000]) (by omega) s5 hcn (Dg_snoc (by omega) hd s2 s3) (by
      rw [hlen, ← s4, s1, V, Int.add_mul, ← Int.add_assoc, hv, Int.mul_add]
      congr 1
      rw [Int.mul_comm (dg x9 out.length) n, Int.mul_assoc])
    rw [hlen] at hr
    refine ⟨k + 1, r, ?_, hvr, hdr, hrl⟩
    rw [owners_natural_times.l0, if_pos (by omega), if_pos (by omega), if_pos (by omega), if_pos (by omega), rd_dg, wr_ (n := dg x9 out.length * n) (by omega), wr_ (n := c + dg x9 out.length * n) (by omega), s4, wr_ (by omega)]
    exact hr
theorem nat_times_ex (x9 : List Int) (n : Int) (hn : 0 ≤ n ∧ n ≤ 1000000) (hd0 : Dg 1000000000 x9) (hl0 : x9.length ≤ 90000) : ∃ k r, owners_natural_times.f k x9 n = some r ∧ val 1000000000 r = n * val 1000000000 x9 ∧ Dg 1000000000 r ∧ r.length ≤ x9.length + 1 := by
  obtain ⟨k, r, h1, h2⟩ := natTimes_main x9 n hn hd0 hl0 x9.length 0 [] (by simp) (by omega) hn.1 (Dg_nil (by omega)) (by simp [val, V])
  exact ⟨k, r, h1, h2⟩
end Go.Proofs.YtikdiepcfdimgaaDoor.POw
namespace Go.Proofs.YtikdiepcfdimgaaDoor.POw
open Go.RowKit Go.Proofs.YtikdiepcfdimgaaDoorW.PrintWords Go.Proofs.YtikdiepcfdimgaaDoorW.PrintLast Go.Proofs.YtikdiepcfdimgaaDoorW.PrintMore
theorem natPlus_main (a b : List Int) (ha : Dg 1000000000 a) (hb : Dg 1000000000 b) (hla : a.length ≤ 90000) (hlb : b.length ≤ 90000) : ∀ (g : Nat) (c : Int) (out : List Int), out.length + g = max a.length b.length → 0 ≤ c → c ≤ 1 → Dg 1000000000 out → val 1000000000 out + c * 1000000000 ^ out.length = V 1000000000 (dg a) out.length + V 1000000000 (dg b) out.length →
    ∃ k r, owners_natural_plus.l0 k a b out c (out.length : Int) = some r ∧ val 1000000000 r = val 1000000000 a + val 1000000000 b ∧ Dg 1000000000 r ∧ r.length ≤ max a.length b.length + 1
  | 0, c, out, hg, h0, h1, hd, hv => by
    rw [V_ext (by omega), V_ext (by omega)] at hv
    by_cases hc : c = 0
    · subst hc
      refine ⟨2, out, ?_, by rw [← hv]; omega, hd, by omega⟩
      rw [owners_natural_plus.l0, if_neg (by omega), owners_natural_plus.j1, if_neg (by simp; omega), if_neg (by omega)]
    · have hc1 : c = 1 := by omega
      subst hc1
      refine ⟨2, out ++ [1], ?_, ?_, Dg_snoc (by omega) hd (by omega) (by omega), by simp; omega⟩
      · rw [owners_natural_plus.l0, if_neg (by omega), owners_natural_plus.j1, if_neg (by simp; omega), if_pos (by omega), if_pos (by omega)]
      · rw [val_snoc, ← hv]
  | g + 1, c, out, hg, h0, h1, hd, hv => by
    obtain ⟨a0, a1⟩ := ha out.length
    obtain ⟨b0, b1⟩ := hb out.length
    obtain ⟨s1, s2, s3, s4, s5, s6⟩ := step_val (b := 1000000000) (c := c + dg a out.length + dg b out.length) (by omega) (by omega) (by omega) out
    have hlen : (out ++ [Int.tmod (c + dg a out.length + dg b out.length) 1000000000]).length = out.length + 1 := by simp
    obtain ⟨k, r, hr, hvr, hdr, hrl⟩ := natPlus_main a b ha hb hla hlb g ((c + dg a out.length + dg b out.length) / 1000000000) (out ++ [Int.tmod (c + dg a out.length + dg b out.length) 1000000000]) (by omega) s5 (by omega) (Dg_snoc (by omega) hd s2 s3) (by
      rw [hlen, ← s4, s1, V, V, Int.add_mul, Int.add_mul]
      omega)
    rw [hlen] at hr
    refine ⟨k + 2, r, ?_, hvr, hdr, hrl⟩
    have hz : ∀ l : List Int, ¬ ((out.length : Int) < (l.length : Int)) → dg l out.length = 0 := fun l h => by unfold dg; rw [List.getD_eq_getElem?_getD, List.getElem?_eq_none (by omega)]; rfl
    by_cases c1 : (out.length : Int) < (a.length : Int)
    · by_cases c2 : (out.length : Int) < (b.length : Int)
      · rw [owners_natural_plus.l0, if_pos c1, owners_natural_plus.j1, if_pos rfl, if_pos c1, if_pos (by omega), if_pos c2, if_pos (by omega), rd_dg, rd_dg, wr_ (n := c + dg a out.length) (by omega), wr_ (n := c + dg a out.length + dg b out.length) (by omega), s4, wr_ (by omega)]
        exact hr
      · have hz2 := hz b c2
        rw [hz2, Int.add_zero] at s4 hr
        rw [owners_natural_plus.l0, if_pos c1, owners_natural_plus.j1, if_pos rfl, if_pos c1, if_pos (by omega), if_neg c2, if_pos (by omega), rd_dg, wr_ (n := c + dg a out.length) (by omega), s4, wr_ (by omega)]
        exact hr
    · have c2 : (out.length : Int) < (b.length : Int) := by omega
      have hz2 := hz a c1
      rw [hz2, Int.add_zero] at s4 hr
      rw [owners_natural_plus.l0, if_neg c1, owners_natural_plus.j1, if_pos (by simp; omega), if_neg c1, if_pos c2, if_pos (by omega), if_pos (by omega), rd_dg, wr_ (n := c + dg b out.length) (by omega), s4, wr_ (by omega)]
      exact hr
theorem natPlus_ex (a b : List Int) (ha : Dg 1000000000 a) (hb : Dg 1000000000 b) (hla : a.length ≤ 90000) (hlb : b.length ≤ 90000) : ∃ k r, owners_natural_plus.f k a b = some r ∧ val 1000000000 r = val 1000000000 a + val 1000000000 b ∧ Dg 1000000000 r ∧ r.length ≤ max a.length b.length + 1 := by
  obtain ⟨k, r, h1, h2⟩ := natPlus_main a b ha hb hla hlb (max a.length b.length) 0 [] (by simp) (by omega) (by omega) (Dg_nil (by omega)) (by simp [val, V])
  exact ⟨k, r, h1, h2⟩
end Go.Proofs.YtikdiepcfdimgaaDoor.POw
namespace Go.Proofs.YtikdiepcfdimgaaDoor.POw
open Go.RowKit Go.Proofs.YtikdiepcfdimgaaDoorW.PrintWords Go.Proofs.YtikdiepcfdimgaaDoorW.PrintLast Go.Proofs.YtikdiepcfdimgaaDoorW.PrintMore
theorem V_gt {b : Int} (hb : 1 ≤ b) {f g : Nat → Int} (hf : ∀ i, 0 ≤ f i ∧ f i < b) (hg : ∀ i, 0 ≤ g i ∧ g i < b) (n : Nat) (h : g n < f n) : V b g (n + 1) < V b f (n + 1) := by
  obtain ⟨f0, f1⟩ := V_bounds hb hf n
  obtain ⟨g0, g1⟩ := V_bounds hb hg n
  rw [V, V]
  have h1 : (g n + 1) * b ^ n ≤ f n * b ^ n := Int.mul_le_mul_of_nonneg_right (by omega) (by have := pow_pos_ hb n; omega)
  rw [Int.add_mul, Int.one_mul] at h1
  omega
theorem top_ex (l : List Int) (hl : l.length ≤ 90000) : ∀ n : Nat, n ≤ l.length → ∃ k t, owners_natural_top.l0 k l (n : Int) = some ((t : Nat) : Int) ∧ t ≤ n ∧ (∀ i, t ≤ i → i < n → dg l i = 0) ∧ (t = 0 ∨ dg l (t - 1) ≠ 0)
  | 0, _ => ⟨1, 0, by rw [owners_natural_top.l0, if_neg (by omega)], Nat.le_refl _, fun i _ h => by omega, .inl rfl⟩
  | n + 1, hn => by
    have e : wrap64 (((n + 1 : Nat) : Int) - 1) = (n : Int) := by rw [wr_ (by omega)]; omega
    by_cases h0 : dg l n = 0
    · obtain ⟨k, t, h1, h2, h3, h4⟩ := top_ex l hl n (by omega)
      refine ⟨k + 1, t, ?_, by omega, fun i hi hi2 => ?_, h4⟩
      · rw [owners_natural_top.l0, if_pos (by omega), e, if_pos (by omega), if_pos (by omega), rd_dg, if_pos h0]; exact h1
      · by_cases hin : i = n
        · rw [hin]; exact h0
        · exact h3 i hi (by omega)
    · refine ⟨1, n + 1, ?_, Nat.le_refl _, fun i hi hi2 => by omega, .inr (by simpa using h0)⟩
      rw [owners_natural_top.l0, if_pos (by omega), e, if_pos (by omega), if_pos (by omega), rd_dg, if_neg h0]
theorem V_top {b : Int} {f : Nat → Int} {t : Nat} : ∀ {n : Nat}, t ≤ n → (∀ i, t ≤ i → i < n → f i = 0) → V b f n = V b f t
  | 0, h, _ => by have : t = 0 := by omega
                  rw [this]
  | n + 1, h, h2 => by
    by_cases e : t = n + 1
    · rw [e]
    · rw [V, h2 n (by omega) (by omega), V_top (n := n) (by omega) (fun i h3 h4 => h2 i h3 (by omega))]; omega
theorem gr_ex (a b : List Int) (ha : Dg 1000000000 a) (hb : Dg 1000000000 b) : ∀ n : Nat, n ≤ a.length → n ≤ b.length → n ≤ 90000 → ∃ k, owners_natural_greater.l0 k a b ((n : Int) - 1) = some (decide (V 1000000000 (dg b) n < V 1000000000 (dg a) n))
  | 0, _, _, _ => ⟨1, by rw [owners_natural_greater.l0, if_neg (by omega)]; simp [V]⟩
  | n + 1, hna, hnb, hn => by
    obtain ⟨k, hk⟩ := gr_ex a b ha hb n (by omega) (by omega) (by omega)
    have e : ((n + 1 : Nat) : Int) - 1 = (n : Int) := by omega
    refine ⟨k + 1, ?_⟩
    rw [e, owners_natural_greater.l0, if_pos (by omega), if_pos (by omega), if_pos (by omega), if_pos (by omega), rd_dg, rd_dg]
    by_cases he : dg a n = dg b n
    · rw [if_pos he, wr_ (by omega), hk]
      have : (V 1000000000 (dg b) n < V 1000000000 (dg a) n) ↔ (V 1000000000 (dg b) (n + 1) < V 1000000000 (dg a) (n + 1)) := by rw [V, V, he]; omega
      simp only [this]
    · rw [if_neg he]
      by_cases hg : dg b n < dg a n
      · rw [decide_eq_true (show dg a n > dg b n from hg), decide_eq_true (V_gt (by omega) ha hb n hg)]
      · have := V_gt (b := 1000000000) (by omega) hb ha n (by omega)
        rw [decide_eq_false (show ¬ (dg a n > dg b n) from hg), decide_eq_false (by omega)]
theorem V_top_lt {b : Int} (hb : 1 ≤ b) {f g : Nat → Int} (hf : ∀ i, 0 ≤ f i ∧ f i < b) (hg : ∀ i, 0 ≤ g i ∧ g i < b) {s t : Nat} (hst : s < t) (ht : f (t - 1) ≠ 0) : V b g s < V b f t := by
  obtain ⟨u, rfl⟩ : ∃ u, t = u + 1 := ⟨t - 1, by omega⟩
  simp only [Nat.add_sub_cancel] at ht
  have h1 := (V_bounds hb hg s).2
  have h2 := (V_bounds hb hf u).1
  have h3 : 1 * b ^ u ≤ f u * b ^ u := Int.mul_le_mul_of_nonneg_right (by have := (hf u).1; omega) (by have := pow_pos_ hb u; omega)
  have h4 : b ^ s ≤ b ^ u := by
    obtain ⟨d, rfl⟩ : ∃ d, u = s + d := ⟨u - s, by omega⟩
    rw [Int.pow_add]
    have := Int.mul_le_mul_of_nonneg_left (pow_pos_ hb d) (show 0 ≤ b ^ s by have := pow_pos_ hb s; omega)
    omega
  rw [V]
  omega
theorem LeO_up {α : Type} {F : Nat → Option α} (h : ∀ k, LeO (F k) (F (k + 1))) {k : Nat} {r : α} (hk : F k = some r) : ∀ j, k ≤ j → F j = some r := by
  intro j hj
  obtain ⟨d, rfl⟩ : ∃ d, j = k + d := ⟨j - k, by omega⟩
  clear hj
  induction d with
  | zero => exact hk
  | succ d ih => exact h (k + d) r ih
theorem nat_greater_ex (a b : List Int) (ha : Dg 1000000000 a) (hb : Dg 1000000000 b) (hla : a.length ≤ 90000) (hlb : b.length ≤ 90000) : ∃ k, owners_natural_greater.f k a b = some (decide (val 1000000000 b < val 1000000000 a)) := by
  obtain ⟨k1, t1, h1, l1, z1, n1⟩ := top_ex a hla a.length (Nat.le_refl _)
  obtain ⟨k2, t2, h2, l2, z2, n2⟩ := top_ex b hlb b.length (Nat.le_refl _)
  have e1 : val 1000000000 a = V 1000000000 (dg a) t1 := V_top l1 z1
  have e2 : val 1000000000 b = V 1000000000 (dg b) t2 := V_top l2 z2
  have T1 : ∀ j, k1 ≤ j → owners_natural_top.f j a = some (t1 : Int) := fun j hj => LeO_up (F := fun k => owners_natural_top.f k a) (fun k => owners_natural_top.mono a k) h1 j hj
  have T2 : ∀ j, k2 ≤ j → owners_natural_top.f j b = some (t2 : Int) := fun j hj => LeO_up (F := fun k => owners_natural_top.f k b) (fun k => owners_natural_top.mono b k) h2 j hj
  rw [e1, e2]
  by_cases ht : t1 = t2
  · subst ht
    obtain ⟨k3, h3⟩ := gr_ex a b ha hb t1 l1 l2 (by omega)
    have T3 := fun j hj => LeO_up (F := fun k => owners_natural_greater.l0 k a b ((t1 : Int) - 1)) (fun k => owners_natural_greater.mono_l k a b _) h3 j hj
    refine ⟨k1 + k2 + k3, ?_⟩
    rw [owners_natural_greater.f, T1 _ (by omega), Option.bind_some, T2 _ (by omega), Option.bind_some, if_pos rfl, wr_ (by omega)]
    exact T3 _ (by omega)
  · refine ⟨k1 + k2, ?_⟩
    rw [owners_natural_greater.f, T1 _ (by omega), Option.bind_some, T2 _ (by omega), Option.bind_some, if_neg (by omega)]
    by_cases hg : t2 < t1
    · have := V_top_lt (b := 1000000000) (by omega) ha hb hg (n1.resolve_left (by omega))
      rw [decide_eq_true (show (t1 : Int) > t2 by omega), decide_eq_true this]
    · have := V_top_lt (b := 1000000000) (by omega) hb ha (show t1 < t2 by omega) (n2.resolve_left (by omega))
      rw [decide_eq_false (by omega), decide_eq_false (by omega)]
end Go.Proofs.YtikdiepcfdimgaaDoor.POw
namespace Go.Proofs.YtikdiepcfdimgaaDoor
open Go.RowKit
open Go.Maps (Keyed)
def MapAt {κ : Type} (P : Program) (k : TypeId) (enc : κ → Value) (w : World) (b : Nat) (M : κ → Option Value) : Prop :=
  ∃ es clock, w.heap[b]? = some (.map es clock) ∧ MapKept.Stamped es clock ∧ (∀ e ∈ es.toList, ∃ x, e.key = enc x ∧ (∃ l, keyOf P k e.key = some l) ∧ M x = some e.val) ∧ ∀ x v, M x = some v → ∃ e ∈ es.toList, e.key = enc x ∧ e.val = v
theorem MapAt.lt {κ : Type} {P : Program} {k : TypeId} {enc : κ → Value} {w : World} {b : Nat} {M : κ → Option Value} (h : MapAt P k enc w b M) : b < w.heap.size := by
  obtain ⟨es, clock, hb, _⟩ := h
  exact (Array.getElem?_eq_some_iff.1 hb).1
theorem MapAt.of_block {κ : Type} {P : Program} {k : TypeId} {enc : κ → Value} {w w' : World} {b : Nat} {M : κ → Option Value} (h : MapAt P k enc w b M) (hb : w'.heap[b]? = w.heap[b]?) : MapAt P k enc w' b M := by
  obtain ⟨es, clock, h1, h2⟩ := h
  exact ⟨es, clock, hb.trans h1, h2⟩
theorem MapAt.below {κ : Type} {P : Program} {k : TypeId} {enc : κ → Value} {w w' : World} {b : Nat} {M : κ → Option Value} (h : MapAt P k enc w b M) (hB : Below w.heap.size w w') : MapAt P k enc w' b M :=
  h.of_block (hB.block b h.lt)
theorem MapAt.made {κ : Type} (P : Program) (k : TypeId) (enc : κ → Value) (w : World) : MapAt P k enc (w.alloc (.map #[] 0)) w.heap.size (fun _ => none) :=
  ⟨#[], 0, (MapKept.heap_alloc w _).1, MapKept.stamped_empty 0, by simp, by simp⟩
theorem MapAt.lookup {κ : Type} {P : Program} {k e t : TypeId} {enc : κ → Value} {w : World} {b : Nat} {M : κ → Option Value} (h : MapAt P k enc w b M) (K : Keyed P k) (inj : ∀ x y, enc x = enc y → x = y)
    (ht : P.underlying t = some (.map k e)) {z : Value} (hz : (zeroValue e).run P w = .ok z w) (c : Bool) (x : κ) {l : Lit} (hx : keyOf P k (enc x) = some l) :
    (Instr.lookup t (.map (some b)) (enc x) c).run P w = .ok (if c then .tuple #[(M x).getD z, .bool (M x).isSome] else (M x).getD z) w := by
  obtain ⟨es, clock, hb, hS, h1, h2⟩ := h
  rcases K.find w hx es.toList (fun e he => (h1 e he).choose_spec.2.1) with ⟨f1, f2⟩ | ⟨j, e0, f1, f2, f3⟩
  · have hM : M x = none := by
      cases hm : M x with
      | none => rfl
      | some v => obtain ⟨e, he, hk, _⟩ := h2 x v hm; exact absurd hk (f2 e he)
    cases c <;> simp [Instr.lookup, run_underlying ht, MapKept.run_getObj_map hb, K.check w _ hx, f1, hz, Result.andThen, hM]
  · have hM : M x = some e0.val := by
      obtain ⟨y, hy, _, hm⟩ := h1 e0 (List.mem_of_getElem? f2)
      rw [← inj y x (hy.symm.trans f3)]; exact hm
    cases c <;> simp [Instr.lookup, run_underlying ht, MapKept.run_getObj_map hb, K.check w _ hx, f1, Result.andThen, hM]
def putM {κ : Type} [DecidableEq κ] (M : κ → Option Value) (x : κ) (v : Value) : κ → Option Value := fun y => if y = x then some v else M y
theorem putM_self {κ : Type} [DecidableEq κ] (M : κ → Option Value) (x : κ) (v : Value) : putM M x v x = some v := by simp [putM]
theorem putM_ne {κ : Type} [DecidableEq κ] (M : κ → Option Value) {x y : κ} (v : Value) (h : y ≠ x) : putM M x v y = M y := by simp [putM, h]
theorem MapAt.store {κ : Type} [DecidableEq κ] {P : Program} {k e t : TypeId} {enc : κ → Value} {w : World} {b : Nat} {M : κ → Option Value} (h : MapAt P k enc w b M) (K : Keyed P k) (inj : ∀ x y, enc x = enc y → x = y)
    (ht : P.underlying t = some (.map k e)) (x : κ) (v : Value) {l : Lit} (hx : keyOf P k (enc x) = some l) :
    ∃ o, (Instr.mapUpdate t (.map (some b)) (enc x) v).run P w = .ok () (ChangeMaps.setBlock w b o) ∧ MapAt P k enc (ChangeMaps.setBlock w b o) b (putM M x v) := by
  have hlt := h.lt
  obtain ⟨es, clock, hb, hS, h1, h2⟩ := h
  rcases K.find w hx es.toList (fun e he => (h1 e he).choose_spec.2.1) with ⟨f1, f2⟩ | ⟨j, e0, f1, f2, f3⟩
  · refine ⟨.map (es.push ⟨enc x, v, clock⟩) (clock + 1), ?_, es.push ⟨enc x, v, clock⟩, clock + 1, ?_, MapKept.stamped_push hS f2, ?_, ?_⟩
    · simp [Instr.mapUpdate, run_underlying ht, MapKept.run_getObj_map hb, K.check w false hx, f1, MapKept.run_setObj_map _ hb, Result.andThen, ChangeMaps.setBlock]
    · simp [ChangeMaps.setBlock, hlt]
    · intro e he
      simp only [Array.toList_push, List.mem_append, List.mem_singleton] at he
      rcases he with he | rfl
      · obtain ⟨y, hy, hl, hm⟩ := h1 e he
        refine ⟨y, hy, hl, ?_⟩
        rw [putM_ne _ _ (fun c => f2 e he (by rw [hy, c]))]; exact hm
      · exact ⟨x, rfl, ⟨l, hx⟩, putM_self _ _ _⟩
    · intro y u hy
      simp only [Array.toList_push, List.mem_append, List.mem_singleton]
      by_cases c : y = x
      · rw [c, putM_self] at hy; cases hy; exact ⟨_, .inr rfl, by rw [c], rfl⟩
      · rw [putM_ne _ _ c] at hy
        obtain ⟨e, he, h3⟩ := h2 y u hy
        exact ⟨e, .inl he, h3⟩
  · have hj : es[j]? = some e0 := by simpa using f2
    have hjl : j < es.toList.length := (List.getElem?_eq_some_iff.1 f2).1
    have hlist : (es.modify j (fun e' => { e' with key := enc x, val := v })).toList = es.toList.set j { e0 with key := enc x, val := v } := by rw [Array.toList_modify, ChangeMaps.modify_eq_set _ _ _ _ f2]
    have hS' : MapKept.Stamped (es.modify j (fun e' => { e' with key := enc x, val := v })) clock :=
      MapKept.stamped_modify hS j _ (fun e' he' => rfl) (fun e' _ he' => by rw [hj] at he'; cases he'; exact f3.symm)
    have hpw := ((MapKept.stamped_iff es clock).1 hS).2.2
    have hne : ∀ i e', i ≠ j → es.toList[i]? = some e' → e'.key ≠ enc x := by
      intro i e' hij he' hk
      obtain ⟨hi, he2⟩ := List.getElem?_eq_some_iff.1 he'
      obtain ⟨hj2, he3⟩ := List.getElem?_eq_some_iff.1 f2
      have := List.pairwise_iff_getElem.1 hpw
      rcases Nat.lt_or_gt_of_ne hij with h | h
      · exact this i j hi hj2 h (by rw [he2, he3, hk, f3])
      · exact this j i hj2 hi h (by rw [he2, he3, hk, f3])
    refine ⟨.map (es.modify j (fun e' => { e' with key := enc x, val := v })) clock, ?_, _, clock, ?_, hS', ?_, ?_⟩
    · have hk : (Instr.keyThatStays (((es[j]?).map (·.key)).getD (enc x)) (enc x)).run P w = .ok (enc x) w := by rw [hj]; simp [f3, K.stays w hx]
      have hk' : (Instr.keyThatStays e0.key (enc x)).run P w = .ok (enc x) w := by rw [f3]; exact K.stays w hx
      simp [Instr.mapUpdate, run_underlying ht, MapKept.run_getObj_map hb, K.check w false hx, f1, hj, hk', MapKept.run_setObj_map _ hb, Result.andThen, ChangeMaps.setBlock]
    · simp [ChangeMaps.setBlock, hlt]
    · rw [hlist]
      intro e he
      obtain ⟨i, hi, rfl⟩ := List.getElem_of_mem he
      rw [List.getElem_set]
      split
      · exact ⟨x, rfl, ⟨l, hx⟩, putM_self _ _ _⟩
      · rename_i hij
        simp only [List.length_set] at hi
        have hm := List.getElem_mem (l := es.toList) hi
        obtain ⟨y, hy, hl, hmm⟩ := h1 _ hm
        refine ⟨y, hy, hl, ?_⟩
        rw [putM_ne _ _ (fun c => hne i _ (fun h => hij h.symm) (List.getElem?_eq_getElem hi) (by rw [hy, c]))]; exact hmm
    · intro y u hy
      rw [hlist]
      by_cases c : y = x
      · rw [c, putM_self] at hy; cases hy
        exact ⟨{ e0 with key := enc x, val := v }, List.mem_iff_getElem.2 ⟨j, by simpa using hjl, by simp⟩, by rw [c], rfl⟩
      · rw [putM_ne _ _ c] at hy
        obtain ⟨e, he, hk, hv⟩ := h2 y u hy
        obtain ⟨i, hi, rfl⟩ := List.getElem_of_mem he
        have hij : j ≠ i := by
          intro h
          subst h
          have : es.toList[j] = e0 := (List.getElem?_eq_some_iff.1 f2).2
          rw [this, f3] at hk
          exact c (inj x y hk).symm
        exact ⟨es.toList[i], List.mem_iff_getElem.2 ⟨i, by simpa using hi, by rw [List.getElem_set, if_neg hij]⟩, hk, hv⟩
end Go.Proofs.YtikdiepcfdimgaaDoor
namespace Go.Proofs.YtikdiepcfdimgaaDoor
open Go.RowKit
open Go.Maps (Keyed)
open Go.ChangeMaps (setBlock)
open Go.MapKept (heap_set)
def RangeAt {κ : Type} (P : Program) (k : TypeId) (enc : κ → Value) (w : World) (b r : Nat) (M : κ → Option Value) (todo : List κ) : Prop :=
  ∃ es clock since seen c0, w.heap[b]? = some (.map es clock) ∧ MapKept.Stamped es clock ∧ (∀ e ∈ es.toList, ∃ x, e.key = enc x ∧ (∃ l, keyOf P k e.key = some l) ∧ M x = some e.val) ∧ (∀ x v, M x = some v → ∃ e ∈ es.toList, e.key = enc x ∧ e.val = v) ∧
    w.heap[r]? = some (.mapIter (some b) since seen c0) ∧ (∀ x ∈ es.toList, x.born < since) ∧ since ≤ c0 ∧ since ≤ clock ∧ (leftOf es seen).toList.map (·.key) = todo.map enc
section
variable {κ : Type} {P : Program} {k e t : TypeId} {enc : κ → Value} {w w' : World} {b r : Nat} {M : κ → Option Value} {todo : List κ}
theorem RangeAt.map (h : RangeAt P k enc w b r M todo) : MapAt P k enc w b M := by
  obtain ⟨es, clock, since, seen, c0, h1, h2, h3, h4, _⟩ := h
  exact ⟨es, clock, h1, h2, h3, h4⟩
theorem RangeAt.lt (h : RangeAt P k enc w b r M todo) : b < w.heap.size ∧ r < w.heap.size := by
  obtain ⟨es, clock, since, seen, c0, h1, h2, h3, h4, h5, _⟩ := h
  exact ⟨(Array.getElem?_eq_some_iff.1 h1).1, (Array.getElem?_eq_some_iff.1 h5).1⟩
theorem RangeAt.of_blocks (h : RangeAt P k enc w b r M todo) (hb : w'.heap[b]? = w.heap[b]?) (hr : w'.heap[r]? = w.heap[r]?) : RangeAt P k enc w' b r M todo := by
  obtain ⟨es, clock, since, seen, c0, h1, h2, h3, h4, h5, h6⟩ := h
  exact ⟨es, clock, since, seen, c0, hb.trans h1, h2, h3, h4, hr.trans h5, h6⟩
theorem RangeAt.below (h : RangeAt P k enc w b r M todo) (hB : Below w.heap.size w w') : RangeAt P k enc w' b r M todo := h.of_blocks (hB.block b h.lt.1) (hB.block r h.lt.2)
theorem nodup_of_left {es : Array MapEntry} {seen : Array Nat} {clock : Nat} (hS : MapKept.Stamped es clock) : ((leftOf es seen).toList.map (·.born)).Nodup ∧ (leftOf es seen).toList.Pairwise (fun x y => x.key ≠ y.key) := by
  obtain ⟨_, h2, h3⟩ := (MapKept.stamped_iff es clock).1 hS
  have hs : (leftOf es seen).toList.Sublist es.toList := by unfold leftOf; rw [Array.toList_filter]; exact List.filter_sublist
  exact ⟨(hs.map _).nodup h2, h3.sublist hs⟩
theorem todo_of : ∀ (l : List MapEntry), (∀ e ∈ l, ∃ x, e.key = enc x ∧ M x = some e.val) → ∃ todo : List κ, l.map (·.key) = todo.map enc ∧ ∀ x ∈ todo, (M x).isSome = true
  | [], _ => ⟨[], rfl, fun x hx => by cases hx⟩
  | a :: l, h => by
    obtain ⟨todo, h1, h2⟩ := todo_of l (fun e he => h e (List.mem_cons_of_mem _ he))
    obtain ⟨x, hx, hm⟩ := h a (List.mem_cons_self ..)
    refine ⟨x :: todo, by simp [h1, hx], fun y hy => ?_⟩
    rcases List.mem_cons.1 hy with rfl | hy
    · rw [hm]; rfl
    · exact h2 y hy
theorem MapAt.start (h : MapAt P k enc w b M) (inj : ∀ x y, enc x = enc y → x = y) (ht : P.underlying t = some (.map k e)) :
    ∃ (todo : List κ) (o : Obj), (Instr.range t (.map (some b))).run P w = .ok (.pointer (some ⟨w.heap.size, 0, none⟩)) (w.alloc o) ∧ RangeAt P k enc (w.alloc o) b w.heap.size M todo ∧ todo.Nodup ∧ ∀ x, x ∈ todo ↔ (M x).isSome = true := by
  have hlt := h.lt
  obtain ⟨es, clock, hb, hS, h1, h2⟩ := h
  have hl : (leftOf es #[]) = es := by simp [leftOf]
  obtain ⟨todo, ht1, ht2⟩ := todo_of (enc := enc) (M := M) es.toList (fun e he => by obtain ⟨x, a, _, c⟩ := h1 e he; exact ⟨x, a, c⟩)
  have hnd : todo.Nodup := by
    have h3 := ((MapKept.stamped_iff es clock).1 hS).2.2
    have h4 : (es.toList.map (·.key)).Nodup := List.pairwise_map.2 h3
    rw [ht1] at h4
    exact (List.pairwise_map.1 h4).imp (fun hne he => hne (by rw [he]))
  refine ⟨todo, .mapIter (some b) clock #[] clock, run_range_map w t k e b es clock ht hb, ⟨es, clock, clock, #[], clock, (Go.MapKept.heap_alloc w _).2 b hlt |>.trans hb, hS, h1, h2, (Go.MapKept.heap_alloc w _).1, hS.1, Nat.le_refl _, Nat.le_refl _, by rw [hl]; exact ht1⟩, hnd, fun x => ⟨ht2 x, fun hx => ?_⟩⟩
  obtain ⟨v, hv⟩ := Option.isSome_iff_exists.1 hx
  obtain ⟨e0, he, hk, _⟩ := h2 x v hv
  have : enc x ∈ todo.map enc := by rw [← ht1, ← hk]; exact List.mem_map.2 ⟨e0, he, rfl⟩
  obtain ⟨y, hy, hyx⟩ := List.mem_map.1 this
  rw [← inj y x hyx]; exact hy
theorem filter_one (l1 l2 : List MapEntry) (e : MapEntry) (h : ((l1 ++ e :: l2).map (·.born)).Nodup) : (l1 ++ e :: l2).filter (fun x => !(x.born == e.born)) = l1 ++ l2 := by
  rw [List.map_append, List.map_cons] at h
  obtain ⟨_, h2, h3⟩ := List.nodup_append.1 h
  have hn1 : ∀ x ∈ l1, x.born ≠ e.born := fun x hx => h3 _ (List.mem_map.2 ⟨x, hx, rfl⟩) _ (List.mem_cons_self ..)
  have hn2 : ∀ x ∈ l2, x.born ≠ e.born := fun x hx he => (List.nodup_cons.1 h2).1 (List.mem_map.2 ⟨x, hx, he⟩)
  rw [List.filter_append, List.filter_cons]
  simp only [beq_self_eq_true, Bool.not_true, Bool.false_eq_true, if_false]
  rw [List.filter_eq_self.2 (fun x hx => by simpa using hn1 x hx), List.filter_eq_self.2 (fun x hx => by simpa using hn2 x hx)]
theorem RangeAt.next (h : RangeAt P k enc w b r M todo) (inj : ∀ x y, enc x = enc y → x = y) (ty : TypeId) :
    (todo = [] ∧ (Instr.next (.pointer (some ⟨r, 0, none⟩)) false ty).run P w = .ok (.tuple #[.bool false]) w) ∨
    ∃ l1 x l2 v w', todo = l1 ++ x :: l2 ∧ M x = some v ∧ (Instr.next (.pointer (some ⟨r, 0, none⟩)) false ty).run P w = .ok (.tuple #[.bool true, enc x, v]) w' ∧ RangeAt P k enc w' b r M (l1 ++ l2) ∧
      w.grownBy w' (some r) ∧ w'.heap.size = w.heap.size ∧ (Instr.entry (.pointer (some ⟨r, 0, none⟩))).run P w' = .ok (.tuple #[enc x, v]) w' := by
  obtain ⟨es, clock, since, seen, c0, hb, hS, h1, h2, hr, hold, hsc, hsk, hk⟩ := h
  have hne : r ≠ b := by intro e; rw [e, hb] at hr; cases hr
  rcases run_next_at (P := P) w ty r b since c0 seen es clock hr hb hold hsc with ⟨h0, hrun⟩ | ⟨e, he, w1, hal, hrun⟩
  · left
    refine ⟨?_, hrun⟩
    have hl : (leftOf es seen).toList = [] := List.eq_nil_of_length_eq_zero (by simpa using h0)
    rw [hl] at hk
    exact (List.map_eq_nil_iff.1 hk.symm)
  · right
    obtain ⟨hem, hes⟩ := mem_left he
    obtain ⟨y, hy, hyl, hym⟩ := h1 e hem
    obtain ⟨L1, L2, hL⟩ := List.append_of_mem he
    rw [hL, List.map_append, List.map_cons] at hk
    obtain ⟨l1, l2', rfl, hk1, hk2⟩ := List.map_eq_append_iff.1 hk.symm
    obtain ⟨x, l2, rfl, hx, hk3⟩ := List.map_eq_cons_iff.1 hk2
    obtain ⟨x', hx', _, hm'⟩ := h1 e hem
    have hr1 : w1.heap[r]? = some (.mapIter (some b) since seen c0) := by rcases hal with rfl | rfl <;> exact hr
    have hb1 : w1.heap[b]? = some (.map es clock) := by rcases hal with rfl | rfl <;> exact hb
    have hset := heap_set (o' := .mapIter (some b) since (seen.push e.born) clock) hr1
    have hb' : (setBlock w1 r (.mapIter (some b) since (seen.push e.born) clock)).heap[b]? = some (.map es clock) := (hset.2 b (fun e1 => hne e1.symm)).trans hb1
    have hmx : M x = some e.val := by rw [inj x x' (hx.trans hx')]; exact hm'
    refine ⟨l1, x, l2, e.val, _, rfl, hmx, by rw [hx]; exact hrun, ⟨es, clock, since, seen.push e.born, clock, hb', hS, h1, h2, hset.1, hold, hsk, hsk, ?_⟩, ?_, ?_, by rw [hx]; exact run_entry_at _ r b since seen es clock e hset.1 hb' hem ((MapKept.stamped_iff es clock).1 hS).2.1⟩
    · have hlf : (leftOf es (seen.push e.born)).toList = (leftOf es seen).toList.filter (fun x => !(x.born == e.born)) := by
        unfold leftOf
        rw [Array.toList_filter, Array.toList_filter, List.filter_filter]
        congr 1
        funext z
        rw [Array.contains_push]
        cases seen.contains z.born <;> cases (z.born == e.born) <;> rfl
      rw [hlf, hL, filter_one L1 L2 e (by rw [← hL]; exact (nodup_of_left hS).1), List.map_append, List.map_append, hk1, hk3]
    · rcases hal with rfl | rfl <;> exact ⟨rfl, rfl, rfl, by simp [setBlock], fun i _ hi => hset.2 i (fun e1 => hi (by rw [e1]))⟩
    · rcases hal with rfl | rfl <;> simp [setBlock]
end
end Go.Proofs.YtikdiepcfdimgaaDoor
namespace Go.Proofs.YtikdiepcfdimgaaDoor
open Go.RowKit Go.Lib Go.Proofs.YtikdiepcfdimgaaDoorW.PrintWords Go.Proofs.YtikdiepcfdimgaaDoorW.PrintLast Go.Proofs.YtikdiepcfdimgaaDoorW.PrintMore
section
variable {P : Program} {w : World}
theorem run_append_any (t ty : TypeId) (base : Nat) (e : TypeId) (i : TypeInfo) (z : Value) (size bytes : Nat) (ht : P.underlying t = some (.slice e)) (hi : P.info? e = some i) (hz : i.zero = some z)
    (hsize : i.size = size) (hby : i.bytes = bytes) (hzs : z.cells.size = size) (hsz : 0 < size)
    (v : Value) (n : Nat) (xs : List Value) (hown : w.ownsRow base e size v n xs)
    (A : Option Addr) (m c : Nat) (news : List Value) (hl : news.length = m * size) (hnews : ∀ j u, news[j]? = some u → ∃ ad, A = some ad ∧ w.cell? (ad.add j) = some u) (h1 : ∀ u ∈ news, u.oneCell' = true)
    (h63 : n + m ≤ maxLen) (hbytes : (n + m) * bytes ≤ 140737488355328) (hbase : base ≤ w.heap.size) :
    ∃ v' w', (Builtin.append_ #[t, t] ty #[v, .slice A m c]).run P w = .ok v' w' ∧ w'.ownsRow base e size v' (n + m) (xs ++ news) ∧ w.grownBy w' v.ownBlock ∧ (v'.ownBlock = v.ownBlock ∨ v'.ownBlock = some w.heap.size) := by
  cases A with
  | some ad =>
    obtain ⟨v', w', hr, h2, h3, _, h5⟩ := run_append_own_at (P := P) w base t ty e i z size bytes ht hi hz hsize hby hzs hsz v n xs hown ad m c news hl (fun j u hu => by obtain ⟨ad', h, hc⟩ := hnews j u hu; cases h; exact hc) h1 h63 hbytes hbase
    exact ⟨v', w', hr, h2, h3, h5⟩
  | none =>
    have hn : news = [] := by
      cases news with
      | nil => rfl
      | cons u r => obtain ⟨_, h, _⟩ := hnews 0 u rfl; cases h
    subst hn
    have hm : m = 0 := by
      have h2 : m * size = 0 := hl.symm
      rcases Nat.mul_eq_zero.1 h2 with h | h
      · exact h
      · omega
    subst hm
    refine ⟨v, w, ?_, by simpa using hown, World.grownBy.refl w _, .inl rfl⟩
    rcases hown.2 with ⟨rfl, rfl⟩ | ⟨g, cap, cur, rfl, _, _, hnc, _⟩
    · simp [Builtin.append_, run_underlying ht, sizeOf, typeInfo, hi, Builtin.lenOf, Builtin.firstCells]
    · simp [Builtin.append_, run_underlying ht, sizeOf, typeInfo, hi, Builtin.lenOf, Builtin.firstCells, hnc, storeCells]
theorem step_append_any {ops : Array Oper} {o : Oper} {a : Act} {K : Act → World → Prop} {Q : Exit → Act → World → Prop} {E : Prop} (hgd : o.guard = none) (s x : Operand) (t : TypeId)
    (ho : o.op = .call { callee := .builtin .append, args := #[s, x], argTypes := #[t, t] })
    (base : Nat) (e : TypeId) (i : TypeInfo) (z : Value) (size bytes : Nat) (ht : P.underlying t = some (.slice e)) (hi : P.info? e = some i) (hz : i.zero = some z)
    (hsize : i.size = size) (hby : i.bytes = bytes) (hzs : z.cells.size = size) (hsz : 0 < size)
    (v : Value) (n : Nat) (xs : List Value) (hs : a.eval s = v) (hown : w.ownsRow base e size v n xs)
    (A : Option Addr) (m c : Nat) (news : List Value) (hx : a.eval x = .slice A m c) (hl : news.length = m * size) (hnews : ∀ j u, news[j]? = some u → ∃ ad, A = some ad ∧ w.cell? (ad.add j) = some u) (h1 : ∀ u ∈ news, u.oneCell' = true)
    (h63 : n + m ≤ maxLen) (hbytes : (n + m) * bytes ≤ 140737488355328) (hbase : base ≤ w.heap.size)
    (h : ∀ v' w', w'.ownsRow base e size v' (n + m) (xs ++ news) → w.grownBy w' v.ownBlock → (v'.ownBlock = v.ownBlock ∨ v'.ownBlock = some w.heap.size) → K (a.put o.dst v') w') :
    if Region.wanted o (yielded ops a.tmps) = true then Oper.wp P o a w K Q else E := by
  have hw : Region.wanted o (yielded ops a.tmps) = true := by simp [Region.wanted, hgd]
  rw [if_pos hw]
  obtain ⟨v', w', hr, h2, h3, h4⟩ := run_append_any (P := P) (w := w) t o.type base e i z size bytes ht hi hz hsize hby hzs hsz v n xs hown A m c news hl hnews h1 h63 hbytes hbase
  unfold Oper.wp execOp
  simp only [ho, resolve, invoke, builtin, Sem.run_bind, Sem.run_pure, Result.andThen_ok, List.map_toArray, List.map_cons, List.map_nil, hs, hx, hr]
  exact h v' w' h2 h3 h4
theorem run_append_full (t ty : TypeId) (e : TypeId) (i : TypeInfo) (z : Value) (size bytes : Nat) (ht : P.underlying t = some (.slice e)) (hi : P.info? e = some i) (hz : i.zero = some z)
    (hsize : i.size = size) (hby : i.bytes = bytes) (hzs : z.cells.size = size)
    (A : Option Addr) (n : Nat) (xs : List Value) (hxl : xs.length = n * size) (hxs : ∀ j u, xs[j]? = some u → ∃ ad, A = some ad ∧ w.cell? (ad.add j) = some u) (hA : A = none → n = 0)
    (b : Addr) (m c : Nat) (news : List Value) (hl : news.length = m * size) (hnews : ∀ j u, news[j]? = some u → w.cell? (b.add j) = some u) (hm : 0 < m)
    (h63 : n + m ≤ maxLen) (hbytes : (n + m) * bytes ≤ 140737488355328) :
    ∃ cap w', (Builtin.append_ #[t, t] ty #[.slice A n n, .slice (some b) m c]).run P w = .ok (.slice (some ⟨w.heap.size, 0, none⟩) (n + m) cap) w' ∧ w'.ownsRow w.heap.size e size (.slice (some ⟨w.heap.size, 0, none⟩) (n + m) cap) (n + m) (xs ++ news) ∧ Below w.heap.size w w' := by
  subst hsize
  subst hby
  have hsmall : n + m ≤ 9223372036854775807 := by simp only [maxLen] at h63; omega
  have hlen : (xs ++ news).length = (n + m) * i.size := by rw [List.length_append, hxl, hl, Nat.add_mul]
  have grown : ∀ (old : Nat), old < n + m →
      (w.drew.alloc (.cells (xs.toArray ++ news.toArray ++ Builtin.zeroCells z.cells (grownCap w (n + m) old e - (n + m))) e)).ownsRow w.heap.size e i.size
        (.slice (some ⟨w.heap.size, 0, none⟩) (n + m) (grownCap w (n + m) old e)) (n + m) (xs ++ news) ∧
      Below w.heap.size w (w.drew.alloc (.cells (xs.toArray ++ news.toArray ++ Builtin.zeroCells z.cells (grownCap w (n + m) old e - (n + m))) e)) := by
    intro old ho
    have hge := grownCap_ge w (n + m) old e
    have hcm : grownCap w (n + m) old e ≤ maxLen := grownCap_le_maxLen w (n + m) old e h63
    refine ⟨⟨hlen, .inr ⟨w.heap.size, _, _, rfl, Nat.le_refl _, heap_alloc_new w.drew _, hge, hcm, ?_, ?_⟩⟩, (Below.refl _ w).drew.alloc (Nat.le_refl _) _⟩
    · simp only [Array.size_append, List.size_toArray, size_zeroCells, hzs, hxl, hl, ← Nat.add_mul]
      congr 1
      omega
    · simp only [Array.toList_append, List.append_assoc]
      rw [← List.append_assoc, ← hlen]
      exact List.take_left
  cases A with
  | none =>
    have hn := hA rfl
    subst hn
    have hx : xs = [] := List.eq_nil_of_length_eq_zero (by simpa using hxl)
    subst hx
    have hr := run_append_nil (P := P) w t ty e i z ht hi hz b m c news hl hnews hm (by omega) (by have hb := hbytes; simp only [Nat.zero_add] at hb; omega)
    have hgr := grown 0 (by omega)
    simp only [Nat.zero_add, List.nil_append, Array.empty_append] at hgr ⊢
    exact ⟨_, _, hr, hgr.1, hgr.2⟩
  | some a =>
    have hr := run_append_grow (P := P) w t ty e i z ht hi hz a n n xs hxl (fun j u hu => by obtain ⟨ad, h, hc⟩ := hxs j u hu; cases h; exact hc) b m c news hl hnews (by omega) (by omega) (growslice_fits (by omega) hbytes)
    have hgr := grown n (by omega)
    exact ⟨_, _, hr, hgr.1, hgr.2⟩
theorem step_append_full {ops : Array Oper} {o : Oper} {a : Act} {K : Act → World → Prop} {Q : Exit → Act → World → Prop} {E : Prop} (hgd : o.guard = none) (s x : Operand) (t : TypeId)
    (ho : o.op = .call { callee := .builtin .append, args := #[s, x], argTypes := #[t, t] })
    (e : TypeId) (i : TypeInfo) (z : Value) (size bytes : Nat) (ht : P.underlying t = some (.slice e)) (hi : P.info? e = some i) (hz : i.zero = some z)
    (hsize : i.size = size) (hby : i.bytes = bytes) (hzs : z.cells.size = size)
    (A : Option Addr) (n : Nat) (xs : List Value) (hs : a.eval s = .slice A n n) (hxl : xs.length = n * size) (hxs : ∀ j u, xs[j]? = some u → ∃ ad, A = some ad ∧ w.cell? (ad.add j) = some u) (hA : A = none → n = 0)
    (b : Addr) (m c : Nat) (news : List Value) (hx : a.eval x = .slice (some b) m c) (hl : news.length = m * size) (hnews : ∀ j u, news[j]? = some u → w.cell? (b.add j) = some u) (hm : 0 < m)
    (h63 : n + m ≤ maxLen) (hbytes : (n + m) * bytes ≤ 140737488355328)
    (h : ∀ cap w', w'.ownsRow w.heap.size e size (.slice (some ⟨w.heap.size, 0, none⟩) (n + m) cap) (n + m) (xs ++ news) → Below w.heap.size w w' → K (a.put o.dst (.slice (some ⟨w.heap.size, 0, none⟩) (n + m) cap)) w') :
    if Region.wanted o (yielded ops a.tmps) = true then Oper.wp P o a w K Q else E := by
  have hw : Region.wanted o (yielded ops a.tmps) = true := by simp [Region.wanted, hgd]
  rw [if_pos hw]
  obtain ⟨cap, w', hr, h2, h3⟩ := run_append_full (P := P) (w := w) t o.type e i z size bytes ht hi hz hsize hby hzs A n xs hxl hxs hA b m c news hl hnews hm h63 hbytes
  unfold Oper.wp execOp
  simp only [ho, resolve, invoke, builtin, Sem.run_bind, Sem.run_pure, Result.andThen_ok, List.map_toArray, List.map_cons, List.map_nil, hs, hx, hr]
  exact h cap w' h2 h3
theorem cut_full (t e : TypeId) {i : TypeInfo} (ht : P.underlying t = some (.slice e)) (hi : P.info? e = some i) (A : Option Addr) (n c : Nat) (j : Int) (h0 : 0 ≤ j) (hm : j ≤ c) :
    ∀ W : World, (Instr.slice t (.slice A n c) none (some (.int .i64 j)) (some (.int .i64 j))).run P W = .ok (.slice A j.toNat j.toNat) W := by
  intro W
  have hel : P.elem t = e := by simp [Program.elem, ht]
  have hu : P.underlying t = some (.slice (P.elem t)) := by rw [hel]; exact ht
  have ha : (A.map fun x => x.add 0) = A := by cases A <;> simp [Addr.add]
  rw [run_slice_hm W t A n c hu .i64 .i64 j j h0 (Int.le_refl _) hm, hel]
  simp [sizeOf, typeInfo, hi, sliced, Result.andThen, ha]
end
section
variable {w W : World} {base e size n c m : Nat} {A : Option Addr} {xs : List Value}
theorem slice_room (h : w.ownsRow base e size (.slice A n c) n xs) : n ≤ c := by
  rcases h.2 with ⟨hv, h0⟩ | ⟨g, cap, cur, hv, _, _, hnc, _⟩
  · omega
  · injection hv with _ _ hc
    subst hc; exact hnc
theorem own_news_take (h : w.ownsRow base e size (.slice A n c) n xs) (hm : m ≤ n) (hW : ∀ g, (Value.slice A n c).ownBlock = some g → W.heap[g]? = w.heap[g]?) :
    ∀ j u, (xs.take (m * size))[j]? = some u → ∃ ad, A = some ad ∧ W.cell? (ad.add j) = some u := fun j u hu => by
  have hj := (List.getElem?_eq_some_iff.1 hu).1
  rw [List.length_take] at hj
  rw [List.getElem?_take, if_pos (by omega)] at hu
  rcases h.2 with ⟨hv, h0⟩ | ⟨g, cap, cur, hv, _, hh, _, _, _, ht⟩
  · have := h.1; subst h0; omega
  · injection hv with ha _ hc
    subst ha; subst hc
    refine ⟨_, rfl, ?_⟩
    rw [Addr.add_lit, Nat.zero_add]
    have h2 := (List.getElem?_eq_some_iff.1 hu).1
    rw [h.1] at h2
    rw [← ht, List.getElem?_take, if_pos h2, Array.getElem?_toList] at hu
    simp [World.cell?, hW g rfl, hh, hu]
theorem own_news_drop (h : w.ownsRow base e size (.slice A n c) n xs) (hm : m ≤ n) (hW : ∀ g, (Value.slice A n c).ownBlock = some g → W.heap[g]? = w.heap[g]?) :
    ∀ j u, (xs.drop (m * size))[j]? = some u → ∃ ad, (if c = m then A else A.map (·.add (m * size))) = some ad ∧ W.cell? (ad.add j) = some u := fun j u hu => by
  rw [List.getElem?_drop] at hu
  have h2 := (List.getElem?_eq_some_iff.1 hu).1
  rw [h.1] at h2
  rcases h.2 with ⟨hv, h0⟩ | ⟨g, cap, cur, hv, _, hh, hnc, _, _, ht⟩
  · subst h0; omega
  · injection hv with ha _ hc
    subst ha; subst hc
    rw [← ht, List.getElem?_take, if_pos h2, Array.getElem?_toList] at hu
    by_cases hcm : c = m
    · subst hcm
      have : n = c := by omega
      subst this
      omega
    · rw [if_neg hcm]
      refine ⟨_, rfl, ?_⟩
      show W.cell? (((⟨g, 0, none⟩ : Addr).add (m * size)).add j) = some u
      rw [Addr.add_lit, Addr.add_lit, Nat.zero_add]
      simp [World.cell?, hW g rfl, hh, hu]
end
theorem own_lower_ {w : World} {b b' : Nat} {e : TypeId} {size n : Nat} {v : Value} {xs : List Value} (h : w.ownsRow b e size v n xs) (hb : b' ≤ b) : w.ownsRow b' e size v n xs := by
  refine ⟨h.1, ?_⟩
  rcases h.2 with h2 | ⟨g, cap, cur, h1, h2, h3⟩
  · exact .inl h2
  · exact .inr ⟨g, cap, cur, h1, Nat.le_trans hb h2, h3⟩
theorem two_new (w : World) (o1 o2 : Obj) : (((w.alloc o1).alloc o2).drew).heap[w.heap.size]? = some o1 ∧ (((w.alloc o1).alloc o2).drew).heap[w.heap.size + 1]? = some o2 ∧ Below w.heap.size w (((w.alloc o1).alloc o2).drew) := by
  refine ⟨?_, ?_, (((Below.refl _ w).alloc (Nat.le_refl _) _).alloc (by simp) _).drew⟩
  · show ((w.alloc o1).alloc o2).heap[w.heap.size]? = _
    rw [heap_alloc_old (w.alloc o1) o2 (by simp)]
    exact (Go.MapKept.heap_alloc w o1).1
  · show ((w.alloc o1).alloc o2).heap[w.heap.size + 1]? = _
    have := (Go.MapKept.heap_alloc (w.alloc o1) o2).1
    simpa using this
end Go.Proofs.YtikdiepcfdimgaaDoor
namespace Go.Proofs.YtikdiepcfdimgaaDoor.POw
open Go.RowKit Go.Proofs.YtikdiepcfdimgaaDoorW.PrintWords Go.Proofs.YtikdiepcfdimgaaDoorW.PrintLast Go.Proofs.YtikdiepcfdimgaaDoorW.PrintMore
theorem bless_eq : ∀ (x y : List UInt8), Op.bytesLess x y = decide (x < y)
  | [], [] => by simp [Op.bytesLess]
  | _ :: _, [] => by simp [Op.bytesLess]
  | [], _ :: _ => by simp [Op.bytesLess]
  | a :: x, b :: y => by
    rw [Op.bytesLess, bless_eq x y]
    simp only [List.cons_lt_cons_iff]
    by_cases h1 : a < b <;> by_cases h2 : a = b <;> by_cases h3 : x < y <;> simp [h1, h2, h3]
theorem bytes_ext {a b : ByteArray} (h : a.toList = b.toList) : a = b := by
  rw [ByteArray.toList_eq, ByteArray.toList_eq] at h
  exact WideShapes.bytes_inj h
theorem blist_tri (x y : List UInt8) : x = y ∨ x < y ∨ y < x := by
  by_cases h1 : x < y
  · exact Or.inr (Or.inl h1)
  · by_cases h2 : y < x
    · exact Or.inr (Or.inr h2)
    · exact Or.inl (List.le_antisymm (List.not_lt.1 h2) (List.not_lt.1 h1))
section
variable {α : Type} {lt : α → α → Bool}
def posG (lt : α → α → Bool) (ks : List α) (k : α) : Nat := ks.countP (fun a => lt a k)
theorem posG_le (ks : List α) (k : α) : posG lt ks k ≤ ks.length := List.countP_le_length
theorem posG_zero {ks : List α} {k : α} (h : ∀ a ∈ ks, lt a k = false) : posG lt ks k = 0 := by
  unfold posG
  rw [List.countP_eq_zero]
  intro a ha
  simp [h a ha]
theorem posG_cons_lt {ks : List α} {a k : α} (h : lt a k = true) : posG lt (a :: ks) k = posG lt ks k + 1 := by
  unfold posG; rw [List.countP_cons_of_pos (by simpa using h)]
theorem posG_cons_ge {ks : List α} {a k : α} (h : lt a k = false) (hs : ∀ b ∈ ks, lt b k = false) : posG lt (a :: ks) k = 0 :=
  posG_zero (fun b hb => by rcases List.mem_cons.1 hb with rfl | hb; exact h; exact hs b hb)
structure StrictO (lt : α → α → Bool) : Prop where
  irr : ∀ a, lt a a = false
  tra : ∀ a b c, lt a b = true → lt b c = true → lt a c = true
  tri : ∀ a b, a = b ∨ lt a b = true ∨ lt b a = true
theorem StrictO.asy (o : StrictO lt) {a b : α} (h : lt a b = true) : lt b a = false := by
  cases h2 : lt b a with
  | false => rfl
  | true => have := o.tra _ _ _ h h2; rw [o.irr] at this; cases this
theorem StrictO.ge (o : StrictO lt) {a k b : α} (h : lt a k = false) (h2 : lt a b = true) : lt b k = false := by
  cases h3 : lt b k with
  | false => rfl
  | true => rw [o.tra _ _ _ h2 h3] at h; cases h
theorem pos_mem (o : StrictO lt) (k : α) : ∀ {ks : List α}, ks.Pairwise (fun a b => lt a b = true) → k ∈ ks → ks[posG lt ks k]? = some k
  | a :: ks, h, hm => by
    obtain ⟨ha, h'⟩ := List.pairwise_cons.1 h
    rcases List.mem_cons.1 hm with rfl | hm
    · rw [posG_cons_ge (o.irr k) (fun b hb => o.asy (ha b hb))]; rfl
    · rw [posG_cons_lt (ha k hm)]
      simpa using pos_mem o k h' hm
def insG (lt : α → α → Bool) (ks : List α) (k : α) : List α := ks.take (posG lt ks k) ++ k :: ks.drop (posG lt ks k)
theorem insG_mem (ks : List α) (k x : α) : x ∈ insG lt ks k ↔ x = k ∨ x ∈ ks := by
  unfold insG
  have : x ∈ ks ↔ x ∈ ks.take (posG lt ks k) ∨ x ∈ ks.drop (posG lt ks k) := by rw [← List.mem_append, List.take_append_drop]
  rw [List.mem_append, List.mem_cons, this]
  constructor
  · rintro (h | h | h)
    · exact Or.inr (Or.inl h)
    · exact Or.inl h
    · exact Or.inr (Or.inr h)
  · rintro (h | h | h)
    · exact Or.inr (Or.inl h)
    · exact Or.inl h
    · exact Or.inr (Or.inr h)
theorem insG_sorted (o : StrictO lt) (k : α) : ∀ {ks : List α}, ks.Pairwise (fun a b => lt a b = true) → k ∉ ks → (insG lt ks k).Pairwise (fun a b => lt a b = true)
  | [], _, _ => by simp [insG]
  | a :: ks, h, hk => by
    obtain ⟨ha, h'⟩ := List.pairwise_cons.1 h
    cases hak : lt a k with
    | true =>
      have e : insG lt (a :: ks) k = a :: insG lt ks k := by
        unfold insG; rw [posG_cons_lt hak]; rfl
      rw [e, List.pairwise_cons]
      refine ⟨fun x hx => ?_, insG_sorted o k h' (fun hm => hk (List.mem_cons_of_mem _ hm))⟩
      rcases (insG_mem ks k x).1 hx with rfl | hx
      · exact hak
      · exact ha x hx
    | false =>
      have hka : lt k a = true := by
        rcases o.tri k a with e | e | e
        · exact (hk (e ▸ List.mem_cons_self ..)).elim
        · exact e
        · rw [hak] at e; cases e
      have e : insG lt (a :: ks) k = k :: a :: ks := by
        unfold insG; rw [posG_cons_ge hak (fun b hb => o.ge hak (ha b hb))]; rfl
      rw [e, List.pairwise_cons]
      refine ⟨fun x hx => ?_, h⟩
      rcases List.mem_cons.1 hx with rfl | hx
      · exact hka
      · exact o.tra _ _ _ hka (ha x hx)
end
theorem insG_length {α : Type} {lt : α → α → Bool} (ks : List α) (k : α) : (insG lt ks k).length = ks.length + 1 := by
  unfold insG
  have := posG_le (lt := lt) ks k
  simp; omega
theorem sorted_ext_ {α : Type} {lt : α → α → Bool} (o : StrictO lt) : ∀ {l1 l2 : List α}, l1.Pairwise (fun a b => lt a b = true) → l2.Pairwise (fun a b => lt a b = true) → (∀ x, x ∈ l1 ↔ x ∈ l2) → l1 = l2
  | [], [], _, _, _ => rfl
  | [], b :: l2, _, _, h => by have := (h b).2 (List.mem_cons_self ..); cases this
  | a :: l1, [], _, _, h => by have := (h a).1 (List.mem_cons_self ..); cases this
  | a :: l1, b :: l2, h1, h2, h => by
    obtain ⟨ha, h1'⟩ := List.pairwise_cons.1 h1
    obtain ⟨hb, h2'⟩ := List.pairwise_cons.1 h2
    have hab : a = b := by
      rcases List.mem_cons.1 ((h a).1 (List.mem_cons_self ..)) with e | e
      · exact e
      · rcases List.mem_cons.1 ((h b).2 (List.mem_cons_self ..)) with e2 | e2
        · exact e2.symm
        · have k1 := hb a e
          have k2 := ha b e2
          rw [o.asy k1] at k2; cases k2
    subst hab
    have na1 : a ∉ l1 := fun hm => by have := ha a hm; rw [o.irr] at this; cases this
    have na2 : a ∉ l2 := fun hm => by have := hb a hm; rw [o.irr] at this; cases this
    rw [sorted_ext_ o h1' h2' (fun x => ?_)]
    constructor
    · intro hx
      rcases List.mem_cons.1 ((h x).1 (List.mem_cons_of_mem _ hx)) with e | e
      · exact absurd (e ▸ hx) na1
      · exact e
    · intro hx
      rcases List.mem_cons.1 ((h x).2 (List.mem_cons_of_mem _ hx)) with e | e
      · exact absurd (e ▸ hx) na2
      · exact e
def sLt (a b : ByteArray) : Bool := Op.bytesLess a.data.toList b.data.toList
theorem sLt_eq (a b : ByteArray) : sLt a b = Op.bytesLess a.toList b.toList := by unfold sLt; rw [ByteArray.toList_eq, ByteArray.toList_eq]
theorem sLt_iff (a b : ByteArray) : sLt a b = true ↔ a.toList < b.toList := by
  rw [sLt_eq, bless_eq]
  simp
theorem sO : StrictO sLt where
  irr a := by
    rw [Bool.eq_false_iff]
    intro h
    exact List.lt_irrefl _ ((sLt_iff a a).1 h)
  tra a b c h1 h2 := by
    rw [sLt_iff] at h1 h2 ⊢
    exact List.lt_trans h1 h2
  tri a b := by
    rw [sLt_iff, sLt_iff]
    rcases blist_tri a.toList b.toList with h | h | h
    · exact Or.inl (bytes_ext h)
    · exact Or.inr (Or.inl h)
    · exact Or.inr (Or.inr h)
def iLt (a b : Int) : Bool := decide (a < b)
theorem iO : StrictO iLt where
  irr a := by simp [iLt]
  tra a b c h1 h2 := by simp [iLt] at *; omega
  tri a b := by simp [iLt]; omega
def withG {α : Type} [DecidableEq α] (lt : α → α → Bool) (l : List α) (s : α) : List α := if l[posG lt l s]? = some s then l else insG lt l s
theorem withG_mem {α : Type} [DecidableEq α] {lt : α → α → Bool} (l : List α) (s x : α) : x ∈ withG lt l s ↔ x = s ∨ x ∈ l := by
  unfold withG
  split
  · rename_i h
    constructor
    · exact Or.inr
    · rintro (rfl | h2)
      · exact List.mem_of_getElem? h
      · exact h2
  · exact insG_mem l s x
theorem withG_sorted {α : Type} [DecidableEq α] {lt : α → α → Bool} (o : StrictO lt) {l : List α} (s : α) (h : l.Pairwise (fun a b => lt a b = true)) : (withG lt l s).Pairwise (fun a b => lt a b = true) := by
  unfold withG
  split
  · exact h
  · rename_i hn
    exact insG_sorted o s h (fun hm => hn (pos_mem o s h hm))
theorem withG_length {α : Type} [DecidableEq α] {lt : α → α → Bool} (l : List α) (s : α) : (withG lt l s).length ≤ l.length + 1 := by
  unfold withG
  split
  · omega
  · rw [insG_length]; omega
def strs (l : List ByteArray) : List Value := l.map .string
def intVs (l : List Int) : List Value := l.map (.int .i64)
theorem strs_one (l : List ByteArray) : ∀ u ∈ strs l, u.oneCell' = true := by
  intro u hu
  simp only [strs, List.mem_map] at hu
  obtain ⟨x, _, rfl⟩ := hu; rfl
theorem ints_one (l : List Int) : ∀ u ∈ intVs l, u.oneCell' = true := by
  intro u hu
  simp only [intVs, List.mem_map] at hu
  obtain ⟨x, _, rfl⟩ := hu; rfl
theorem own_str_at {w : World} {B c : Nat} {A : Option Addr} {l : List ByteArray} (h : w.ownsRow B 9 1 (.slice A l.length c) l.length (strs l)) (i : Nat) (hi : i < l.length) :
    ∃ g, A = some ⟨g, 0, none⟩ ∧ g < w.heap.size ∧ w.cell? ⟨g, i, none⟩ = some (.string l[i]) := by
  rcases h.2 with ⟨hv, h0⟩ | ⟨g, cap, cur, hv, _, hh, _, _, _, ht⟩
  · omega
  · injection hv with ha _ hc
    subst ha; subst hc
    refine ⟨g, rfl, (Array.getElem?_eq_some_iff.1 hh).1, ?_⟩
    have : (strs l)[i]? = some (.string l[i]) := by simp [strs, hi]
    rw [← ht, List.getElem?_take, if_pos (by omega), Array.getElem?_toList] at this
    simp [World.cell?, hh, this]
theorem own_int_at {w : World} {B c : Nat} {A : Option Addr} {l : List Int} (h : w.ownsRow B 3 1 (.slice A l.length c) l.length (intVs l)) (i : Nat) (hi : i < l.length) :
    ∃ g, A = some ⟨g, 0, none⟩ ∧ g < w.heap.size ∧ w.cell? ⟨g, i, none⟩ = some (.int .i64 l[i]) := by
  rcases h.2 with ⟨hv, h0⟩ | ⟨g, cap, cur, hv, _, hh, _, _, _, ht⟩
  · omega
  · injection hv with ha _ hc
    subst ha; subst hc
    refine ⟨g, rfl, (Array.getElem?_eq_some_iff.1 hh).1, ?_⟩
    have : (intVs l)[i]? = some (.int .i64 l[i]) := by simp [intVs, hi]
    rw [← ht, List.getElem?_take, if_pos (by omega), Array.getElem?_toList] at this
    simp [World.cell?, hh, this]
theorem own_form {w : World} {B n sz e : Nat} {v : Value} {xs : List Value} (h : w.ownsRow B e sz v n xs) : ∃ A c, v = .slice A n c ∧ n ≤ c ∧ (A = none → n = 0 ∧ c = 0) ∧ c ≤ maxLen := by
  rcases h.2 with ⟨hv, h0⟩ | ⟨g, cap, cur, hv, _, hh, hnc, hcm, _⟩
  · exact ⟨none, 0, by rw [hv, h0], by omega, fun _ => ⟨h0, rfl⟩, by omega⟩
  · exact ⟨some ⟨g, 0, none⟩, cap, hv, hnc, (fun h => by cases h), hcm⟩
end Go.Proofs.YtikdiepcfdimgaaDoor.POw
namespace Go.Proofs.YtikdiepcfdimgaaDoor.POw
open Go.RowKit Go.Shelf Go.Lib Go.Proofs.YtikdiepcfdimgaaDoorW.PrintWords Go.Proofs.YtikdiepcfdimgaaDoorW.PrintLast Go.Proofs.YtikdiepcfdimgaaDoorW.PrintMore
theorem toArr_get {α : Type} [Inhabited α] (l : List α) (i : Nat) (h : i < l.length) : l.toArray[i]! = l[i] := by simp [h]
theorem sorted_below {α : Type} {lt : α → α → Bool} (o : StrictO lt) {l : List α} (hs : l.Pairwise (fun a b => lt a b = true)) {s : α} {i j : Nat} (hij : i ≤ j) (hj : j < l.length) (h : lt l[i] s = false) : lt l[j] s = false := by
  rcases Nat.eq_or_lt_of_le hij with rfl | hlt
  · exact h
  · exact o.ge h (List.pairwise_iff_getElem.1 hs i j (by omega) hj hlt)
theorem search_strs {w : World} {B c : Nat} {A : Option Addr} (l : List ByteArray) (s : ByteArray) (h : w.ownsRow B 9 1 (.slice A l.length c) l.length (strs l)) (hs : l.Pairwise (fun a b => sLt a b = true)) (hl : l.length ≤ 10000) :
    Calls Tryd.prog 27 #[.slice A l.length c, .string s] w fun e w' => e = .returned (.int .i64 (posG sLt l s : Nat)) ∧ Below w.heap.size w w' := by
  by_cases h0 : l.length = 0
  · have hr := Any.sort_SearchStrings_none Tryd.svStrings A c s w
    have hl0 : l = [] := List.eq_nil_of_length_eq_zero h0
    subst hl0
    exact hr
  · obtain ⟨g, rfl, hg, _⟩ := own_str_at h 0 (by omega)
    have hr := Any.sort_SearchStrings Tryd.svStrings g 0 c l.toArray s w
      (fun i hi => by
        have hi' : i < l.length := by simpa using hi
        obtain ⟨g', hA, _, hc⟩ := own_str_at h i hi'
        injection hA with hA; injection hA with hA; subst hA
        rw [Nat.zero_add, hc, toArr_get l i hi'])
      hg (by simp; omega)
      (fun a b hab hb ha => by
        have hb' : b < l.length := by simpa using hb
        rw [toArr_get l a (by omega)] at ha
        rw [toArr_get l b hb']
        have e : ∀ x : ByteArray, (!decide (x.data.toList < s.data.toList)) = !sLt x s := fun x => by rw [sLt_eq, bless_eq, ByteArray.toList_eq, ByteArray.toList_eq]
        rw [e] at ha ⊢
        have := sorted_below sO hs (s := s) hab hb' (by simpa using ha)
        simp [this])
    rw [List.size_toArray] at hr
    refine hr.mono ?_
    rintro e w' ⟨rfl, hb⟩
    refine ⟨?_, hb⟩
    congr 3
    unfold posG
    apply List.countP_congr
    intro x _
    rw [sLt_eq, bless_eq, ByteArray.toList_eq, ByteArray.toList_eq]
    simp
theorem search_ints {w : World} {B c : Nat} {A : Option Addr} (l : List Int) (s : Int) (h : w.ownsRow B 3 1 (.slice A l.length c) l.length (intVs l)) (hs : l.Pairwise (fun a b => iLt a b = true)) (hl : l.length ≤ 10000) :
    Calls Tryd.prog 32 #[.slice A l.length c, .int .i64 s] w fun e w' => e = .returned (.int .i64 (posG iLt l s : Nat)) ∧ Below w.heap.size w w' := by
  by_cases h0 : l.length = 0
  · have hr := Any.sort_SearchInts_none Tryd.svInts A c s w
    have hl0 : l = [] := List.eq_nil_of_length_eq_zero h0
    subst hl0
    exact hr
  · obtain ⟨g, rfl, hg, _⟩ := own_int_at h 0 (by omega)
    have hr := Any.sort_SearchInts Tryd.svInts g 0 c l.toArray s w
      (fun i hi => by
        have hi' : i < l.length := by simpa using hi
        obtain ⟨g', hA, _, hc⟩ := own_int_at h i hi'
        injection hA with hA; injection hA with hA; subst hA
        rw [Nat.zero_add, hc, toArr_get l i hi'])
      hg (by simp; omega)
      (fun a b hab hb ha => by
        have hb' : b < l.length := by simpa using hb
        rw [toArr_get l a (by omega)] at ha
        rw [toArr_get l b hb']
        have := sorted_below iO hs (s := s) hab hb' (by simp [iLt]; simp at ha; omega)
        simp [iLt] at this
        simp; omega)
    rw [List.size_toArray] at hr
    refine hr.mono ?_
    rintro e w' ⟨rfl, hb⟩
    refine ⟨?_, hb⟩
    congr 3
    unfold posG
    apply List.countP_congr
    intro x _
    simp [iLt]
end Go.Proofs.YtikdiepcfdimgaaDoor.POw
namespace Go.Proofs.YtikdiepcfdimgaaDoor.POw
open Go.RowKit Go.Lib Go.Proofs.YtikdiepcfdimgaaDoorW.PrintWords Go.Proofs.YtikdiepcfdimgaaDoorW.PrintLast Go.Proofs.YtikdiepcfdimgaaDoorW.PrintMore
theorem info_str : (Tryd.prog.info? 9).map (fun i => (i.zero, i.size, i.bytes)) = some (some (.string ⟨#[]⟩), 1, 16) := by kernel_rfl
theorem info_int_ : (Tryd.prog.info? 3).map (fun i => (i.zero, i.size, i.bytes)) = some (some (.int .i64 0), 1, 8) := by kernel_rfl
theorem str_bool {a b : ByteArray} (h : a ≠ b) : (a.toList == b.toList) = false := by
  simp only [beq_eq_false_iff_ne, ne_eq]
  exact fun e => h (bytes_ext e)
set_option maxRecDepth 100000 in
set_option maxHeartbeats 8000000 in
theorem go_with (l : List ByteArray) (s : ByteArray) (v : Value) (B : Nat) (w : World) (hown : w.ownsRow B 9 1 v l.length (strs l)) (hB : B ≤ w.heap.size) (hs : l.Pairwise (fun a b => sLt a b = true)) (hl : l.length ≤ 9000) :
    Calls Tryd.prog 16 #[v, .string s] w fun e w' => ∃ v', e = .returned v' ∧ w'.ownsRow B 9 1 v' (withG sLt l s).length (strs (withG sLt l s)) ∧ Below w.heap.size w w' := by
  obtain ⟨A, c, rfl, hlc, hnil, hcm⟩ := own_form hown
  have hsr := fun (W : World) (hW : Below w.heap.size w W) => search_strs (w := W) l s (pw_own_below hown hW) hs (by omega)
  obtain ⟨P, hP⟩ : ∃ P, posG sLt l s = P := ⟨_, rfl⟩
  have hPl : P ≤ l.length := by rw [← hP]; exact posG_le _ _
  rw [hP] at hsr
  have HSR := Lib.hid hsr
  have HW := Lib.hid (show withG sLt l s = if l[P]? = some s then l else l.take P ++ s :: l.drop P by unfold withG insG; rw [hP])
  have HOWN := Lib.hid hown
  obtain ⟨L, hL⟩ : ∃ L, withG sLt l s = L := ⟨_, rfl⟩
  rw [hL] at HW ⊢
  clear hsr hP hL hs
  go_enter Tryd.func16, Tryd.ntmps16
  go_upto_region 2 with (go_at_call 27; refine (HSR.out _ (Below.refl _ _)).mono ?_; rintro e w1 ⟨rfl, hb1⟩)
  have hown1 := pw_own_below HOWN.out hb1
  by_cases hsame : l[P]? = some s
  · have hlt : P < l.length := (List.getElem?_eq_some_iff.1 hsame).1
    obtain ⟨g, rfl, hg, hc⟩ := own_str_at hown1 P hlt
    rw [(List.getElem?_eq_some_iff.1 hsame).2] at hc
    have hPi : (P : Int) < (l.length : Int) := by omega
    have HL := Lib.hid (show L = l by rw [HW.out, if_pos hsame])
    clear hsame hown1 hown
    go_wp2
    go_ret
    exact ⟨_, rfl, by rw [HL.out]; exact pw_own_below HOWN.out hb1, hb1⟩
  · have HL := Lib.hid (show L = l.take P ++ s :: l.drop P by rw [HW.out, if_neg hsame])
    obtain ⟨i0, hi0, hi1, hi2, hi3⟩ := info_parts info_str
    have hcf := cut_full (P := Tryd.prog) 34 9 Tryd.underlying34 hi0 A l.length c (P : Int) (by omega) (by omega)
    have hcd := cut_from (P := Tryd.prog) 34 9 .i64 Tryd.underlying34 hi0 1 hi2 A l.length c (P : Int) (by omega) (by omega)
    rw [Int.toNat_natCast] at hcf hcd
    rw [Nat.mul_one] at hcd
    obtain ⟨D, hD⟩ : ∃ D, (if c = P then A else A.map (·.add P)) = D := ⟨_, rfl⟩
    rw [hD] at hcd
    have TAKE := Lib.hid (show ∀ W, Below w1.heap.size w1 W → ∀ j u, (strs (l.take P))[j]? = some u → ∃ ad, A = some ad ∧ W.cell? (ad.add j) = some u from fun W hW => by
      have := own_news_take (W := W) hown1 hPl (fun g hg => hW.block g (own_lt hown1 g hg))
      rw [Nat.mul_one] at this
      unfold strs at this ⊢
      rw [← List.map_take] at this
      exact this)
    have DROP := Lib.hid (show ∀ W, Below w1.heap.size w1 W → ∀ j u, (strs (l.drop P))[j]? = some u → ∃ ad, D = some ad ∧ W.cell? (ad.add j) = some u from fun W hW => by
      have := own_news_drop (W := W) hown1 hPl (fun g hg => hW.block g (own_lt hown1 g hg))
      unfold strs at this ⊢
      rw [Nat.mul_one, ← List.map_drop, hD] at this
      exact this)
    have hnone : A = none → P = 0 := fun h => by have := (hnil h).1; omega
    have HCUT := Lib.hid (show ∀ i (h : i < l.length), ∃ g, A = some ⟨g, 0, none⟩ ∧ w1.cell? ⟨g, i, none⟩ = some (.string l[i]) from fun i hi => by obtain ⟨g, h1, _, h2⟩ := own_str_at hown1 i hi; exact ⟨g, h1, h2⟩)
    clear hown hown1 hnil hD
    have HEND := Lib.hid (show ∀ (v32 : Value) (w32 : World), w32.ownsRow w1.heap.size 9 1 v32 (P + 1 + (l.length - P)) (strs (l.take P) ++ [.string s] ++ strs (l.drop P)) → w32.ownsRow B 9 1 v32 L.length (strs L) from fun v32 w32 h => by
      rw [HL.out]
      have e1 : (l.take P ++ s :: l.drop P).length = P + 1 + (l.length - P) := by simp; omega
      have e2 : strs (l.take P ++ s :: l.drop P) = strs (l.take P) ++ [.string s] ++ strs (l.drop P) := by simp [strs]
      rw [e1, e2]
      exact own_lower_ h (Nat.le_trans hB hb1.size))
    by_cases hlt : P < l.length
    · obtain ⟨g, hAg, hc⟩ := HCUT.out P hlt
      have hPi : (P : Int) < (l.length : Int) := by omega
      have hne : l[P] ≠ s := fun e => hsame (by rw [List.getElem?_eq_getElem hlt, e])
      have hneb := str_bool hne
      clear hne hsame
      have HAG := Lib.hid hAg
      subst hAg
      go_upto_region 4 with fail
      have hB0 : Below w1.heap.size w1 w1.drew := (Below.refl _ w1).drew
      refine start_ (n := 12) (S := fun w' => True) (ds := []) #[false, false, false, false, false, false, false, false, false, false, false, false] (by kernel_rfl) rfl rfl trivial (fun hHeld => ?_)
      refine pure_ (i := 0) (N := some 22) (v := ?_) (a' := ?_) #[true, false, false, false, false, false, false, false, false, false, false, false] rfl rfl (by kernel_rfl) (fun _ _ _ h => h) (Or.inl ⟨by rfl, ?_⟩) ?_ ?_
      rotate_left
      · intro w'
        go_simp
        with_reducible rfl
      rotate_left
      · simp only [Act.put, List.setIfInBounds_toArray, List.set_cons_zero, List.set_cons_succ, i64_w, i32_w]
        rfl
      refine pure_ (i := 1) (N := some 23) (v := ?_) (a' := ?_) #[true, true, false, false, false, false, false, false, false, false, false, false] rfl rfl (by kernel_rfl) (fun _ _ _ h => h) (Or.inl ⟨by rfl, ?_⟩) ?_ ?_
      rotate_left
      · intro w'
        go_simp
        with_reducible rfl
      rotate_left
      · simp only [Act.put, List.setIfInBounds_toArray, List.set_cons_zero, List.set_cons_succ, i64_w, i32_w]
        rfl
      refine pure_ (i := 2) (N := some 24) (v := ?_) (a' := ?_) #[true, true, true, false, false, false, false, false, false, false, false, false] rfl rfl (by kernel_rfl) (fun _ _ _ h => h) (Or.inl ⟨by rfl, ?_⟩) ?_ ?_
      rotate_left
      · intro w'
        go_simp
        with_reducible rfl
      rotate_left
      · simp only [Act.put, List.setIfInBounds_toArray, List.set_cons_zero, List.set_cons_succ, i64_w, i32_w]
        rfl
      refine pure_ (i := 3) (N := some 25) (v := ?_) (a' := ?_) #[true, true, true, true, false, false, false, false, false, false, false, false] rfl rfl (by kernel_rfl) (fun _ _ _ h => h) (Or.inl ⟨by rfl, ?_⟩) ?_ ?_
      rotate_left
      · intro w'
        go_simp
        with_reducible rfl
      rotate_left
      · simp only [Act.put, List.setIfInBounds_toArray, List.set_cons_zero, List.set_cons_succ, i64_w, i32_w]
        rfl
      refine pure_ (i := 4) (N := some 26) (v := ?_) (a' := ?_) #[true, true, true, true, true, false, false, false, false, false, false, false] rfl rfl (by kernel_rfl) (fun _ _ _ h => h) (Or.inl ⟨by rfl, ?_⟩) ?_ ?_
      rotate_left
      · intro w'
        go_simp
        with_reducible rfl
      rotate_left
      · simp only [Act.put, List.setIfInBounds_toArray, List.set_cons_zero, List.set_cons_succ, i64_w, i32_w]
        rfl
      refine pure_ (i := 7) (N := some 29) (v := ?_) (a' := ?_) #[true, true, true, true, true, false, false, true, false, false, false, false] rfl rfl (by kernel_rfl) (fun _ _ _ h => h) (Or.inl ⟨by rfl, ?_⟩) ?_ ?_
      rotate_left
      · intro w'
        go_simp
        with_reducible rfl
      rotate_left
      · simp only [Act.put, List.setIfInBounds_toArray, List.set_cons_zero, List.set_cons_succ, i64_w, i32_w]
        rfl
      refine pure_ (i := 8) (N := some 30) (v := ?_) (a' := ?_) #[true, true, true, true, true, false, false, true, true, false, false, false] rfl rfl (by kernel_rfl) (fun _ _ _ h => h) (Or.inl ⟨by rfl, ?_⟩) ?_ ?_
      rotate_left
      · intro w'
        go_simp
        with_reducible rfl
      rotate_left
      · simp only [Act.put, List.setIfInBounds_toArray, List.set_cons_zero, List.set_cons_succ, i64_w, i32_w]
        rfl
      refine pure_ (i := 9) (N := some 31) (v := ?_) (a' := ?_) #[true, true, true, true, true, false, false, true, true, true, false, false] rfl rfl (by kernel_rfl) (fun _ _ _ h => h) (Or.inl ⟨by rfl, ?_⟩) ?_ ?_
      rotate_left
      · intro w'
        go_simp
        with_reducible rfl
      rotate_left
      · simp only [Act.put, List.setIfInBounds_toArray, List.set_cons_zero, List.set_cons_succ, i64_w, i32_w]
        rfl
      refine one_ (i := 5) (N := some 27) #[true, true, true, true, true, true, false, true, true, true, false, false] rfl rfl (by kernel_rfl) (by decide) (fun K hK => ?_)
      refine value_ (w1 := ?_) (v := ?_) (by rfl) rfl ?_ ?_
      rotate_left 2
      · go_simp
        constructor
        · rfl
        · rfl
      have hB1 := hB0.alloc hB0.size (.cells #[.string s] 9)
      have hone := (Go.MapKept.heap_alloc w1.drew (.cells #[.string s] 9)).1
      refine hK.out _ _ trivial (fun hHeld => ?_)
      clear hK K
      refine norm_ (a' := ?_) ?_ ?_
      rotate_left
      · show Act.put _ (some 27) _ = _
        simp only [Act.put, List.setIfInBounds_toArray, List.set_cons_zero, List.set_cons_succ, i64_w, i32_w]
        rfl
      refine one_ (i := 6) (N := some 28) #[true, true, true, true, true, true, true, true, true, true, false, false] rfl rfl (by kernel_rfl) (by decide) (fun K hK => ?_)
      refine step_append_full (by rfl) (.tmp 25) (.tmp 27) 34 (by rfl) 9 i0 _ 1 16 Tryd.underlying34 hi0 hi1 hi2 hi3 rfl _ P (strs (l.take P)) (by rfl) (by simp [strs, List.length_take, Nat.min_eq_left hPl]) (fun j u hu => TAKE.out _ hB1 j u hu) hnone _ 1 1 [.string s] (by rfl) rfl (fun j u hu => World.news_of_block hone j u hu) (by omega) (by unfold maxLen; omega) (by omega) ?_
      intro c28 w28 own28 hb28
      have hB2 := hB1.trans (hb28.mono hB1.size)
      refine hK.out _ _ trivial (fun hHeld => ?_)
      clear hK K
      refine norm_ (a' := ?_) ?_ ?_
      rotate_left
      · show Act.put _ (some 28) _ = _
        simp only [Act.put, List.setIfInBounds_toArray, List.set_cons_zero, List.set_cons_succ, i64_w, i32_w]
        rfl
      refine one_ (i := 10) (N := some 32) #[true, true, true, true, true, true, true, true, true, true, true, false] rfl rfl (by kernel_rfl) (by decide) (fun K hK => ?_)
      refine step_append_any (by rfl) (.tmp 28) (.tmp 31) 34 (by rfl) w1.heap.size 9 i0 _ 1 16 Tryd.underlying34 hi0 hi1 hi2 hi3 rfl (by omega) _ (P + 1) (strs (l.take P) ++ [.string s]) (by rfl) (own_lower_ own28 hB1.size) _ (l.length - P) _ (strs (l.drop P)) (by rfl) (by simp [strs]) (fun j u hu => DROP.out _ hB2 j u hu) (strs_one _) (by unfold maxLen; omega) (by omega) hB2.size ?_
      intro v32 w32 own32 gr32 fr32
      have hB3 := pw_below_grown hB2 _ hB2.size gr32 (own_base (own_lower_ own28 hB1.size))
      refine hK.out _ _ trivial (fun hHeld => ?_)
      clear hK K
      refine norm_ (a' := ?_) ?_ ?_
      rotate_left
      · show Act.put _ (some 32) _ = _
        simp only [Act.put, List.setIfInBounds_toArray, List.set_cons_zero, List.set_cons_succ, i64_w, i32_w]
        rfl
      refine pure_ (i := 11) (N := some 4) (v := ?_) (a' := ?_) #[true, true, true, true, true, true, true, true, true, true, true, true] rfl rfl (by kernel_rfl) (fun _ _ _ h => h) (Or.inl ⟨by rfl, ?_⟩) ?_ ?_
      rotate_left
      · intro w'
        go_simp
        with_reducible rfl
      rotate_left
      · simp only [Act.put, List.setIfInBounds_toArray, List.set_cons_zero, List.set_cons_succ, i64_w, i32_w]
        rfl
      refine done_ (by kernel_rfl) ?_
      go_wp2
      go_ret
      exact ⟨_, rfl, HEND.out _ _ own32, hb1.trans (hB3.mono hb1.size)⟩
    · have hPi : ¬ (P : Int) < (l.length : Int) := by omega
      go_upto_region 4 with fail
      have hB0 : Below w1.heap.size w1 w1.drew := (Below.refl _ w1).drew
      refine start_ (n := 12) (S := fun w' => True) (ds := []) #[false, false, false, false, false, false, false, false, false, false, false, false] (by kernel_rfl) rfl rfl trivial (fun hHeld => ?_)
      refine pure_ (i := 0) (N := some 22) (v := ?_) (a' := ?_) #[true, false, false, false, false, false, false, false, false, false, false, false] rfl rfl (by kernel_rfl) (fun _ _ _ h => h) (Or.inl ⟨by rfl, ?_⟩) ?_ ?_
      rotate_left
      · intro w'
        go_simp
        with_reducible rfl
      rotate_left
      · simp only [Act.put, List.setIfInBounds_toArray, List.set_cons_zero, List.set_cons_succ, i64_w, i32_w]
        rfl
      refine pure_ (i := 1) (N := some 23) (v := ?_) (a' := ?_) #[true, true, false, false, false, false, false, false, false, false, false, false] rfl rfl (by kernel_rfl) (fun _ _ _ h => h) (Or.inl ⟨by rfl, ?_⟩) ?_ ?_
      rotate_left
      · intro w'
        go_simp
        with_reducible rfl
      rotate_left
      · simp only [Act.put, List.setIfInBounds_toArray, List.set_cons_zero, List.set_cons_succ, i64_w, i32_w]
        rfl
      refine pure_ (i := 2) (N := some 24) (v := ?_) (a' := ?_) #[true, true, true, false, false, false, false, false, false, false, false, false] rfl rfl (by kernel_rfl) (fun _ _ _ h => h) (Or.inl ⟨by rfl, ?_⟩) ?_ ?_
      rotate_left
      · intro w'
        go_simp
        with_reducible rfl
      rotate_left
      · simp only [Act.put, List.setIfInBounds_toArray, List.set_cons_zero, List.set_cons_succ, i64_w, i32_w]
        rfl
      refine pure_ (i := 3) (N := some 25) (v := ?_) (a' := ?_) #[true, true, true, true, false, false, false, false, false, false, false, false] rfl rfl (by kernel_rfl) (fun _ _ _ h => h) (Or.inl ⟨by rfl, ?_⟩) ?_ ?_
      rotate_left
      · intro w'
        go_simp
        with_reducible rfl
      rotate_left
      · simp only [Act.put, List.setIfInBounds_toArray, List.set_cons_zero, List.set_cons_succ, i64_w, i32_w]
        rfl
      refine pure_ (i := 4) (N := some 26) (v := ?_) (a' := ?_) #[true, true, true, true, true, false, false, false, false, false, false, false] rfl rfl (by kernel_rfl) (fun _ _ _ h => h) (Or.inl ⟨by rfl, ?_⟩) ?_ ?_
      rotate_left
      · intro w'
        go_simp
        with_reducible rfl
      rotate_left
      · simp only [Act.put, List.setIfInBounds_toArray, List.set_cons_zero, List.set_cons_succ, i64_w, i32_w]
        rfl
      refine pure_ (i := 7) (N := some 29) (v := ?_) (a' := ?_) #[true, true, true, true, true, false, false, true, false, false, false, false] rfl rfl (by kernel_rfl) (fun _ _ _ h => h) (Or.inl ⟨by rfl, ?_⟩) ?_ ?_
      rotate_left
      · intro w'
        go_simp
        with_reducible rfl
      rotate_left
      · simp only [Act.put, List.setIfInBounds_toArray, List.set_cons_zero, List.set_cons_succ, i64_w, i32_w]
        rfl
      refine pure_ (i := 8) (N := some 30) (v := ?_) (a' := ?_) #[true, true, true, true, true, false, false, true, true, false, false, false] rfl rfl (by kernel_rfl) (fun _ _ _ h => h) (Or.inl ⟨by rfl, ?_⟩) ?_ ?_
      rotate_left
      · intro w'
        go_simp
        with_reducible rfl
      rotate_left
      · simp only [Act.put, List.setIfInBounds_toArray, List.set_cons_zero, List.set_cons_succ, i64_w, i32_w]
        rfl
      refine pure_ (i := 9) (N := some 31) (v := ?_) (a' := ?_) #[true, true, true, true, true, false, false, true, true, true, false, false] rfl rfl (by kernel_rfl) (fun _ _ _ h => h) (Or.inl ⟨by rfl, ?_⟩) ?_ ?_
      rotate_left
      · intro w'
        go_simp
        with_reducible rfl
      rotate_left
      · simp only [Act.put, List.setIfInBounds_toArray, List.set_cons_zero, List.set_cons_succ, i64_w, i32_w]
        rfl
      refine one_ (i := 5) (N := some 27) #[true, true, true, true, true, true, false, true, true, true, false, false] rfl rfl (by kernel_rfl) (by decide) (fun K hK => ?_)
      refine value_ (w1 := ?_) (v := ?_) (by rfl) rfl ?_ ?_
      rotate_left 2
      · go_simp
        constructor
        · rfl
        · rfl
      have hB1 := hB0.alloc hB0.size (.cells #[.string s] 9)
      have hone := (Go.MapKept.heap_alloc w1.drew (.cells #[.string s] 9)).1
      refine hK.out _ _ trivial (fun hHeld => ?_)
      clear hK K
      refine norm_ (a' := ?_) ?_ ?_
      rotate_left
      · show Act.put _ (some 27) _ = _
        simp only [Act.put, List.setIfInBounds_toArray, List.set_cons_zero, List.set_cons_succ, i64_w, i32_w]
        rfl
      refine one_ (i := 6) (N := some 28) #[true, true, true, true, true, true, true, true, true, true, false, false] rfl rfl (by kernel_rfl) (by decide) (fun K hK => ?_)
      refine step_append_full (by rfl) (.tmp 25) (.tmp 27) 34 (by rfl) 9 i0 _ 1 16 Tryd.underlying34 hi0 hi1 hi2 hi3 rfl _ P (strs (l.take P)) (by rfl) (by simp [strs, List.length_take, Nat.min_eq_left hPl]) (fun j u hu => TAKE.out _ hB1 j u hu) hnone _ 1 1 [.string s] (by rfl) rfl (fun j u hu => World.news_of_block hone j u hu) (by omega) (by unfold maxLen; omega) (by omega) ?_
      intro c28 w28 own28 hb28
      have hB2 := hB1.trans (hb28.mono hB1.size)
      refine hK.out _ _ trivial (fun hHeld => ?_)
      clear hK K
      refine norm_ (a' := ?_) ?_ ?_
      rotate_left
      · show Act.put _ (some 28) _ = _
        simp only [Act.put, List.setIfInBounds_toArray, List.set_cons_zero, List.set_cons_succ, i64_w, i32_w]
        rfl
      refine one_ (i := 10) (N := some 32) #[true, true, true, true, true, true, true, true, true, true, true, false] rfl rfl (by kernel_rfl) (by decide) (fun K hK => ?_)
      refine step_append_any (by rfl) (.tmp 28) (.tmp 31) 34 (by rfl) w1.heap.size 9 i0 _ 1 16 Tryd.underlying34 hi0 hi1 hi2 hi3 rfl (by omega) _ (P + 1) (strs (l.take P) ++ [.string s]) (by rfl) (own_lower_ own28 hB1.size) _ (l.length - P) _ (strs (l.drop P)) (by rfl) (by simp [strs]) (fun j u hu => DROP.out _ hB2 j u hu) (strs_one _) (by unfold maxLen; omega) (by omega) hB2.size ?_
      intro v32 w32 own32 gr32 fr32
      have hB3 := pw_below_grown hB2 _ hB2.size gr32 (own_base (own_lower_ own28 hB1.size))
      refine hK.out _ _ trivial (fun hHeld => ?_)
      clear hK K
      refine norm_ (a' := ?_) ?_ ?_
      rotate_left
      · show Act.put _ (some 32) _ = _
        simp only [Act.put, List.setIfInBounds_toArray, List.set_cons_zero, List.set_cons_succ, i64_w, i32_w]
        rfl
      refine pure_ (i := 11) (N := some 4) (v := ?_) (a' := ?_) #[true, true, true, true, true, true, true, true, true, true, true, true] rfl rfl (by kernel_rfl) (fun _ _ _ h => h) (Or.inl ⟨by rfl, ?_⟩) ?_ ?_
      rotate_left
      · intro w'
        go_simp
        with_reducible rfl
      rotate_left
      · simp only [Act.put, List.setIfInBounds_toArray, List.set_cons_zero, List.set_cons_succ, i64_w, i32_w]
        rfl
      refine done_ (by kernel_rfl) ?_
      go_wp2
      go_ret
      exact ⟨_, rfl, HEND.out _ _ own32, hb1.trans (hB3.mono hb1.size)⟩
end Go.Proofs.YtikdiepcfdimgaaDoor.POw
namespace Go.Proofs.YtikdiepcfdimgaaDoor
open Go.RowKit
theorem bcell {W w1 : World} (hb : Below W.heap.size W w1) : (∀ b o, b < W.heap.size → w1.cell? ⟨b, o, none⟩ = W.cell? ⟨b, o, none⟩) ∧ (∀ b o, b < W.heap.size → w1.frozen? ⟨b, o, none⟩ = W.frozen? ⟨b, o, none⟩) :=
  ⟨fun b o h => hb.cell (p := ⟨b, o, none⟩) h, fun b o h => hb.frozen (p := ⟨b, o, none⟩) h⟩
end Go.Proofs.YtikdiepcfdimgaaDoor
namespace Go.Proofs.YtikdiepcfdimgaaDoor
open Go.RowKit
def lenL : List Int := [31, 28, 31, 30, 31, 30, 31, 31, 30, 31, 30, 31]
def DaysLaid (w : World) : Prop := ∀ i : Nat, i < 12 → w.cell? ⟨0, i, none⟩ = some (.int .i64 (lenL.getD i 0))
theorem DaysLaid.pos {w : World} (h : DaysLaid w) : 0 < w.heap.size := by
  have h0 := h 0 (by omega)
  rcases Nat.lt_or_ge 0 w.heap.size with h1 | h1
  · exact h1
  · simp [World.cell?, Array.getElem?_eq_none h1] at h0
theorem DaysLaid.below {w w' : World} (h : DaysLaid w) (hb : Below w.heap.size w w') : DaysLaid w' :=
  fun i hi => (hb.cell (p := ⟨0, i, none⟩) h.pos).trans (h i hi)
def leapB (y : Int) : Bool := decide (y % 4 = 0) && !decide (y % 100 = 0) || decide (y % 400 = 0)
def bef (y : Int) : Int := 365 * (y - 1900) + ((y - 1) / 4 - (y - 1) / 100 + (y - 1) / 400 - 460)
def lenM (y m : Int) : Int := if m = 2 then (if leapB y then 29 else 28) else lenL.getD (m - 1).toNat 0
def isDay (n : Int) : Bool := decide (0 ≤ n) && decide (n ≤ 109572)
theorem bef_succ (y : Int) (_h : 1900 ≤ y) : bef (y + 1) = bef y + 365 + (if leapB y then 1 else 0) := by
  unfold bef leapB
  by_cases h4 : y % 4 = 0 <;> by_cases h100 : y % 100 = 0 <;> by_cases h400 : y % 400 = 0 <;> simp [h4, h100, h400] <;> omega
theorem bef_guess (n : Int) (h0 : 0 ≤ n) : bef (1900 + n / 366) ≤ n := by unfold bef; omega
theorem bef_bd (y : Int) (h0 : 1900 ≤ y) (h1 : y ≤ 2200) : 0 ≤ bef y ∧ bef y ≤ 109573 := by unfold bef; omega
def cumM (y m : Int) : Int := if m ≤ 1 then 0 else if m = 2 then 31 else (if m = 3 then 59 else if m = 4 then 90 else if m = 5 then 120 else if m = 6 then 151 else if m = 7 then 181 else if m = 8 then 212 else if m = 9 then 243 else if m = 10 then 273 else if m = 11 then 304 else if m = 12 then 334 else 365) + (if leapB y then 1 else 0)
theorem cumM_succ (y m : Int) (h1 : 1 ≤ m) (h2 : m ≤ 12) : cumM y (m + 1) = cumM y m + lenM y m := by
  have : m = 1 ∨ m = 2 ∨ m = 3 ∨ m = 4 ∨ m = 5 ∨ m = 6 ∨ m = 7 ∨ m = 8 ∨ m = 9 ∨ m = 10 ∨ m = 11 ∨ m = 12 := by omega
  rcases this with rfl | rfl | rfl | rfl | rfl | rfl | rfl | rfl | rfl | rfl | rfl | rfl <;> cases h : leapB y <;> simp [cumM, lenM, lenL, h]
theorem lenM_bd (y m : Int) (h1 : 1 ≤ m) (h2 : m ≤ 12) : 28 ≤ lenM y m ∧ lenM y m ≤ 31 := by
  have : m = 1 ∨ m = 2 ∨ m = 3 ∨ m = 4 ∨ m = 5 ∨ m = 6 ∨ m = 7 ∨ m = 8 ∨ m = 9 ∨ m = 10 ∨ m = 11 ∨ m = 12 := by omega
  rcases this with rfl | rfl | rfl | rfl | rfl | rfl | rfl | rfl | rfl | rfl | rfl | rfl <;> cases h : leapB y <;> simp [lenM, lenL, h]
theorem cumM_nn (y m : Int) : 0 ≤ cumM y m := by
  unfold cumM
  (repeat' split) <;> omega
theorem cumM_13 (y : Int) : cumM y 13 = 365 + (if leapB y then 1 else 0) := by simp [cumM]
set_option maxHeartbeats 400000 in
theorem days_is.calls (n : Int) (w : World) :
    Calls Tryd.prog 57 #[.int .i64 n] w fun e w' => e = .returned (.bool (isDay n)) ∧ w = w' := by
  by_cases h : 0 ≤ n
  all_goals
    go_enter Tryd.func57, Tryd.ntmps57
    go_wp2
    go_ret
    exact ⟨by simp [isDay, h]; try omega, rfl⟩
set_option maxHeartbeats 400000 in
theorem days_before.calls (y : Int) (w : World) (h0 : 1900 ≤ y) (h1 : y ≤ 2200) :
    Calls Tryd.prog 58 #[.int .i64 y] w fun e w' => e = .returned (.int .i64 (bef y)) ∧ w = w' := by
  go_enter Tryd.func58, Tryd.ntmps58
  go_wp2
  go_ret
  exact ⟨by show Ending.returned (.int .i64 _) = _; congr 2; unfold bef; omega, rfl⟩
set_option maxHeartbeats 400000 in
theorem days_Leap.calls (y : Int) (w : World) (h0 : 0 ≤ y) :
    Calls Tryd.prog 80 #[.int .i64 y] w fun e w' => e = .returned (.bool (leapB y)) ∧ w = w' := by
  by_cases h4 : y % 4 = 0 <;> by_cases h100 : y % 100 = 0
  all_goals
    have a1 : (y % 4 == 0) = decide (y % 4 = 0) := rfl
    have a2 : (y % 100 != 0) = !decide (y % 100 = 0) := rfl
    simp only [h4, h100] at a1 a2
    go_enter Tryd.func80, Tryd.ntmps80
    go_wp2
    go_ret
    refine ⟨?_, rfl⟩
    show Ending.returned (.bool _) = _
    congr 2
    simp [leapB, h4, h100]
    try rfl
set_option maxHeartbeats 400000 in
theorem days_Length.calls (y m : Int) (w : World) (hl : DaysLaid w) (h0 : 0 ≤ y) (h1 : 1 ≤ m) (h2 : m ≤ 12) :
    Calls Tryd.prog 59 #[.int .i64 y, .int .i64 m] w fun e w' => e = .returned (.int .i64 (lenM y m)) ∧ w = w' := by
  have b1 : m - 1 < 12 := by omega
  have b0 : 0 ≤ m - 1 := by omega
  by_cases hm : m = 2
  · subst hm
    have hc : w.cell? ⟨0, 1, none⟩ = some (.int .i64 28) := hl 1 (by omega)
    clear hl
    cases hL : leapB y
    all_goals
      have HL := Lib.hid hL; clear hL
      go_enter Tryd.func59, Tryd.ntmps59
      go_wp2_with (go_at_call 80; refine (days_Leap.calls _ _ (by omega)).mono ?_; rintro e w' ⟨rfl, rfl⟩; rw [HL.out])
      go_ret
      exact ⟨by simp [lenM, HL.out], rfl⟩
  · have hb : (m == 2) = false := by simp [hm]
    have hc : w.cell? ⟨0, m.toNat - 1, none⟩ = some (.int .i64 (lenM y m)) := by
      rw [hl _ (by omega)]
      unfold lenM
      rw [if_neg hm, show (m - 1).toNat = m.toNat - 1 by omega]
    clear hl
    go_enter Tryd.func59, Tryd.ntmps59
    go_wp2
    go_ret
    exact ⟨rfl, rfl⟩
end Go.Proofs.YtikdiepcfdimgaaDoor
namespace Go.Proofs.YtikdiepcfdimgaaDoor
open Go.RowKit
def DateOk (n : Int) (e : Ending) : Prop := ∃ y m d : Int, e = .returned (.tuple #[.agg #[.int .i64 y, .int .i64 m, .int .i64 d], .int .i64 (if isDay n then 0 else 11)])
set_option maxRecDepth 100000 in
set_option maxHeartbeats 1000000 in
theorem days_Date.calls (n : Int) (w : World) (hl : DaysLaid w) :
    Calls Tryd.prog 41 #[.int .i64 n] w fun e w' => DateOk n e ∧ Below w.heap.size w w' := by
  by_cases hd : isDay n = true
  · have hn : 0 ≤ n ∧ n ≤ 109572 := by simpa [isDay] using hd
    have HD := Lib.hid hd; clear hd
    obtain ⟨n0, n1⟩ := hn
    have g0 := bef_guess n n0
    have HL := Lib.hid hl; clear hl
    go_enter Tryd.func41, Tryd.ntmps41
    go_wp2_with (go_at_call 57; refine (days_is.calls _ _).mono ?_; rintro e w' ⟨rfl, rfl⟩; rw [HD.out])
    go_loopg [] 400 (fun k wr => ∃ y : Int, 1900 ≤ y ∧ y ≤ 2199 ∧ 2199 - y < (k : Int) ∧ bef y ≤ n ∧ wr = w.alloc (.cells #[.int .i64 y, .int .i64 0, .int .i64 0] 83))
    case atStart => exact ⟨1900 + n / 366, by omega, by omega, by omega, g0, rfl⟩
    case round =>
      obtain ⟨y, hy1, hy2, hk, hy3, rfl⟩ := hrel
      clear g0
      have hle := fun (o : Obj) => (HL.out.below ((Below.refl w.heap.size w).alloc (Nat.le_refl _) o))
      have HLA := Lib.hid hle; clear hle
      by_cases hc : y < 2199 ∧ bef (y + 1) ≤ n
      · obtain ⟨hc, hd⟩ := hc
        go_wp2_with (go_at_call 58; refine (days_before.calls _ _ (by omega) (by omega)).mono ?_; rintro e w' ⟨rfl, rfl⟩)
        go_roundg (gk - 1)
        case rel => exact ⟨y + 1, by omega, by omega, by omega, hd, rfl⟩
        case measure => omega
      · have hz : n < bef (y + 1) := by
          by_cases e : y = 2199
          · have := bef_bd 2200 (by omega) (by omega); subst e; have : bef (2199 + 1) = 109573 := rfl; omega
          · omega
        have hb := bef_bd y hy1 (by omega)
        have hs := bef_succ y hy1
        have h13 := cumM_13 y
        have HS := Lib.hid hs; have H13 := Lib.hid h13
        clear hc hs h13
        by_cases hlt : y < 2199
        all_goals
          go_wp2_with (go_at_call 58; refine (days_before.calls _ _ (by omega) (by omega)).mono ?_; rintro e w' ⟨rfl, rfl⟩)
          go_loopg [0] 12 (fun k t wr => ∃ m : Int, 1 ≤ m ∧ m ≤ 12 ∧ 12 - m < (k : Int) ∧ 0 ≤ n - bef y - cumM y m ∧ t = .int .i64 (n - bef y - cumM y m) ∧ wr = w.alloc (.cells #[.int .i64 y, .int .i64 m, .int .i64 0] 83))
          case atStart => exact ⟨1, by omega, by omega, by omega, by simp [cumM]; omega, by simp [cumM], rfl⟩
          case round =>
            obtain ⟨m, hm1, hm2, hgk, hr, rfl, rfl⟩ := hrel
            have cs := cumM_succ y m hm1 hm2
            have lb := lenM_bd y m hm1 hm2
            have cp := cumM_nn y m
            have HCS := Lib.hid cs; clear cs
            by_cases hge : lenM y m ≤ n - bef y - cumM y m
            · have hm12 : m < 12 := by
                rcases Int.lt_or_le m 12 with h | h
                · exact h
                · exfalso
                  obtain rfl : m = 12 := by omega
                  have := HCS.out; have := HS.out; have h3 := H13.out
                  rw [show (12 : Int) + 1 = 13 from rfl] at *
                  omega
              go_wp2_with (go_at_call 59; refine (days_Length.calls _ _ _ (HLA.out _) (by omega) (by omega) (by omega)).mono ?_; rintro e w' ⟨rfl, rfl⟩)
              go_roundg (gk - 1)
              case rel => exact ⟨m + 1, by omega, by omega, by omega, by rw [HCS.out]; omega, by rw [HCS.out]; go_num, rfl⟩
              case measure => omega
            · go_wp2_with (go_at_call 59; refine (days_Length.calls _ _ _ (HLA.out _) (by omega) (by omega) (by omega)).mono ?_; rintro e w' ⟨rfl, rfl⟩)
              refine bodyPost_ret (v := .tuple #[.agg #[.int .i64 y, .int .i64 m, .int .i64 (n - bef y - cumM y m + 1)], .int .i64 0]) (by simp [results, Tryd.results41, go_sem]) rfl ⟨⟨y, m, _, by rw [HD.out]; rfl⟩, (Below.refl _ _).alloc (Nat.le_refl _) _⟩
  · have hd0 : isDay n = false := by simpa using hd
    have HD := Lib.hid hd0; clear hd hd0 hl
    go_enter Tryd.func41, Tryd.ntmps41
    go_wp2_with (go_at_call 57; refine (days_is.calls _ _).mono ?_; rintro e w' ⟨rfl, rfl⟩; rw [HD.out])
    refine bodyPost_ret (v := .tuple #[.agg #[.int .i64 0, .int .i64 0, .int .i64 0], .int .i64 11]) (by simp [results, Tryd.results41, go_sem]) rfl ⟨⟨0, 0, 0, by rw [HD.out]; rfl⟩, (Below.refl _ _).alloc (Nat.le_refl _) _⟩
end Go.Proofs.YtikdiepcfdimgaaDoor
namespace Go.Proofs.YtikdiepcfdimgaaDoor.POw
open Go.RowKit Go.Lib Go.Proofs.YtikdiepcfdimgaaDoorW.PrintWords Go.Proofs.YtikdiepcfdimgaaDoorW.PrintLast Go.Proofs.YtikdiepcfdimgaaDoorW.PrintMore
abbrev Hold := S41
abbrev Frc := S28
abbrev Pr := ByteArray × ByteArray
def Hold.pr (h : Hold) : Pr := (h.f0, h.f1)
def encP (k : Pr) : Value := .agg #[.string k.1, .string k.2]
def encS (s : ByteArray) : Value := .string s
theorem encP_inj : ∀ x y, encP x = encP y → x = y := by
  rintro ⟨a, b⟩ ⟨c, d⟩ h
  simp [encP] at h
  simp [h]
theorem encS_inj : ∀ x y, encS x = encS y → x = y := by
  intro a b h
  simpa [encS] using h
theorem ow_laidOut : laidOutB Tryd.prog = true := by kernel_rfl
theorem pair_keyed : Go.Maps.Keyed Tryd.prog 58 := Go.Maps.Keyed.of_law (deep_law_laid ow_laidOut (m := 2) (by omega) (of_decide_eq_true (by kernel_rfl)) (by kernel_rfl) (by kernel_rfl))
theorem str_keyed : Go.Maps.Keyed Tryd.prog 9 := Go.Maps.string_keyed Tryd.underlying9
theorem keyLits_str {P : Program} {t : TypeId} (h : P.underlying t = some .string) {s : ByteArray} (hs : s.size ≤ maxLen) (d : Nat) : P.keyLits (d + 1) t [.string s] = some [.string s.data.toList] := by
  unfold Program.keyLits; simp [h, hs]
theorem key_pair (s t : ByteArray) (h1 : s.size ≤ maxLen) (h2 : t.size ≤ maxLen) : keyOf Tryd.prog 58 (.agg #[.string s, .string t]) = some (.string (keyBytes [.string s.data.toList, .string t.data.toList])) := by
  have e0 : Tryd.prog.keyType 58 = true := by kernel_rfl
  have c62 : Tryd.prog.cellsOf 58 = 2 := by kernel_rfl
  have c9 : Tryd.prog.cellsOf 9 = 1 := by kernel_rfl
  obtain ⟨m, hm⟩ : ∃ m, Tryd.prog.types.size = m + 1 := ⟨_, (by kernel_rfl : Tryd.prog.types.size = (Tryd.prog.types.size - 1) + 1)⟩
  unfold keyOf
  simp only [Tryd.underlying58]
  rw [if_pos (by simp [e0, Value.formed, Tryd.underlying58, c62]), hm]
  unfold Program.keyLits
  simp only [Tryd.underlying58, Value.cells]
  rw [if_pos (by rw [c62]; exact ⟨rfl, by simp⟩)]
  simp only [List.mapM_cons, List.mapM_nil]
  simp [keyLits_str Tryd.underlying9 h1, keyLits_str Tryd.underlying9 h2, c9]
theorem key_pr {k : Pr} (h1 : k.1.size ≤ 1000) (h2 : k.2.size ≤ 1000) : ∃ l, keyOf Tryd.prog 58 (encP k) = some l := ⟨_, key_pair k.1 k.2 (by unfold maxLen; omega) (by unfold maxLen; omega)⟩
theorem key_s {s : ByteArray} (h : s.size ≤ 1000) : ∃ l, keyOf Tryd.prog 9 (encS s) = some l := by
  have hm : s.size ≤ maxLen := by unfold maxLen; omega
  refine ⟨.string s.data.toList, ?_⟩
  unfold keyOf encS
  simp [Tryd.underlying9, mapKey, hm]
def cellsH (h : Hold) : List Value := [.string h.f0, .string h.f1, .int .i64 h.f2.f0, .int .i64 h.f2.f1, .int .i64 h.f3]
def flatH (l : List Hold) : List Value := l.flatMap cellsH
theorem flatH_length (l : List Hold) : (flatH l).length = l.length * 5 := by
  induction l with
  | nil => rfl
  | cons a l ih => simp only [flatH, List.flatMap_cons, List.length_append, List.length_cons] at ih ⊢; rw [ih]; simp [cellsH]; omega
theorem flatH_at : ∀ (l : List Hold) (j t : Nat) (hj : j < l.length), t < 5 → (flatH l)[j * 5 + t]? = (cellsH l[j])[t]?
  | a :: l, 0, t, _, ht => by
    simp only [flatH, List.flatMap_cons, Nat.zero_mul, Nat.zero_add, List.getElem_cons_zero]
    rw [List.getElem?_append_left (by simp [cellsH]; omega)]
  | a :: l, j + 1, t, hj, ht => by
    simp only [flatH, List.flatMap_cons, List.getElem_cons_succ]
    rw [List.getElem?_append_right (by simp [cellsH]; omega)]
    have := flatH_at l j t (by simpa using hj) ht
    simp only [flatH] at this
    rw [← this]
    congr 1
    simp [cellsH]; omega
structure Gr where
  sh : Pr → Option (List Hold)
  ow : ByteArray → Option (List ByteArray)
  en : List ByteArray
  ch : List Int
def Gr.shL (s : Gr) (k : Pr) : List Hold := (s.sh k).getD []
def Gr.owL (s : Gr) (x : ByteArray) : List ByteArray := (s.ow x).getD []
structure GrAt (w : World) (B g m1 m2 : Nat) (V : Pr → Value) (U : ByteArray → Value) (vE vC : Value) (s : Gr) : Prop where
  blk : w.heap[g]? = some (.cells #[.map (some m1), .map (some m2), vE, vC] 55 (0, 0))
  hg : B ≤ g
  h1 : B ≤ m1
  h2 : B ≤ m2
  sh : MapAt Tryd.prog 58 encP w m1 (fun k => (s.sh k).map fun _ => V k)
  ow : MapAt Tryd.prog 9 encS w m2 (fun x => (s.ow x).map fun _ => U x)
  shr : ∀ k l, s.sh k = some l → l ≠ [] ∧ w.ownsRow B 41 5 (V k) l.length (flatH l)
  shd : ∀ k k' l l', s.sh k = some l → s.sh k' = some l' → (V k).ownBlock = (V k').ownBlock → k = k'
  owr : ∀ x l, s.ow x = some l → w.ownsRow B 9 1 (U x) l.length (strs l)
  enr : w.ownsRow B 9 1 vE s.en.length (strs s.en)
  chr : w.ownsRow B 3 1 vC s.ch.length (intVs s.ch)
section
variable {w W : World} {B g m1 m2 : Nat} {V : Pr → Value} {U : ByteArray → Value} {vE vC : Value} {s : Gr}
theorem GrAt.lt (h : GrAt w B g m1 m2 V U vE vC s) : g < w.heap.size := (Array.getElem?_eq_some_iff.1 h.blk).1
theorem GrAt.below (h : GrAt w B g m1 m2 V U vE vC s) (hb : Below w.heap.size w W) : GrAt W B g m1 m2 V U vE vC s where
  blk := (hb.block g h.lt).trans h.blk
  hg := h.hg
  h1 := h.h1
  h2 := h.h2
  sh := h.sh.below hb
  ow := h.ow.below hb
  shr k l hk := ⟨(h.shr k l hk).1, pw_own_below (h.shr k l hk).2 hb⟩
  shd := h.shd
  owr x l hx := pw_own_below (h.owr x l hx) hb
  enr := pw_own_below h.enr hb
  chr := pw_own_below h.chr hb
theorem GrAt.facts (h : GrAt w B g m1 m2 V U vE vC s) : w.cell? ⟨g, 0, none⟩ = some (.map (some m1)) ∧ w.cell? ⟨g, 1, none⟩ = some (.map (some m2)) ∧ w.cell? ⟨g, 2, none⟩ = some vE ∧ w.cell? ⟨g, 3, none⟩ = some vC :=
  ⟨blk_cell h.blk 0, blk_cell h.blk 1, blk_cell h.blk 2, blk_cell h.blk 3⟩
theorem GrAt.look_sh (h : GrAt w B g m1 m2 V U vE vC s) (k : Pr) (hk1 : k.1.size ≤ 1000) (hk2 : k.2.size ≤ 1000) : ∃ A c, w.ownsRow B 41 5 (.slice A (s.shL k).length c) (s.shL k).length (flatH (s.shL k)) ∧
    (∀ W, Below w.heap.size w W → (Instr.lookup 51 (.map (some m1)) (.agg #[.string k.1, .string k.2]) false).run Tryd.prog W = .ok (.slice A (s.shL k).length c) W) ∧ ((s.sh k).map fun _ => V k).getD (.slice none 0 0) = .slice A (s.shL k).length c := by
  obtain ⟨kl, hkl⟩ := key_pr hk1 hk2
  have hr := fun (W : World) (hW : Below w.heap.size w W) => (h.sh.below hW).lookup pair_keyed encP_inj Tryd.underlying51 (z := .slice none 0 0) (by kernel_rfl) false k hkl
  have e1 : encP k = .agg #[.string k.1, .string k.2] := rfl
  simp only [e1, Bool.false_eq_true, if_false] at hr
  cases hs : s.sh k with
  | none =>
    simp only [hs, Option.map_none, Option.getD_none] at hr
    refine ⟨none, 0, ?_, ?_, ?_⟩
    · unfold Gr.shL; rw [hs]; exact World.ownsRow_nil _ _ _ _
    · unfold Gr.shL; rw [hs]; exact hr
    · unfold Gr.shL; rw [hs]; rfl
  | some l =>
    obtain ⟨hne, ho⟩ := h.shr k l hs
    obtain ⟨A, c, hv, _⟩ := own_form ho
    simp only [hs, Option.map_some, Option.getD_some, hv] at hr
    refine ⟨A, c, ?_, ?_, ?_⟩
    · unfold Gr.shL; rw [hs]; rw [hv] at ho; exact ho
    · unfold Gr.shL; rw [hs]; exact hr
    · unfold Gr.shL; rw [hs]; exact hv
theorem GrAt.look_ow (h : GrAt w B g m1 m2 V U vE vC s) (x : ByteArray) (hx : x.size ≤ 1000) : ∃ A c, w.ownsRow B 9 1 (.slice A (s.owL x).length c) (s.owL x).length (strs (s.owL x)) ∧
    ∀ W, Below w.heap.size w W → (Instr.lookup 52 (.map (some m2)) (.string x) false).run Tryd.prog W = .ok (.slice A (s.owL x).length c) W := by
  obtain ⟨kl, hkl⟩ := key_s hx
  have hr := fun (W : World) (hW : Below w.heap.size w W) => (h.ow.below hW).lookup str_keyed encS_inj Tryd.underlying52 (z := .slice none 0 0) (by kernel_rfl) false x hkl
  have e1 : encS x = .string x := rfl
  simp only [e1, Bool.false_eq_true, if_false] at hr
  cases hs : s.ow x with
  | none =>
    simp only [hs, Option.map_none, Option.getD_none] at hr
    refine ⟨none, 0, ?_, ?_⟩
    · unfold Gr.owL; rw [hs]; exact World.ownsRow_nil _ _ _ _
    · unfold Gr.owL; rw [hs]; exact hr
  | some l =>
    have ho := h.owr x l hs
    obtain ⟨A, c, hv, _⟩ := own_form ho
    simp only [hs, Option.map_some, Option.getD_some, hv] at hr
    refine ⟨A, c, ?_, ?_⟩
    · unfold Gr.owL; rw [hs]; rw [hv] at ho; exact ho
    · unfold Gr.owL; rw [hs]; exact hr
end
theorem own_hold_at {w : World} {B c : Nat} {A : Option Addr} {l : List Hold} (h : w.ownsRow B 41 5 (.slice A l.length c) l.length (flatH l)) (i : Nat) (hi : i < l.length) :
    ∃ g, A = some ⟨g, 0, none⟩ ∧ g < w.heap.size ∧ w.cell? ⟨g, i * 5, none⟩ = some (.string l[i].f0) ∧ w.cell? ⟨g, i * 5 + 1, none⟩ = some (.string l[i].f1) ∧ w.cell? ⟨g, i * 5 + 2, none⟩ = some (.int .i64 l[i].f2.f0) ∧ w.cell? ⟨g, i * 5 + 3, none⟩ = some (.int .i64 l[i].f2.f1) ∧ w.cell? ⟨g, i * 5 + 4, none⟩ = some (.int .i64 l[i].f3) := by
  rcases h.2 with ⟨hv, h0⟩ | ⟨g, cap, cur, hv, _, hh, _, _, _, ht⟩
  · omega
  · injection hv with ha _ hc
    subst ha; subst hc
    have key : ∀ t, t < 5 → w.cell? ⟨g, i * 5 + t, none⟩ = (cellsH l[i])[t]? := fun t ht5 => by
      have h2 := flatH_at l i t hi ht5
      rw [← ht, List.getElem?_take, if_pos (by omega), Array.getElem?_toList] at h2
      rw [← h2]
      simp [World.cell?, hh]
    exact ⟨g, rfl, (Array.getElem?_eq_some_iff.1 hh).1, key 0 (by omega), key 1 (by omega), key 2 (by omega), key 3 (by omega), key 4 (by omega)⟩
end Go.Proofs.YtikdiepcfdimgaaDoor.POw
namespace Go.Proofs.YtikdiepcfdimgaaDoor.POw
open Go.RowKit Go.Lib Go.Proofs.YtikdiepcfdimgaaDoorW.PrintWords Go.Proofs.YtikdiepcfdimgaaDoorW.PrintLast Go.Proofs.YtikdiepcfdimgaaDoorW.PrintMore
def shareL (l : List Hold) (day : Int) : Frc := l.foldl (fun f h => if h.f3 ≤ day then h.f2 else f) ⟨0, 1⟩
theorem shareL_snoc (l : List Hold) (h : Hold) (day : Int) : shareL (l ++ [h]) day = if h.f3 ≤ day then h.f2 else shareL l day := by
  unfold shareL; rw [List.foldl_append]; rfl
def FrcAt (w : World) (z : Nat) (f : Frc) : Prop := w.heap[z]? = some (.cells #[.int .i64 f.f0, .int .i64 f.f1] 28 (0, 0))
theorem FrcAt.facts {w : World} {z : Nat} {f : Frc} (h : FrcAt w z f) : w.cell? ⟨z, 0, none⟩ = some (.int .i64 f.f0) ∧ w.cell? ⟨z, 1, none⟩ = some (.int .i64 f.f1) ∧ w.frozen? ⟨z, 0, none⟩ = false ∧ w.frozen? ⟨z, 1, none⟩ = false ∧ z < w.heap.size :=
  ⟨blk_cell h 0, blk_cell h 1, blk_frozen h 0, blk_frozen h 1, (Array.getElem?_eq_some_iff.1 h).1⟩
theorem FrcAt.below {w W : World} {z : Nat} {f : Frc} (h : FrcAt w z f) (hb : Below w.heap.size w W) : FrcAt W z f := (hb.block z (Array.getElem?_eq_some_iff.1 h).1).trans h
theorem FrcAt.set {w : World} {z : Nat} {f : Frc} (h : FrcAt w z f) (a b : Int) : FrcAt ((w.setCell ⟨z, 0, none⟩ (.int .i64 a)).setCell ⟨z, 1, none⟩ (.int .i64 b)) z ⟨a, b⟩ := blk_set (blk_set h 0 (.int .i64 a)) 1 (.int .i64 b)
theorem FrcAt.made (w : World) (f : Frc) : FrcAt (w.alloc (.cells #[.int .i64 f.f0, .int .i64 f.f1] 28)) w.heap.size f := (Go.MapKept.heap_alloc w _).1
section
variable {w : World} {B g m1 m2 : Nat} {V : Pr → Value} {U : ByteArray → Value} {vE vC : Value} {s : Gr}
set_option maxRecDepth 100000 in
set_option maxHeartbeats 8000000 in
theorem go_Share (h : GrAt w B g m1 m2 V U vE vC s) (a b : ByteArray) (day : Int) (ha : a.size ≤ 1000) (hb : b.size ≤ 1000) (hl : (s.shL (a, b)).length ≤ 10000) :
    Calls Tryd.prog 9 #[.pointer (some ⟨g, 0, none⟩), .string a, .string b, .int .i64 day] w fun e w' => e = .returned (.agg #[.int .i64 (shareL (s.shL (a, b)) day).f0, .int .i64 (shareL (s.shL (a, b)) day).f1]) ∧ Below w.heap.size w w' := by
  obtain ⟨A, c, hown, hlook, _⟩ := h.look_sh (a, b) ha hb
  obtain ⟨l, hle⟩ : ∃ l, s.shL (a, b) = l := ⟨_, rfl⟩
  rw [hle] at hown hlook hl ⊢
  have hlc := slice_room hown
  have hbb := fun (W : World) (hW : Below w.heap.size w W) => (h.below hW).facts.1
  have hg := h.lt
  have HLOOK := Lib.hid hlook; have HBB := Lib.hid hbb; have HOWN := Lib.hid hown
  clear hlook hbb hown h hle ha hb
  obtain ⟨FR, hFR⟩ : ∃ FR, shareL l day = FR := ⟨_, rfl⟩
  have HFR := Lib.hid hFR
  rw [hFR]
  clear hFR
  have hb1 : Below w.heap.size w (w.alloc (.cells #[.int .i64 0, .int .i64 1] 28)) := (Below.refl _ _).alloc (Nat.le_refl _) _
  have hz1 := FrcAt.made w ⟨0, 1⟩
  have hlt1 : w.heap.size < (w.alloc (.cells #[.int .i64 0, .int .i64 1] 28)).heap.size := by simp
  go_enter Tryd.func9, Tryd.ntmps9
  go_upto_region 4 with fail
  obtain ⟨w1, hw1⟩ : ∃ W, (w.alloc (.cells #[.int .i64 0, .int .i64 1] 28)) = W := ⟨_, rfl⟩
  rw [hw1] at hb1 hz1 hlt1 ⊢
  clear hw1
  have hg1 := HBB.out w1 hb1
  have hl1 := HLOOK.out w1 hb1
  go_wp2
  clear hg1 hl1
  go_loopg [24] l.length (fun n t wr => ∃ k : Nat, n = l.length - k ∧ k ≤ l.length ∧ t = .int .i64 k ∧ Below w.heap.size w wr ∧ Hid (FrcAt wr w.heap.size (shareL (l.take k) day)))
  case atStart => exact ⟨0, rfl, Nat.zero_le _, rfl, hb1, Lib.hid hz1⟩
  case round =>
    obtain ⟨k, rfl, hk, rfl, hbr, HZ⟩ := hrel
    by_cases hlt : k < l.length
    · obtain ⟨gb, rfl, hgb, q0, q1, q2, q3, q4⟩ := own_hold_at (pw_own_below HOWN.out hbr) k hlt
      obtain ⟨x, hx⟩ : ∃ x, l[k] = x := ⟨_, rfl⟩
      have HS := Lib.hid (show shareL (l.take (k + 1)) day = if x.f3 ≤ day then x.f2 else shareL (l.take k) day by rw [List.take_succ_eq_append_getElem hlt, hx, shareL_snoc])
      rw [hx] at q0 q1 q2 q3 q4
      clear hx
      obtain ⟨f, hf⟩ : ∃ f, shareL (l.take k) day = f := ⟨_, rfl⟩
      rw [hf] at HZ HS
      clear hf
      have hki : (k : Int) < (l.length : Int) := by omega
      by_cases hle : x.f3 ≤ day
      · have HT := Lib.hid (HS.out.trans (if_pos hle))
        obtain ⟨p0, p1, p2, p3, p4⟩ := HZ.out.facts
        go_wp2
        go_roundg (l.length - (k + 1))
        case measure => omega
        case rel => exact ⟨k + 1, rfl, by omega, by go_num, ((hbr.setCell (Nat.le_refl _) _).setCell (Nat.le_refl _) _).alloc (by simp; omega) _, Lib.hid (by rw [HT.out]; exact (HZ.out.set x.f2.f0 x.f2.f1).below ((Below.refl _ _).alloc (Nat.le_refl _) _))⟩
      · have HT := Lib.hid (HS.out.trans (if_neg hle))
        have hleb : decide (x.f3 ≤ day) = false := decide_eq_false hle
        go_wp2
        go_roundg (l.length - (k + 1))
        case measure => omega
        case rel => exact ⟨k + 1, rfl, by omega, by go_num, hbr.alloc hbr.size _, Lib.hid (by rw [HT.out]; exact HZ.out.below ((Below.refl _ _).alloc (Nat.le_refl _) _))⟩
    · have hke : k = l.length := by omega
      subst hke
      rw [List.take_length] at HZ
      obtain ⟨p0, p1, p2, p3, p4⟩ := HZ.out.facts
      rw [HFR.out] at p0 p1 HZ
      go_wp2
      have hF := HZ.out.set FR.f0 FR.f1
      refine bodyPost_ret (v := .agg #[.int .i64 FR.f0, .int .i64 FR.f1]) (by simp [results, Tryd.results9, go_sem, hF.facts.1, hF.facts.2.1]) rfl ⟨rfl, (hbr.setCell (Nat.le_refl _) _).setCell (Nat.le_refl _) _⟩
set_option maxHeartbeats 8000000 in
theorem go_Share_nil (a b : ByteArray) (day : Int) (w : World) : Calls Tryd.prog 9 #[.pointer none, .string a, .string b, .int .i64 day] w fun e w' => e = .returned (.agg #[.int .i64 0, .int .i64 1]) ∧ Below w.heap.size w w' := by
  go_enter Tryd.func9, Tryd.ntmps9
  go_wp2
  have hF := FrcAt.made w ⟨0, 1⟩
  refine bodyPost_ret (v := .agg #[.int .i64 0, .int .i64 1]) (by simp [results, Tryd.results9, go_sem, hF.facts.1, hF.facts.2.1]) rfl ⟨rfl, ?_⟩
  repeat (first | exact Below.refl _ _ | refine Below.setCell ?_ (by simp) _ | refine Below.alloc ?_ (by simp) _)
end
end Go.Proofs.YtikdiepcfdimgaaDoor.POw
namespace Go.Proofs.YtikdiepcfdimgaaDoor.POw
open Go.RowKit Go.Lib Go.Proofs.YtikdiepcfdimgaaDoorW.PrintWords Go.Proofs.YtikdiepcfdimgaaDoorW.PrintLast Go.Proofs.YtikdiepcfdimgaaDoorW.PrintMore
def sumR (kf : Nat) (p : ByteArray → Bool) (sh : ByteArray → Frc) : List ByteArray → List Int × List Int → Option (List Int × List Int)
  | [], st => some st
  | o :: l, st => if p o = true then (owners_sum_plus.f kf st.1 st.2 (sh o).f0 (sh o).f1).bind fun st' => sumR kf p sh l st' else sumR kf p sh l st
def sumF (kf : Nat) (p : ByteArray → Bool) (s : Gr) (x : ByteArray) (day : Int) : Option (List Int × List Int) := sumR kf p (fun o => shareL (s.shL (o, x)) day) (s.owL x) ([0], [1])
def SumAt (w : World) (v : Value) (st : List Int × List Int) : Prop := ∃ A0 c0 A1 c1, v = .agg #[.slice A0 st.1.length c0, .slice A1 st.2.length c1] ∧ Kd.C (Kd.int .i64) w A0 st.1.length st.1 ∧ st.1.length ≤ c0 ∧ Kd.C (Kd.int .i64) w A1 st.2.length st.2 ∧ st.2.length ≤ c1
def IR (w : World) (v : Value) (xs : List Int) : Prop := ∃ b, Kd.R (Kd.int .i64) 3 w b (fun _ => True) v xs
theorem int_sum : ∀ q, q ∈ 3 :: (Kd.int .i64).E → q ≠ 64 := by
  intro q hq
  rcases List.mem_cons.1 hq with rfl | hq
  · decide
  · cases hq
theorem IR.below {w W : World} {v : Value} {xs : List Int} (h : IR w v xs) (hb : Below w.heap.size w W) : IR W v xs := h.imp (fun _ h => Kd.R_below h hb)
theorem IR.set {w : World} {v : Value} {xs : List Int} (h : IR w v xs) {g : Nat} {cells : Array Value} (hb : w.heap[g]? = some (.cells cells 64 (0, 0))) (j : Nat) (u : Value) : IR (w.setCell ⟨g, j, none⟩ u) v xs := h.imp (fun _ h => Kd.R_set h hb int_sum j u)
theorem IR.reads {w : World} {v : Value} {xs : List Int} (h : IR w v xs) : ∃ A c, v = .slice A xs.length c ∧ xs.length ≤ c ∧ Kd.C (Kd.int .i64) w A xs.length xs := by
  obtain ⟨b, h⟩ := h
  exact Kd.R_reads h
theorem IR.C {w : World} {A : Option Addr} {c : Nat} {xs : List Int} (h : IR w (.slice A xs.length c) xs) : xs.length ≤ c ∧ Kd.C (Kd.int .i64) w A xs.length xs := by
  obtain ⟨A', c', e, h1, h2⟩ := h.reads
  injection e with ea _ ec
  subst ea ec
  exact ⟨h1, h2⟩
def SumBox (w : World) (z : Nat) (st : List Int × List Int) : Prop := ∃ A0 c0 A1 c1, w.heap[z]? = some (.cells #[.slice A0 st.1.length c0, .slice A1 st.2.length c1] 64 (0, 0)) ∧ IR w (.slice A0 st.1.length c0) st.1 ∧ IR w (.slice A1 st.2.length c1) st.2
theorem SumBox.below {w W : World} {z : Nat} {st : List Int × List Int} (h : SumBox w z st) (hb : Below w.heap.size w W) : SumBox W z st := by
  obtain ⟨A0, c0, A1, c1, h1, h2, h3⟩ := h
  exact ⟨A0, c0, A1, c1, (hb.block z (Array.getElem?_eq_some_iff.1 h1).1).trans h1, h2.below hb, h3.below hb⟩
theorem SumBox.lt {w : World} {z : Nat} {st : List Int × List Int} (h : SumBox w z st) : z < w.heap.size := by
  obtain ⟨A0, c0, A1, c1, h1, _⟩ := h
  exact (Array.getElem?_eq_some_iff.1 h1).1
section
variable {w : World} {B g m1 m2 : Nat} {V : Pr → Value} {U : ByteArray → Value} {vE vC : Value} {s : Gr}
set_option maxRecDepth 100000 in
set_option maxHeartbeats 8000000 in
theorem go_sumAll (h : GrAt w B g m1 m2 V U vE vC s) (kf : Nat) (x : ByteArray) (day : Int) (p : ByteArray → Bool) (st0 : List Int × List Int) (hx : x.size ≤ 1000) (hsz : ∀ o ∈ s.owL x, o.size ≤ 1000 ∧ (s.shL (o, x)).length ≤ 10000) (hl : (s.owL x).length ≤ 10000)
    (hof : ∀ W, Below w.heap.size w W → ∀ o ∈ s.owL x, Calls Tryd.prog 20 #[.string o] W fun e w' => e = .returned (.bool (p o)) ∧ W = w') (hF : sumF kf p s x day = some st0) :
    Calls Tryd.prog 19 #[.pointer (some ⟨g, 0, none⟩), .string x, .int .i64 day, .func (.func 20) #[] #[]] w fun e w' => ∃ v, e = .returned v ∧ SumAt w' v st0 ∧ Below w.heap.size w w' := by
  obtain ⟨A, c, hown, hlook⟩ := h.look_ow x hx
  obtain ⟨l, hle⟩ : ∃ l, s.owL x = l := ⟨_, rfl⟩
  obtain ⟨sh, hsh⟩ : ∃ sh, (fun o => shareL (s.shL (o, x)) day) = sh := ⟨_, rfl⟩
  have hshare := fun (W : World) (hW : Below w.heap.size w W) (o : ByteArray) (ho : o ∈ s.owL x) => go_Share (h.below hW) o x day (hsz o ho).1 hx (hsz o ho).2
  have hshare2 : ∀ W, Below w.heap.size w W → ∀ o ∈ l, Calls Tryd.prog 9 #[.pointer (some ⟨g, 0, none⟩), .string o, .string x, .int .i64 day] W fun e w' => e = .returned (.agg #[.int .i64 (sh o).f0, .int .i64 (sh o).f1]) ∧ Below W.heap.size W w' := by
    intro W hW o ho
    rw [← hsh]
    exact hshare W hW o (hle ▸ ho)
  unfold sumF at hF
  rw [hsh, hle] at hF
  rw [hle] at hown hlook hl hof
  have hlc := slice_room hown
  have hbb := fun (W : World) (hW : Below w.heap.size w W) => (h.below hW).facts.2.1
  have hg := h.lt
  have HLOOK := Lib.hid hlook; have HBB := Lib.hid hbb; have HOWN := Lib.hid hown; have HOF := Lib.hid hof; have HSHARE := Lib.hid hshare2; have HF := Lib.hid hF
  clear hlook hbb hown h hle hx hsh hshare hshare2 hsz hof hF
  have hb1 : Below w.heap.size w (w.alloc (.cells #[.slice none 0 0, .slice none 0 0] 64)) := (Below.refl _ _).alloc (Nat.le_refl _) _
  have hz1 := (Go.MapKept.heap_alloc w (.cells #[.slice none 0 0, .slice none 0 0] 64)).1
  go_enter Tryd.func19, Tryd.ntmps19
  go_upto_region 2 with (go_at_call 33; refine (owners_zero.calls [0] [1] _ rfl).mono ?_; rintro e w1 ⟨v0, v1, rfl, hR0, hR1, hbz⟩; have hI0 : IR w1 v0 [0] := ⟨_, Kd.R_mono hR0 (fun _ _ => trivial)⟩; have hI1 : IR w1 v1 [1] := ⟨_, Kd.R_mono hR1 (fun _ _ => trivial)⟩; obtain ⟨A0, c0, hv0, _, _⟩ := hI0.reads; obtain ⟨A1, c1, hv1, _, _⟩ := hI1.reads; subst hv0 hv1; clear hR0 hR1; have hz1' := (hbz.block _ (Array.getElem?_eq_some_iff.1 hz1).1).trans hz1; have hb1' := hb1.trans (hbz.mono hb1.size); clear hz1 hb1 hbz)
  have hbx := (Go.MapKept.heap_alloc w1 (.cells #[.slice A0 1 c0, .slice A1 1 c1] 64)).1
  have hba := (Below.refl _ w1).alloc (Nat.le_refl _) (.cells #[.slice A0 1 c0, .slice A1 1 c1] 64)
  have hz8 := (hba.block _ (Array.getElem?_eq_some_iff.1 hz1').1).trans hz1'
  have hb8 := hb1'.trans (hba.mono hb1'.size)
  have hs9 : SumBox (w1.alloc (.cells #[.slice A0 1 c0, .slice A1 1 c1] 64)) w1.heap.size ([0], [1]) := ⟨A0, c0, A1, c1, hbx, hI0.below hba, hI1.below hba⟩
  have hzz := hb1'.size
  have hzl : w.heap.size < w1.heap.size := (Array.getElem?_eq_some_iff.1 hz1').1
  obtain ⟨w2, hw2⟩ : ∃ W, w1.alloc (.cells #[.slice A0 1 c0, .slice A1 1 c1] 64) = W := ⟨_, rfl⟩
  obtain ⟨z9, hz9⟩ : ∃ z, w1.heap.size = z := ⟨_, rfl⟩
  rw [hw2, hz9] at hs9
  rw [hz9] at hzl
  rw [hw2] at hz8 hb8 ⊢
  rw [hz9]
  clear hbx hba hz1' hb1' hI0 hI1 hw2 hz9 hzz
  have hg1 := HBB.out w2 hb8
  have hl1 := HLOOK.out w2 hb8
  have HS9 := Lib.hid hs9; have HZ8 := Lib.hid hz8
  clear hs9 hz8
  go_wp2
  clear hg1 hl1
  go_loopg [20, 11, 32, 33] l.length (fun n t t11 t32 t33 wr => ∃ (k : Nat) (st : List Int × List Int), n = l.length - k ∧ k ≤ l.length ∧ t = .int .i64 k ∧ Below w.heap.size w wr ∧ Hid (wr.heap[w.heap.size]? = some (.cells #[.slice none 0 0, .slice none 0 0] 64 (0, 0))) ∧ Hid (SumBox wr z9 st) ∧ Hid (sumR kf p sh (l.drop k) st = some st0))
  case atStart => exact ⟨0, ([0], [1]), rfl, Nat.zero_le _, rfl, hb8, HZ8, HS9, by rw [List.drop_zero]; exact HF⟩
  case round =>
    obtain ⟨k, st, rfl, hk, rfl, hbr, HZ, HS, HR⟩ := hrel
    by_cases hlt : k < l.length
    · obtain ⟨gb, rfl, hgb, q0⟩ := own_str_at (pw_own_below HOWN.out hbr) k hlt
      obtain ⟨o, ho⟩ : ∃ o, l[k] = o := ⟨_, rfl⟩
      have hom : o ∈ l := ho ▸ List.getElem_mem hlt
      have hR := HR.out
      rw [List.drop_eq_getElem_cons hlt, ho] at hR
      rw [ho] at q0
      have HOM := Lib.hid hom
      clear ho hom
      have hki : (k : Int) < (l.length : Int) := by omega
      simp only [sumR] at hR
      have hcl := HOF.out wr hbr o HOM.out
      cases hp : p o with
      | false =>
        rw [hp] at hR hcl
        have HR2 := Lib.hid (show sumR kf p sh (l.drop (k + 1)) st = some st0 by simpa using hR)
        have HCL := Lib.hid hcl
        clear hR hcl hp
        go_wp2_with (go_at_call 20; refine HCL.out.mono ?_; rintro e w3 ⟨rfl, rfl⟩)
        go_roundg (l.length - (k + 1))
        case measure => omega
        case rel => exact ⟨k + 1, st, rfl, by omega, by go_num, hbr, HZ, HS, HR2⟩
      | true =>
        rw [hp] at hR hcl
        rw [if_pos rfl] at hR
        obtain ⟨st', hP, hR'⟩ := Option.bind_eq_some_iff.1 hR
        have HP := Lib.hid hP; have HR2 := Lib.hid hR'
        have HCL := Lib.hid hcl
        clear hR hcl hp hP hR'
        go_upto_region 6 with (go_at_call 20; refine HCL.out.mono ?_; rintro e w3 ⟨rfl, rfl⟩)
        obtain ⟨A0, c0, A1, c1, hbx, hI0, hI1⟩ := HS.out
        obtain ⟨hc0, hC0⟩ := hI0.C
        obtain ⟨hc1, hC1⟩ := hI1.C
        have HI := Lib.hid (And.intro hI0 hI1); clear hI0 hI1
        have k0 := blk_cell hbx 0
        have k1 := blk_cell hbx 1
        have hz9 : z9 < wr.heap.size := HS.out.lt
        have hBW := hbr.drew
        have hom := HOM.out
        have hBd : Below wr.heap.size wr wr.drew := (Below.refl _ wr).drew
        refine start_ (n := 8) (S := fun w' => w'.cell? ⟨z9, 0, none⟩ = some (.slice A0 st.1.length c0) ∧ w'.cell? ⟨z9, 1, none⟩ = some (.slice A1 st.2.length c1)) (ds := [7]) #[false, false, false, false, false, false, false, false] (by kernel_rfl) rfl rfl ⟨k0, k1⟩ (fun hHeld => ?_)
        refine pure_ (i := 1) (N := some 28) (v := ?_) (a' := ?_) #[false, true, false, false, false, false, false, false] rfl rfl (by kernel_rfl) (fun _ _ _ h => h) (Or.inl ⟨by rfl, ?_⟩) ?_ ?_
        rotate_left
        · intro w'
          go_simp
          with_reducible rfl
        rotate_left
        · simp only [Act.put, List.setIfInBounds_toArray, List.set_cons_zero, List.set_cons_succ, i64_w, i32_w]
          rfl
        refine pure_ (i := 2) (N := some 29) (v := ?_) (a' := ?_) #[false, true, true, false, false, false, false, false] rfl rfl (by kernel_rfl) (fun _ _ _ h => h) (Or.inl ⟨by rfl, ?_⟩) ?_ ?_
        rotate_left
        · intro w'
          go_simp
          with_reducible rfl
        rotate_left
        · simp only [Act.put, List.setIfInBounds_toArray, List.set_cons_zero, List.set_cons_succ, i64_w, i32_w]
          rfl
        refine pure_ (i := 3) (N := some 30) (v := ?_) (a' := ?_) #[false, true, true, true, false, false, false, false] rfl rfl (by kernel_rfl) (fun _ _ _ h => h) (Or.inl ⟨by rfl, ?_⟩) ?_ ?_
        rotate_left
        · intro w'
          go_simp
          with_reducible rfl
        rotate_left
        · simp only [Act.put, List.setIfInBounds_toArray, List.set_cons_zero, List.set_cons_succ, i64_w, i32_w]
          rfl
        refine pure_ (i := 4) (N := some 31) (v := ?_) (a' := ?_) #[false, true, true, true, true, false, false, false] rfl rfl (by kernel_rfl) (fun _ _ _ h => h) (Or.inl ⟨by rfl, ?_⟩) ?_ ?_
        rotate_left
        · intro w'
          go_simp
          with_reducible rfl
        rotate_left
        · simp only [Act.put, List.setIfInBounds_toArray, List.set_cons_zero, List.set_cons_succ, i64_w, i32_w]
          rfl
        refine take_ (i := 0) (N := some 27) (v := ?_) (a' := ?_) #[true, true, true, true, true, false, false, false] rfl rfl (by kernel_rfl) (fun _ _ _ h => h) (Or.inl ⟨by rfl, ?_⟩) hHeld ?_ ?_
        rotate_left
        · rintro w' ⟨s0, s1⟩
          go_simp
          with_reducible rfl
        rotate_left
        · simp only [Act.put, List.setIfInBounds_toArray, List.set_cons_zero, List.set_cons_succ, i64_w, i32_w]
          rfl
        refine one_ (i := 5) (N := some 32) #[true, true, true, true, true, true, false, false] rfl rfl (by kernel_rfl) (by decide) (fun K hK => ?_)
        refine goes_ Tryd.func9 (by kernel_rfl) rfl #[.pointer (some ⟨g, 0, none⟩), .string o, .string x, .int .i64 day] (by rfl) rfl rfl (by simp only [List.map_toArray, List.map_cons, List.map_nil]; rfl) ?_
        refine (HSHARE.out _ hBW o hom).mono ?_
        rintro e w5 ⟨rfl, hb5⟩
        refine ⟨_, rfl, ?_⟩
        have hB5 := hBd.trans (hb5.mono hBd.size)
        refine hK.out _ _ ⟨(hB5.cell (p := ⟨z9, 0, none⟩) hz9).trans k0, (hB5.cell (p := ⟨z9, 1, none⟩) hz9).trans k1⟩ (fun hHeld => ?_)
        clear hK K
        refine norm_ (a' := ?_) ?_ ?_
        rotate_left
        · show Act.put _ (some 32) _ = _
          simp only [Act.put, List.setIfInBounds_toArray, List.set_cons_zero, List.set_cons_succ, i64_w, i32_w]
          rfl
        refine one_ (i := 6) (N := some 33) #[true, true, true, true, true, true, true, false] rfl rfl (by kernel_rfl) (by decide) (fun K hK => ?_)
        refine goes_ Tryd.func34 (by kernel_rfl) rfl #[.agg #[.slice A0 st.1.length c0, .slice A1 st.2.length c1], .agg #[.int .i64 (sh o).f0, .int .i64 (sh o).f1]] (by rfl) rfl rfl (by simp only [List.map_toArray, List.map_cons, List.map_nil]; rfl) ?_
        refine (owners_sum_plus.calls kf A0 c0 st.1 A1 c1 st.2 (sh o).f0 (sh o).f1 st'.1 st'.2 _ (Kd.C_below hC0 hB5) hc0 (Kd.C_below hC1 hB5) hc1 HP.out).mono ?_
        rintro e w6 ⟨v0, v1, rfl, hR0, hR1, hb6⟩
        obtain ⟨B0, d0, hv0, hd0, _⟩ := Kd.R_reads hR0
        obtain ⟨B1, d1, hv1, hd1, _⟩ := Kd.R_reads hR1
        subst hv0 hv1
        refine ⟨_, rfl, ?_⟩
        have hB6 := hB5.trans (hb6.mono hB5.size)
        refine hK.out _ _ ⟨(hB6.cell (p := ⟨z9, 0, none⟩) hz9).trans k0, (hB6.cell (p := ⟨z9, 1, none⟩) hz9).trans k1⟩ (fun hHeld => ?_)
        clear hK K
        refine norm_ (a' := ?_) ?_ ?_
        rotate_left
        · show Act.put _ (some 33) _ = _
          simp only [Act.put, List.setIfInBounds_toArray, List.set_cons_zero, List.set_cons_succ, i64_w, i32_w]
          rfl
        refine last_ (i := 7) (N := none) #[true, true, true, true, true, true, true, true] rfl rfl (by kernel_rfl) (by decide) (fun K hK => ?_)
        have hbx6 := (hB6.block z9 hz9).trans hbx
        have e0 : w6.cell? ⟨z9, 0, none⟩ = some (.slice A0 st.1.length c0) := blk_cell hbx6 0
        have e1 : w6.cell? ⟨z9, 1, none⟩ = some (.slice A1 st.2.length c1) := blk_cell hbx6 1
        have f0 := blk_frozen hbx6 0
        have f1 := blk_frozen hbx6 1
        refine skip_ (w1 := ?_) (by rfl) rfl ?_ ?_
        rotate_left
        · go_simp
          rfl
        refine hK.out _ _ ?_
        clear hK K
        refine done_ (by kernel_rfl) ?_
        go_wp2
        go_roundg (l.length - (k + 1))
        case measure => omega
        case rel =>
          have hI0 : IR w6 (.slice B0 st'.1.length d0) st'.1 := ⟨_, Kd.R_mono hR0 (fun _ _ => trivial)⟩
          have hI1 : IR w6 (.slice B1 st'.2.length d1) st'.2 := ⟨_, Kd.R_mono hR1 (fun _ _ => trivial)⟩
          have hJ0 := (hI0.set hbx6 0 (.slice B0 st'.1.length d0)).set (blk_set hbx6 0 (.slice B0 st'.1.length d0)) 1 (.slice B1 st'.2.length d1)
          have hJ1 := (hI1.set hbx6 0 (.slice B0 st'.1.length d0)).set (blk_set hbx6 0 (.slice B0 st'.1.length d0)) 1 (.slice B1 st'.2.length d1)
          have hb6w := hbr.trans (hB6.mono hbr.size)
          have hlt9 : w.heap.size < z9 := hzl
          refine ⟨k + 1, st', rfl, by omega, by go_num, (hb6w.setCell (by simp; omega) _).setCell (by simp; omega) _, Lib.hid ?_, Lib.hid ⟨B0, d0, B1, d1, ?_, hJ0, hJ1⟩, HR2⟩
          · rw [Below.heap_setCell _ _ _ _ (by simp; omega), Below.heap_setCell _ _ _ _ (by simp; omega), hB6.block _ (Array.getElem?_eq_some_iff.1 HZ.out).1]
            exact HZ.out
          · exact blk_set (blk_set hbx6 0 _) 1 _
    · have hke : k = l.length := by omega
      subst hke
      have hR := HR.out
      rw [List.drop_length] at hR
      have hst : st = st0 := by simpa [sumR] using hR
      subst hst
      clear hR HR
      obtain ⟨A0, c0, A1, c1, hbx, hI0, hI1⟩ := HS.out
      have k0 := blk_cell hbx 0
      have k1 := blk_cell hbx 1
      have f0 := blk_cell HZ.out 0
      have f1 := blk_cell HZ.out 1
      have f2 := blk_frozen HZ.out 0
      have f3 := blk_frozen HZ.out 1
      have HI0 := Lib.hid hI0; have HI1 := Lib.hid hI1; have HBX := Lib.hid hbx
      clear hI0 hI1 hbx
      go_wp2
      have hF := blk_set (blk_set HZ.out 0 (.slice A0 st.1.length c0)) 1 (.slice A1 st.2.length c1)
      have hJ0 := ((HI0.out.set HZ.out 0 (.slice A0 st.1.length c0)).set (blk_set HZ.out 0 (.slice A0 st.1.length c0)) 1 (.slice A1 st.2.length c1)).C
      have hJ1 := ((HI1.out.set HZ.out 0 (.slice A0 st.1.length c0)).set (blk_set HZ.out 0 (.slice A0 st.1.length c0)) 1 (.slice A1 st.2.length c1)).C
      refine bodyPost_ret (v := .agg #[.slice A0 st.1.length c0, .slice A1 st.2.length c1]) (by simp [results, Tryd.results19, go_sem, blk_cell hF 0, blk_cell hF 1]) rfl ⟨_, rfl, ?_, (hbr.setCell (Nat.le_refl _) _).setCell (Nat.le_refl _) _⟩
      exact ⟨A0, c0, A1, c1, rfl, hJ0.2, hJ0.1, hJ1.2, hJ1.1⟩
set_option maxRecDepth 100000 in
set_option maxHeartbeats 8000000 in
theorem go_sumIn (h : GrAt w B g m1 m2 V U vE vC s) (kf : Nat) (x : ByteArray) (day : Int) (p : ByteArray → Bool) (st0 : List Int × List Int) (zc : Nat) (hx : x.size ≤ 1000) (hsz : ∀ o ∈ s.owL x, o.size ≤ 1000 ∧ (s.shL (o, x)).length ≤ 10000) (hl : (s.owL x).length ≤ 10000)
    (hof : ∀ W, Below w.heap.size w W → ∀ o ∈ s.owL x, Calls Tryd.prog 24 #[.string o, .pointer (some ⟨zc, 0, none⟩)] W fun e w' => e = .returned (.bool (p o)) ∧ W = w') (hF : sumF kf p s x day = some st0) :
    Calls Tryd.prog 19 #[.pointer (some ⟨g, 0, none⟩), .string x, .int .i64 day, .func (.func 24) #[] #[.pointer (some ⟨zc, 0, none⟩)]] w fun e w' => ∃ v, e = .returned v ∧ SumAt w' v st0 ∧ Below w.heap.size w w' := by
  obtain ⟨A, c, hown, hlook⟩ := h.look_ow x hx
  obtain ⟨l, hle⟩ : ∃ l, s.owL x = l := ⟨_, rfl⟩
  obtain ⟨sh, hsh⟩ : ∃ sh, (fun o => shareL (s.shL (o, x)) day) = sh := ⟨_, rfl⟩
  have hshare := fun (W : World) (hW : Below w.heap.size w W) (o : ByteArray) (ho : o ∈ s.owL x) => go_Share (h.below hW) o x day (hsz o ho).1 hx (hsz o ho).2
  have hshare2 : ∀ W, Below w.heap.size w W → ∀ o ∈ l, Calls Tryd.prog 9 #[.pointer (some ⟨g, 0, none⟩), .string o, .string x, .int .i64 day] W fun e w' => e = .returned (.agg #[.int .i64 (sh o).f0, .int .i64 (sh o).f1]) ∧ Below W.heap.size W w' := by
    intro W hW o ho
    rw [← hsh]
    exact hshare W hW o (hle ▸ ho)
  unfold sumF at hF
  rw [hsh, hle] at hF
  rw [hle] at hown hlook hl hof
  have hlc := slice_room hown
  have hbb := fun (W : World) (hW : Below w.heap.size w W) => (h.below hW).facts.2.1
  have hg := h.lt
  have HLOOK := Lib.hid hlook; have HBB := Lib.hid hbb; have HOWN := Lib.hid hown; have HOF := Lib.hid hof; have HSHARE := Lib.hid hshare2; have HF := Lib.hid hF
  clear hlook hbb hown h hle hx hsh hshare hshare2 hsz hof hF
  have hb1 : Below w.heap.size w (w.alloc (.cells #[.slice none 0 0, .slice none 0 0] 64)) := (Below.refl _ _).alloc (Nat.le_refl _) _
  have hz1 := (Go.MapKept.heap_alloc w (.cells #[.slice none 0 0, .slice none 0 0] 64)).1
  go_enter Tryd.func19, Tryd.ntmps19
  go_upto_region 2 with (go_at_call 33; refine (owners_zero.calls [0] [1] _ rfl).mono ?_; rintro e w1 ⟨v0, v1, rfl, hR0, hR1, hbz⟩; have hI0 : IR w1 v0 [0] := ⟨_, Kd.R_mono hR0 (fun _ _ => trivial)⟩; have hI1 : IR w1 v1 [1] := ⟨_, Kd.R_mono hR1 (fun _ _ => trivial)⟩; obtain ⟨A0, c0, hv0, _, _⟩ := hI0.reads; obtain ⟨A1, c1, hv1, _, _⟩ := hI1.reads; subst hv0 hv1; clear hR0 hR1; have hz1' := (hbz.block _ (Array.getElem?_eq_some_iff.1 hz1).1).trans hz1; have hb1' := hb1.trans (hbz.mono hb1.size); clear hz1 hb1 hbz)
  have hbx := (Go.MapKept.heap_alloc w1 (.cells #[.slice A0 1 c0, .slice A1 1 c1] 64)).1
  have hba := (Below.refl _ w1).alloc (Nat.le_refl _) (.cells #[.slice A0 1 c0, .slice A1 1 c1] 64)
  have hz8 := (hba.block _ (Array.getElem?_eq_some_iff.1 hz1').1).trans hz1'
  have hb8 := hb1'.trans (hba.mono hb1'.size)
  have hs9 : SumBox (w1.alloc (.cells #[.slice A0 1 c0, .slice A1 1 c1] 64)) w1.heap.size ([0], [1]) := ⟨A0, c0, A1, c1, hbx, hI0.below hba, hI1.below hba⟩
  have hzz := hb1'.size
  have hzl : w.heap.size < w1.heap.size := (Array.getElem?_eq_some_iff.1 hz1').1
  obtain ⟨w2, hw2⟩ : ∃ W, w1.alloc (.cells #[.slice A0 1 c0, .slice A1 1 c1] 64) = W := ⟨_, rfl⟩
  obtain ⟨z9, hz9⟩ : ∃ z, w1.heap.size = z := ⟨_, rfl⟩
  rw [hw2, hz9] at hs9
  rw [hz9] at hzl
  rw [hw2] at hz8 hb8 ⊢
  rw [hz9]
  clear hbx hba hz1' hb1' hI0 hI1 hw2 hz9 hzz
  have hg1 := HBB.out w2 hb8
  have hl1 := HLOOK.out w2 hb8
  have HS9 := Lib.hid hs9; have HZ8 := Lib.hid hz8
  clear hs9 hz8
  go_wp2
  clear hg1 hl1
  go_loopg [20, 11, 32, 33] l.length (fun n t t11 t32 t33 wr => ∃ (k : Nat) (st : List Int × List Int), n = l.length - k ∧ k ≤ l.length ∧ t = .int .i64 k ∧ Below w.heap.size w wr ∧ Hid (wr.heap[w.heap.size]? = some (.cells #[.slice none 0 0, .slice none 0 0] 64 (0, 0))) ∧ Hid (SumBox wr z9 st) ∧ Hid (sumR kf p sh (l.drop k) st = some st0))
  case atStart => exact ⟨0, ([0], [1]), rfl, Nat.zero_le _, rfl, hb8, HZ8, HS9, by rw [List.drop_zero]; exact HF⟩
  case round =>
    obtain ⟨k, st, rfl, hk, rfl, hbr, HZ, HS, HR⟩ := hrel
    by_cases hlt : k < l.length
    · obtain ⟨gb, rfl, hgb, q0⟩ := own_str_at (pw_own_below HOWN.out hbr) k hlt
      obtain ⟨o, ho⟩ : ∃ o, l[k] = o := ⟨_, rfl⟩
      have hom : o ∈ l := ho ▸ List.getElem_mem hlt
      have hR := HR.out
      rw [List.drop_eq_getElem_cons hlt, ho] at hR
      rw [ho] at q0
      have HOM := Lib.hid hom
      clear ho hom
      have hki : (k : Int) < (l.length : Int) := by omega
      simp only [sumR] at hR
      have hcl := HOF.out wr hbr o HOM.out
      cases hp : p o with
      | false =>
        rw [hp] at hR hcl
        have HR2 := Lib.hid (show sumR kf p sh (l.drop (k + 1)) st = some st0 by simpa using hR)
        have HCL := Lib.hid hcl
        clear hR hcl hp
        go_wp2_with (go_at_call 24; refine HCL.out.mono ?_; rintro e w3 ⟨rfl, rfl⟩)
        go_roundg (l.length - (k + 1))
        case measure => omega
        case rel => exact ⟨k + 1, st, rfl, by omega, by go_num, hbr, HZ, HS, HR2⟩
      | true =>
        rw [hp] at hR hcl
        rw [if_pos rfl] at hR
        obtain ⟨st', hP, hR'⟩ := Option.bind_eq_some_iff.1 hR
        have HP := Lib.hid hP; have HR2 := Lib.hid hR'
        have HCL := Lib.hid hcl
        clear hR hcl hp hP hR'
        go_upto_region 6 with (go_at_call 24; refine HCL.out.mono ?_; rintro e w3 ⟨rfl, rfl⟩)
        obtain ⟨A0, c0, A1, c1, hbx, hI0, hI1⟩ := HS.out
        obtain ⟨hc0, hC0⟩ := hI0.C
        obtain ⟨hc1, hC1⟩ := hI1.C
        have HI := Lib.hid (And.intro hI0 hI1); clear hI0 hI1
        have k0 := blk_cell hbx 0
        have k1 := blk_cell hbx 1
        have hz9 : z9 < wr.heap.size := HS.out.lt
        have hBW := hbr.drew
        have hom := HOM.out
        have hBd : Below wr.heap.size wr wr.drew := (Below.refl _ wr).drew
        refine start_ (n := 8) (S := fun w' => w'.cell? ⟨z9, 0, none⟩ = some (.slice A0 st.1.length c0) ∧ w'.cell? ⟨z9, 1, none⟩ = some (.slice A1 st.2.length c1)) (ds := [7]) #[false, false, false, false, false, false, false, false] (by kernel_rfl) rfl rfl ⟨k0, k1⟩ (fun hHeld => ?_)
        refine pure_ (i := 1) (N := some 28) (v := ?_) (a' := ?_) #[false, true, false, false, false, false, false, false] rfl rfl (by kernel_rfl) (fun _ _ _ h => h) (Or.inl ⟨by rfl, ?_⟩) ?_ ?_
        rotate_left
        · intro w'
          go_simp
          with_reducible rfl
        rotate_left
        · simp only [Act.put, List.setIfInBounds_toArray, List.set_cons_zero, List.set_cons_succ, i64_w, i32_w]
          rfl
        refine pure_ (i := 2) (N := some 29) (v := ?_) (a' := ?_) #[false, true, true, false, false, false, false, false] rfl rfl (by kernel_rfl) (fun _ _ _ h => h) (Or.inl ⟨by rfl, ?_⟩) ?_ ?_
        rotate_left
        · intro w'
          go_simp
          with_reducible rfl
        rotate_left
        · simp only [Act.put, List.setIfInBounds_toArray, List.set_cons_zero, List.set_cons_succ, i64_w, i32_w]
          rfl
        refine pure_ (i := 3) (N := some 30) (v := ?_) (a' := ?_) #[false, true, true, true, false, false, false, false] rfl rfl (by kernel_rfl) (fun _ _ _ h => h) (Or.inl ⟨by rfl, ?_⟩) ?_ ?_
        rotate_left
        · intro w'
          go_simp
          with_reducible rfl
        rotate_left
        · simp only [Act.put, List.setIfInBounds_toArray, List.set_cons_zero, List.set_cons_succ, i64_w, i32_w]
          rfl
        refine pure_ (i := 4) (N := some 31) (v := ?_) (a' := ?_) #[false, true, true, true, true, false, false, false] rfl rfl (by kernel_rfl) (fun _ _ _ h => h) (Or.inl ⟨by rfl, ?_⟩) ?_ ?_
        rotate_left
        · intro w'
          go_simp
          with_reducible rfl
        rotate_left
        · simp only [Act.put, List.setIfInBounds_toArray, List.set_cons_zero, List.set_cons_succ, i64_w, i32_w]
          rfl
        refine take_ (i := 0) (N := some 27) (v := ?_) (a' := ?_) #[true, true, true, true, true, false, false, false] rfl rfl (by kernel_rfl) (fun _ _ _ h => h) (Or.inl ⟨by rfl, ?_⟩) hHeld ?_ ?_
        rotate_left
        · rintro w' ⟨s0, s1⟩
          go_simp
          with_reducible rfl
        rotate_left
        · simp only [Act.put, List.setIfInBounds_toArray, List.set_cons_zero, List.set_cons_succ, i64_w, i32_w]
          rfl
        refine one_ (i := 5) (N := some 32) #[true, true, true, true, true, true, false, false] rfl rfl (by kernel_rfl) (by decide) (fun K hK => ?_)
        refine goes_ Tryd.func9 (by kernel_rfl) rfl #[.pointer (some ⟨g, 0, none⟩), .string o, .string x, .int .i64 day] (by rfl) rfl rfl (by simp only [List.map_toArray, List.map_cons, List.map_nil]; rfl) ?_
        refine (HSHARE.out _ hBW o hom).mono ?_
        rintro e w5 ⟨rfl, hb5⟩
        refine ⟨_, rfl, ?_⟩
        have hB5 := hBd.trans (hb5.mono hBd.size)
        refine hK.out _ _ ⟨(hB5.cell (p := ⟨z9, 0, none⟩) hz9).trans k0, (hB5.cell (p := ⟨z9, 1, none⟩) hz9).trans k1⟩ (fun hHeld => ?_)
        clear hK K
        refine norm_ (a' := ?_) ?_ ?_
        rotate_left
        · show Act.put _ (some 32) _ = _
          simp only [Act.put, List.setIfInBounds_toArray, List.set_cons_zero, List.set_cons_succ, i64_w, i32_w]
          rfl
        refine one_ (i := 6) (N := some 33) #[true, true, true, true, true, true, true, false] rfl rfl (by kernel_rfl) (by decide) (fun K hK => ?_)
        refine goes_ Tryd.func34 (by kernel_rfl) rfl #[.agg #[.slice A0 st.1.length c0, .slice A1 st.2.length c1], .agg #[.int .i64 (sh o).f0, .int .i64 (sh o).f1]] (by rfl) rfl rfl (by simp only [List.map_toArray, List.map_cons, List.map_nil]; rfl) ?_
        refine (owners_sum_plus.calls kf A0 c0 st.1 A1 c1 st.2 (sh o).f0 (sh o).f1 st'.1 st'.2 _ (Kd.C_below hC0 hB5) hc0 (Kd.C_below hC1 hB5) hc1 HP.out).mono ?_
        rintro e w6 ⟨v0, v1, rfl, hR0, hR1, hb6⟩
        obtain ⟨B0, d0, hv0, hd0, _⟩ := Kd.R_reads hR0
        obtain ⟨B1, d1, hv1, hd1, _⟩ := Kd.R_reads hR1
        subst hv0 hv1
        refine ⟨_, rfl, ?_⟩
        have hB6 := hB5.trans (hb6.mono hB5.size)
        refine hK.out _ _ ⟨(hB6.cell (p := ⟨z9, 0, none⟩) hz9).trans k0, (hB6.cell (p := ⟨z9, 1, none⟩) hz9).trans k1⟩ (fun hHeld => ?_)
        clear hK K
        refine norm_ (a' := ?_) ?_ ?_
        rotate_left
        · show Act.put _ (some 33) _ = _
          simp only [Act.put, List.setIfInBounds_toArray, List.set_cons_zero, List.set_cons_succ, i64_w, i32_w]
          rfl
        refine last_ (i := 7) (N := none) #[true, true, true, true, true, true, true, true] rfl rfl (by kernel_rfl) (by decide) (fun K hK => ?_)
        have hbx6 := (hB6.block z9 hz9).trans hbx
        have e0 : w6.cell? ⟨z9, 0, none⟩ = some (.slice A0 st.1.length c0) := blk_cell hbx6 0
        have e1 : w6.cell? ⟨z9, 1, none⟩ = some (.slice A1 st.2.length c1) := blk_cell hbx6 1
        have f0 := blk_frozen hbx6 0
        have f1 := blk_frozen hbx6 1
        refine skip_ (w1 := ?_) (by rfl) rfl ?_ ?_
        rotate_left
        · go_simp
          rfl
        refine hK.out _ _ ?_
        clear hK K
        refine done_ (by kernel_rfl) ?_
        go_wp2
        go_roundg (l.length - (k + 1))
        case measure => omega
        case rel =>
          have hI0 : IR w6 (.slice B0 st'.1.length d0) st'.1 := ⟨_, Kd.R_mono hR0 (fun _ _ => trivial)⟩
          have hI1 : IR w6 (.slice B1 st'.2.length d1) st'.2 := ⟨_, Kd.R_mono hR1 (fun _ _ => trivial)⟩
          have hJ0 := (hI0.set hbx6 0 (.slice B0 st'.1.length d0)).set (blk_set hbx6 0 (.slice B0 st'.1.length d0)) 1 (.slice B1 st'.2.length d1)
          have hJ1 := (hI1.set hbx6 0 (.slice B0 st'.1.length d0)).set (blk_set hbx6 0 (.slice B0 st'.1.length d0)) 1 (.slice B1 st'.2.length d1)
          have hb6w := hbr.trans (hB6.mono hbr.size)
          have hlt9 : w.heap.size < z9 := hzl
          refine ⟨k + 1, st', rfl, by omega, by go_num, (hb6w.setCell (by simp; omega) _).setCell (by simp; omega) _, Lib.hid ?_, Lib.hid ⟨B0, d0, B1, d1, ?_, hJ0, hJ1⟩, HR2⟩
          · rw [Below.heap_setCell _ _ _ _ (by simp; omega), Below.heap_setCell _ _ _ _ (by simp; omega), hB6.block _ (Array.getElem?_eq_some_iff.1 HZ.out).1]
            exact HZ.out
          · exact blk_set (blk_set hbx6 0 _) 1 _
    · have hke : k = l.length := by omega
      subst hke
      have hR := HR.out
      rw [List.drop_length] at hR
      have hst : st = st0 := by simpa [sumR] using hR
      subst hst
      clear hR HR
      obtain ⟨A0, c0, A1, c1, hbx, hI0, hI1⟩ := HS.out
      have k0 := blk_cell hbx 0
      have k1 := blk_cell hbx 1
      have f0 := blk_cell HZ.out 0
      have f1 := blk_cell HZ.out 1
      have f2 := blk_frozen HZ.out 0
      have f3 := blk_frozen HZ.out 1
      have HI0 := Lib.hid hI0; have HI1 := Lib.hid hI1; have HBX := Lib.hid hbx
      clear hI0 hI1 hbx
      go_wp2
      have hF := blk_set (blk_set HZ.out 0 (.slice A0 st.1.length c0)) 1 (.slice A1 st.2.length c1)
      have hJ0 := ((HI0.out.set HZ.out 0 (.slice A0 st.1.length c0)).set (blk_set HZ.out 0 (.slice A0 st.1.length c0)) 1 (.slice A1 st.2.length c1)).C
      have hJ1 := ((HI1.out.set HZ.out 0 (.slice A0 st.1.length c0)).set (blk_set HZ.out 0 (.slice A0 st.1.length c0)) 1 (.slice A1 st.2.length c1)).C
      refine bodyPost_ret (v := .agg #[.slice A0 st.1.length c0, .slice A1 st.2.length c1]) (by simp [results, Tryd.results19, go_sem, blk_cell hF 0, blk_cell hF 1]) rfl ⟨_, rfl, ?_, (hbr.setCell (Nat.le_refl _) _).setCell (Nat.le_refl _) _⟩
      exact ⟨A0, c0, A1, c1, rfl, hJ0.2, hJ0.1, hJ1.2, hJ1.1⟩
end
end Go.Proofs.YtikdiepcfdimgaaDoor.POw
namespace Go.Proofs.YtikdiepcfdimgaaDoor.POw
open Go.RowKit Go.Proofs.YtikdiepcfdimgaaDoorW.PrintWords Go.Proofs.YtikdiepcfdimgaaDoorW.PrintLast Go.Proofs.YtikdiepcfdimgaaDoorW.PrintMore
def Ev {α : Type} (F : Nat → Option α) (r : α) : Prop := ∃ k0, ∀ k, k0 ≤ k → F k = some r
theorem Ev.up {α : Type} {F : Nat → Option α} (h : ∀ k, LeO (F k) (F (k + 1))) {k : Nat} {r : α} (hk : F k = some r) : Ev F r := ⟨k, LeO_up h hk⟩
theorem Ev.const {α : Type} (r : α) : Ev (fun _ => some r) r := ⟨0, fun _ _ => rfl⟩
theorem Ev.bind {α β : Type} {F : Nat → Option α} {G : Nat → α → Option β} {a : α} {r : β} (h1 : Ev F a) (h2 : Ev (fun k => G k a) r) : Ev (fun k => (F k).bind (G k)) r := by
  obtain ⟨k1, h1⟩ := h1
  obtain ⟨k2, h2⟩ := h2
  refine ⟨k1 + k2, fun k hk => ?_⟩
  show (F k).bind (G k) = _
  rw [h1 k (by omega)]
  exact h2 k (by omega)
theorem Ev.succ {α : Type} {F : Nat → Option α} {r : α} (h : Ev (fun k => F (k + 1)) r) : Ev F r := by
  obtain ⟨k0, h⟩ := h
  exact ⟨k0 + 1, fun k hk => by obtain ⟨j, rfl⟩ : ∃ j, k = j + 1 := ⟨k - 1, by omega⟩; exact h j (by omega)⟩
theorem Ev.congr {α : Type} {F G : Nat → Option α} {r : α} (h : Ev F r) (e : ∀ k, G k = F k) : Ev G r := by
  obtain ⟨k0, h⟩ := h
  exact ⟨k0, fun k hk => (e k).trans (h k hk)⟩
theorem Ev.get {α : Type} {F : Nat → Option α} {r : α} (h : Ev F r) : ∃ k, F k = some r := by
  obtain ⟨k0, h⟩ := h
  exact ⟨k0, h k0 (Nat.le_refl _)⟩
def exF : List Frc → Int → Int → Int × Int
  | [], N, D => (N, D)
  | f :: fs, N, D => exF fs (N * f.f1 + D * f.f0) (D * f.f1)
def Part (f : Frc) : Prop := 0 ≤ f.f0 ∧ f.f0 ≤ 1000000 ∧ 0 ≤ f.f1 ∧ f.f1 ≤ 1000000
theorem nat_plus_ev {st : List Int × List Int} {f : Frc} (hp : Part f) (h1 : Dg 1000000000 st.1) (h2 : Dg 1000000000 st.2) {m : Nat} (l1 : st.1.length ≤ m) (l2 : st.2.length ≤ m) (hm : m ≤ 80000) :
    ∃ st' : List Int × List Int, Ev (fun k => owners_sum_plus.f k st.1 st.2 f.f0 f.f1) st' ∧ val 1000000000 st'.1 = val 1000000000 st.1 * f.f1 + val 1000000000 st.2 * f.f0 ∧ val 1000000000 st'.2 = val 1000000000 st.2 * f.f1 ∧ Dg 1000000000 st'.1 ∧ Dg 1000000000 st'.2 ∧ st'.1.length ≤ m + 2 ∧ st'.2.length ≤ m + 2 := by
  obtain ⟨k1, r1, a1, a2, a3, a4⟩ := nat_times_ex st.1 f.f1 ⟨hp.2.2.1, hp.2.2.2⟩ h1 (by omega)
  obtain ⟨k2, r2, b1, b2, b3, b4⟩ := nat_times_ex st.2 f.f0 ⟨hp.1, hp.2.1⟩ h2 (by omega)
  obtain ⟨k3, r3, c1, c2, c3, c4⟩ := natPlus_ex r1 r2 a3 b3 (by omega) (by omega)
  obtain ⟨k4, r4, d1, d2, d3, d4⟩ := nat_times_ex st.2 f.f1 ⟨hp.2.2.1, hp.2.2.2⟩ h2 (by omega)
  obtain ⟨m1, E1⟩ := Ev.up (F := fun k => owners_natural_times.f k st.1 f.f1) (fun k => owners_natural_times.mono _ _ k) a1
  obtain ⟨m2, E2⟩ := Ev.up (F := fun k => owners_natural_times.f k st.2 f.f0) (fun k => owners_natural_times.mono _ _ k) b1
  obtain ⟨m3, E3⟩ := Ev.up (F := fun k => owners_natural_plus.f k r1 r2) (fun k => owners_natural_plus.mono _ _ k) c1
  obtain ⟨m4, E4⟩ := Ev.up (F := fun k => owners_natural_times.f k st.2 f.f1) (fun k => owners_natural_times.mono _ _ k) d1
  refine ⟨(r3, r4), ⟨m1 + m2 + m3 + m4, fun k hk => ?_⟩, ?_, ?_, c3, d3, by simp only; omega, by simp only; omega⟩
  · have F1 := E1 k (by omega)
    have F2 := E2 k (by omega)
    have F3 := E3 k (by omega)
    have F4 := E4 k (by omega)
    simp only at F1 F2 F3 F4
    show owners_sum_plus.f k st.1 st.2 f.f0 f.f1 = _
    rw [owners_sum_plus.f, F1, Option.bind_some, F2, Option.bind_some, F3, Option.bind_some, F4, Option.bind_some]
  · simp only
    rw [c2, a2, b2, Int.mul_comm f.f1, Int.mul_comm f.f0]
  · simp only
    rw [d2, Int.mul_comm]
theorem sumR_ev (p : ByteArray → Bool) (sh : ByteArray → Frc) : ∀ (l : List ByteArray) (st : List Int × List Int) (m : Nat), (∀ o ∈ l, Part (sh o)) → Dg 1000000000 st.1 → Dg 1000000000 st.2 → st.1.length ≤ m → st.2.length ≤ m → m + 2 * l.length ≤ 80000 →
    ∃ st' : List Int × List Int, Ev (fun k => sumR k p sh l st) st' ∧ (val 1000000000 st'.1, val 1000000000 st'.2) = exF ((l.filter p).map sh) (val 1000000000 st.1) (val 1000000000 st.2) ∧ Dg 1000000000 st'.1 ∧ Dg 1000000000 st'.2 ∧ st'.1.length ≤ m + 2 * l.length ∧ st'.2.length ≤ m + 2 * l.length
  | [], st, m, _, h1, h2, l1, l2, _ => ⟨st, Ev.const _, rfl, h1, h2, by simpa using l1, by simpa using l2⟩
  | o :: l, st, m, hp, h1, h2, l1, l2, hm => by
    simp only [List.length_cons] at hm
    by_cases c : p o = true
    · obtain ⟨s1, e1, v1, v2, d1, d2, n1, n2⟩ := nat_plus_ev (hp o (List.mem_cons_self ..)) h1 h2 l1 l2 (by omega)
      obtain ⟨s2, e2, v3, d3, d4, n3, n4⟩ := sumR_ev p sh l s1 (m + 2) (fun o ho => hp o (List.mem_cons_of_mem _ ho)) d1 d2 n1 n2 (by omega)
      refine ⟨s2, ?_, ?_, d3, d4, by simp only [List.length_cons]; omega, by simp only [List.length_cons]; omega⟩
      · obtain ⟨m1, E1⟩ := e1
        obtain ⟨m2, E2⟩ := e2
        refine ⟨m1 + m2, fun k hk => ?_⟩
        show sumR k p sh (o :: l) st = _
        have F1 := E1 k (by omega)
        simp only at F1
        rw [sumR, if_pos c, F1, Option.bind_some]
        exact E2 k (by omega)
      · rw [v3, v1, v2, List.filter_cons_of_pos c]; rfl
    · obtain ⟨s2, e2, v3, d3, d4, n3, n4⟩ := sumR_ev p sh l st m (fun o ho => hp o (List.mem_cons_of_mem _ ho)) h1 h2 l1 l2 (by omega)
      refine ⟨s2, ?_, ?_, d3, d4, by simp only [List.length_cons]; omega, by simp only [List.length_cons]; omega⟩
      · refine Ev.congr e2 (fun k => ?_)
        rw [sumR, if_neg c]
      · rw [v3, List.filter_cons_of_neg c]
theorem exceeds_ev {st : List Int × List Int} (h1 : Dg 1000000000 st.1) (h2 : Dg 1000000000 st.2) (l1 : st.1.length ≤ 80000) (l2 : st.2.length ≤ 80000) (a b : Int) (ha : 0 ≤ a ∧ a ≤ 1000000) (hb : 0 ≤ b ∧ b ≤ 1000000) :
    Ev (fun k => owners_sum_exceeds.f k st.1 st.2 a b) (decide (a * val 1000000000 st.2 < b * val 1000000000 st.1)) := by
  obtain ⟨k1, r1, a1, a2, a3, a4⟩ := nat_times_ex st.1 b hb h1 (by omega)
  obtain ⟨k2, r2, b1, b2, b3, b4⟩ := nat_times_ex st.2 a ha h2 (by omega)
  obtain ⟨k3, c1⟩ := nat_greater_ex r1 r2 a3 b3 (by omega) (by omega)
  rw [a2, b2] at c1
  obtain ⟨m1, E1⟩ := Ev.up (F := fun k => owners_natural_times.f k st.1 b) (fun k => owners_natural_times.mono _ _ k) a1
  obtain ⟨m2, E2⟩ := Ev.up (F := fun k => owners_natural_times.f k st.2 a) (fun k => owners_natural_times.mono _ _ k) b1
  obtain ⟨m3, E3⟩ := Ev.up (F := fun k => owners_natural_greater.f k r1 r2) (fun k => owners_natural_greater.mono _ _ k) c1
  refine ⟨m1 + m2 + m3, fun k hk => ?_⟩
  have F1 := E1 k (by omega)
  have F2 := E2 k (by omega)
  have F3 := E3 k (by omega)
  simp only at F1 F2 F3
  show owners_sum_exceeds.f k st.1 st.2 a b = _
  rw [owners_sum_exceeds.f, F1, Option.bind_some, F2, Option.bind_some, F3, Option.bind_some]
theorem sumF_ev (p : ByteArray → Bool) (s : Gr) (x : ByteArray) (day : Int) (hp : ∀ o ∈ s.owL x, Part (shareL (s.shL (o, x)) day)) (hl : (s.owL x).length ≤ 30000) (a b : Int) (ha : 0 ≤ a ∧ a ≤ 1000000) (hb : 0 ≤ b ∧ b ≤ 1000000) :
    ∃ st : List Int × List Int, Ev (fun k => sumF k p s x day) st ∧ Ev (fun k => owners_sum_exceeds.f k st.1 st.2 a b)
      (decide (a * (exF (((s.owL x).filter p).map fun o => shareL (s.shL (o, x)) day) 0 1).2 < b * (exF (((s.owL x).filter p).map fun o => shareL (s.shL (o, x)) day) 0 1).1)) := by
  obtain ⟨st, e1, v, d1, d2, n1, n2⟩ := sumR_ev p (fun o => shareL (s.shL (o, x)) day) (s.owL x) ([0], [1]) 1 hp (Dg_snoc (l := []) (by omega) (Dg_nil (by omega)) (by omega) (by omega)) (Dg_snoc (l := []) (by omega) (Dg_nil (by omega)) (by omega) (by omega)) (by simp) (by simp) (by omega)
  have e0 : val 1000000000 [0] = 0 := by simp [val, V, dg]
  have e2 : val 1000000000 [1] = 1 := by simp [val, V, dg]
  simp only at v
  rw [e0, e2] at v
  refine ⟨st, e1, ?_⟩
  have := exceeds_ev d1 d2 (by omega) (by omega) a b ha hb
  rw [← v]
  exact this
end Go.Proofs.YtikdiepcfdimgaaDoor.POw
namespace Go.Proofs.YtikdiepcfdimgaaDoor.POw
open Go.RowKit Go.Shelf Go.Lib Go.Sort
noncomputable def svT : TypeInfo := (Tryd.prog.info? 56).get (by kernel_rfl)
noncomputable def svE : TypeInfo := (Tryd.prog.info? 41).get (by kernel_rfl)
theorem svK (n : Nat) (h2 : 2 ≤ n) : Lib.swapperK n svE 25 = 9 := by
  have a : svE.hasPointers = true := by kernel_rfl
  have b : svE.bytes = 56 := by kernel_rfl
  have c : (n == 0) = false := by simp; omega
  have d : (n == 1) = false := by simp; omega
  simp [Lib.swapperK, a, b, c, d]
def hLt (a b : Hold) : Bool := decide (a.f3 < b.f3)
theorem swo_hold : SWO hLt := ⟨fun a => by simp [hLt], fun a b c h1 h2 => by simp [hLt] at *; omega, fun a b c h1 h2 => by simp [hLt] at *; omega⟩
instance : Inhabited Hold := ⟨⟨⟨#[]⟩, ⟨#[]⟩, ⟨0, 0⟩, 0⟩⟩
set_option maxHeartbeats 2000000 in
theorem go_less (blk c Bs size : Nat) (W : World) (d : Nat → Hold) (hs : W.cell? ⟨Bs, 0, none⟩ = some (.slice (some ⟨blk, 0, none⟩) size c))
    (hc : ∀ t, t < size → W.cell? ⟨blk, t * 5 + 4, none⟩ = some (.int .i64 (d t).f3)) (i j : Nat) (hi : i < size) (hj : j < size) (_hsz : size < 4611686018427387904) :
    Calls Tryd.prog 31 #[.int .i64 i, .int .i64 j, .pointer (some ⟨Bs, 0, none⟩)] W fun e w' => e = .returned (.bool (hLt (d i) (d j))) ∧ ∃ q, w' = W.drewN q := by
  have ci := hc i hi
  have cj := hc j hj
  obtain ⟨a, ha⟩ : ∃ a, d i = a := ⟨_, rfl⟩
  obtain ⟨b, hb⟩ : ∃ b, d j = b := ⟨_, rfl⟩
  rw [ha] at ci ⊢
  rw [hb] at cj ⊢
  clear hc ha hb
  unfold hLt
  go_enter Tryd.func31, Tryd.ntmps31
  go_wp2
  go_quiet (fail)
  go_wp2
  go_ret
  exact ⟨rfl, nq, rfl⟩
theorem go_sort (blk c Bs : Nat) (d : Array Hold) (h2 : 2 ≤ d.size) (hsz : d.size < 4611686018427387904) (w : World) (hH : HoldsK cellsH 5 w blk 0 d) (hblk : blk < w.heap.size)
    (hBs : w.cell? ⟨Bs, 0, none⟩ = some (.slice (some ⟨blk, 0, none⟩) d.size c)) (hB1 : Bs < w.heap.size) (hB2 : Bs ≠ blk) :
    Calls Tryd.prog 30 #[.iface 56 (.slice (some ⟨blk, 0, none⟩) d.size c), .func (.func 31) #[] #[.pointer (some ⟨Bs, 0, none⟩)]] w fun e w' =>
      e = .returned (.tuple #[]) ∧ ∃ d' m os, PermIn 0 d.size d d' ∧ SortedIn hLt 0 d.size d' ∧ w' = grow (putRowK cellsH 5 (Sort.ahead w m) blk 0 d') os := by
  have hless : LessReadsK Tryd.prog 31 #[.pointer (some ⟨Bs, 0, none⟩)] cellsH 5 hLt blk 0 d.size w := by
    intro m os dk hs i j hi hj
    have e : sortWorldK cellsH 5 w blk 0 m dk os = putRowK cellsH 5 (grow (Sort.ahead w m) os) blk 0 dk := by
      unfold sortWorldK; rw [putRowK_grow _ _ (Sort.ahead w m) _ blk 0 _ hblk]
    have hHg : HoldsK cellsH 5 (grow (Sort.ahead w m) os) blk 0 d := holdsK_grow _ _ _ _ blk 0 d hblk (holdsK_ahead _ _ _ _ _ _ _ hH)
    have hP := holdsK_putRowK _ _ _ blk 0 d dk hHg hs
    refine go_less blk c Bs d.size _ (fun t => dk[t]!) ?_ (fun t ht => ?_) i j hi hj (by omega)
    · rw [e, cell?_putRowK_other _ _ _ blk 0 dk _ (by exact hB2), cell?_grow _ _ _ (by exact hB1)]; exact hBs
    · rw [e]; have := (hP.cell (i := t) (c := 4) (by omega) (by omega)).1; simpa [cellsH] using this
  exact Any.sort_Slice_cells_sorted Tryd.svSlice 56 41 svT svE (by kernel_rfl) (by kernel_rfl) (by kernel_rfl) (by kernel_rfl) 25 (fun _ => by kernel_rfl) cellsH 5 (fun _ => rfl) (by kernel_rfl) (fun _ => by kernel_rfl)
    (fun x v hv => by simp [cellsH] at hv; rcases hv with rfl | rfl | rfl | rfl | rfl <;> rfl) hLt swo_hold 31 _
    (enters_of Tryd.func31 (by kernel_rfl) rfl) blk 0 c d h2 hsz 69 (by rw [svK _ h2]; kernel_rfl) false
    (fun args W => run_callFunc_extern Tryd.func69 (by kernel_rfl) (by kernel_rfl) (by kernel_rfl) (e := Extern.ReflectliteSwapper.swap false) (by kernel_rfl) args W) w hless hH hblk
theorem go_sort_tiny (p : Option Addr) (n c : Nat) (h1 : n ≤ 1) (lb : Array Value) (w : World) :
    Calls Tryd.prog 30 #[.iface 56 (.slice p n c), .func (.func 31) #[] lb] w fun e w' => e = .returned (.tuple #[]) ∧ ∃ os, w' = grow w os := by
  rcases (by omega : n = 0 ∨ n = 1) with rfl | rfl
  · exact Any.sort_Slice_tiny Tryd.svSlice 56 41 svT svE (by kernel_rfl) (by kernel_rfl) (by kernel_rfl) (by kernel_rfl) 25 (fun _ => by kernel_rfl) p 0 c (by omega) 61 (by kernel_rfl) _ _ _ w
  · exact Any.sort_Slice_tiny Tryd.svSlice 56 41 svT svE (by kernel_rfl) (by kernel_rfl) (by kernel_rfl) (by kernel_rfl) 25 (fun _ => by kernel_rfl) p 1 c (by omega) 62 (by kernel_rfl) _ _ _ w
theorem flatK_list (ks : List Hold) : (flatK cellsH 5 ks.toArray).toList = flatH ks := by
  apply List.ext_getElem?
  intro t
  by_cases ht : t < ks.length * 5
  · have h1 := get_flatK cellsH 5 ks.toArray t (by simpa using ht)
    have hi : t / 5 < ks.length := by omega
    have h2 := flatH_at ks (t / 5) (t % 5) hi (by omega)
    rw [show t / 5 * 5 + t % 5 = t by omega] at h2
    rw [h2]
    have hsz : t < (flatK cellsH 5 ks.toArray).size := by simpa using ht
    rw [getElem!_pos _ t hsz] at h1
    rw [Array.getElem?_toList, Array.getElem?_eq_getElem hsz, h1]
    have e : (ks.toArray)[t / 5]! = ks[t / 5] := by
      rw [getElem!_pos _ _ (by simpa using hi)]; simp
    rw [e]
    have h3 : t % 5 < (cellsH ks[t / 5]).length := by simp [cellsH]; omega
    rw [List.getElem?_eq_getElem h3, getElem!_pos (cellsH ks[t / 5]) (t % 5) h3]
  · rw [List.getElem?_eq_none (by simp; omega), List.getElem?_eq_none (by rw [flatH_length]; omega)]
theorem holds_of_hold {w : World} {base : Nat} {blk cap : Nat} {ks : List Hold} {cur : Array Value} (hh : w.heap[blk]? = some (.cells cur 41 (0, 0))) (hcs : cur.size = cap * 5) (hkc : ks.length ≤ cap) (htk : cur.toList.take (ks.length * 5) = flatH ks) : HoldsK cellsH 5 w blk 0 ks.toArray := by
  intro j hj
  have hj' : j < ks.length * 5 := by simpa using hj
  have h1 : cur.toList[j]? = (flatH ks)[j]? := by rw [← htk, List.getElem?_take, if_pos hj']
  have h2 : (flatH ks)[j]? = some ((flatK cellsH 5 ks.toArray)[j]!) := by
    rw [← flatK_list, Array.getElem?_toList, Array.getElem?_eq_getElem hj, getElem!_pos (flatK cellsH 5 ks.toArray) j hj]
  have hc : j < cur.size := by rw [hcs]; omega
  refine ⟨?_, by simp [World.frozen?, hh]⟩
  have h3 : cur[j]? = some ((flatK cellsH 5 ks.toArray)[j]!) := by rw [← Array.getElem?_toList, h1, h2]
  simp [World.cell?, hh, h3]
theorem heap_putRowK {w : World} {m blk cap : Nat} {ks : List Hold} {cur : Array Value} (os : Array Obj) (hh : w.heap[blk]? = some (.cells cur 41 (0, 0))) (hcs : cur.size = cap * 5) (hkc : ks.length ≤ cap) :
    ∃ cur', (grow (putRowK cellsH 5 (Sort.ahead w m) blk 0 ks.toArray) os).heap[blk]? = some (.cells cur' 41 (0, 0)) ∧ cur'.size = cap * 5 ∧ cur'.toList.take (ks.length * 5) = flatH ks := by
  have hlt : blk < w.heap.size := (Array.getElem?_eq_some_iff.1 hh).1
  refine ⟨putCells id 0 (flatK cellsH 5 ks.toArray) cur, ?_, by simp [putCells, hcs], ?_⟩
  · have e : (grow (putRowK cellsH 5 (Sort.ahead w m) blk 0 ks.toArray) os).heap[blk]? = (putRowK cellsH 5 (Sort.ahead w m) blk 0 ks.toArray).heap[blk]? := by
      simp only [grow]
      rw [Array.getElem?_append_left (by rw [size_putRowK]; exact hlt)]
    rw [e]
    simp only [putRowK, Go.Sort.putRow, mapBlock, Sort.ahead, Array.getElem?_modify, hh]
    simp [onCells]
  · apply List.ext_getElem?
    intro t
    rw [List.getElem?_take]
    by_cases ht : t < ks.length * 5
    · rw [if_pos ht, Array.getElem?_toList]
      have hc : t < cur.size := by rw [hcs]; omega
      have hsz : t < (flatK cellsH 5 ks.toArray).size := by simpa using ht
      rw [← flatK_list, Array.getElem?_toList, Array.getElem?_eq_getElem hsz]
      simp only [putCells, Array.getElem?_mapIdx, Array.getElem?_eq_getElem hc, Option.map_some]
      rw [if_pos ⟨Nat.zero_le _, by simpa using ht⟩]
      simp only [id, Nat.sub_zero]
      rw [getElem!_pos (flatK cellsH 5 ks.toArray) t hsz]
    · rw [if_neg ht, List.getElem?_eq_none (by rw [flatH_length]; omega)]
theorem sorted_rows {w : World} {base : Nat} {Bs : Nat} {done : List Hold} {v : Value} (hown : w.ownsRow base 41 5 v done.length (flatH done)) (hBs : w.cell? ⟨Bs, 0, none⟩ = some v) (hB1 : Bs < w.heap.size) (hB2 : some Bs ≠ v.ownBlock) (hbase : base ≤ w.heap.size) (hnd : (done.map (·.f3)).Nodup) (hlen : done.length ≤ 10000) :
    Calls Tryd.prog 30 #[.iface 56 v, .func (.func 31) #[] #[.pointer (some ⟨Bs, 0, none⟩)]] w fun e w' =>
      e = .returned (.tuple #[]) ∧ ∃ ks : List Hold, ks.Perm done ∧ ks.Pairwise (fun a b => hLt a b = true) ∧ w'.ownsRow base 41 5 v ks.length (flatH ks) ∧ Below base w w' ∧ (∀ g, g < w.heap.size → some g ≠ v.ownBlock → w'.heap[g]? = w.heap[g]?) := by
  have hgrow : ∀ os : Array Obj, (∀ g, g < w.heap.size → (grow w os).heap[g]? = w.heap[g]?) := fun os g hg => by simp only [grow]; rw [Array.getElem?_append_left hg]
  by_cases h1 : done.length ≤ 1
  · have hpw : done.Pairwise (fun a b => hLt a b = true) := by
      match done, h1 with
      | [], _ => exact List.Pairwise.nil
      | [a], _ => exact List.pairwise_singleton _ _
    obtain ⟨p, c, rfl⟩ : ∃ p c, v = .slice p done.length c := by
      rcases hown.2 with ⟨rfl, h⟩ | ⟨g, cap, cur, rfl, _⟩
      · exact ⟨none, 0, by rw [h]⟩
      · exact ⟨_, _, rfl⟩
    refine (go_sort_tiny p done.length c h1 _ w).mono ?_
    rintro e w' ⟨rfl, os, rfl⟩
    refine ⟨rfl, done, List.Perm.refl _, hpw, ?_, ⟨rfl, rfl, rfl, by simp [grow], fun k hk => hgrow os k (by omega)⟩, fun g hg _ => hgrow os g hg⟩
    obtain ⟨a, b⟩ := hown
    refine ⟨a, ?_⟩
    rcases b with b | ⟨g, cap, cur, hv, hg, hh, r⟩
    · exact .inl b
    · exact .inr ⟨g, cap, cur, hv, hg, (hgrow os g (Array.getElem?_eq_some_iff.1 hh).1).trans hh, r⟩
  · obtain ⟨hl, hr⟩ := hown
    rcases hr with ⟨_, h0⟩ | ⟨blk, cap, cur, rfl, hg, hh, hnc, hcm, hcs, htk⟩
    · omega
    · have hlt : blk < w.heap.size := (Array.getElem?_eq_some_iff.1 hh).1
      have hs := go_sort blk cap Bs done.toArray (by simp; omega) (by simp; omega) w (holds_of_hold (base := base) hh hcs hnc htk) hlt (by simpa using hBs) hB1 (fun e => hB2 (by rw [e]; rfl))
      rw [show done.toArray.size = done.length by simp] at hs
      refine hs.mono ?_
      rintro e w' ⟨rfl, d', m, os, ⟨hp1, _, hp3⟩, hso, rfl⟩
      have hp1' : d'.size = done.length := by simpa using hp1
      have hperm : d'.toList.Perm done := by
        have e1 : d'.extract 0 done.length = d' := by rw [← hp1']; simp
        have e2 : done.toArray.extract 0 done.length = done.toArray := by simp
        rw [e1, e2] at hp3
        simpa using hp3
      have hnd' : (d'.toList.map (·.f3)).Nodup := (hperm.map _).nodup_iff.2 hnd
      have hpw : d'.toList.Pairwise (fun a b => hLt a b = true) := by
        rw [List.pairwise_iff_getElem]
        intro i j hi hj hij
        simp only [Array.length_toList] at hi hj
        have h2 := hso i j (Nat.zero_le _) hij (by omega)
        rw [getElem!_pos _ i hi, getElem!_pos _ j hj] at h2
        simp only [Array.getElem_toList]
        have h3 := (List.pairwise_iff_getElem.1 hnd') i j (by simpa using hi) (by simpa using hj) hij
        simp only [List.getElem_map, Array.getElem_toList] at h3
        simp only [hLt, decide_eq_false_iff_not] at h2
        simp only [hLt, decide_eq_true_eq]
        omega
      have hlen' : d'.toList.length = done.length := by simpa using hp1'
      obtain ⟨cur', hh', hcs', htk'⟩ := heap_putRowK (w := w) (m := m) (ks := d'.toList) os hh hcs (by omega)
      rw [show d'.toList.toArray = d' by simp] at hh'
      have hoth : ∀ g, g < w.heap.size → g ≠ blk → (grow (putRowK cellsH 5 (Sort.ahead w m) blk 0 d') os).heap[g]? = w.heap[g]? := fun g hg hne => by
        simp only [grow]
        rw [Array.getElem?_append_left (by rw [size_putRowK]; exact hg)]
        simp only [putRowK, Go.Sort.putRow, mapBlock, Sort.ahead, Array.getElem?_modify]
        rw [if_neg (fun e => hne e.symm)]
      refine ⟨rfl, d'.toList, hperm, hpw, ⟨by rw [flatH_length], .inr ⟨blk, cap, cur', by rw [hlen'], hg, hh', by omega, hcm, hcs', htk'⟩⟩, ⟨rfl, rfl, rfl, by simp [grow, size_putRowK, Sort.ahead], fun k hk => hoth k (by omega) (by omega)⟩, fun g hg hne => hoth g hg (fun e => hne (by rw [e]; rfl))⟩
end Go.Proofs.YtikdiepcfdimgaaDoor.POw
namespace Go.Proofs.YtikdiepcfdimgaaDoor.POw
open Go.RowKit Go.Lib Go.Proofs.YtikdiepcfdimgaaDoorW.PrintWords Go.Proofs.YtikdiepcfdimgaaDoorW.PrintLast Go.Proofs.YtikdiepcfdimgaaDoorW.PrintMore
def putB (p : ByteArray → Bool) (x : ByteArray) : ByteArray → Bool := fun y => decide (y = x) || p y
def SetAt (w : World) (mb : Nat) (p : ByteArray → Bool) : Prop := MapAt Tryd.prog 9 encS w mb (fun x => if p x = true then some (.bool true) else none)
theorem SetAt.lt {w : World} {mb : Nat} {p : ByteArray → Bool} (h : SetAt w mb p) : mb < w.heap.size := MapAt.lt h
theorem SetAt.of_block {w W : World} {mb : Nat} {p : ByteArray → Bool} (h : SetAt w mb p) (hb : W.heap[mb]? = w.heap[mb]?) : SetAt W mb p := MapAt.of_block h hb
theorem SetAt.below {w W : World} {mb : Nat} {p : ByteArray → Bool} (h : SetAt w mb p) (hb : Below w.heap.size w W) : SetAt W mb p := MapAt.below h hb
theorem SetAt.made (w : World) : SetAt (w.alloc (.map #[] 0)) w.heap.size (fun _ => false) := by
  have := MapAt.made Tryd.prog 9 encS w
  unfold SetAt
  simpa using this
theorem SetAt.look {w : World} {mb : Nat} {p : ByteArray → Bool} (h : SetAt w mb p) (x : ByteArray) (hx : x.size ≤ 1000) : (Instr.lookup 44 (.map (some mb)) (.string x) false).run Tryd.prog w = .ok (.bool (p x)) w := by
  obtain ⟨kl, hkl⟩ := key_s hx
  have := h.lookup str_keyed encS_inj Tryd.underlying44 (z := .bool false) (by kernel_rfl) false x hkl
  simp only [Bool.false_eq_true, if_false] at this
  have e1 : encS x = .string x := rfl
  rw [e1] at this
  rw [this]
  cases p x <;> rfl
theorem SetAt.put {w : World} {mb : Nat} {p : ByteArray → Bool} (h : SetAt w mb p) (x : ByteArray) (hx : x.size ≤ 1000) :
    ∃ o, (Instr.mapUpdate 44 (.map (some mb)) (.string x) (.bool true)).run Tryd.prog w = .ok () (ChangeMaps.setBlock w mb o) ∧ SetAt (ChangeMaps.setBlock w mb o) mb (putB p x) := by
  obtain ⟨kl, hkl⟩ := key_s hx
  obtain ⟨o, ho, hm⟩ := h.store str_keyed encS_inj Tryd.underlying44 x (.bool true) hkl
  refine ⟨o, ho, ?_⟩
  unfold SetAt
  have e : (fun y => if putB p x y = true then some (Value.bool true) else none) = putM (fun y => if p y = true then some (Value.bool true) else none) x (.bool true) := by
    funext y
    unfold putB putM
    by_cases hy : y = x
    · simp [hy]
    · simp [hy]
  rw [e]; exact hm
theorem setBlock_heap (W : World) (b g : Nat) (o : Obj) (h : g ≠ b) : (ChangeMaps.setBlock W b o).heap[g]? = W.heap[g]? := by simp [ChangeMaps.setBlock, h.symm]
theorem setBlock_size (W : World) (b : Nat) (o : Obj) : (ChangeMaps.setBlock W b o).heap.size = W.heap.size := by simp [ChangeMaps.setBlock]
theorem setBlock_below {B b : Nat} {w W : World} {o : Obj} (h : Below B w W) (hb : B ≤ b) : Below B w (ChangeMaps.setBlock W b o) :=
  ⟨h.os, h.tape, h.output, by simpa [ChangeMaps.setBlock] using h.size, fun k hk => (show (ChangeMaps.setBlock W b o).heap[k]? = W.heap[k]? by simp [ChangeMaps.setBlock, show b ≠ k by omega]).trans (h.block k hk)⟩
structure GrOk (s : Gr) : Prop where
  ows : ∀ x, ∀ o ∈ s.owL x, o.size ≤ 1000
  owl : ∀ x, (s.owL x).length ≤ 1000
  owo : ∀ x, (s.owL x).Pairwise (fun a b => sLt a b = true)
  shl : ∀ k, (s.shL k).length ≤ 1000
  sho : ∀ k, (s.shL k).Pairwise (fun a b => a.f3 < b.f3)
  ens : ∀ o ∈ s.en, o.size ≤ 1000
  enl : s.en.length ≤ 1000
  eno : s.en.Pairwise (fun a b => sLt a b = true)
  chl : s.ch.length ≤ 1000
  cho : s.ch.Pairwise (fun a b => iLt a b = true)
def ownsIn (owner : ByteArray) : List ByteArray → (ByteArray → Bool) → List ByteArray → Option (Option ((ByteArray → Bool) × List ByteArray))
  | [], seen, todo => some (some (seen, todo))
  | o :: os, seen, todo => if o = owner then some none else if seen o = true then ownsIn owner os seen todo else if todo.length < 100000 then ownsIn owner os (putB seen o) (todo ++ [o]) else none
def ownsL (owner : ByteArray) (ow : ByteArray → List ByteArray) : Nat → (ByteArray → Bool) → List ByteArray → Option Bool
  | 0, _, _ => none
  | _ + 1, _, [] => some false
  | k + 1, seen, x :: todo => (ownsIn owner (ow x) seen todo).bind fun r => match r with
    | none => some true
    | some (s, t) => ownsL owner ow k s t
def ownsF (k : Nat) (s : Gr) (owner owned : ByteArray) : Option Bool := ownsL owner s.owL k (putB (fun _ => false) owned) [owned]
theorem q_str_at {w : World} {B c : Nat} {A : Option Addr} {l : List ByteArray} (h : QRow w B 9 1 (.slice A l.length c) l.length (strs l)) (i : Nat) (hi : i < l.length) :
    ∃ g o, A = some ⟨g, o, none⟩ ∧ g < w.heap.size ∧ w.cell? ⟨g, o + i, none⟩ = some (.string l[i]) := by
  rcases h.2 with ⟨h0, _⟩ | ⟨g, off, cap, cur, he, hg, hh, hnc, hm, hcs, ht⟩
  · omega
  · injection he with ha _ hc
    subst ha; subst hc
    refine ⟨g, off * 1, rfl, (Array.getElem?_eq_some_iff.1 hh).1, ?_⟩
    have : (strs l)[i]? = some (.string l[i]) := by simp [strs, hi]
    rw [← ht, List.getElem?_take, if_pos (by omega), List.getElem?_drop, Array.getElem?_toList] at this
    rw [Nat.mul_one] at this ⊢
    simp [World.cell?, hh, this]
theorem q_form {w : World} {B n sz e : Nat} {v : Value} {xs : List Value} (h : QRow w B e sz v n xs) : ∃ A c, v = .slice A n c ∧ n ≤ c := q_slice h
theorem wpList_append_q {P : Program} {w : World} {ops : Array Oper} {rest : List Oper} {o : Oper} {a : Act} {Q : Exit → Act → World → Prop} (hgd : o.guard = none) (s x : Operand) (t : TypeId)
    (ho : o.op = .call { callee := .builtin .append, args := #[s, x], argTypes := #[t, t] })
    (base : Nat) (e : TypeId) (i : TypeInfo) (z : Value) (size bytes : Nat) (ht : P.underlying t = some (.slice e)) (hi : P.info? e = some i) (hz : i.zero = some z)
    (hsize : i.size = size) (hby : i.bytes = bytes) (hzs : z.cells.size = size) (hsz : 0 < size)
    (v : Value) (n : Nat) (xs : List Value) (hs : a.eval s = v) (hown : QRow w base e size v n xs)
    (b : Addr) (m c : Nat) (news : List Value) (hx : a.eval x = .slice (some b) m c) (hl : news.length = m * size) (hnews : ∀ j u, news[j]? = some u → w.cell? (b.add j) = some u) (h1 : ∀ u ∈ news, u.oneCell' = true) (hm : 0 < m)
    (h63 : n + m ≤ maxLen) (hbytes : (n + m) * bytes ≤ 140737488355328) (hbase : base ≤ w.heap.size)
    (h : ∀ v' w', QRow w' base e size v' (n + m) (xs ++ news) → w.grownBy w' v.ownBlock → (v'.ownBlock = v.ownBlock ∨ ∃ b, v'.ownBlock = some b ∧ w.heap.size ≤ b) → wpList P ops Q rest (a.put o.dst v') w') :
    wpList P ops Q (o :: rest) a w := by
  obtain ⟨v', w', hr, h2, h3, h4⟩ := q_append (P := P) w base t o.type e i z size bytes ht hi hz hsize hby hzs hsz v n xs hown b m c news hl hnews h1 hm h63 hbytes hbase
  refine Kd.event_run hgd (v := v') (w1 := w') ?_ (h v' w' h2 h3 h4)
  unfold execOp
  simp only [ho, resolve, invoke, builtin, Sem.run_bind, Sem.run_pure, Result.andThen_ok, List.map_toArray, List.map_cons, List.map_nil, hs, hx, hr]
theorem q_not_map {w : World} {B n sz e mb : Nat} {v : Value} {xs : List Value} {p : ByteArray → Bool} (h : QRow w B e sz v n xs) (hs : SetAt w mb p) : v.ownBlock ≠ some mb := by
  intro he
  obtain ⟨_, cells, hc⟩ := q_typed h mb he
  obtain ⟨es, clock, hm, _⟩ := hs
  rw [hm] at hc; cases hc
section
variable {w : World} {B g m1 m2 : Nat} {V : Pr → Value} {U : ByteArray → Value} {vE vC : Value} {s : Gr}
set_option maxRecDepth 100000 in
set_option maxHeartbeats 8000000 in
theorem go_owns (h : GrAt w B g m1 m2 V U vE vC s) (ok : GrOk s) (kf : Nat) (owner owned : ByteArray) (r : Bool) (hx : owned.size ≤ 1000) (hF : ownsF kf s owner owned = some r) :
    Calls Tryd.prog 29 #[.pointer (some ⟨g, 0, none⟩), .string owner, .string owned] w fun e w' => e = .returned (.bool r) ∧ Below w.heap.size w w' := by
  have HG := Lib.hid h; have HOK := Lib.hid ok
  have hbb := fun (W : World) (hW : Below w.heap.size w W) => (h.below hW).facts.2.1
  have hg := h.lt
  have HBB := Lib.hid hbb
  have HF := Lib.hid (show ownsL owner s.owL kf (putB (fun _ => false) owned) [owned] = some r from hF)
  clear h ok hbb hF
  have hmm := @run_makeMap Tryd.prog
  have hm0 := SetAt.made w
  obtain ⟨ob, hput, hm1⟩ := hm0.put owned hx
  have hB0 : Below w.heap.size w (w.alloc (.map #[] 0)) := (Below.refl _ _).alloc (Nat.le_refl _) _
  have hB1 := setBlock_below (o := ob) hB0 (Nat.le_refl _)
  have HM1 := Lib.hid hm1; have HB1 := Lib.hid hB1
  clear hm0 hm1 hB1 hB0
  go_enter Tryd.func29, Tryd.ntmps29
  go_upto_region 2 with fail
  obtain ⟨w1, hw1⟩ : ∃ W, ChangeMaps.setBlock (w.alloc (.map #[] 0)) w.heap.size ob = W := ⟨_, rfl⟩
  have hz1 : w1.heap.size = w.heap.size + 1 := by rw [← hw1, setBlock_size]; simp
  rw [hw1] at HM1 HB1 ⊢
  clear hw1 hput hmm ob
  have hBa := (Below.refl _ w1).alloc (Nat.le_refl _) (.cells #[.string owned] 9)
  have hrow1 : (w1.alloc (.cells #[.string owned] 9)).ownsRow w.heap.size 9 1 (.slice (some ⟨w1.heap.size, 0, none⟩) 1 1) 1 [.string owned] :=
    ⟨rfl, .inr ⟨_, 1, #[.string owned], rfl, by omega, (Go.MapKept.heap_alloc w1 _).1, Nat.le_refl _, by unfold maxLen; omega, rfl, rfl⟩⟩
  have HQ1 := Lib.hid (q_of_own hrow1)
  have HB2 := Lib.hid (HB1.out.trans (hBa.mono HB1.out.size))
  have HM2 := Lib.hid (HM1.out.below hBa)
  have HZ1 := Lib.hid hz1
  clear hBa hrow1 hz1
  obtain ⟨i0, hi0, hi1, hi2, hi3⟩ := info_parts info_str
  have hcut := fun (A : Option Addr) (n c : Nat) (hn : (1 : Int) ≤ (n : Int)) => cut_from (P := Tryd.prog) 34 9 .i64 Tryd.underlying34 hi0 1 hi2 A n c 1 (by omega) hn
  have HCUT := Lib.hid hcut; clear hcut
  go_wp2
  go_loopg [8] kf (fun n t8 wr => ∃ (seen : ByteArray → Bool) (todo : List ByteArray), Below w.heap.size w wr ∧ Hid (QRow wr w.heap.size 9 1 t8 todo.length (strs todo)) ∧ Hid (SetAt wr w.heap.size seen) ∧ Hid (∀ o ∈ todo, o.size ≤ 1000) ∧ Hid (ownsL owner s.owL n seen todo = some r))
  case atStart => exact ⟨_, [owned], HB2.out, HQ1, HM2, Lib.hid (fun o ho => by rw [List.mem_singleton.1 ho]; exact hx), HF⟩
  case round =>
    obtain ⟨seen, todo, hbr, HQ, HS, HZ, HR⟩ := hrel
    cases gk with
    | zero => exact absurd HR.out (by simp [ownsL])
    | succ kf' =>
    obtain ⟨A, c, rfl, hnc⟩ := q_form HQ.out
    cases todo with
    | nil =>
      have HT := Lib.hid (show r = false by have := HR.out; simp [ownsL] at this; exact this)
      go_wp2
      go_ret
      exact ⟨by rw [HT.out]; rfl, hbr⟩
    | cons x todo =>
      obtain ⟨gq, oq, rfl, hgq, q0⟩ := q_str_at HQ.out 0 (by simp)
      rw [Nat.add_zero, List.getElem_cons_zero] at q0
      have hxs : x.size ≤ 1000 := HZ.out x (List.mem_cons_self ..)
      have hR := HR.out
      simp only [ownsL] at hR
      obtain ⟨F, hFe⟩ : ∃ F : Option ((ByteArray → Bool) × List ByteArray) → Option Bool, (fun r => match r with | none => some true | some (s_1, t) => ownsL owner s.owL kf' s_1 t) = F := ⟨_, rfl⟩
      have hR2 : (ownsIn owner (s.owL x) seen todo).bind F = some r := by rw [← hFe]; exact hR
      have HFN := Lib.hid (show F none = some true by rw [← hFe])
      have HFS := Lib.hid (show ∀ a b, F (some (a, b)) = ownsL owner s.owL kf' a b by intro a b; rw [← hFe])
      obtain ⟨A2, c2, hos, hlk⟩ := HG.out.look_ow x hxs
      have hlk0 := hlk _ hbr
      have hosl := HOK.out.owl x
      have hoss := HOK.out.ows x
      obtain ⟨os, hose⟩ : ∃ os, s.owL x = os := ⟨_, rfl⟩
      rw [hose] at hos hlk0 hosl hoss hR2
      have HOS := Lib.hid hos; have HOSS := Lib.hid hoss; have HR2 := Lib.hid hR2
      have hq1 := q_drop (k := 1) HQ.out (by simp)
      obtain ⟨m, hm⟩ : ∃ m, (x :: todo).length = m := ⟨_, rfl⟩
      have hml : todo.length + 1 = m := by rw [← hm]; simp
      have hm0 : (0 : Int) < (m : Int) := by omega
      have hm1 : (1 : Int) ≤ (m : Int) := by omega
      have hm2 : 0 < m := by omega
      rw [hm] at hq1 hnc ⊢
      have hcd := HCUT.out (some ⟨gq, oq, none⟩) m c hm1
      have eT : (1 : Int).toNat = 1 := rfl
      rw [eT] at hcd
      obtain ⟨A3, hA3⟩ : ∃ A3, (if c = 1 then (some ⟨gq, oq, none⟩ : Option Addr) else (some ⟨gq, oq, none⟩ : Option Addr).map (·.add (1 * 1))) = A3 := ⟨_, rfl⟩
      rw [hA3] at hq1 hcd
      have el : m - 1 = todo.length := by omega
      rw [el] at hq1 hcd
      have HQ3 := Lib.hid (show QRow wr w.heap.size 9 1 (.slice A3 todo.length (c - 1)) todo.length (strs todo) from hq1)
      have hgc := HBB.out wr hbr
      have HML := Lib.hid hml
      have HZ3 := Lib.hid (show ∀ o ∈ todo, o.size ≤ 1000 from fun o ho => HZ.out o (List.mem_cons_of_mem _ ho))
      have hos2 := slice_room hos
      clear hR hR2 hFe hlk hose hos hoss hq1 hA3 el eT HZ HR HQ hm hml
      rename World => wo
      go_wp2
      clear hcd hlk0 q0 hgc
      go_loopg [8, 32] os.length (fun n t8 t32 wq => ∃ (k : Nat) (seen : ByteArray → Bool) (todo : List ByteArray), n = os.length - k ∧ k ≤ os.length ∧ t32 = .int .i64 k ∧ Below w.heap.size w wq ∧ Hid (QRow wq w.heap.size 9 1 t8 todo.length (strs todo)) ∧ Hid (SetAt wq w.heap.size seen) ∧ Hid (∀ o ∈ todo, o.size ≤ 1000) ∧ Hid ((ownsIn owner (os.drop k) seen todo).bind F = some r))
      case atStart => exact ⟨0, seen, todo, rfl, Nat.zero_le _, rfl, hbr, HQ3, HS, HZ3, by rw [List.drop_zero]; exact HR2⟩
      case round =>
        obtain ⟨k, seen, todo, rfl, hk, rfl, hbq, HQ, HS, HZ, HR⟩ := hrel
        obtain ⟨A4, c4, rfl, hnc4⟩ := q_form HQ.out
        by_cases hlt : k < os.length
        · obtain ⟨gb, hA2, hgb, q0⟩ := own_str_at (pw_own_below HOS.out hbq) k hlt
          subst hA2
          obtain ⟨o, ho⟩ : ∃ o, os[k] = o := ⟨_, rfl⟩
          have hoz : o.size ≤ 1000 := HOSS.out o (ho ▸ List.getElem_mem hlt)
          have hR := HR.out
          rw [List.drop_eq_getElem_cons hlt, ho] at hR
          rw [ho] at q0
          simp only [ownsIn] at hR
          clear ho HR
          have hki : (k : Int) < (os.length : Int) := by omega
          by_cases he : o = owner
          · rw [if_pos he, Option.bind_some, HFN.out] at hR
            have HT := Lib.hid (Option.some.inj hR)
            have heb : (o.toList == owner.toList) = true := by rw [he]; simp
            clear he hR
            go_wp2
            go_ret
            exact ⟨by rw [← HT.out]; rfl, hbq⟩
          · rw [if_neg he] at hR
            have heb := str_bool he
            clear he
            have hlk2 := HS.out.look o hoz
            by_cases hse : seen o = true
            · rw [if_pos hse] at hR
              rw [hse] at hlk2
              have HR2 := Lib.hid hR
              clear hR hse
              go_wp2
              go_roundg (os.length - (k + 1))
              case measure => omega
              case rel => exact ⟨k + 1, seen, todo, rfl, by omega, by go_num, hbq, HQ, HS, HZ, HR2⟩
            · rw [if_neg hse] at hR
              have hse2 : seen o = false := by simpa using hse
              rw [hse2] at hlk2
              by_cases htl : todo.length < 100000
              · rw [if_pos htl] at hR
                have HR2 := Lib.hid hR
                obtain ⟨ob, hput, hS2⟩ := HS.out.put o hoz
                have hnm := q_not_map HQ.out HS.out
                have hmb := HS.out.lt
                have hz := hbq.size
                have hbs := setBlock_below (o := ob) hbq (Nat.le_refl w.heap.size)
                have hQ2 : QRow (ChangeMaps.setBlock wr w.heap.size ob) w.heap.size 9 1 (.slice A4 todo.length c4) todo.length (strs todo) := q_move HQ.out (fun g hg => setBlock_heap _ _ _ _ (fun e => hnm (by rw [hg, e])))
                have hba := (Below.refl _ (ChangeMaps.setBlock wr w.heap.size ob)).alloc (Nat.le_refl _) (.cells #[.string o] 9)
                have hQ3 : QRow ((ChangeMaps.setBlock wr w.heap.size ob).alloc (.cells #[.string o] 9)) w.heap.size 9 1 (.slice A4 todo.length c4) todo.length (strs todo) := q_move hQ2 (fun g hg => hba.block g (q_lt hQ2 g hg))
                have hone := (Go.MapKept.heap_alloc (ChangeMaps.setBlock wr w.heap.size ob) (.cells #[.string o] 9)).1
                have hS3 := hS2.below hba
                have HB3 := Lib.hid (hbs.trans (hba.mono (by rw [setBlock_size]; exact hz)))
                have hnm3 := q_not_map hQ3 hS3
                have HQ3 := Lib.hid hQ3; have HS3 := Lib.hid hS3; have HONE := Lib.hid hone; have HNM := Lib.hid hnm3
                have HSZ := Lib.hid (setBlock_size wr w.heap.size ob)
                clear hR hse hse2 hS2 hnm hbs hQ2 hba hQ3 hone hS3 hnm3
                go_wp2_with (at_builtin; (refine wpList_append_q rfl (.tmp 45) (.tmp 47) 34 rfl w.heap.size 9 i0 _ 1 16 Tryd.underlying34 hi0 hi1 hi2 hi3 rfl (by omega) _ todo.length (strs todo) rfl HQ3.out _ 1 1 [.string o] rfl rfl (fun j u hu => World.news_of_block HONE.out j u hu) (by intro u hu; simp at hu; rw [hu]; rfl) (by omega) (by unfold maxLen; omega) (by omega) HB3.out.size ?_; intro v5 w5 q5 gr5 fr5; have Q5 := Lib.hid q5; have GR5 := Lib.hid gr5; clear q5 gr5 fr5))
                go_roundg (os.length - (k + 1))
                case measure => omega
                case rel =>
                  refine ⟨k + 1, putB seen o, todo ++ [o], rfl, by omega, by go_num, pw_below_grown HB3.out _ HB3.out.size GR5.out (fun g hg => (q_typed HQ3.out g hg).1), ?_, ?_, ?_, HR2⟩
                  · refine Lib.hid ?_
                    have e1 : (todo ++ [o]).length = todo.length + 1 := by simp
                    have e2 : strs (todo ++ [o]) = strs todo ++ [.string o] := by simp [strs]
                    rw [e1, e2]; exact Q5.out
                  · exact Lib.hid (HS3.out.of_block (GR5.out.block _ HS3.out.lt (fun e => HNM.out e.symm)))
                  · refine Lib.hid (fun y hy => ?_)
                    rcases List.mem_append.1 hy with hy | hy
                    · exact HZ.out y hy
                    · rw [List.mem_singleton.1 hy]; exact hoz
              · rw [if_neg htl] at hR; cases hR
        · have hke : k = os.length := by omega
          subst hke
          have hR := HR.out
          rw [List.drop_length] at hR
          simp only [ownsIn, Option.bind_some] at hR
          rw [HFS.out] at hR
          have HR2 := Lib.hid hR
          clear hR HR
          go_wp2
          go_roundg kf'
          case measure => omega
          case rel => exact ⟨seen, todo, hbq, HQ, HS, HZ, HR2⟩
end
end Go.Proofs.YtikdiepcfdimgaaDoor.POw
namespace Go.Proofs.YtikdiepcfdimgaaDoor
open Go.RowKit
def absI (a : Int) : Int := if a < 0 then -a else a
theorem absI_nn (a : Int) : 0 ≤ absI a := by unfold absI; split <;> omega
theorem absI_le (a : Int) (h0 : -9223372036854775808 ≤ a) (h1 : a ≤ 9223372036854775807) : absI a ≤ 9223372036854775808 := by unfold absI; split <;> omega
end Go.Proofs.YtikdiepcfdimgaaDoor
namespace Go.Proofs.YtikdiepcfdimgaaDoor
open Go.RowKit Go.Lib
def gcdI (a b : Int) : Int := (Nat.gcd a.toNat b.toNat : Nat)
def rightB (n d : Int) : Bool := decide (1 ≤ d) && decide (d ≤ 1000000) && decide (absI n ≤ 1000000) && decide (gcdI (absI n) d = 1)
def inI (n : Int) : Prop := -9223372036854775808 ≤ n ∧ n ≤ 9223372036854775807
set_option maxHeartbeats 1000000 in
theorem frac_size.calls (a : Int) (w : World) (h : inI a) :
    Calls Tryd.prog 47 #[.int .i64 a] w fun e w' => e = .returned (.int .u64 (absI a)) ∧ w = w' := by
  obtain ⟨h0, h1⟩ := h
  by_cases h : a < 0
  all_goals
    go_enter Tryd.func47, Tryd.ntmps47
    go_wp2
    go_ret
    refine ⟨?_, rfl⟩
    show Ending.returned (.int .u64 _) = _
    congr 2
    simp only [absI, IntKind.wrap_u64, h, if_true]
    try simp only [if_false]
    omega
theorem gcd_step (x y : Int) (_hx : 0 ≤ x) (hy : 0 < y) : gcdI y (x % y) = gcdI x y := by
  unfold gcdI
  rw [Int.toNat_emod _hx (by omega), Nat.gcd_comm y.toNat, ← Nat.gcd_rec, Nat.gcd_comm]
theorem gcd_zero (x : Int) (hx : 0 ≤ x) : gcdI x 0 = x := by unfold gcdI; simp; omega
set_option maxHeartbeats 1000000 in
theorem frac_gcd.calls (a b : Int) (w : World) (a0 : 0 ≤ a) (b0 : 0 ≤ b) :
    Calls Tryd.prog 48 #[.int .u64 a, .int .u64 b] w fun e w' => e = .returned (.int .u64 (gcdI a b)) ∧ Below w.heap.size w w' := by
  go_enter Tryd.func48, Tryd.ntmps48
  go_wp2
  go_loopw [0, 1] (fun s t wr => ∃ x y : Int, 0 ≤ x ∧ 0 ≤ y ∧ s = .int .u64 x ∧ t = .int .u64 y ∧ Hid (gcdI x y = gcdI a b) ∧ ∃ n, wr = w.drewN n) (fun _ t _ => (intOf t).toNat)
  case atStart => exact ⟨a, b, a0, b0, rfl, rfl, rfl, 0, rfl⟩
  case round =>
    obtain ⟨x, y, x0, y0, rfl, rfl, hg, n, rfl⟩ := hrel
    by_cases hy : y = 0
    · subst hy
      go_wp2
      go_ret
      exact ⟨by rw [← hg.out, gcd_zero x x0]; rfl, ⟨rfl, rfl, rfl, Nat.le_refl _, fun _ _ => rfl⟩⟩
    · have hb : (y != 0) = true := by simp [hy]
      have hlt := Int.emod_lt_of_pos x (by omega : 0 < y)
      have hge := Int.emod_nonneg x hy
      have HG := Lib.hid (gcd_step x y x0 (by omega))
      go_wp2
      go_quiet (fail)
      go_wp2
      go_roundw
      case rel => exact ⟨y, x % y, y0, hge, rfl, rfl, by show gcdI y (x % y) = _; rw [HG.out, hg.out], n + nq, by rw [World.drewN_drewN]⟩
      case measure => simp [intOf]; omega
theorem gcdI_pos (a b : Int) (hb : 1 ≤ b) : 1 ≤ gcdI a b := by
  unfold gcdI; have : 0 < Nat.gcd a.toNat b.toNat := Nat.gcd_pos_of_pos_right _ (by omega); omega
set_option maxHeartbeats 1000000 in
theorem frac_Right.calls (n d : Int) (w : World) (hn : inI n) (hd : inI d) :
    Calls Tryd.prog 28 #[.agg #[.int .i64 n, .int .i64 d]] w fun e w' => e = .returned (.bool (rightB n d)) ∧ Below w.heap.size w w' := by
  by_cases h1 : d < 1
  · have HF := Lib.hid (show rightB n d = false by simp [rightB]; omega)
    go_enter Tryd.func28, Tryd.ntmps28
    go_wp2
    go_ret
    exact ⟨by rw [HF.out]; rfl, (Below.refl _ _).alloc (Nat.le_refl _) _⟩
  · by_cases h2 : 1000000 < d
    · have HF := Lib.hid (show rightB n d = false by simp [rightB]; omega)
      go_enter Tryd.func28, Tryd.ntmps28
      go_wp2
      go_ret
      exact ⟨by rw [HF.out]; rfl, (Below.refl _ _).alloc (Nat.le_refl _) _⟩
    · by_cases h3 : 1000000 < absI n
      · have HF := Lib.hid (show rightB n d = false by simp [rightB]; omega)
        go_enter Tryd.func28, Tryd.ntmps28
        go_wp2_with (go_at_call 47; refine (frac_size.calls _ _ hn).mono ?_; rintro e w' ⟨rfl, rfl⟩)
        go_ret
        exact ⟨by rw [HF.out]; rfl, (Below.refl _ _).alloc (Nat.le_refl _) _⟩
      · have ed : absI d = d := by unfold absI; rw [if_neg (by omega)]
        have HF := Lib.hid (show rightB n d = (gcdI (absI n) d == 1) by unfold rightB; rw [decide_eq_true (by omega : 1 ≤ d), decide_eq_true (by omega : d ≤ 1000000), decide_eq_true (by omega : absI n ≤ 1000000)]; rfl)
        have nn := absI_nn n
        have HE := Lib.hid ed
        clear ed
        go_enter Tryd.func28, Tryd.ntmps28
        go_upto_region 3 with (go_at_call 47; refine (frac_size.calls _ _ hn).mono ?_; rintro e w' ⟨rfl, rfl⟩)
        go_region_held3 (fun w' => w'.cell? ⟨w.heap.size, 0, none⟩ = some (.int .i64 n) ∧ w'.cell? ⟨w.heap.size, 1, none⟩ = some (.int .i64 d)) (first | go_keep | (refine ⟨?_, ?_⟩ <;> (rw [hcc _ _ (by simp <;> omega)]; simp)))
          (first
            | (go_at_call_of 47 (Value.int IntKind.i64 n); refine (frac_size.calls _ _ hn).mono ?_; rintro e w' ⟨rfl, rfl⟩)
            | (go_at_call_of 47 (Value.int IntKind.i64 d); refine (frac_size.calls _ _ hd).mono ?_; rintro e w' ⟨rfl, rfl⟩)
            | (go_at_call 48; refine (frac_gcd.calls _ _ _ nn (by rw [HE.out]; omega)).mono ?_; rintro e w2 ⟨rfl, hb2⟩; obtain ⟨hcc, hff⟩ := bcell hb2))
        go_wp2
        go_ret
        exact ⟨by rw [HF.out, HE.out]; rfl, (((Below.refl _ _).alloc (Nat.le_refl _) _).drew).trans (hb2.mono (by simp))⟩
theorem absI_mil (n : Int) : absI n ≤ 1000000 ↔ -1000000 ≤ n ∧ n ≤ 1000000 := by unfold absI; split <;> omega
end Go.Proofs.YtikdiepcfdimgaaDoor
namespace Go.Proofs.YtikdiepcfdimgaaDoor
open Go.RowKit
def wordB (c : UInt8) : Bool := (decide (97 ≤ c.toNat) && decide (c.toNat ≤ 122)) || (decide (65 ≤ c.toNat) && decide (c.toNat ≤ 90)) || decide (c.toNat = 95) || (decide (48 ≤ c.toNat) && decide (c.toNat ≤ 57))
def allW (s : ByteArray) : Bool := s.data.toList.all wordB
def wcodeB (s : ByteArray) : Bool := decide (s.size ≠ 0) && decide (s.size ≤ 12) && allW s
def ltrI (c : Int) : Bool := (decide (97 ≤ c) && decide (c ≤ 122)) || (decide (65 ≤ c) && decide (c ≤ 90)) || (c == 95)
def digI (c : Int) : Bool := decide (48 ≤ c) && decide (c ≤ 57)
theorem wordB_eq (c : UInt8) : wordB c = (ltrI (c.toNat : Int) || digI (c.toNat : Int)) := by
  unfold wordB ltrI digI
  rw [Bool.eq_iff_iff]
  simp
  omega
set_option maxHeartbeats 1000000 in
theorem words_digit_any (c : Int) (w : World) : Calls Tryd.prog 40 #[.int .u8 c] w fun e w' => e = .returned (.bool (digI c)) ∧ w = w' := by
  by_cases h1 : 48 ≤ c
  · have HF := Lib.hid (show digI c = decide (c ≤ 57) by unfold digI; rw [decide_eq_true h1]; rfl)
    go_enter Tryd.func40, Tryd.ntmps40
    go_wp2
    go_ret
    exact ⟨by rw [HF.out]; rfl, rfl⟩
  · have HF := Lib.hid (show digI c = false by unfold digI; rw [decide_eq_false h1]; rfl)
    go_enter Tryd.func40, Tryd.ntmps40
    go_wp2
    go_ret
    exact ⟨by rw [HF.out]; rfl, rfl⟩
set_option maxHeartbeats 2000000 in
theorem words_letter_any (c : Int) (w : World) : Calls Tryd.prog 39 #[.int .u8 c] w fun e w' => e = .returned (.bool (ltrI c)) ∧ w = w' := by
  by_cases h1 : 97 ≤ c
  · by_cases h2 : c ≤ 122
    · have HF := Lib.hid (show ltrI c = true by unfold ltrI; simp [h1, h2])
      go_enter Tryd.func39, Tryd.ntmps39
      go_wp2
      go_ret
      exact ⟨by rw [HF.out]; rfl, rfl⟩
    · have b2 : decide (c ≤ 122) = false := decide_eq_false h2
      have h3 : 65 ≤ c := by omega
      have b4 : decide (c ≤ 90) = false := decide_eq_false (by omega)
      have b5 : (c == 95) = false := by simp; omega
      have HF := Lib.hid (show ltrI c = false by unfold ltrI; rw [b2, b4, b5]; simp)
      clear h2
      go_enter Tryd.func39, Tryd.ntmps39
      go_wp2
      go_ret
      exact ⟨by rw [HF.out]; rfl, rfl⟩
  · have b1 : decide (97 ≤ c) = false := decide_eq_false h1
    by_cases h3 : 65 ≤ c
    · by_cases h4 : c ≤ 90
      · have HF := Lib.hid (show ltrI c = true by unfold ltrI; simp [h3, h4])
        clear h1
        go_enter Tryd.func39, Tryd.ntmps39
        go_wp2
        go_ret
        exact ⟨by rw [HF.out]; rfl, rfl⟩
      · have b4 : decide (c ≤ 90) = false := decide_eq_false h4
        have HF := Lib.hid (show ltrI c = (c == 95) by unfold ltrI; rw [b1, b4]; simp)
        clear h1 h4
        go_enter Tryd.func39, Tryd.ntmps39
        go_wp2
        go_ret
        exact ⟨by rw [HF.out]; rfl, rfl⟩
    · have b3 : decide (65 ≤ c) = false := decide_eq_false h3
      have HF := Lib.hid (show ltrI c = (c == 95) by unfold ltrI; rw [b1, b3]; simp)
      clear h1 h3
      go_enter Tryd.func39, Tryd.ntmps39
      go_wp2
      go_ret
      exact ⟨by rw [HF.out]; rfl, rfl⟩
set_option maxHeartbeats 2000000 in
theorem words_Code_1_any (c : UInt8) (w : World) : Calls Tryd.prog 38 #[.int .u8 c.toNat] w fun e w' => e = .returned (.bool (wordB c)) ∧ w = w' := by
  have HE := Lib.hid (wordB_eq c)
  obtain ⟨a, ha⟩ : ∃ a, ltrI (c.toNat : Int) = a := ⟨_, rfl⟩
  obtain ⟨b, hb⟩ : ∃ b, digI (c.toNat : Int) = b := ⟨_, rfl⟩
  rw [ha, hb] at HE
  have HA := Lib.hid ha; have HB := Lib.hid hb
  clear ha hb
  cases a
  all_goals
    go_enter Tryd.func38, Tryd.ntmps38
    go_wp2_with (first
      | (go_at_call 39; refine (words_letter_any _ _).mono ?_; rintro e w' ⟨rfl, rfl⟩; rw [HA.out])
      | (go_at_call 40; refine (words_digit_any _ _).mono ?_; rintro e w' ⟨rfl, rfl⟩; rw [HB.out]))
    go_ret
    exact ⟨by rw [HE.out]; simp, rfl⟩
theorem all_take_succ (s : ByteArray) (k : Nat) (h : k < s.size) : (s.data.toList.take (k + 1)).all wordB = ((s.data.toList.take k).all wordB && wordB s[k]) := by
  rw [List.take_succ_eq_append_getElem (by simpa using h), List.all_append]
  simp
  rfl
set_option maxHeartbeats 4000000 in
theorem words_every_any (s : ByteArray) (hs : s.size ≤ 140737488351232) (w : World) :
    Calls Tryd.prog 37 #[.string s, .func (.func 38) #[] #[]] w fun e w' => e = .returned (.bool (allW s)) ∧ w = w' := by
  go_enter Tryd.func37, Tryd.ntmps37
  go_wp2
  go_loopg [8] s.size (fun g t wr => ∃ k : Nat, g = s.size - k ∧ k ≤ s.size ∧ t = .int .i64 k ∧ wr = w ∧ Hid ((s.data.toList.take k).all wordB = true))
  case atStart => exact ⟨0, rfl, Nat.zero_le _, rfl, rfl, Lib.hid rfl⟩
  case round =>
    obtain ⟨k, rfl, hk, rfl, rfl, HI⟩ := hrel
    by_cases hlt : k < s.size
    · have HT := Lib.hid (all_take_succ s k hlt)
      obtain ⟨b, hb⟩ : ∃ b, wordB s[k] = b := ⟨_, rfl⟩
      rw [hb] at HT
      have HB := Lib.hid hb; clear hb
      cases b
      · have HF := Lib.hid (show allW s = false by
          unfold allW
          rw [Bool.eq_false_iff]
          intro h
          have h2 := HT.out
          rw [Bool.and_false, Bool.eq_false_iff] at h2
          exact h2 (List.all_eq_true.2 fun x hx => List.all_eq_true.1 h x (List.mem_of_mem_take hx)))
        go_wp2_with (go_at_call 38; refine (words_Code_1_any _ _).mono ?_; rintro e w' ⟨rfl, rfl⟩; rw [HB.out])
        go_ret
        exact ⟨by rw [HF.out]; rfl, rfl⟩
      · go_wp2_with (go_at_call 38; refine (words_Code_1_any _ _).mono ?_; rintro e w' ⟨rfl, rfl⟩; rw [HB.out])
        go_roundg (s.size - (k + 1))
        case measure => omega
        case rel => exact ⟨k + 1, rfl, by omega, by go_num, rfl, Lib.hid (by rw [HT.out, HI.out]; rfl)⟩
    · have HF := Lib.hid (show allW s = true by
        unfold allW
        have h := HI.out
        rw [List.take_of_length_le (by simp; omega)] at h
        exact h)
      have hkl : ¬ (k : Int) < (s.size : Int) := by omega
      go_wp2
      go_ret
      exact ⟨by rw [HF.out]; rfl, rfl⟩
set_option maxHeartbeats 2000000 in
theorem go_words_Code (s : ByteArray) (w : World) (hs : s.size ≤ 140737488351232) :
    Calls Tryd.prog 22 #[.string s] w fun e w' => e = .returned (.bool (wcodeB s)) ∧ w = w' := by
  have e : s.toList.length = s.size := by rw [ByteArray.toList_eq, Array.length_toList]; rfl
  by_cases h0 : s.size = 0
  · have HF := Lib.hid (show wcodeB s = false by unfold wcodeB; simp [h0])
    have h1 : s.toList = [] := List.eq_nil_of_length_eq_zero (by rw [e]; exact h0)
    have h2 : s.toList.isEmpty = true := by rw [h1]; rfl
    clear e
    go_enter Tryd.func22, Tryd.ntmps22
    go_wp2
    go_ret
    exact ⟨by rw [HF.out]; rfl, rfl⟩
  · have h1 : s.toList ≠ [] := fun h => h0 (by rw [← e, h]; rfl)
    have h2 : s.toList.isEmpty = false := by cases h : s.toList with | nil => exact absurd h h1 | cons => rfl
    clear e
    by_cases h3 : s.size ≤ 12
    · have HF := Lib.hid (show wcodeB s = allW s by unfold wcodeB; simp [h0, h3])
      have h4 : (s.size : Int) ≤ 12 := by omega
      clear h0
      go_enter Tryd.func22, Tryd.ntmps22
      go_wp2_with (go_at_call 37; refine (words_every_any s hs _).mono ?_; rintro e w' ⟨rfl, rfl⟩)
      go_ret
      exact ⟨by rw [HF.out]; rfl, rfl⟩
    · have HF := Lib.hid (show wcodeB s = false by unfold wcodeB; simp [h3])
      have h4 : ¬ (s.size : Int) ≤ 12 := by omega
      clear h0
      go_enter Tryd.func22, Tryd.ntmps22
      go_wp2
      go_ret
      exact ⟨by rw [HF.out]; rfl, rfl⟩
set_option maxHeartbeats 2000000 in
theorem go_aging_isDay (n : Int) (w : World) (hl : DaysLaid w) : Calls Tryd.prog 23 #[.int .i64 n] w fun e w' => e = .returned (.bool (isDay n)) ∧ Below w.heap.size w w' := by
  cases hd : isDay n
  all_goals
    have HD := Lib.hid hd; clear hd
    have HL := Lib.hid hl; clear hl
    go_enter Tryd.func23, Tryd.ntmps23
    go_wp2_with (go_at_call 41; refine (days_Date.calls n _ HL.out).mono ?_; rintro e w1 ⟨⟨y, m, d, rfl⟩, hb1⟩; rw [HD.out])
    go_ret
    exact ⟨rfl, hb1.alloc hb1.size _⟩
end Go.Proofs.YtikdiepcfdimgaaDoor
namespace Go.Proofs.YtikdiepcfdimgaaDoor.POw
open Go.RowKit Go.Lib Go.Proofs.YtikdiepcfdimgaaDoorW.PrintWords Go.Proofs.YtikdiepcfdimgaaDoorW.PrintLast Go.Proofs.YtikdiepcfdimgaaDoorW.PrintMore
def fitH (h : Hold) : Bool := rightB h.f2.f0 h.f2.f1 && decide (0 ≤ h.f2.f0) && decide (h.f2.f0 ≤ h.f2.f1)
def refusedF (k : Nat) (s : Gr) (h : Hold) : Option Int :=
  if wcodeB h.f0 = true then (if wcodeB h.f1 = true then (if fitH h = true then (if isDay h.f3 = true then (if (s.shL (h.f0, h.f1)).any (fun x => decide (x.f3 = h.f3)) = true then some 8 else
    if h.f0 = h.f1 then some 24 else (ownsF k s h.f1 h.f0).bind fun b => if b = true then some 24 else some 0) else some 11) else some 2) else some 7) else some 7
def HBox (w : World) (z : Nat) (h : Hold) : Prop := w.heap[z]? = some (.cells #[.string h.f0, .string h.f1, .int .i64 h.f2.f0, .int .i64 h.f2.f1, .int .i64 h.f3] 41 (0, 0))
theorem HBox.made (w : World) (h : Hold) : HBox (w.alloc (.cells #[.string h.f0, .string h.f1, .int .i64 h.f2.f0, .int .i64 h.f2.f1, .int .i64 h.f3] 41)) w.heap.size h := (Go.MapKept.heap_alloc w _).1
theorem HBox.below {w W : World} {z : Nat} {h : Hold} (hb : HBox w z h) (hB : Below w.heap.size w W) : HBox W z h := (hB.block z (Array.getElem?_eq_some_iff.1 hb).1).trans hb
theorem HBox.facts {w : World} {z : Nat} {h : Hold} (hb : HBox w z h) : w.cell? ⟨z, 0, none⟩ = some (.string h.f0) ∧ w.cell? ⟨z, 1, none⟩ = some (.string h.f1) ∧ w.cell? ⟨z, 2, none⟩ = some (.int .i64 h.f2.f0) ∧ w.cell? ⟨z, 3, none⟩ = some (.int .i64 h.f2.f1) ∧ w.cell? ⟨z, 4, none⟩ = some (.int .i64 h.f3) :=
  ⟨blk_cell hb 0, blk_cell hb 1, blk_cell hb 2, blk_cell hb 3, blk_cell hb 4⟩
section
variable {w : World} {B g m1 m2 : Nat} {V : Pr → Value} {U : ByteArray → Value} {vE vC : Value} {s : Gr}
set_option maxRecDepth 100000 in
set_option maxHeartbeats 8000000 in
theorem go_refused (hG : GrAt w B g m1 m2 V U vE vC s) (ok : GrOk s) (kf : Nat) (h : Hold) (r : Int) (hx : h.f0.size ≤ 100) (hy : h.f1.size ≤ 100) (hn : inI h.f2.f0) (hd : inI h.f2.f1) (hL : DaysLaid w) (hF : refusedF kf s h = some r) :
    Calls Tryd.prog 17 #[.pointer (some ⟨g, 0, none⟩), .agg #[.string h.f0, .string h.f1, .int .i64 h.f2.f0, .int .i64 h.f2.f1, .int .i64 h.f3]] w fun e w' => e = .returned (.int .i64 r) ∧ Below w.heap.size w w' := by
  have HG := Lib.hid hG; have HOK := Lib.hid ok; have HL := Lib.hid hL
  have hg := hG.lt
  clear hG ok hL
  have hc0 := fun W => go_words_Code h.f0 W (by omega)
  have hc1 := fun W => go_words_Code h.f1 W (by omega)
  have hb0 := HBox.made w h
  have hB0 : Below w.heap.size w (w.alloc (.cells #[.string h.f0, .string h.f1, .int .i64 h.f2.f0, .int .i64 h.f2.f1, .int .i64 h.f3] 41)) := (Below.refl _ _).alloc (Nat.le_refl _) _
  have HB0 := Lib.hid hb0; have HC0 := Lib.hid hc0; have HC1 := Lib.hid hc1; have HB := Lib.hid hB0
  clear hb0 hc0 hc1 hB0
  unfold refusedF at hF
  by_cases c0 : wcodeB h.f0 = true
  · rw [if_pos c0] at hF
    rw [c0] at HC0
    by_cases c1 : wcodeB h.f1 = true
    · rw [if_pos c1] at hF
      rw [c1] at HC1
      have hR := fun W => frac_Right.calls h.f2.f0 h.f2.f1 W hn hd
      have HR := Lib.hid hR; have HF := Lib.hid hF
      clear hR hF c0 c1
      go_enter Tryd.func17, Tryd.ntmps17
      go_upto_region 3 with (first
        | (go_at_call_of 22 (Value.string h.f0); refine (HC0.out _).mono ?_; rintro e w1 ⟨rfl, rfl⟩)
        | (go_at_call_of 22 (Value.string h.f1); refine (HC1.out _).mono ?_; rintro e w1 ⟨rfl, rfl⟩))
      obtain ⟨w1, hw1⟩ : ∃ W, w.alloc (.cells #[.string h.f0, .string h.f1, .int .i64 h.f2.f0, .int .i64 h.f2.f1, .int .i64 h.f3] 41) = W := ⟨_, rfl⟩
      rw [hw1] at HB0 HB ⊢
      clear hw1
      obtain ⟨z, hz⟩ : ∃ z, w.heap.size = z := ⟨_, rfl⟩
      have HZ := Lib.hid hz
      rw [hz] at HB0 ⊢
      clear hz
      obtain ⟨k0, k1, k2, k3, k4⟩ := HB0.out.facts
      have hF := HF.out
      by_cases r1 : rightB h.f2.f0 h.f2.f1 = true
      · have hf1 : fitH h = (decide (0 ≤ h.f2.f0) && decide (h.f2.f0 ≤ h.f2.f1)) := by unfold fitH; rw [r1, Bool.true_and]
        rw [r1] at HR
        rw [hf1] at hF
        clear hf1 r1
        by_cases n1 : h.f2.f0 < 0
        · rw [show decide (0 ≤ h.f2.f0) = false from decide_eq_false (by omega)] at hF
          have HT := Lib.hid (Option.some.inj (by simpa using hF : some (2 : Int) = some r))
          clear hF
          go_wp2_with (go_at_call 28; refine (HR.out _).mono ?_; rintro e w2 ⟨rfl, hb2⟩; have HX2 := Lib.hid (HB0.out.below hb2); have HB2 := Lib.hid (HB.out.trans (hb2.mono HB.out.size)); obtain ⟨p0, p1, p2, p3, p4⟩ := HX2.out.facts)
          go_ret
          exact ⟨by rw [← HT.out]; rfl, HB2.out⟩
        · by_cases n2 : h.f2.f1 < h.f2.f0
          · rw [show decide (h.f2.f0 ≤ h.f2.f1) = false from decide_eq_false (by omega)] at hF
            have HT := Lib.hid (Option.some.inj (by simpa using hF : some (2 : Int) = some r))
            have n1b : decide (h.f2.f0 < 0) = false := decide_eq_false n1
            clear hF
            go_wp2_with (go_at_call 28; refine (HR.out _).mono ?_; rintro e w2 ⟨rfl, hb2⟩; have HX2 := Lib.hid (HB0.out.below hb2); have HB2 := Lib.hid (HB.out.trans (hb2.mono HB.out.size)); obtain ⟨p0, p1, p2, p3, p4⟩ := HX2.out.facts)
            go_ret
            exact ⟨by rw [← HT.out]; rfl, HB2.out⟩
          · rw [show decide (0 ≤ h.f2.f0) = true from decide_eq_true (by omega), show decide (h.f2.f0 ≤ h.f2.f1) = true from decide_eq_true (by omega), Bool.and_self, if_pos rfl] at hF
            have n1b : decide (h.f2.f0 < 0) = false := decide_eq_false n1
            have n2b : decide (h.f2.f1 < h.f2.f0) = false := decide_eq_false n2
            have HD := Lib.hid (fun (W : World) (hW : Below w.heap.size w W) => go_aging_isDay h.f3 W (HL.out.below hW))
            by_cases dy : isDay h.f3 = true
            · rw [if_pos dy] at hF
              rw [dy] at HD
              have HF2 := Lib.hid hF
              clear hF dy HF
              go_upto_region 7 with (first
                | (go_at_call 28; refine (HR.out _).mono ?_; rintro e w2 ⟨rfl, hb2⟩; have HX2 := Lib.hid (HB0.out.below hb2); have HB2 := Lib.hid (HB.out.trans (hb2.mono HB.out.size)); obtain ⟨p0, p1, p2, p3, p4⟩ := HX2.out.facts)
                | (go_at_call 23; refine (HD.out _ HB2.out).mono ?_; rintro e w3 ⟨rfl, hb3⟩; have HX3 := Lib.hid (HX2.out.below hb3); have HB3 := Lib.hid (HB2.out.trans (hb3.mono HB2.out.size))))
              clear k0 k1 k2 k3 k4 p0 p1 p2 p3 p4
              obtain ⟨k0, k1, k2, k3, k4⟩ := HX3.out.facts
              have hGr := HG.out.below HB3.out
              have hgc := hGr.facts.1
              obtain ⟨A, c, hown, hlook, _⟩ := hGr.look_sh (h.f0, h.f1) (show h.f0.size ≤ 1000 by omega) (show h.f1.size ≤ 1000 by omega)
              have hll := HOK.out.shl (h.f0, h.f1)
              obtain ⟨l, hle⟩ : ∃ l, s.shL (h.f0, h.f1) = l := ⟨_, rfl⟩
              rw [hle] at hown hlook hll
              have HF3 := HF2.out
              rw [hle] at HF3
              have HF4 := Lib.hid HF3
              have hlk := hlook _ (Below.refl _ w3).drew
              have HLOOK := Lib.hid hlook; have HOWN := Lib.hid hown
              clear hlook hown hle HF3 HF2 hGr
              refine start_ (n := 12) (S := fun w' => w'.cell? ⟨g, 0, none⟩ = some (.map (some m1)) ∧ w'.cell? ⟨z, 0, none⟩ = some (.string h.f0) ∧ w'.cell? ⟨z, 1, none⟩ = some (.string h.f1) ∧ (Instr.lookup 51 (.map (some m1)) (.agg #[.string h.f0, .string h.f1]) false).run Tryd.prog w' = .ok (.slice A l.length c) w') (ds := []) #[false, false, false, false, false, false, false, false, false, false, false, false] (by kernel_rfl) rfl rfl ⟨hgc, k0, k1, hlk⟩ (fun hHeld => ?_)
              refine pure_ (i := 0) (N := some 43) (v := ?_) (a' := ?_) #[true, false, false, false, false, false, false, false, false, false, false, false] rfl rfl (by kernel_rfl) (fun _ _ _ h => h) (Or.inl ⟨by rfl, ?_⟩) ?_ ?_
              rotate_left
              · intro w'
                go_simp
                with_reducible rfl
              rotate_left
              · simp only [Act.put, List.setIfInBounds_toArray, List.set_cons_zero, List.set_cons_succ, i64_w, i32_w]
                rfl
              refine pure_ (i := 1) (N := some 44) (v := ?_) (a' := ?_) #[true, true, false, false, false, false, false, false, false, false, false, false] rfl rfl (by kernel_rfl) (fun _ _ _ h => h) (Or.inl ⟨by rfl, ?_⟩) ?_ ?_
              rotate_left
              · intro w'
                go_simp
                with_reducible rfl
              rotate_left
              · simp only [Act.put, List.setIfInBounds_toArray, List.set_cons_zero, List.set_cons_succ, i64_w, i32_w]
                rfl
              refine pure_ (i := 2) (N := some 45) (v := ?_) (a' := ?_) #[true, true, true, false, false, false, false, false, false, false, false, false] rfl rfl (by kernel_rfl) (fun _ _ _ h => h) (Or.inl ⟨by rfl, ?_⟩) ?_ ?_
              rotate_left
              · intro w'
                go_simp
                with_reducible rfl
              rotate_left
              · simp only [Act.put, List.setIfInBounds_toArray, List.set_cons_zero, List.set_cons_succ, i64_w, i32_w]
                rfl
              refine pure_ (i := 4) (N := some 47) (v := ?_) (a' := ?_) #[true, true, true, false, true, false, false, false, false, false, false, false] rfl rfl (by kernel_rfl) (fun _ _ _ h => h) (Or.inl ⟨by rfl, ?_⟩) ?_ ?_
              rotate_left
              · intro w'
                go_simp
                with_reducible rfl
              rotate_left
              · simp only [Act.put, List.setIfInBounds_toArray, List.set_cons_zero, List.set_cons_succ, i64_w, i32_w]
                rfl
              refine pure_ (i := 6) (N := some 49) (v := ?_) (a' := ?_) #[true, true, true, false, true, false, true, false, false, false, false, false] rfl rfl (by kernel_rfl) (fun _ _ _ h => h) (Or.inl ⟨by rfl, ?_⟩) ?_ ?_
              rotate_left
              · intro w'
                go_simp
                with_reducible rfl
              rotate_left
              · simp only [Act.put, List.setIfInBounds_toArray, List.set_cons_zero, List.set_cons_succ, i64_w, i32_w]
                rfl
              refine pure_ (i := 11) (N := some 54) (v := ?_) (a' := ?_) #[true, true, true, false, true, false, true, false, false, false, false, true] rfl rfl (by kernel_rfl) (fun _ _ _ h => h) (Or.inl ⟨by rfl, ?_⟩) ?_ ?_
              rotate_left
              · intro w'
                go_simp
                with_reducible rfl
              rotate_left
              · simp only [Act.put, List.setIfInBounds_toArray, List.set_cons_zero, List.set_cons_succ, i64_w, i32_w]
                rfl
              refine take_ (i := 3) (N := some 46) (v := ?_) (a' := ?_) #[true, true, true, true, true, false, true, false, false, false, false, true] rfl rfl (by kernel_rfl) (fun _ _ _ h => h) (Or.inl ⟨by rfl, ?_⟩) hHeld ?_ ?_
              rotate_left
              · rintro w' ⟨s0, s1, s2, s3⟩
                go_simp
                with_reducible rfl
              rotate_left
              · simp only [Act.put, List.setIfInBounds_toArray, List.set_cons_zero, List.set_cons_succ, i64_w, i32_w]
                rfl
              refine take_ (i := 5) (N := some 48) (v := ?_) (a' := ?_) #[true, true, true, true, true, true, true, false, false, false, false, true] rfl rfl (by kernel_rfl) (fun _ _ _ h => h) (Or.inl ⟨by rfl, ?_⟩) hHeld ?_ ?_
              rotate_left
              · rintro w' ⟨s0, s1, s2, s3⟩
                go_simp
                with_reducible rfl
              rotate_left
              · simp only [Act.put, List.setIfInBounds_toArray, List.set_cons_zero, List.set_cons_succ, i64_w, i32_w]
                rfl
              refine take_ (i := 7) (N := some 50) (v := ?_) (a' := ?_) #[true, true, true, true, true, true, true, true, false, false, false, true] rfl rfl (by kernel_rfl) (fun _ _ _ h => h) (Or.inl ⟨by rfl, ?_⟩) hHeld ?_ ?_
              rotate_left
              · rintro w' ⟨s0, s1, s2, s3⟩
                go_simp
                with_reducible rfl
              rotate_left
              · simp only [Act.put, List.setIfInBounds_toArray, List.set_cons_zero, List.set_cons_succ, i64_w, i32_w]
                rfl
              refine pure_ (i := 8) (N := some 51) (v := ?_) (a' := ?_) #[true, true, true, true, true, true, true, true, true, false, false, true] rfl rfl (by kernel_rfl) (fun _ _ _ h => h) (Or.inl ⟨by rfl, ?_⟩) ?_ ?_
              rotate_left
              · intro w'
                go_simp
                with_reducible rfl
              rotate_left
              · simp only [Act.put, List.setIfInBounds_toArray, List.set_cons_zero, List.set_cons_succ, i64_w, i32_w]
                rfl
              refine take_ (i := 9) (N := some 52) (v := ?_) (a' := ?_) #[true, true, true, true, true, true, true, true, true, true, false, true] rfl rfl (by kernel_rfl) (fun _ _ _ h => h) (Or.inl ⟨by rfl, ?_⟩) hHeld ?_ ?_
              rotate_left
              · rintro w' ⟨s0, s1, s2, s3⟩
                go_simp
                with_reducible rfl
              rotate_left
              · simp only [Act.put, List.setIfInBounds_toArray, List.set_cons_zero, List.set_cons_succ, i64_w, i32_w]
                rfl
              refine pure_ (i := 10) (N := some 53) (v := ?_) (a' := ?_) #[true, true, true, true, true, true, true, true, true, true, true, true] rfl rfl (by kernel_rfl) (fun _ _ _ h => h) (Or.inl ⟨by rfl, ?_⟩) ?_ ?_
              rotate_left
              · intro w'
                go_simp
                with_reducible rfl
              rotate_left
              · simp only [Act.put, List.setIfInBounds_toArray, List.set_cons_zero, List.set_cons_succ, i64_w, i32_w]
                rfl
              refine done_ (by kernel_rfl) ?_
              have HX4 := Lib.hid (HX3.out.below (Below.refl _ w3).drew)
              have HB4 := Lib.hid (HB3.out.trans ((Below.refl _ w3).drew.mono HB3.out.size))
              have HOW4 := Lib.hid (pw_own_below HOWN.out (Below.refl _ w3).drew)
              obtain ⟨w4, hw4⟩ : ∃ W, w3.drew = W := ⟨_, rfl⟩
              rw [hw4] at HX4 HB4 HOW4 ⊢
              clear hw4 hlk HLOOK HOWN k0 k1 k2 k3 k4 hgc
              go_wp2
              go_loopg [54] l.length (fun n t wr => ∃ k : Nat, n = l.length - k ∧ k ≤ l.length ∧ t = .int .i64 k ∧ Below w4.heap.size w4 wr ∧ Hid ((l.take k).any (fun x => decide (x.f3 = h.f3)) = false))
              case atStart => exact ⟨0, rfl, Nat.zero_le _, rfl, Below.refl _ _, Lib.hid rfl⟩
              case round =>
                obtain ⟨k, rfl, hk, rfl, hbr, HA⟩ := hrel
                by_cases hlt : k < l.length
                · obtain ⟨gb, hA, hgb, q0, q1, q2, q3, q4⟩ := own_hold_at (pw_own_below HOW4.out hbr) k hlt
                  subst hA
                  obtain ⟨x, hxe⟩ : ∃ x, l[k] = x := ⟨_, rfl⟩
                  have HS := Lib.hid (show (l.take (k + 1)).any (fun x => decide (x.f3 = h.f3)) = decide (x.f3 = h.f3) by rw [List.take_succ_eq_append_getElem hlt, List.any_append, HA.out, hxe]; simp)
                  have HIN := Lib.hid (show x ∈ l from hxe ▸ List.getElem_mem hlt)
                  rw [hxe] at q0 q1 q2 q3 q4
                  clear hxe
                  have hki : (k : Int) < (l.length : Int) := by omega
                  obtain ⟨k0, k1, k2, k3, k4⟩ := (HX4.out.below hbr).facts
                  have hzl : z < wr.heap.size := (Array.getElem?_eq_some_iff.1 (HX4.out.below hbr)).1
                  by_cases he : x.f3 = h.f3
                  · have heb : (x.f3 == h.f3) = true := by simp [he]
                    have HT := Lib.hid (show r = 8 by
                      have h1 := HF4.out
                      rw [if_pos (List.any_eq_true.2 ⟨x, HIN.out, by simp [he]⟩)] at h1
                      exact (Option.some.inj h1).symm)
                    clear he
                    go_wp2
                    go_ret
                    exact ⟨by rw [HT.out]; rfl, HB4.out.trans ((hbr.alloc hbr.size _).mono HB4.out.size)⟩
                  · have heb : (x.f3 == h.f3) = false := by simp [he]
                    have HS2 := Lib.hid (show (l.take (k + 1)).any (fun x => decide (x.f3 = h.f3)) = false by rw [HS.out]; simp [he])
                    clear he
                    go_wp2
                    go_roundg (l.length - (k + 1))
                    case measure => omega
                    case rel => exact ⟨k + 1, rfl, by omega, by go_num, hbr.alloc hbr.size _, HS2⟩
                · have hke : k = l.length := by omega
                  subst hke
                  rw [List.take_length] at HA
                  have hF5 := HF4.out
                  rw [HA.out, if_neg (by simp)] at hF5
                  have HX5 := Lib.hid (HX4.out.below hbr)
                  have HB5 := Lib.hid (HB4.out.trans (hbr.mono HB4.out.size))
                  obtain ⟨k0, k1, k2, k3, k4⟩ := HX5.out.facts
                  by_cases he : h.f0 = h.f1
                  · rw [if_pos he] at hF5
                    have heb : (h.f0.toList == h.f1.toList) = true := by rw [he]; simp
                    have HT := Lib.hid (Option.some.inj hF5)
                    clear he hF5
                    go_wp2
                    go_ret
                    exact ⟨by rw [← HT.out]; rfl, HB5.out⟩
                  · rw [if_neg he] at hF5
                    have heb := str_bool he
                    obtain ⟨b, hob, hF6⟩ := Option.bind_eq_some_iff.1 hF5
                    have HO := Lib.hid (go_owns (HG.out.below HB5.out) HOK.out kf h.f1 h.f0 b (by omega) hob)
                    clear he hF5 hob
                    cases b with
                    | true =>
                      have HT := Lib.hid (Option.some.inj (by simpa using hF6 : some (24 : Int) = some r))
                      clear hF6
                      go_wp2_with (go_at_call 29; refine HO.out.mono ?_; rintro e w6 ⟨rfl, hb6⟩)
                      go_ret
                      exact ⟨by rw [← HT.out]; rfl, HB5.out.trans (hb6.mono HB5.out.size)⟩
                    | false =>
                      have HT := Lib.hid (Option.some.inj (by simpa using hF6 : some (0 : Int) = some r))
                      clear hF6
                      go_wp2_with (go_at_call 29; refine HO.out.mono ?_; rintro e w6 ⟨rfl, hb6⟩)
                      go_ret
                      exact ⟨by rw [← HT.out]; rfl, HB5.out.trans (hb6.mono HB5.out.size)⟩
            · rw [if_neg dy] at hF
              have dyb : isDay h.f3 = false := by simpa using dy
              rw [dyb] at HD
              have HT := Lib.hid (Option.some.inj hF)
              clear hF dy dyb HF
              go_wp2_with (first
                | (go_at_call 28; refine (HR.out _).mono ?_; rintro e w2 ⟨rfl, hb2⟩; have HX2 := Lib.hid (HB0.out.below hb2); have HB2 := Lib.hid (HB.out.trans (hb2.mono HB.out.size)); obtain ⟨p0, p1, p2, p3, p4⟩ := HX2.out.facts)
                | (go_at_call 23; refine (HD.out _ HB2.out).mono ?_; rintro e w3 ⟨rfl, hb3⟩; have HX3 := Lib.hid (HX2.out.below hb3); have HB3 := Lib.hid (HB2.out.trans (hb3.mono HB2.out.size))))
              go_ret
              exact ⟨by rw [← HT.out]; rfl, HB3.out⟩
      · have hf1 : fitH h = false := by unfold fitH; rw [show rightB h.f2.f0 h.f2.f1 = false by simpa using r1]; simp
        rw [hf1] at hF
        have HT := Lib.hid (Option.some.inj (by simpa using hF : some (2 : Int) = some r))
        rw [show rightB h.f2.f0 h.f2.f1 = false by simpa using r1] at HR
        clear hF hf1 r1
        go_wp2_with (go_at_call 28; refine (HR.out _).mono ?_; rintro e w2 ⟨rfl, hb2⟩; have HX2 := Lib.hid (HB0.out.below hb2); have HB2 := Lib.hid (HB.out.trans (hb2.mono HB.out.size)); obtain ⟨p0, p1, p2, p3, p4⟩ := HX2.out.facts)
        go_ret
        exact ⟨by rw [← HT.out]; rfl, HB2.out⟩
    · rw [if_neg c1] at hF
      have c1b : wcodeB h.f1 = false := by simpa using c1
      rw [c1b] at HC1
      have HT := Lib.hid (Option.some.inj hF)
      clear hF c0 c1
      go_enter Tryd.func17, Tryd.ntmps17
      go_wp2_with (first
        | (go_at_call_of 22 (Value.string h.f0); refine (HC0.out _).mono ?_; rintro e w1 ⟨rfl, rfl⟩)
        | (go_at_call_of 22 (Value.string h.f1); refine (HC1.out _).mono ?_; rintro e w1 ⟨rfl, rfl⟩))
      go_ret
      exact ⟨by rw [← HT.out]; rfl, HB.out⟩
  · rw [if_neg c0] at hF
    have c0b : wcodeB h.f0 = false := by simpa using c0
    rw [c0b] at HC0
    have HT := Lib.hid (Option.some.inj hF)
    clear hF c0
    go_enter Tryd.func17, Tryd.ntmps17
    go_wp2_with (go_at_call_of 22 (Value.string h.f0); refine (HC0.out _).mono ?_; rintro e w1 ⟨rfl, rfl⟩)
    go_ret
    exact ⟨by rw [← HT.out]; rfl, HB.out⟩
end
end Go.Proofs.YtikdiepcfdimgaaDoor.POw
namespace Go.Proofs.YtikdiepcfdimgaaDoor.POw
open Go.RowKit Go.Lib Go.Proofs.YtikdiepcfdimgaaDoorW.PrintWords Go.Proofs.YtikdiepcfdimgaaDoorW.PrintLast Go.Proofs.YtikdiepcfdimgaaDoorW.PrintMore
def insH (l : List Hold) (h : Hold) : List Hold := l.filter (fun a => hLt a h) ++ h :: l.filter (fun a => !hLt a h)
theorem insH_perm (l : List Hold) (h : Hold) : (insH l h).Perm (l ++ [h]) := by
  unfold insH
  refine (List.perm_middle).trans ?_
  refine List.Perm.trans (List.Perm.cons h (List.filter_append_perm _ l)) ?_
  exact (List.perm_append_singleton h l).symm
theorem insH_sorted {l : List Hold} {h : Hold} (hs : l.Pairwise (fun a b => a.f3 < b.f3)) (hf : ∀ x ∈ l, x.f3 ≠ h.f3) : (insH l h).Pairwise (fun a b => a.f3 < b.f3) := by
  unfold insH
  rw [List.pairwise_append]
  refine ⟨hs.filter _, ?_, ?_⟩
  · rw [List.pairwise_cons]
    refine ⟨fun x hx => ?_, hs.filter _⟩
    obtain ⟨h1, h2⟩ := List.mem_filter.1 hx
    have := hf x h1
    simp [hLt] at h2
    omega
  · intro x hx y hy
    obtain ⟨h1, h2⟩ := List.mem_filter.1 hx
    simp [hLt] at h2
    rcases List.mem_cons.1 hy with rfl | hy
    · exact h2
    · obtain ⟨h3, h4⟩ := List.mem_filter.1 hy
      simp [hLt] at h4
      omega
theorem sorted_ext_h : ∀ {l1 l2 : List Hold}, l1.Pairwise (fun a b => a.f3 < b.f3) → l2.Pairwise (fun a b => a.f3 < b.f3) → (∀ x, x ∈ l1 ↔ x ∈ l2) → l1 = l2
  | [], [], _, _, _ => rfl
  | [], b :: l2, _, _, h => by have := (h b).2 (List.mem_cons_self ..); cases this
  | a :: l1, [], _, _, h => by have := (h a).1 (List.mem_cons_self ..); cases this
  | a :: l1, b :: l2, h1, h2, h => by
    obtain ⟨ha, h1'⟩ := List.pairwise_cons.1 h1
    obtain ⟨hb, h2'⟩ := List.pairwise_cons.1 h2
    have hab : a = b := by
      rcases List.mem_cons.1 ((h a).1 (List.mem_cons_self ..)) with e | e
      · exact e
      · rcases List.mem_cons.1 ((h b).2 (List.mem_cons_self ..)) with e2 | e2
        · exact e2.symm
        · have k1 := hb a e
          have k2 := ha b e2
          omega
    subst hab
    have na1 : a ∉ l1 := fun hm => by have := ha a hm; omega
    have na2 : a ∉ l2 := fun hm => by have := hb a hm; omega
    rw [sorted_ext_h h1' h2' (fun x => ?_)]
    constructor
    · intro hx
      rcases List.mem_cons.1 ((h x).1 (List.mem_cons_of_mem _ hx)) with e | e
      · exact absurd (e ▸ hx) na1
      · exact e
    · intro hx
      rcases List.mem_cons.1 ((h x).2 (List.mem_cons_of_mem _ hx)) with e | e
      · exact absurd (e ▸ hx) na2
      · exact e
theorem grown_then {w a b : World} {row row' : Option Nat} (h : w.grownBy a row) (k : a.grownBy b row') (hr : row' = row ∨ ∃ n, row' = some n ∧ w.heap.size ≤ n) : w.grownBy b row :=
  ⟨k.os.trans h.os, k.tape.trans h.tape, k.output.trans h.output, Nat.le_trans h.size k.size, fun i hi hne => (k.block i (Nat.lt_of_lt_of_le hi h.size) (fun e => by
    rcases hr with hr | ⟨n, hr, hn⟩
    · exact hne (e.trans hr)
    · rw [hr] at e; injection e with e; omega)).trans (h.block i hi hne)⟩
theorem grown_below {w a b : World} {row : Option Nat} (h : w.grownBy a row) (k : Below a.heap.size a b) : w.grownBy b row :=
  ⟨k.os.trans h.os, k.tape.trans h.tape, k.output.trans h.output, Nat.le_trans h.size k.size, fun i hi hne => (k.block i (Nat.lt_of_lt_of_le hi h.size)).trans (h.block i hi hne)⟩
theorem grown_set {w a : World} {row : Option Nat} (h : w.grownBy a row) {p : Addr} (hp : w.heap.size ≤ p.block) (u : Value) : w.grownBy (a.setCell p u) row :=
  ⟨h.os, h.tape, h.output, by simpa [World.setCell] using h.size, fun i hi hne => (Below.heap_setCell a p u i (by omega)).trans (h.block i hi hne)⟩
section
variable {w W : World} {B g m1 m2 : Nat} {V : Pr → Value} {U : ByteArray → Value} {vE vC : Value} {s : Gr}
theorem GrAt.map1 (h : GrAt w B g m1 m2 V U vE vC s) : ∃ es clock, w.heap[m1]? = some (.map es clock) := by
  obtain ⟨es, clock, hb, _⟩ := h.sh
  exact ⟨es, clock, hb⟩
theorem GrAt.map2 (h : GrAt w B g m1 m2 V U vE vC s) : ∃ es clock, w.heap[m2]? = some (.map es clock) := by
  obtain ⟨es, clock, hb, _⟩ := h.ow
  exact ⟨es, clock, hb⟩
theorem own_block_cells {B e sz n : Nat} {v : Value} {xs : List Value} (h : w.ownsRow B e sz v n xs) {k : Nat} (hk : v.ownBlock = some k) : ∃ cs, w.heap[k]? = some (.cells cs e (0, 0)) := (q_typed (q_of_own h) k hk).2
theorem own_not_block {B e sz n k : Nat} {v : Value} {xs : List Value} (h : w.ownsRow B e sz v n xs) {o : Obj} (ho : w.heap[k]? = some o) (hne : ∀ cs, o ≠ .cells cs e (0, 0)) : v.ownBlock ≠ some k := fun he => by
  obtain ⟨cs, hc⟩ := own_block_cells h he
  rw [ho] at hc
  injection hc with hc
  exact hne cs hc
theorem GrAt.setShares (h : GrAt w B g m1 m2 V U vE vC s) (hdif : m1 ≠ m2) {k : Pr} (hk1 : k.1.size ≤ 1000) (hk2 : k.2.size ≤ 1000) {v' : Value} {l' : List Hold} (hne' : l' ≠ [])
    (hgr : w.grownBy W (((s.sh k).map fun _ => V k).getD (.slice none 0 0)).ownBlock) (hown : W.ownsRow B 41 5 v' l'.length (flatH l')) (hat : v'.ownBlock = (((s.sh k).map fun _ => V k).getD (.slice none 0 0)).ownBlock ∨ ∃ b, v'.ownBlock = some b ∧ w.heap.size ≤ b) :
    ∃ ob, (Instr.mapUpdate 51 (.map (some m1)) (.agg #[.string k.1, .string k.2]) v').run Tryd.prog W = .ok () (ChangeMaps.setBlock W m1 ob) ∧
      GrAt (ChangeMaps.setBlock W m1 ob) B g m1 m2 (fun y => if y = k then v' else V y) U vE vC { s with sh := fun y => if y = k then some l' else s.sh y } := by
  obtain ⟨v0, hv0⟩ : ∃ v0, ((s.sh k).map fun _ => V k).getD (.slice none 0 0) = v0 := ⟨_, rfl⟩
  rw [hv0] at hgr hat
  have hrow : ∀ b, v0.ownBlock = some b → ∃ cs, w.heap[b]? = some (.cells cs 41 (0, 0)) := fun b hb => by
    cases hs : s.sh k with
    | none => rw [hs] at hv0; simp at hv0; rw [← hv0] at hb; simp [Value.ownBlock] at hb
    | some l => rw [hs] at hv0; simp at hv0; rw [← hv0] at hb; exact own_block_cells (h.shr k l hs).2 hb
  have hsame : ∀ {b : Nat} {o : Obj}, w.heap[b]? = some o → (∀ cs, o ≠ .cells cs 41 (0, 0)) → W.heap[b]? = some o := fun {b o} ho hne => by
    rw [hgr.block b (Array.getElem?_eq_some_iff.1 ho).1 (fun e => ?_)]
    · exact ho
    · obtain ⟨cs, hc⟩ := hrow b e.symm
      rw [ho] at hc; injection hc with hc
      exact hne cs hc
  obtain ⟨es1, cl1, hm1⟩ := h.map1
  obtain ⟨es2, cl2, hm2⟩ := h.map2
  have hw1 := hsame hm1 (fun _ e => by cases e)
  have hw2 := hsame hm2 (fun _ e => by cases e)
  have hwg := hsame h.blk (fun _ e => by injection e with _ e; exact absurd e (by decide))
  have hg1 : g ≠ m1 := fun e => by have := h.blk; rw [e, hm1] at this; cases this
  obtain ⟨kl, hkl⟩ := key_pr hk1 hk2
  obtain ⟨ob, hob, hm⟩ := (h.sh.of_block (hw1.trans hm1.symm)).store pair_keyed encP_inj Tryd.underlying51 k v' hkl
  have hoth : ∀ b, b ≠ m1 → (ChangeMaps.setBlock W m1 ob).heap[b]? = W.heap[b]? := fun b hb => setBlock_heap _ _ _ _ hb
  have hrow2 : ∀ {e sz n : Nat} {v : Value} {xs : List Value}, w.ownsRow B e sz v n xs → (∀ b, v.ownBlock = some b → some b ≠ v0.ownBlock) → (ChangeMaps.setBlock W m1 ob).ownsRow B e sz v n xs := fun {e sz n v xs} ho hne => by
    refine own_move ho (fun b hb => ?_)
    have hbl := own_lt ho b hb
    rw [hoth b (fun e1 => by obtain ⟨cs, hc⟩ := own_block_cells ho hb; rw [e1, hm1] at hc; cases hc), hgr.block b hbl (hne b hb)]
  have htype : ∀ {e sz n : Nat} {v : Value} {xs : List Value}, w.ownsRow B e sz v n xs → e ≠ 41 → ∀ b, v.ownBlock = some b → some b ≠ v0.ownBlock := fun {e sz n v xs} ho hne b hb e1 => by
    obtain ⟨cs, hc⟩ := own_block_cells ho hb
    obtain ⟨cs', hc'⟩ := hrow b e1.symm
    rw [hc] at hc'
    injection hc' with hc'; injection hc' with _ hc'
    exact hne hc'
  refine ⟨ob, hob, ⟨(hoth g hg1).trans hwg, h.hg, h.h1, h.h2, ?_, ?_, ?_, ?_, ?_, ?_, ?_⟩⟩
  · have e : (fun y => ((if y = k then some l' else s.sh y)).map fun _ => if y = k then v' else V y) = putM (fun y => (s.sh y).map fun _ => V y) k v' := by
      funext y
      unfold putM
      by_cases hy : y = k
      · simp [hy]
      · simp [hy]
    show MapAt _ _ _ _ _ (fun y => ((if y = k then some l' else s.sh y)).map fun _ => if y = k then v' else V y)
    rw [e]; exact hm
  · exact h.ow.of_block ((hoth m2 hdif.symm).trans (hw2.trans hm2.symm))
  · intro y l hl
    simp only at hl ⊢
    by_cases hy : y = k
    · rw [if_pos hy] at hl ⊢
      cases hl
      exact ⟨hne', own_move hown (fun b hb => hoth b (fun e1 => by obtain ⟨cs, hc⟩ := own_block_cells hown hb; rw [e1, hw1] at hc; cases hc))⟩
    · rw [if_neg hy] at hl ⊢
      obtain ⟨h1, h2⟩ := h.shr y l hl
      refine ⟨h1, hrow2 h2 (fun b hb e1 => ?_)⟩
      cases hs : s.sh k with
      | none => rw [hs] at hv0; simp at hv0; rw [← hv0] at e1; simp [Value.ownBlock] at e1
      | some l0 =>
        rw [hs] at hv0; simp at hv0
        rw [← hv0] at e1
        exact hy (h.shd y k l l0 hl hs (hb.trans e1))
  · intro y y' l l2 hl hl2 he
    simp only at hl hl2 he
    have hnew : ∀ z lz, z ≠ k → s.sh z = some lz → (V z).ownBlock ≠ v'.ownBlock := fun z lz hz hsz e1 => by
      obtain ⟨hlz, hoz⟩ := h.shr z lz hsz
      have hbz : ∃ b, (V z).ownBlock = some b := by
        rcases hoz.2 with ⟨_, h0⟩ | ⟨g', cap, cur, hv, _⟩
        · exact absurd (List.eq_nil_of_length_eq_zero h0) hlz
        · exact ⟨g', by rw [hv]; rfl⟩
      obtain ⟨b, hb⟩ := hbz
      have hbl := own_lt hoz b hb
      rcases hat with hat | ⟨b', hb', hle⟩
      · cases hs : s.sh k with
        | none => rw [hs] at hv0; simp at hv0; rw [hb, hat, ← hv0] at e1; simp [Value.ownBlock] at e1
        | some l0 =>
          rw [hs] at hv0; simp at hv0
          rw [hat, ← hv0] at e1
          exact hz (h.shd z k lz l0 hsz hs e1)
      · rw [hb, hb'] at e1; injection e1 with e1; omega
    by_cases hy : y = k <;> by_cases hy' : y' = k
    · rw [hy, hy']
    · rw [if_neg hy'] at hl2 he; rw [if_pos hy] at he
      exact absurd he.symm (hnew y' l2 hy' hl2)
    · rw [if_neg hy] at hl he; rw [if_pos hy'] at he
      exact absurd he (hnew y l hy hl)
    · rw [if_neg hy] at hl he; rw [if_neg hy'] at hl2 he
      exact h.shd y y' l l2 hl hl2 he
  · intro x l hl
    exact hrow2 (h.owr x l hl) (htype (h.owr x l hl) (by decide))
  · exact hrow2 h.enr (htype h.enr (by decide))
  · exact hrow2 h.chr (htype h.chr (by decide))
end
end Go.Proofs.YtikdiepcfdimgaaDoor.POw
namespace Go.Proofs.YtikdiepcfdimgaaDoor.POw
open Go.RowKit Go.Lib Go.Proofs.YtikdiepcfdimgaaDoorW.PrintWords Go.Proofs.YtikdiepcfdimgaaDoorW.PrintLast Go.Proofs.YtikdiepcfdimgaaDoorW.PrintMore
section
variable {w W : World} {B g m1 m2 : Nat} {V : Pr → Value} {U : ByteArray → Value} {vE vC : Value} {s : Gr}
theorem own_ne_of {B e sz n k e' : Nat} {v : Value} {xs : List Value} {cs : Array Value} (h : w.ownsRow B e sz v n xs) (hk : w.heap[k]? = some (.cells cs e' (0, 0))) (hne : e ≠ e') : v.ownBlock ≠ some k :=
  own_not_block h hk (fun cs' e1 => by injection e1 with _ e1; exact hne e1.symm)
theorem GrAt.setOwners (h : GrAt w B g m1 m2 V U vE vC s) (hdif : m1 ≠ m2) {x : ByteArray} (hx : x.size ≤ 1000) {v' : Value} {l' : List ByteArray} (hown : w.ownsRow B 9 1 v' l'.length (strs l')) :
    ∃ ob, (Instr.mapUpdate 52 (.map (some m2)) (.string x) v').run Tryd.prog w = .ok () (ChangeMaps.setBlock w m2 ob) ∧
      GrAt (ChangeMaps.setBlock w m2 ob) B g m1 m2 V (fun y => if y = x then v' else U y) vE vC { s with ow := fun y => if y = x then some l' else s.ow y } := by
  obtain ⟨es1, cl1, hm1⟩ := h.map1
  obtain ⟨es2, cl2, hm2⟩ := h.map2
  obtain ⟨kl, hkl⟩ := key_s hx
  obtain ⟨ob, hob, hm⟩ := h.ow.store str_keyed encS_inj Tryd.underlying52 x v' hkl
  have hoth : ∀ b, b ≠ m2 → (ChangeMaps.setBlock w m2 ob).heap[b]? = w.heap[b]? := fun b hb => setBlock_heap _ _ _ _ hb
  have hrow : ∀ {e sz n : Nat} {v : Value} {xs : List Value}, w.ownsRow B e sz v n xs → (ChangeMaps.setBlock w m2 ob).ownsRow B e sz v n xs := fun {e sz n v xs} ho =>
    own_move ho (fun b hb => hoth b (fun e1 => own_not_block ho hm2 (fun _ e => by cases e) (by rw [hb, e1])))
  refine ⟨ob, hob, ⟨(hoth g (fun e => by have := h.blk; rw [e, hm2] at this; cases this)).trans h.blk, h.hg, h.h1, h.h2, h.sh.of_block (hoth m1 hdif), ?_, ?_, h.shd, ?_, hrow h.enr, hrow h.chr⟩⟩
  · have e : (fun y => ((if y = x then some l' else s.ow y)).map fun _ => if y = x then v' else U y) = putM (fun y => (s.ow y).map fun _ => U y) x v' := by
      funext y
      unfold putM
      by_cases hy : y = x
      · simp [hy]
      · simp [hy]
    show MapAt _ _ _ _ _ (fun y => ((if y = x then some l' else s.ow y)).map fun _ => if y = x then v' else U y)
    rw [e]; exact hm
  · intro k l hl
    exact ⟨(h.shr k l hl).1, hrow (h.shr k l hl).2⟩
  · intro y l hl
    simp only at hl ⊢
    by_cases hy : y = x
    · rw [if_pos hy] at hl ⊢
      cases hl; exact hrow hown
    · rw [if_neg hy] at hl ⊢
      exact hrow (h.owr y l hl)
theorem GrAt.setEn (h : GrAt w B g m1 m2 V U vE vC s) {v' : Value} {l' : List ByteArray} (hown : w.ownsRow B 9 1 v' l'.length (strs l')) :
    GrAt (w.setCell ⟨g, 2, none⟩ v') B g m1 m2 V U v' vC { s with en := l' } := by
  obtain ⟨es1, cl1, hm1⟩ := h.map1
  obtain ⟨es2, cl2, hm2⟩ := h.map2
  have hoth : ∀ b, b ≠ g → (w.setCell ⟨g, 2, none⟩ v').heap[b]? = w.heap[b]? := fun b hb => Below.heap_setCell _ _ _ _ hb
  have hrow : ∀ {e sz n : Nat} {v : Value} {xs : List Value}, w.ownsRow B e sz v n xs → e ≠ 55 → (w.setCell ⟨g, 2, none⟩ v').ownsRow B e sz v n xs := fun {e sz n v xs} ho hne =>
    own_move ho (fun b hb => hoth b (fun e1 => own_ne_of ho h.blk hne (by rw [hb, e1])))
  refine ⟨?_, h.hg, h.h1, h.h2, h.sh.of_block (hoth m1 (fun e => by have := h.blk; rw [← e, hm1] at this; cases this)), h.ow.of_block (hoth m2 (fun e => by have := h.blk; rw [← e, hm2] at this; cases this)), fun k l hl => ⟨(h.shr k l hl).1, hrow (h.shr k l hl).2 (by decide)⟩, h.shd, fun x l hl => hrow (h.owr x l hl) (by decide), hrow hown (by decide), hrow h.chr (by decide)⟩
  exact blk_set h.blk 2 v'
theorem GrAt.setCh (h : GrAt w B g m1 m2 V U vE vC s) {v' : Value} {l' : List Int} (hown : w.ownsRow B 3 1 v' l'.length (intVs l')) :
    GrAt (w.setCell ⟨g, 3, none⟩ v') B g m1 m2 V U vE v' { s with ch := l' } := by
  obtain ⟨es1, cl1, hm1⟩ := h.map1
  obtain ⟨es2, cl2, hm2⟩ := h.map2
  have hoth : ∀ b, b ≠ g → (w.setCell ⟨g, 3, none⟩ v').heap[b]? = w.heap[b]? := fun b hb => Below.heap_setCell _ _ _ _ hb
  have hrow : ∀ {e sz n : Nat} {v : Value} {xs : List Value}, w.ownsRow B e sz v n xs → e ≠ 55 → (w.setCell ⟨g, 3, none⟩ v').ownsRow B e sz v n xs := fun {e sz n v xs} ho hne =>
    own_move ho (fun b hb => hoth b (fun e1 => own_ne_of ho h.blk hne (by rw [hb, e1])))
  refine ⟨?_, h.hg, h.h1, h.h2, h.sh.of_block (hoth m1 (fun e => by have := h.blk; rw [← e, hm1] at this; cases this)), h.ow.of_block (hoth m2 (fun e => by have := h.blk; rw [← e, hm2] at this; cases this)), fun k l hl => ⟨(h.shr k l hl).1, hrow (h.shr k l hl).2 (by decide)⟩, h.shd, fun x l hl => hrow (h.owr x l hl) (by decide), hrow h.enr (by decide), hrow hown (by decide)⟩
  exact blk_set h.blk 3 v'
end
def addG (s : Gr) (h : Hold) : Gr where
  sh := fun k => if k = h.pr then some (insH (s.shL h.pr) h) else s.sh k
  ow := fun x => if x = h.f1 then some (withG sLt (s.owL h.f1) h.f0) else s.ow x
  en := withG sLt (withG sLt s.en h.f0) h.f1
  ch := withG iLt s.ch h.f3
theorem addG_shL (s : Gr) (h : Hold) (k : Pr) : (addG s h).shL k = if k = h.pr then insH (s.shL h.pr) h else s.shL k := by
  unfold Gr.shL addG
  by_cases hk : k = h.pr
  · simp [hk, Gr.shL]
  · simp [hk]
theorem addG_owL (s : Gr) (h : Hold) (x : ByteArray) : (addG s h).owL x = if x = h.f1 then withG sLt (s.owL h.f1) h.f0 else s.owL x := by
  unfold Gr.owL addG
  by_cases hk : x = h.f1
  · simp [hk, Gr.owL]
  · simp [hk]
end Go.Proofs.YtikdiepcfdimgaaDoor.POw
