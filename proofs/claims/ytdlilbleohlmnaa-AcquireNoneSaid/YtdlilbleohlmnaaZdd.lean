/- The walk of the program and the plain laws behind the statements of this seat, part 4. -/
import Derived.Test.YtdlilbleohlmnaaZdc
import Derived.Shelf.SlSortCmp.QuietGrown
import Derived.WalkMore
import Derived.WalkSpells
import Derived.Deep.DeepCutAuto
import Derived.Deep.CutBlock
import Derived.Ground.SlsfProg
import Derived.Shelf.SlSortCmp.InsertionK
import Derived.Test.YtdlilbleohlmnaaProg
import Derived.Shelf.SlSortFuncK.ComposeK
import Derived.Lib.Hide
import Derived.Shelf.SlSortFuncK.HeapSortK
import Derived.Maps.OwnOps
import Derived.WideLaws
import Derived.DeepKeys4
import Derived.KernelRfl
import Derived.RowKit3
import Derived.Maps.RangeWalk
import Derived.Deep.AppendLies
import Derived.Maps.AppendAt
import Derived.Ground.SlgnProg
import Derived.Shelf.SlicesE.Clone
import Derived.Ground.NamesProg
import Derived.Shelf.Sort.Plain
import Derived.Shelf.Slices.In.SortNone
set_option linter.all false
namespace Go.Proofs.Ytdlilbleohlmnaa.Stb
open Go.Shelf Go.RowKit Go.Lib Go.Sort
variable {α : Type} [Inhabited α]
set_option maxHeartbeats 4000000 in
set_option maxRecDepth 1000000 in
theorem go_sym_last (enc : α → List Value) (k : Nat) (w : World) (blk off size : Nat) (B : RowB enc k w blk off size) (cap a m b g : Nat) (cb : Array Value) (cf : α → α → Int) (eg : ∀ args w, (callFunc g args).run Try.prog w = .ok (.enter g args) w) (hcmp : CmpLays Try.prog g cb enc k cf blk off size w) (m0 : Nat) (d0 : Array α) (os : Array Obj) (hs : d0.size = size) (ham : a + 1 < m) (hmb : b = m + 1) (hbn : b ≤ size) :
    Calls Try.prog 108 #[.slice (some ⟨blk, off, none⟩) size cap, .int .i64 a, .int .i64 m, .int .i64 b, .func (.func g) #[] cb] (sortWorldK enc k w blk off m0 d0 os) fun e w' =>
      e = .returned (.tuple #[]) ∧ ∃ m' os', w' = sortWorldK enc k w blk off m' (shl d0 m (m - bs (fun h => !ltOf cf d0[m]! d0[h]!) (m - a + 1) a m)) os' := by
  have HB : Hid (RowB enc k w blk off size) := B
  have HC : Aside _ := hcmp
  have hsz := B.hz
  have zE := B.zE
  have mixed : Try.prog.follows Departure.mixedOrders = true := by kernel_rfl
  have e1 : IntKind.i64.wrap ((m : Int) - (a : Int)) = (m : Int) - (a : Int) := by rw [IntKind.wrap_i64]; omega
  have e2 : IntKind.i64.wrap ((b : Int) - (m : Int)) = 1 := by rw [IntKind.wrap_i64]; omega
  have e3 : ((m : Int) - (a : Int) == 1) = false := beq_eq_false_iff_ne.mpr (by omega)
  have hal : a < m := by omega
  have hmb2 : m < b := by omega
  have HAM : Hid (b = m + 1) := hmb
  clear B hcmp hmb
  go_enter Try.func108, Try.ntmps108
  go_wp2
  go_loopg [14, 15, 16] (m - a) (fun gk vi vj vh wr => ∃ (i j q f : Nat) (oq : Array Obj), vi = .int .i64 i ∧ vj = .int .i64 j ∧ a ≤ i ∧ i ≤ j ∧ j ≤ m ∧ j - i ≤ gk ∧ j - i < f ∧ wr = sortWorldK enc k w blk off q d0 oq ∧ Hid (bs (fun h => !ltOf cf d0[m]! d0[h]!) f i j = bs (fun h => !ltOf cf d0[m]! d0[h]!) (m - a + 1) a m))
  case atStart => exact ⟨a, m, m0, m - a + 1, os, rfl, rfl, by omega, by omega, by omega, by omega, by omega, rfl, Lib.hid rfl⟩
  case round =>
    obtain ⟨i, j, q, f, oq, rfl, rfl, hi1, hij, hjb, hg, hf, rfl, HR⟩ := hrel
    clear e1 e2 e3
    by_cases hlt : i < j
    · have hltz : (i : Int) < (j : Int) := by omega
      have w1 : IntKind.i64.wrap ((i : Int) + (j : Int)) = (i : Int) + (j : Int) := by rw [IntKind.wrap_i64]; omega
      have w2 : IntKind.u64.wrap ((i : Int) + (j : Int)) = (i : Int) + (j : Int) := by rw [IntKind.wrap_u64]; omega
      obtain ⟨h, hh⟩ : ∃ h, (i + j) / 2 = h := ⟨_, rfl⟩
      have eh : ((i : Int) + (j : Int)) / 2 = (h : Int) := by omega
      cases f with
      | zero => omega
      | succ f =>
      have hR := HR.out
      rw [bs, if_pos hlt, hh] at hR
      obtain ⟨xh, hxh⟩ : ∃ x, d0[h]! = x := ⟨_, rfl⟩
      obtain ⟨xa, hxa⟩ : ∃ x, d0[m]! = x := ⟨_, rfl⟩
      have hlv0 : ltOf cf d0[m]! d0[h]! = decide (cf xa xh < 0) := by rw [hxh, hxa]; rfl
      rw [hlv0] at hR
      have HR2 : Hid _ := hR
      have hz : (h : Int) < (size : Int) := by omega
      have az : (m : Int) < (size : Int) := by omega
      have hcls : ∀ n' os', grow ((sortWorldK enc k w blk off q d0 oq).drewN n') os' = sortWorldK enc k w blk off (q + n') d0 (oq ++ os') := fun n' os' => sortWorldK_grown_c enc k w blk off q n' d0 oq os'
      have hHc : ∀ n' os', HoldsK enc k (grow ((sortWorldK enc k w blk off q d0 oq).drewN n') os') blk off d0 := fun n' os' => by rw [hcls]; exact HB.out.holds _ _ _ hs
      have lj : ∀ n' os', Sem.run Try.prog (loadCellsFrom ⟨blk, off + h * k, none⟩ 0 k #[]) (grow ((sortWorldK enc k w blk off q d0 oq).drewN n') os') = .ok (enc xh).toArray (grow ((sortWorldK enc k w blk off q d0 oq).drewN n') os') := fun n' os' => by
        rw [← hxh]; exact run_loadCellsFrom_list _ _ _ _ k (HB.out.hk _) (HoldsK.cells (hHc n' os') HB.out.hk (by omega))
      have lp : ∀ n' os', Sem.run Try.prog (loadCellsFrom ⟨blk, off + m * k, none⟩ 0 k #[]) (grow ((sortWorldK enc k w blk off q d0 oq).drewN n') os') = .ok (enc xa).toArray (grow ((sortWorldK enc k w blk off q d0 oq).drewN n') os') := fun n' os' => by
        rw [← hxa]; exact run_loadCellsFrom_list _ _ _ _ k (HB.out.hk _) (HoldsK.cells (hHc n' os') HB.out.hk (by omega))
      have hcg : ∀ n' os', Calls Try.prog g (#[.agg (enc xa).toArray, .agg (enc xh).toArray] ++ cb) (grow ((sortWorldK enc k w blk off q d0 oq).drewN n') os') fun e w' => e = .returned (.int .i64 (cf xa xh)) ∧ ∃ q' os'', w' = grow ((grow ((sortWorldK enc k w blk off q d0 oq).drewN n') os').drewN q') os'' := fun n' os' => by
        rw [hcls]; exact HC.out _ _ d0 hs xa xh
      have CLS : Hid _ := hcls
      clear hcls hHc hR HR hxh hxa hlv0
      generalize hwq : sortWorldK enc k w blk off q d0 oq = wq at lj lp hcg CLS ⊢
      by_cases hlv : ¬ (cf xa xh < 0)
      · have HR3 := Lib.hid (show bs (fun h => !ltOf cf d0[m]! d0[h]!) f (h + 1) j = bs (fun h => !ltOf cf d0[m]! d0[h]!) (m - a + 1) a m from (if_pos (by simpa using hlv)).symm.trans HR2.out)
        clear HR2
        go_upto_region 17 with fail
        clear eh
        go_wp2_with fail
        go_quiet_grown (first | (go_at_fn g; refine Calls.grown_of (hcg _ _)))
        go_wp2
        any_goals (exfalso; rename_i hx; rw [decide_eq_false (show ¬ (cf xa xh < 0) by omega)] at hx; simp at hx; done)
        go_roundg (gk - 1)
        case measure => omega
        case rel => exact ⟨h + 1, j, _, f, _, by first | rfl | go_num, rfl, by omega, by omega, hjb, by omega, by omega, CLS.out nq osq, HR3⟩
      · have hlv := Decidable.not_not.1 hlv
        have HR3 := Lib.hid (show bs (fun h => !ltOf cf d0[m]! d0[h]!) f i h = bs (fun h => !ltOf cf d0[m]! d0[h]!) (m - a + 1) a m from (if_neg (by simpa using hlv)).symm.trans HR2.out)
        clear HR2
        go_upto_region 17 with fail
        clear eh
        go_wp2_with fail
        go_quiet_grown (first | (go_at_fn g; refine Calls.grown_of (hcg _ _)))
        go_wp2
        go_roundg (gk - 1)
        case measure => omega
        case rel => exact ⟨i, h, _, f, _, rfl, rfl, hi1, by omega, by omega, by omega, by omega, CLS.out nq osq, HR3⟩
    · have hij2 : i = j := by omega
      have hltz : ¬ ((i : Int) < (j : Int)) := by omega
      have hR : i = bs (fun h => !ltOf cf d0[m]! d0[h]!) (m - a + 1) a m := by
        have h0 := HR.out
        cases f with
        | zero => omega
        | succ f => rw [bs, if_neg hlt] at h0; exact h0
      have HR2 := Lib.hid hR
      have hib : i ≤ m := by omega
      clear hR HR hij2 hij hjb hg hf hlt
      go_wp2
      go_loopg [17] (m - i) (fun gk vx wr => ∃ (x p : Nat), vx = .int .i64 x ∧ i ≤ x ∧ x ≤ m ∧ x - i ≤ gk ∧ wr = sortWorldK enc k w blk off p (shl d0 m (m - x)) oq)
      case atStart => exact ⟨m, q, rfl, by omega, by omega, by omega, by rw [Nat.sub_self]; rfl⟩
      case round =>
        obtain ⟨x, p, rfl, hx1, hx2, hg, rfl⟩ := hrel
        by_cases hlt : i < x
        · have hltz2 : (i : Int) < (x : Int) := by omega
          obtain ⟨dk, hdk⟩ : ∃ d, shl d0 m (m - x) = d := ⟨_, rfl⟩
          have hsk : dk.size = size := by rw [← hdk, shl_size, hs]
          rw [hdk]
          obtain ⟨ya, hya⟩ : ∃ y, dk[x]! = y := ⟨_, rfl⟩
          obtain ⟨yb, hyb⟩ : ∃ y, dk[x - 1]! = y := ⟨_, rfl⟩
          have wb : IntKind.i64.wrap ((x : Int) - 1) = (x : Int) - 1 := by rw [IntKind.wrap_i64]; omega
          have b0 : (0 : Int) ≤ (x : Int) - 1 := by omega
          have az : (x : Int) < (size : Int) := by omega
          have bz : (x : Int) - 1 < (size : Int) := by omega
          have eb : ((x : Int) - 1).toNat = x - 1 := by omega
          have hHd : HoldsK enc k (sortWorldK enc k w blk off p dk oq).drew blk off dk := HB.out.holds p dk oq hsk
          have bnd : ∀ x, x < dk.size → x * k + k ≤ dk.size * k := fun x hx => by
            have := Nat.mul_le_mul_right k (show x + 1 ≤ dk.size from hx); rwa [Nat.add_mul, Nat.one_mul] at this
          generalize hwq : sortWorldK enc k w blk off p dk oq = wq at hHd ⊢
          have la : Sem.run Try.prog (loadCellsFrom ⟨blk, off + x * k, none⟩ 0 k #[]) wq.drew = .ok (enc ya).toArray wq.drew := by rw [← hya]; exact run_loadCellsFrom_list _ _ _ _ k (HB.out.hk _) (HoldsK.cells hHd HB.out.hk (by omega))
          have lb : Sem.run Try.prog (loadCellsFrom ⟨blk, off + (x - 1) * k, none⟩ 0 k #[]) wq.drew = .ok (enc yb).toArray wq.drew := by rw [← hyb]; exact run_loadCellsFrom_list _ _ _ _ k (HB.out.hk _) (HoldsK.cells hHd HB.out.hk (by omega))
          have s1 : Sem.run Try.prog (storeCells ⟨blk, off + x * k, none⟩ (enc yb) 0) wq.drew = .ok () (wq.drew.setCells blk (off + x * k) (enc yb)) := stores_of_holds _ hHd (x * k) _ (by rw [HB.out.hk, size_flatK]; exact bnd x (by omega)) (HB.out.h1 _)
          have s2 : Sem.run Try.prog (storeCells ⟨blk, off + (x - 1) * k, none⟩ (enc ya) 0) (wq.drew.setCells blk (off + x * k) (enc yb)) = .ok () ((wq.drew.setCells blk (off + x * k) (enc yb)).setCells blk (off + (x - 1) * k) (enc ya)) :=
            stores_of_holds _ (holds_setCells_c hHd (x * k) _ (by rw [HB.out.hk, size_flatK]; exact bnd x (by omega))) ((x - 1) * k) _ (by rw [HB.out.hk, size_setMany, size_flatK]; exact bnd (x - 1) (by omega)) (HB.out.h1 _)
          have hsA : (enc ya).length = k := HB.out.hk _
          have hsB : (enc yb).length = k := HB.out.hk _
          have HW : Hid (wq = sortWorldK enc k w blk off p dk oq) := hwq.symm
          have HD : Hid (shl d0 m (m - x) = dk) := hdk
          clear hwq hHd bnd hdk
          obtain ⟨cA, hcA⟩ : ∃ c, c = enc ya := ⟨_, rfl⟩
          obtain ⟨cB, hcB⟩ : ∃ c, c = enc yb := ⟨_, rfl⟩
          rw [← hcA] at la hsA
          rw [← hcB] at lb s1 hsB
          rw [← hcA, ← hcB] at s2
          have CC : Hid (cA = enc ya ∧ cB = enc yb) := ⟨hcA, hcB⟩
          clear hcA hcB
          go_wp2_with fail
          go_big_region_o
          all_goals go_wp2
          go_roundg (x - 1 - i)
          case measure => omega
          case rel =>
            refine ⟨x - 1, p + 1, by go_num, by omega, by omega, Nat.le_refl _, ?_⟩
            rw [CC.out.1, CC.out.2, HW.out, ← hya, ← hyb, show m - (x - 1) = (m - x) + 1 by omega, shl, HD.out, show m - (m - x) = x by omega]
            exact sortWorldK_swp_c enc k w blk off HB.out.hk p dk oq HB.out.hb x (x - 1) (by omega) (by omega)
        · have hltz2 : ¬ ((i : Int) < (x : Int)) := by omega
          go_wp2
          refine bodyPost_ret (results_none rfl _ _ _) rfl ?_
          exact ⟨rfl, p, oq, by rw [← HR2.out, show m - i = m - x by omega]⟩
end Go.Proofs.Ytdlilbleohlmnaa.Stb
namespace Go.Proofs.Ytdlilbleohlmnaa.Stb
open Go.Shelf Go.RowKit Go.Lib Go.Sort
variable {α : Type} [Inhabited α]
theorem rot_size : ∀ (f : Nat) (d : Array α) (m i j : Nat), (rot f d m i j).size = d.size
  | 0, _, _, _, _ => rfl
  | f + 1, d, m, i, j => by
    rw [rot]
    split
    · exact swr_size _ _ _ _
    · split <;> rw [rot_size f, swr_size]
theorem sym_size (lt : α → α → Bool) : ∀ (f : Nat) (d : Array α) (a m b : Nat), (sym lt f d a m b).size = d.size
  | 0, _, _, _, _ => rfl
  | f + 1, d, a, m, b => by
    rw [sym]
    split
    · exact shr_size _ _ _
    · split
      · exact shl_size _ _ _
      · dsimp only
        repeat' split
        all_goals simp only [sym_size lt f, rot_size]
def symTail (lt : α → α → Bool) (f : Nat) (d : Array α) (a m b mid n st : Nat) : Array α :=
  let e := n - st
  let d1 := if st < m ∧ m < e then rot (e - st) d m (m - st) (e - m) else d
  let d2 := if a < st ∧ st < mid then sym lt f d1 a st mid else d1
  if mid < e ∧ e < b then sym lt f d2 mid e b else d2
theorem sym_step (lt : α → α → Bool) (f : Nat) (d : Array α) {a m b c n s0 r0 : Nat} (h1 : a + 1 < m) (h2 : m + 1 < b) (hc : (a + b) / 2 = c) (hn : c + m = n) (hs : (if c < m then n - b else a) = s0) (hr : (if c < m then c else m) = r0) :
    sym lt (f + 1) d a m b = symTail lt f d a m b c n (bs (fun x => !lt d[n - 1 - x]! d[x]!) (r0 - s0 + 1) s0 r0) := by
  rw [sym, if_neg (by omega), if_neg (by omega)]; subst hc hn hs hr; rfl
set_option maxHeartbeats 8000000 in
set_option maxRecDepth 1000000 in
theorem go_sym_main (enc : α → List Value) (k : Nat) (w : World) (blk off size : Nat) (B : RowB enc k w blk off size) (cap g : Nat) (cb : Array Value) (cf : α → α → Int) (eg : ∀ args w, (callFunc g args).run Try.prog w = .ok (.enter g args) w) (hcmp : CmpLays Try.prog g cb enc k cf blk off size w) (fu a m b : Nat)
    (IH : ∀ (a m b q : Nat) (dk : Array α) (os : Array Obj), dk.size = size → a < m → m < b → b ≤ size → b - a ≤ fu → Calls Try.prog 108 #[.slice (some ⟨blk, off, none⟩) size cap, .int .i64 a, .int .i64 m, .int .i64 b, .func (.func g) #[] cb] (sortWorldK enc k w blk off q dk os) fun e w' =>
      e = .returned (.tuple #[]) ∧ ∃ m' os', w' = sortWorldK enc k w blk off m' (sym (ltOf cf) fu dk a m b) os')
    (m0 : Nat) (d0 : Array α) (os : Array Obj) (hs : d0.size = size) (ham : a + 1 < m) (hmb : m + 1 < b) (hbn : b ≤ size) (hfu : b - a ≤ fu + 1) :
    Calls Try.prog 108 #[.slice (some ⟨blk, off, none⟩) size cap, .int .i64 a, .int .i64 m, .int .i64 b, .func (.func g) #[] cb] (sortWorldK enc k w blk off m0 d0 os) fun e w' =>
      e = .returned (.tuple #[]) ∧ ∃ m' os', w' = sortWorldK enc k w blk off m' (sym (ltOf cf) (fu + 1) d0 a m b) os' := by
  have HIH : Aside _ := IH
  have HB : Hid (RowB enc k w blk off size) := B
  have HC : Aside _ := hcmp
  have hsz := B.hz
  have zE := B.zE
  have mixed : Try.prog.follows Departure.mixedOrders = true := by kernel_rfl
  have e1 : IntKind.i64.wrap ((m : Int) - (a : Int)) = (m : Int) - (a : Int) := by rw [IntKind.wrap_i64]; omega
  have e2 : IntKind.i64.wrap ((b : Int) - (m : Int)) = (b : Int) - (m : Int) := by rw [IntKind.wrap_i64]; omega
  have e3 : ((m : Int) - (a : Int) == 1) = false := beq_eq_false_iff_ne.mpr (by omega)
  have e4 : ((b : Int) - (m : Int) == 1) = false := beq_eq_false_iff_ne.mpr (by omega)
  obtain ⟨c, hc⟩ : ∃ c, (a + b) / 2 = c := ⟨_, rfl⟩
  have ec : ((a : Int) + (b : Int)) / 2 = (c : Int) := by omega
  have w1 : IntKind.i64.wrap ((a : Int) + (b : Int)) = (a : Int) + (b : Int) := by rw [IntKind.wrap_i64]; omega
  have w2 : IntKind.u64.wrap ((a : Int) + (b : Int)) = (a : Int) + (b : Int) := by rw [IntKind.wrap_u64]; omega
  obtain ⟨n, hn⟩ : ∃ n, c + m = n := ⟨_, rfl⟩
  have w3 : IntKind.i64.wrap ((c : Int) + (m : Int)) = (n : Int) := by rw [IntKind.wrap_i64]; omega
  have w4 : IntKind.i64.wrap ((n : Int) - 1) = (n : Int) - 1 := by rw [IntKind.wrap_i64]; omega
  have w5 : IntKind.i64.wrap ((n : Int) - (b : Int)) = (n : Int) - (b : Int) := by rw [IntKind.wrap_i64]; omega
  have HN : Hid ((a + b) / 2 = c ∧ c + m = n) := ⟨hc, hn⟩
  have hac : a < c := by omega
  have hcb : c < b := by omega
  clear B hcmp IH hc hn
  by_cases hcm : c < m
  · have hcz : (c : Int) < (m : Int) := by omega
    obtain ⟨s0, hs0⟩ : ∃ s, n - b = s := ⟨_, rfl⟩
    have HN2 := HN.out
    have w6 : (n : Int) - (b : Int) = (s0 : Int) := by omega
    go_enter Try.func108, Try.ntmps108
    go_wp2
    have hcn : c + m = n := HN.out.2
    have hc2 : a + b < 2 * c + 2 := by have := HN.out.1; omega
    have hc3 : 2 * c ≤ a + b := by have := HN.out.1; omega
    clear e1 e2 e3 e4 w3 w5 w6
    go_loopg [20, 21, 23] (c - s0) (fun gk vi vj vh wr => ∃ (i j q f : Nat) (oq : Array Obj), vi = .int .i64 i ∧ vj = .int .i64 j ∧ s0 ≤ i ∧ i ≤ j ∧ j ≤ c ∧ j - i ≤ gk ∧ j - i < f ∧ wr = sortWorldK enc k w blk off q d0 oq ∧ Hid (bs (fun h => !ltOf cf d0[n - 1 - h]! d0[h]!) f i j = bs (fun h => !ltOf cf d0[n - 1 - h]! d0[h]!) (c - s0 + 1) s0 c))
    case atStart => exact ⟨s0, c, m0, c - s0 + 1, os, rfl, rfl, by omega, by omega, by omega, by omega, by omega, rfl, Lib.hid rfl⟩
    case round =>
      obtain ⟨i, j, q, f, oq, rfl, rfl, hi1, hij, hjb, hg, hf, rfl, HR⟩ := hrel
      clear w1 w2 ec
      by_cases hlt : i < j
      · have hltz : (i : Int) < (j : Int) := by omega
        have w1 : IntKind.i64.wrap ((i : Int) + (j : Int)) = (i : Int) + (j : Int) := by rw [IntKind.wrap_i64]; omega
        have w2 : IntKind.u64.wrap ((i : Int) + (j : Int)) = (i : Int) + (j : Int) := by rw [IntKind.wrap_u64]; omega
        obtain ⟨h, hh⟩ : ∃ h, (i + j) / 2 = h := ⟨_, rfl⟩
        have eh : ((i : Int) + (j : Int)) / 2 = (h : Int) := by omega
        cases f with
        | zero => omega
        | succ f =>
        have hR := HR.out
        rw [bs, if_pos hlt, hh] at hR
        obtain ⟨p, hp⟩ : ∃ p, n - 1 - h = p := ⟨_, rfl⟩
        have wp : IntKind.i64.wrap ((n : Int) - 1 - (h : Int)) = (p : Int) := by rw [IntKind.wrap_i64]; omega
        obtain ⟨xh, hxh⟩ : ∃ x, d0[h]! = x := ⟨_, rfl⟩
        obtain ⟨xa, hxa⟩ : ∃ x, d0[p]! = x := ⟨_, rfl⟩
        have hlv0 : ltOf cf d0[n - 1 - h]! d0[h]! = decide (cf xa xh < 0) := by rw [hp, hxh, hxa]; rfl
        rw [hlv0] at hR
        have HR2 : Hid _ := hR
        have hz : (h : Int) < (size : Int) := by omega
        have az : (p : Int) < (size : Int) := by omega
        have hcls : ∀ n' os', grow ((sortWorldK enc k w blk off q d0 oq).drewN n') os' = sortWorldK enc k w blk off (q + n') d0 (oq ++ os') := fun n' os' => sortWorldK_grown_c enc k w blk off q n' d0 oq os'
        have hHc : ∀ n' os', HoldsK enc k (grow ((sortWorldK enc k w blk off q d0 oq).drewN n') os') blk off d0 := fun n' os' => by rw [hcls]; exact HB.out.holds _ _ _ hs
        have lj : ∀ n' os', Sem.run Try.prog (loadCellsFrom ⟨blk, off + h * k, none⟩ 0 k #[]) (grow ((sortWorldK enc k w blk off q d0 oq).drewN n') os') = .ok (enc xh).toArray (grow ((sortWorldK enc k w blk off q d0 oq).drewN n') os') := fun n' os' => by
          rw [← hxh]; exact run_loadCellsFrom_list _ _ _ _ k (HB.out.hk _) (HoldsK.cells (hHc n' os') HB.out.hk (by omega))
        have lp : ∀ n' os', Sem.run Try.prog (loadCellsFrom ⟨blk, off + p * k, none⟩ 0 k #[]) (grow ((sortWorldK enc k w blk off q d0 oq).drewN n') os') = .ok (enc xa).toArray (grow ((sortWorldK enc k w blk off q d0 oq).drewN n') os') := fun n' os' => by
          rw [← hxa]; exact run_loadCellsFrom_list _ _ _ _ k (HB.out.hk _) (HoldsK.cells (hHc n' os') HB.out.hk (by omega))
        have hcg : ∀ n' os', Calls Try.prog g (#[.agg (enc xa).toArray, .agg (enc xh).toArray] ++ cb) (grow ((sortWorldK enc k w blk off q d0 oq).drewN n') os') fun e w' => e = .returned (.int .i64 (cf xa xh)) ∧ ∃ q' os'', w' = grow ((grow ((sortWorldK enc k w blk off q d0 oq).drewN n') os').drewN q') os'' := fun n' os' => by
          rw [hcls]; exact HC.out _ _ d0 hs xa xh
        have CLS : Hid _ := hcls
        clear hcls hHc hR HR hxh hxa hlv0
        generalize hwq : sortWorldK enc k w blk off q d0 oq = wq at lj lp hcg CLS ⊢
        by_cases hlv : ¬ (cf xa xh < 0)
        · have HR3 := Lib.hid (show bs (fun h => !ltOf cf d0[n - 1 - h]! d0[h]!) f (h + 1) j = bs (fun h => !ltOf cf d0[n - 1 - h]! d0[h]!) (c - s0 + 1) s0 c from (if_pos (by simpa using hlv)).symm.trans HR2.out)
          clear HR2
          go_upto_region 35 with fail
          clear eh
          go_wp2_with fail
          go_quiet_grown (first | (go_at_fn g; refine Calls.grown_of (hcg _ _)))
          go_wp2
          any_goals (exfalso; rename_i hx; rw [decide_eq_false (show ¬ (cf xa xh < 0) by omega)] at hx; simp at hx; done)
          go_roundg (gk - 1)
          case measure => omega
          case rel => exact ⟨h + 1, j, _, f, _, by first | rfl | go_num, rfl, by omega, by omega, hjb, by omega, by omega, CLS.out nq osq, HR3⟩
        · have hlv := Decidable.not_not.1 hlv
          have HR3 := Lib.hid (show bs (fun h => !ltOf cf d0[n - 1 - h]! d0[h]!) f i h = bs (fun h => !ltOf cf d0[n - 1 - h]! d0[h]!) (c - s0 + 1) s0 c from (if_neg (by simpa using hlv)).symm.trans HR2.out)
          clear HR2
          go_upto_region 35 with fail
          clear eh
          go_wp2_with fail
          go_quiet_grown (first | (go_at_fn g; refine Calls.grown_of (hcg _ _)))
          go_wp2
          go_roundg (gk - 1)
          case measure => omega
          case rel => exact ⟨i, h, _, f, _, rfl, rfl, hi1, by omega, by omega, by omega, by omega, CLS.out nq osq, HR3⟩
      · have hij2 : i = j := by omega
        have hltz : ¬ ((i : Int) < (j : Int)) := by omega
        have hR : bs (fun h => !ltOf cf d0[n - 1 - h]! d0[h]!) (c - s0 + 1) s0 c = i := by
          have h0 := HR.out
          cases f with
          | zero => omega
          | succ f => rw [bs, if_neg hlt] at h0; exact h0.symm
        have hT : sym (ltOf cf) (fu + 1) d0 a m b = symTail (ltOf cf) fu d0 a m b c n i := (sym_step (s0 := s0) (r0 := c) (ltOf cf) fu d0 ham hmb HN.out.1 hcn (by split <;> omega) (by split <;> omega)).trans (by rw [hR])
        obtain ⟨e, he⟩ : ∃ e, n - i = e := ⟨_, rfl⟩
        unfold symTail at hT
        rw [he] at hT
        dsimp only at hT
        have HT := Lib.hid hT
        have we : IntKind.i64.wrap ((n : Int) - (i : Int)) = (e : Int) := by rw [IntKind.wrap_i64]; omega
        have hie : i + e = n := by omega
        clear hR HR hT hij2 hij hjb hg hf hlt
        have ME : ((m : Int) < (e : Int)) = ((i : Int) < (c : Int)) := propext (by constructor <;> intro _ <;> omega)
        have CE : ((c : Int) < (e : Int)) = ((i : Int) < (m : Int)) := propext (by constructor <;> intro _ <;> omega)
        have HCL := Lib.hid (fun (x y z q : Nat) (dk : Array α) (oq : Array Obj) (h1 : dk.size = size) (h2 : x < y) (h3 : y < z) (h4 : z ≤ size) (h5 : z - x ≤ fu) => HIH.out x y z q dk oq h1 h2 h3 h4 h5)
        rcases Decidable.em ((i : Int) < (m : Int)) with P | P <;> rcases Decidable.em ((i : Int) < (c : Int)) with Q | Q <;> rcases Decidable.em ((a : Int) < (i : Int)) with A | A <;> rcases Decidable.em ((e : Int) < (b : Int)) with E | E <;> first | (exfalso; omega) | skip
        all_goals
          go_wp2_with fail
          first
            | (have hno : ¬ (i < m ∧ m < e) := by omega
               skip)
            | (refine (go_rotate enc k w blk off size HB.out cap i m e g cb _ d0 _ hs (by omega) (by omega) (by omega)).mono ?_
               rintro _ w' ⟨rfl, q1, rfl⟩
               go_wp2_with fail)
          first
            | (have hno : ¬ (a < i ∧ i < c) := by omega
               skip)
            | (refine Calls.mono (HCL.out a i c _ _ _ ?hd (by omega) (by omega) (by omega) (by omega)) ?_
               case hd => first | exact hs | simp only [rot_size, sym_size, hs]
               rintro _ w' ⟨rfl, q2, o2, rfl⟩
               go_wp2_with fail)
          first
            | (have hno : ¬ (c < e ∧ e < b) := by omega
               skip)
            | (refine Calls.mono (HCL.out c e b _ _ _ ?hd (by omega) (by omega) (by omega) (by omega)) ?_
               case hd => first | exact hs | simp only [rot_size, sym_size, hs]
               rintro _ w' ⟨rfl, q3, o3, rfl⟩
               go_wp2_with fail)
          go_end0
          refine ⟨rfl, ?_⟩
          apply Exists.intro
          apply Exists.intro
          rw [HT.out]
          first | rw [if_pos (show i < m ∧ m < e by omega)] | rw [if_neg (show ¬ (i < m ∧ m < e) by omega)]
          first | rw [if_pos (show a < i ∧ i < c by omega)] | rw [if_neg (show ¬ (a < i ∧ i < c) by omega)]
          first | rw [if_pos (show c < e ∧ e < b by omega)] | rw [if_neg (show ¬ (c < e ∧ e < b) by omega)]
  · have hcz : (m : Int) ≤ (c : Int) := by omega
    go_enter Try.func108, Try.ntmps108
    go_wp2
    have hcn : c + m = n := HN.out.2
    have hc2 : a + b < 2 * c + 2 := by have := HN.out.1; omega
    have hc3 : 2 * c ≤ a + b := by have := HN.out.1; omega
    clear e1 e2 e3 e4 w3 w5
    go_loopg [20, 21, 23] (m - a) (fun gk vi vj vh wr => ∃ (i j q f : Nat) (oq : Array Obj), vi = .int .i64 i ∧ vj = .int .i64 j ∧ a ≤ i ∧ i ≤ j ∧ j ≤ m ∧ j - i ≤ gk ∧ j - i < f ∧ wr = sortWorldK enc k w blk off q d0 oq ∧ Hid (bs (fun h => !ltOf cf d0[n - 1 - h]! d0[h]!) f i j = bs (fun h => !ltOf cf d0[n - 1 - h]! d0[h]!) (m - a + 1) a m))
    case atStart => exact ⟨a, m, m0, m - a + 1, os, rfl, rfl, by omega, by omega, by omega, by omega, by omega, rfl, Lib.hid rfl⟩
    case round =>
      obtain ⟨i, j, q, f, oq, rfl, rfl, hi1, hij, hjb, hg, hf, rfl, HR⟩ := hrel
      clear w1 w2 ec
      by_cases hlt : i < j
      · have hltz : (i : Int) < (j : Int) := by omega
        have w1 : IntKind.i64.wrap ((i : Int) + (j : Int)) = (i : Int) + (j : Int) := by rw [IntKind.wrap_i64]; omega
        have w2 : IntKind.u64.wrap ((i : Int) + (j : Int)) = (i : Int) + (j : Int) := by rw [IntKind.wrap_u64]; omega
        obtain ⟨h, hh⟩ : ∃ h, (i + j) / 2 = h := ⟨_, rfl⟩
        have eh : ((i : Int) + (j : Int)) / 2 = (h : Int) := by omega
        cases f with
        | zero => omega
        | succ f =>
        have hR := HR.out
        rw [bs, if_pos hlt, hh] at hR
        obtain ⟨p, hp⟩ : ∃ p, n - 1 - h = p := ⟨_, rfl⟩
        have wp : IntKind.i64.wrap ((n : Int) - 1 - (h : Int)) = (p : Int) := by rw [IntKind.wrap_i64]; omega
        obtain ⟨xh, hxh⟩ : ∃ x, d0[h]! = x := ⟨_, rfl⟩
        obtain ⟨xa, hxa⟩ : ∃ x, d0[p]! = x := ⟨_, rfl⟩
        have hlv0 : ltOf cf d0[n - 1 - h]! d0[h]! = decide (cf xa xh < 0) := by rw [hp, hxh, hxa]; rfl
        rw [hlv0] at hR
        have HR2 : Hid _ := hR
        have hz : (h : Int) < (size : Int) := by omega
        have az : (p : Int) < (size : Int) := by omega
        have hcls : ∀ n' os', grow ((sortWorldK enc k w blk off q d0 oq).drewN n') os' = sortWorldK enc k w blk off (q + n') d0 (oq ++ os') := fun n' os' => sortWorldK_grown_c enc k w blk off q n' d0 oq os'
        have hHc : ∀ n' os', HoldsK enc k (grow ((sortWorldK enc k w blk off q d0 oq).drewN n') os') blk off d0 := fun n' os' => by rw [hcls]; exact HB.out.holds _ _ _ hs
        have lj : ∀ n' os', Sem.run Try.prog (loadCellsFrom ⟨blk, off + h * k, none⟩ 0 k #[]) (grow ((sortWorldK enc k w blk off q d0 oq).drewN n') os') = .ok (enc xh).toArray (grow ((sortWorldK enc k w blk off q d0 oq).drewN n') os') := fun n' os' => by
          rw [← hxh]; exact run_loadCellsFrom_list _ _ _ _ k (HB.out.hk _) (HoldsK.cells (hHc n' os') HB.out.hk (by omega))
        have lp : ∀ n' os', Sem.run Try.prog (loadCellsFrom ⟨blk, off + p * k, none⟩ 0 k #[]) (grow ((sortWorldK enc k w blk off q d0 oq).drewN n') os') = .ok (enc xa).toArray (grow ((sortWorldK enc k w blk off q d0 oq).drewN n') os') := fun n' os' => by
          rw [← hxa]; exact run_loadCellsFrom_list _ _ _ _ k (HB.out.hk _) (HoldsK.cells (hHc n' os') HB.out.hk (by omega))
        have hcg : ∀ n' os', Calls Try.prog g (#[.agg (enc xa).toArray, .agg (enc xh).toArray] ++ cb) (grow ((sortWorldK enc k w blk off q d0 oq).drewN n') os') fun e w' => e = .returned (.int .i64 (cf xa xh)) ∧ ∃ q' os'', w' = grow ((grow ((sortWorldK enc k w blk off q d0 oq).drewN n') os').drewN q') os'' := fun n' os' => by
          rw [hcls]; exact HC.out _ _ d0 hs xa xh
        have CLS : Hid _ := hcls
        clear hcls hHc hR HR hxh hxa hlv0
        generalize hwq : sortWorldK enc k w blk off q d0 oq = wq at lj lp hcg CLS ⊢
        by_cases hlv : ¬ (cf xa xh < 0)
        · have HR3 := Lib.hid (show bs (fun h => !ltOf cf d0[n - 1 - h]! d0[h]!) f (h + 1) j = bs (fun h => !ltOf cf d0[n - 1 - h]! d0[h]!) (m - a + 1) a m from (if_pos (by simpa using hlv)).symm.trans HR2.out)
          clear HR2
          go_upto_region 35 with fail
          clear eh
          go_wp2_with fail
          go_quiet_grown (first | (go_at_fn g; refine Calls.grown_of (hcg _ _)))
          go_wp2
          any_goals (exfalso; rename_i hx; rw [decide_eq_false (show ¬ (cf xa xh < 0) by omega)] at hx; simp at hx; done)
          go_roundg (gk - 1)
          case measure => omega
          case rel => exact ⟨h + 1, j, _, f, _, by first | rfl | go_num, rfl, by omega, by omega, hjb, by omega, by omega, CLS.out nq osq, HR3⟩
        · have hlv := Decidable.not_not.1 hlv
          have HR3 := Lib.hid (show bs (fun h => !ltOf cf d0[n - 1 - h]! d0[h]!) f i h = bs (fun h => !ltOf cf d0[n - 1 - h]! d0[h]!) (m - a + 1) a m from (if_neg (by simpa using hlv)).symm.trans HR2.out)
          clear HR2
          go_upto_region 35 with fail
          clear eh
          go_wp2_with fail
          go_quiet_grown (first | (go_at_fn g; refine Calls.grown_of (hcg _ _)))
          go_wp2
          go_roundg (gk - 1)
          case measure => omega
          case rel => exact ⟨i, h, _, f, _, rfl, rfl, hi1, by omega, by omega, by omega, by omega, CLS.out nq osq, HR3⟩
      · have hij2 : i = j := by omega
        have hltz : ¬ ((i : Int) < (j : Int)) := by omega
        have hR : bs (fun h => !ltOf cf d0[n - 1 - h]! d0[h]!) (m - a + 1) a m = i := by
          have h0 := HR.out
          cases f with
          | zero => omega
          | succ f => rw [bs, if_neg hlt] at h0; exact h0.symm
        have hT : sym (ltOf cf) (fu + 1) d0 a m b = symTail (ltOf cf) fu d0 a m b c n i := (sym_step (s0 := a) (r0 := m) (ltOf cf) fu d0 ham hmb HN.out.1 hcn (by split <;> omega) (by split <;> omega)).trans (by rw [hR])
        obtain ⟨e, he⟩ : ∃ e, n - i = e := ⟨_, rfl⟩
        unfold symTail at hT
        rw [he] at hT
        dsimp only at hT
        have HT := Lib.hid hT
        have we : IntKind.i64.wrap ((n : Int) - (i : Int)) = (e : Int) := by rw [IntKind.wrap_i64]; omega
        have hie : i + e = n := by omega
        clear hR HR hT hij2 hij hjb hg hf hlt
        have ME : ((m : Int) < (e : Int)) = ((i : Int) < (c : Int)) := propext (by constructor <;> intro _ <;> omega)
        have CE : ((c : Int) < (e : Int)) = ((i : Int) < (m : Int)) := propext (by constructor <;> intro _ <;> omega)
        have HCL := Lib.hid (fun (x y z q : Nat) (dk : Array α) (oq : Array Obj) (h1 : dk.size = size) (h2 : x < y) (h3 : y < z) (h4 : z ≤ size) (h5 : z - x ≤ fu) => HIH.out x y z q dk oq h1 h2 h3 h4 h5)
        rcases Decidable.em ((i : Int) < (m : Int)) with P | P <;> rcases Decidable.em ((i : Int) < (c : Int)) with Q | Q <;> rcases Decidable.em ((a : Int) < (i : Int)) with A | A <;> rcases Decidable.em ((e : Int) < (b : Int)) with E | E <;> first | (exfalso; omega) | skip
        all_goals
          go_wp2_with fail
          first
            | (have hno : ¬ (i < m ∧ m < e) := by omega
               skip)
            | (refine (go_rotate enc k w blk off size HB.out cap i m e g cb _ d0 _ hs (by omega) (by omega) (by omega)).mono ?_
               rintro _ w' ⟨rfl, q1, rfl⟩
               go_wp2_with fail)
          first
            | (have hno : ¬ (a < i ∧ i < c) := by omega
               skip)
            | (refine Calls.mono (HCL.out a i c _ _ _ ?hd (by omega) (by omega) (by omega) (by omega)) ?_
               case hd => first | exact hs | simp only [rot_size, sym_size, hs]
               rintro _ w' ⟨rfl, q2, o2, rfl⟩
               go_wp2_with fail)
          first
            | (have hno : ¬ (c < e ∧ e < b) := by omega
               skip)
            | (refine Calls.mono (HCL.out c e b _ _ _ ?hd (by omega) (by omega) (by omega) (by omega)) ?_
               case hd => first | exact hs | simp only [rot_size, sym_size, hs]
               rintro _ w' ⟨rfl, q3, o3, rfl⟩
               go_wp2_with fail)
          go_end0
          refine ⟨rfl, ?_⟩
          apply Exists.intro
          apply Exists.intro
          rw [HT.out]
          first | rw [if_pos (show i < m ∧ m < e by omega)] | rw [if_neg (show ¬ (i < m ∧ m < e) by omega)]
          first | rw [if_pos (show a < i ∧ i < c by omega)] | rw [if_neg (show ¬ (a < i ∧ i < c) by omega)]
          first | rw [if_pos (show c < e ∧ e < b by omega)] | rw [if_neg (show ¬ (c < e ∧ e < b) by omega)]
end Go.Proofs.Ytdlilbleohlmnaa.Stb
namespace Go.Proofs
open Go.Shelf
def Try.svIns_ren : Go.Shelf.Ren := ⟨fun | 20 => 107 | n => n, fun | 24 => 52 | 22 => 34 | 3 => 3 | 25 => 124 | 4 => 4 | 0 => 0 | n => n, fun | n => n⟩
theorem Try.svIns : Go.Proofs.SlLaysF0.n20 Try.prog Try.svIns_ren := {
  mixed := by kernel_rfl
  f20 := ⟨Try.f107.name, by decide, Try.func107.trans (congrArg some (by kernel_rfl))⟩
  t0 := Try.underlying0
  a0 := Try.isAgg0
  z0 := Try.sizeOf0
  v0 := Try.zeroValue0
  t3 := Try.underlying3
  a3 := Try.isAgg3
  z3 := Try.sizeOf3
  v3 := Try.zeroValue3
  t4 := Try.underlying4
  a4 := Try.isAgg4
  z4 := Try.sizeOf4
  v4 := Try.zeroValue4
  t22 := Try.underlying34
  a22 := Try.isAgg34
  z22 := Try.sizeOf34
  v22 := Try.zeroValue34
  t25 := Try.underlying124
  a25 := Try.isAgg124
  z25 := Try.sizeOf124
  v25 := Try.zeroValue124 }
end Go.Proofs
namespace Go.Proofs.Ytdlilbleohlmnaa.Stb
open Go.Shelf Go.RowKit Go.Lib Go.Sort
variable {α : Type} [Inhabited α]
theorem go_sym (enc : α → List Value) (k : Nat) (w : World) (blk off size : Nat) (B : RowB enc k w blk off size) (cap g : Nat) (cb : Array Value) (cf : α → α → Int) (eg : ∀ args w, (callFunc g args).run Try.prog w = .ok (.enter g args) w) (hcmp : CmpLays Try.prog g cb enc k cf blk off size w) : ∀ (fu a m b m0 : Nat) (d0 : Array α) (os : Array Obj), d0.size = size → a < m → m < b → b ≤ size → b - a ≤ fu →
    Calls Try.prog 108 #[.slice (some ⟨blk, off, none⟩) size cap, .int .i64 a, .int .i64 m, .int .i64 b, .func (.func g) #[] cb] (sortWorldK enc k w blk off m0 d0 os) fun e w' =>
      e = .returned (.tuple #[]) ∧ ∃ m' os', w' = sortWorldK enc k w blk off m' (sym (ltOf cf) fu d0 a m b) os'
  | 0, a, m, b, _, _, _, _, h1, h2, _, h3 => by omega
  | fu + 1, a, m, b, m0, d0, os, hs, h1, h2, h3, h4 => by
    by_cases c1 : m - a = 1
    · refine (go_sym_one enc k w blk off size B cap a m b g cb cf eg hcmp m0 d0 os hs (by omega) h2 h3).mono ?_
      rintro e w' ⟨rfl, q, o, rfl⟩
      exact ⟨rfl, q, o, by rw [sym, if_pos c1]⟩
    · by_cases c2 : b - m = 1
      · refine (go_sym_last enc k w blk off size B cap a m b g cb cf eg hcmp m0 d0 os hs (by omega) (by omega) h3).mono ?_
        rintro e w' ⟨rfl, q, o, rfl⟩
        exact ⟨rfl, q, o, by rw [sym, if_neg c1, if_pos c2]⟩
      · exact go_sym_main enc k w blk off size B cap g cb cf eg hcmp fu a m b (fun a' m' b' q dk os' e1 e2 e3 e4 e5 => go_sym enc k w blk off size B cap g cb cf eg hcmp fu a' m' b' q dk os' e1 e2 e3 e4 e5) m0 d0 os hs (by omega) (by omega) h3 h4
theorem go_ins (enc : α → List Value) (k : Nat) (w : World) (blk off size : Nat) (B : RowB enc k w blk off size) (cap g : Nat) (cb : Array Value) (cf : α → α → Int) (eg : ∀ args w, (callFunc g args).run Try.prog w = .ok (.enter g args) w) (hcmp : CmpLays Try.prog g cb enc k cf blk off size w) (hO : SWO (ltOf cf)) (a b m0 : Nat) (d0 : Array α) (os : Array Obj) (hs : d0.size = size) (h1 : a ≤ b) (h2 : b ≤ size) :
    Calls Try.prog 107 #[.slice (some ⟨blk, off, none⟩) size cap, .int .i64 a, .int .i64 b, .func (.func g) #[] cb] (sortWorldK enc k w blk off m0 d0 os) fun e w' =>
      e = .returned (.tuple #[]) ∧ ∃ m' os', w' = sortWorldK enc k w blk off m' (insertionSort (ltOf cf) d0 a b) os' := by
  have hs' : (Sort.insertionSort (ltOf cf) d0 a b).size = d0.size := (insertionSort_holds hO d0 a b h1 (by omega)).1.1
  have hC : CmpLays Try.prog g cb enc k cf blk off d0.size (sortWorldK enc k w blk off m0 d0 os) := fun m os' dk hdk x y => by
    rw [sortWorldK_on enc k w blk off m0 m d0 dk os os' B.hb hdk]
    exact hcmp _ _ dk (by omega) x y
  have h := AnyQ.insertionSortCmpFunc Try.svIns k (fun w => Try.isAgg52 w) B.zE enc B.hk B.h1 cf g cb blk off cap a b d0 _ eg hC (B.holds m0 d0 os hs) (Nat.lt_of_lt_of_le B.hb (size_sortWorldK_c enc k w blk off m0 d0 os)) h1 (by omega) (by rw [hs]; exact B.hz)
  rw [hs] at h
  refine h.mono ?_
  rintro e w' ⟨rfl, q, o, rfl⟩
  exact ⟨rfl, _, _, sortWorldK_on enc k w blk off m0 q d0 _ os o B.hb hs'⟩
end Go.Proofs.Ytdlilbleohlmnaa.Stb
namespace Go.Proofs.Ytdlilbleohlmnaa.Stb
open Go.Shelf Go.RowKit Go.Lib Go.Sort
variable {α : Type} [Inhabited α]
theorem ins_size {lt : α → α → Bool} (hO : SWO lt) (d : Array α) (a b : Nat) (h1 : a ≤ b) (h2 : b ≤ d.size) : (insertionSort lt d a b).size = d.size := (insertionSort_holds hO d a b h1 h2).1.1
set_option maxHeartbeats 400000 in
set_option maxRecDepth 1000000 in
theorem go_stable (enc : α → List Value) (k : Nat) (w : World) (blk off size : Nat) (B : RowB enc k w blk off size) (cap g : Nat) (cb : Array Value) (cf : α → α → Int) (eg : ∀ args w, (callFunc g args).run Try.prog w = .ok (.enter g args) w) (hcmp : CmpLays Try.prog g cb enc k cf blk off size w) (hO : SWO (ltOf cf)) (m0 : Nat) (d0 : Array α) (os : Array Obj) (hs : d0.size = size) :
    Calls Try.prog 94 #[.slice (some ⟨blk, off, none⟩) size cap, .int .i64 size, .func (.func g) #[] cb] (sortWorldK enc k w blk off m0 d0 os) fun e w' =>
      e = .returned (.tuple #[]) ∧ ∃ m' os', w' = sortWorldK enc k w blk off m' (stable (ltOf cf) d0 size) os' := by
  have HINS := Lib.hid (fun (a b q : Nat) (dk : Array α) (o : Array Obj) (h0 : dk.size = size) (h1 : a ≤ b) (h2 : b ≤ size) => go_ins enc k w blk off size B cap g cb cf eg hcmp hO a b q dk o h0 h1 h2)
  have HSYM := Lib.hid (fun (fu a m b q : Nat) (dk : Array α) (o : Array Obj) (h0 : dk.size = size) (h1 : a < m) (h2 : m < b) (h3 : b ≤ size) (h4 : b - a ≤ fu) => go_sym enc k w blk off size B cap g cb cf eg hcmp fu a m b q dk o h0 h1 h2 h3 h4)
  have HO := Lib.hid hO
  have hsz := B.hz
  have zE := B.zE
  have mixed : Try.prog.follows Departure.mixedOrders = true := by kernel_rfl
  clear B hcmp hO
  go_enter Try.func94, Try.ntmps94
  go_wp2
  go_loopg [7, 8] size (fun gk v7 v8 wr => ∃ (a b q f : Nat) (dk : Array α) (oq : Array Obj), v7 = .int .i64 a ∧ v8 = .int .i64 b ∧ a + 20 ≤ b ∧ b ≤ a + 20 ∧ a ≤ size ∧ size - a ≤ gk ∧ size - a < f ∧ dk.size = size ∧ wr = sortWorldK enc k w blk off q dk oq ∧ Hid (insP (ltOf cf) f dk a size = insP (ltOf cf) (size + 1) d0 0 size))
  case atStart => exact ⟨0, 20, m0, size + 1, d0, os, rfl, rfl, by omega, by omega, by omega, by omega, by omega, hs, rfl, Lib.hid rfl⟩
  case round =>
    obtain ⟨a, b, q, f, dk, oq, rfl, rfl, hb, hb0, ha, hg, hf, hsk, rfl, HR⟩ := hrel
    cases f with
    | zero => omega
    | succ f =>
    by_cases hlt : b ≤ size
    · have hltz : (b : Int) ≤ (size : Int) := by omega
      obtain ⟨b', hb', hb2⟩ : ∃ x, b + 20 ≤ x ∧ x ≤ b + 20 := ⟨b + 20, by omega, by omega⟩
      have wb : IntKind.i64.wrap ((b : Int) + 20) = (b' : Int) := by rw [IntKind.wrap_i64]; omega
      have HR2 : Hid (insP (ltOf cf) f (insertionSort (ltOf cf) dk a b) b size = insP (ltOf cf) (size + 1) d0 0 size) := Lib.hid (by
        have h0 := HR.out
        rw [insP, if_pos (by omega), show a + 20 = b by omega] at h0
        exact h0)
      go_wp2_with fail
      refine Calls.mono (HINS.out a b _ _ _ hsk (by omega) hlt) ?_
      rintro _ w' ⟨rfl, q1, o1, rfl⟩
      go_wp2_with fail
      go_roundg (gk - 1)
      case measure => omega
      case rel => exact ⟨b, b', _, f, _, _, rfl, rfl, by omega, by omega, by omega, by omega, by omega, (by rw [ins_size HO.out _ _ _ (by omega) (by omega), hsk]), rfl, HR2⟩
    · have hltz : ¬ ((b : Int) ≤ (size : Int)) := by omega
      have HR2 : Hid (insertionSort (ltOf cf) dk a size = insP (ltOf cf) (size + 1) d0 0 size) := Lib.hid (by
        have h0 := HR.out
        rw [insP, if_neg (by omega)] at h0
        exact h0)
      clear hg hf
      go_wp2_with fail
      refine Calls.mono (HINS.out a size _ _ _ hsk (by omega) (Nat.le_refl _)) ?_
      rintro _ w' ⟨rfl, q1, o1, rfl⟩
      have hs1 : (insertionSort (ltOf cf) dk a size).size = size := by rw [ins_size HO.out _ _ _ (by omega) (by omega), hsk]
      obtain ⟨d1, hd1⟩ : ∃ x, insertionSort (ltOf cf) dk a size = x := ⟨_, rfl⟩
      rw [hd1] at hs1 HR2 ⊢
      have HST : Hid (stable (ltOf cf) d0 size = stbP (ltOf cf) (size + 1) d1 20 size) := Lib.hid (by rw [HR2.out]; rfl)
      clear HR HR2 hd1
      go_wp2_with fail
      clear hlt hltz hb hb0 ha hsk
      go_loopg [6, 7, 8, 9] size (fun gk v6 v7 v8 v9 wr => ∃ (s q f : Nat) (dk : Array α) (oq : Array Obj), v6 = .int .i64 s ∧ 1 ≤ s ∧ size - s ≤ gk ∧ s < 9223372036854775808 ∧ size < s + f ∧ dk.size = size ∧ wr = sortWorldK enc k w blk off q dk oq ∧ Hid (stable (ltOf cf) d0 size = stbP (ltOf cf) f dk s size))
      case atStart => exact ⟨20, q1, size + 1, d1, o1, rfl, by omega, by omega, by omega, by omega, hs1, rfl, HST⟩
      case round =>
        obtain ⟨s, q, f, dk, oq, rfl, hs0, hg, hsb, hf, hsk, rfl, HR⟩ := hrel
        clear HST hs1 d1
        cases f with
        | zero => exact (by
            have hltz : ¬ ((s : Int) < (size : Int)) := by omega
            go_wp2_with fail
            go_end0
            exact ⟨rfl, _, _, by rw [HR.out, stbP]⟩)
        | succ f =>
        by_cases hlt : s < size
        · have hltz : (s : Int) < (size : Int) := by omega
          obtain ⟨s2, hs2, hs3⟩ : ∃ x, 2 * s ≤ x ∧ x ≤ 2 * s := ⟨2 * s, by omega, by omega⟩
          have w1 : IntKind.i64.wrap (2 * (s : Int)) = (s2 : Int) := by rw [IntKind.wrap_i64]; omega
          have w2 : IntKind.i64.wrap ((s : Int) * 2) = (s2 : Int) := by rw [IntKind.wrap_i64]; omega
          go_wp2_with fail
          clear w2
          have HR1 : Hid (stable (ltOf cf) d0 size = stbP (ltOf cf) f (mrgP (ltOf cf) s (size + 1) dk 0 size) (2 * s) size) := Lib.hid (by rw [HR.out, stbP, if_pos hlt])
          clear HR
          obtain ⟨gk1, hgk1⟩ : ∃ x, x = gk := ⟨gk, rfl⟩
          go_loopg [7, 8] size (fun gk v7 v8 wr => ∃ (x y q h : Nat) (dh : Array α) (oq : Array Obj), v7 = .int .i64 x ∧ v8 = .int .i64 y ∧ x + s2 ≤ y ∧ y ≤ x + s2 ∧ x ≤ size ∧ size - x ≤ gk ∧ size - x < h ∧ dh.size = size ∧ wr = sortWorldK enc k w blk off q dh oq ∧ Hid (mrgP (ltOf cf) s h dh x size = mrgP (ltOf cf) s (size + 1) dk 0 size))
          case atStart => exact ⟨0, s2, q, size + 1, dk, oq, rfl, rfl, by omega, by omega, by omega, by omega, by omega, hsk, rfl, Lib.hid rfl⟩
          case round =>
            obtain ⟨x, y, q2, h, dh, oh, rfl, rfl, hy, hy0, hx, hgi, hh, hsh, rfl, HM⟩ := hrel
            cases h with
            | zero => omega
            | succ h =>
            by_cases hle : y ≤ size
            · have hlez : (y : Int) ≤ (size : Int) := by omega
              obtain ⟨z, hz1, hz2⟩ : ∃ z, x + s ≤ z ∧ z ≤ x + s := ⟨x + s, by omega, by omega⟩
              have w3 : IntKind.i64.wrap ((x : Int) + (s : Int)) = (z : Int) := by rw [IntKind.wrap_i64]; omega
              obtain ⟨y', hy1, hy2⟩ : ∃ z, y + s2 ≤ z ∧ z ≤ y + s2 := ⟨y + s2, by omega, by omega⟩
              have w4 : IntKind.i64.wrap ((y : Int) + (s2 : Int)) = (y' : Int) := by rw [IntKind.wrap_i64]; omega
              have HM2 : Hid (mrgP (ltOf cf) s h (sym (ltOf cf) s2 dh x z y) y size = mrgP (ltOf cf) s (size + 1) dk 0 size) := Lib.hid (by
                have h0 := HM.out
                rw [mrgP, if_pos (by omega), show x + s = z by omega, show x + 2 * s = y by omega, show 2 * s = s2 by omega] at h0
                exact h0)
              go_wp2_with fail
              refine Calls.mono (HSYM.out s2 x z y _ _ _ hsh (by omega) (by omega) hle (by omega)) ?_
              rintro _ w' ⟨rfl, q3, o3, rfl⟩
              go_wp2_with fail
              go_roundg (gk - 1)
              case measure => omega
              case rel => exact ⟨y, y', _, h, _, _, rfl, rfl, by omega, by omega, by omega, by omega, by omega, (by rw [sym_size, hsh]), rfl, HM2⟩
            · have hlez : ¬ ((y : Int) ≤ (size : Int)) := by omega
              have w2 : IntKind.i64.wrap ((s : Int) * 2) = (s2 : Int) := by rw [IntKind.wrap_i64]; omega
              obtain ⟨z, hz1, hz2⟩ : ∃ z, x + s ≤ z ∧ z ≤ x + s := ⟨x + s, by omega, by omega⟩
              have w3 : IntKind.i64.wrap ((x : Int) + (s : Int)) = (z : Int) := by rw [IntKind.wrap_i64]; omega
              clear hgi
              by_cases hzs : z < size
              · have hzz : (z : Int) < (size : Int) := by omega
                have HM2 : Hid (stable (ltOf cf) d0 size = stbP (ltOf cf) f (sym (ltOf cf) (size - x) dh x z size) s2 size) := Lib.hid (by
                  have h0 := HM.out
                  rw [mrgP, if_neg (by omega), if_pos (by omega), show x + s = z by omega] at h0
                  rw [HR1.out, ← h0, show 2 * s = s2 by omega])
                go_wp2_with fail
                refine Calls.mono (HSYM.out (size - x) x z size _ _ _ hsh (by omega) (by omega) (Nat.le_refl _) (by omega)) ?_
                rintro _ w' ⟨rfl, q3, o3, rfl⟩
                go_wp2_with fail
                go_roundg (gk1 - 1)
                case measure => omega
                case rel => exact ⟨s2, _, f, _, _, rfl, by omega, by omega, by omega, by omega, (by rw [sym_size, hsh]), rfl, HM2⟩
              · have hzz : ¬ ((z : Int) < (size : Int)) := by omega
                have HM2 : Hid (stable (ltOf cf) d0 size = stbP (ltOf cf) f dh s2 size) := Lib.hid (by
                  have h0 := HM.out
                  rw [mrgP, if_neg (by omega), if_neg (by omega)] at h0
                  rw [HR1.out, ← h0, show 2 * s = s2 by omega])
                go_wp2_with fail
                go_roundg (gk1 - 1)
                case measure => omega
                case rel => exact ⟨s2, _, f, _, _, rfl, by omega, by omega, by omega, by omega, hsh, rfl, HM2⟩
        · have hltz : ¬ ((s : Int) < (size : Int)) := by omega
          go_wp2_with fail
          go_end0
          exact ⟨rfl, _, _, by rw [HR.out, stbP, if_neg hlt]⟩
end Go.Proofs.Ytdlilbleohlmnaa.Stb
namespace Go.Proofs.Ytdlilbleohlmnaa.PAq
open Go.RowKit Go.Shelf Go.Lib Go.Sort Go.Proofs.YtdlilbleohlmnaaW.PrintWords
theorem enters81 : ∀ args w, (callFunc 87 args).run Try.prog w = .ok (.enter 87 args) w := enters_of Try.func87 (by kernel_rfl) rfl
theorem cellL_one (x : Cell) : ∀ v ∈ cellL x, v.oneCell' = true := by
  intro v hv
  simp [cellL] at hv
  rcases hv with rfl | rfl | rfl | rfl | rfl | rfl | rfl <;> rfl
set_option maxRecDepth 100000 in
theorem go_sortCells (z5 z6 blk c : Nat) (d : Array Cell) (hsz : d.size < 4611686018427387904) (w : World) (hH : HoldsK cellL 7 w blk 0 d) (hblk : blk < w.heap.size)
    (h5 : w.cell? ⟨z5, 0, none⟩ = some (.func (.func 54) #[] #[])) (h6 : w.cell? ⟨z6, 0, none⟩ = some (.func (.func 35) #[] #[])) (n5 : z5 ≠ blk) (n6 : z6 ≠ blk) :
    Calls Try.prog 86 #[.slice (some ⟨blk, 0, none⟩) d.size c, .func (.func 87) #[] #[.pointer (some ⟨z6, 0, none⟩), .pointer (some ⟨z5, 0, none⟩)]] w fun e w' =>
      e = .returned (.tuple #[]) ∧ ∃ d' m os, PermIn 0 d.size d d' ∧ SortedIn (ltOf cellCmp) 0 d.size d' ∧ w' = grow (putRowK cellL 7 (Sort.ahead w m) blk 0 d') os := by
  have B : Stb.RowB cellL 7 w blk 0 d.size := ⟨fun _ => rfl, cellL_one, ⟨d, rfl, hH⟩, hblk, hsz, fun w => Try.sizeOf52 w⟩
  have hcmp : CmpLays Try.prog 87 #[.pointer (some ⟨z6, 0, none⟩), .pointer (some ⟨z5, 0, none⟩)] cellL 7 cellCmp blk 0 d.size w := by
    intro m os dk hs x y
    have l5 := World.block_lt_of_cell? w _ h5
    have l6 := World.block_lt_of_cell? w _ h6
    refine Calls.mono (go_grpCmp x y z5 z6 _ ?_ ?_) ?_
    · rw [cell?_sortWorldK_other _ _ _ _ _ _ _ _ _ n5 l5]; exact h5
    · rw [cell?_sortWorldK_other _ _ _ _ _ _ _ _ _ n6 l6]; exact h6
    · rintro e w' ⟨rfl, g⟩
      exact ⟨rfl, g.form⟩
  have hst := Stb.go_stable cellL 7 w blk 0 d.size B c _ _ cellCmp enters81 hcmp swo_cell 0 d #[] rfl
  rw [sortWorldK_start cellL 7 w blk 0 d hH] at hst
  obtain ⟨sp1, sp2⟩ := Stb.stable_spec swo_cell d d.size (Nat.le_refl _)
  have HP := Lib.hid (And.intro sp1 sp2)
  have HST := Lib.hid hst
  obtain ⟨n, hn⟩ : ∃ n, d.size = n := ⟨_, rfl⟩
  rw [hn] at HST HP hsz ⊢
  clear B hcmp hH hblk h5 h6 n5 n6 sp1 sp2 hst hn
  go_enter Try.func86, Try.ntmps86
  go_wp2_with fail
  refine HST.out.mono ?_
  rintro e w' ⟨rfl, m, os, rfl⟩
  go_wp2_with fail
  go_end0
  exact ⟨rfl, _, m, os, HP.out.1, HP.out.2, rfl⟩
theorem flatK_list (ks : List Cell) : (flatK cellL 7 ks.toArray).toList = flatC ks := by
  apply List.ext_getElem?
  intro t
  by_cases ht : t < ks.length * 7
  · have h1 := get_flatK cellL 7 ks.toArray t (by simpa using ht)
    have hi : t / 7 < ks.length := by omega
    have h2 := flatC_at ks (t / 7) (t % 7) hi (by omega)
    rw [show t / 7 * 7 + t % 7 = t by omega] at h2
    rw [h2]
    have hsz : t < (flatK cellL 7 ks.toArray).size := by simpa using ht
    rw [getElem!_pos _ t hsz] at h1
    rw [Array.getElem?_toList, Array.getElem?_eq_getElem hsz, h1]
    have e : (ks.toArray)[t / 7]! = ks[t / 7] := by
      rw [getElem!_pos _ _ (by simpa using hi)]; simp
    rw [e]
    have h3 : t % 7 < (cellL ks[t / 7]).length := by simp [cellL]; omega
    rw [List.getElem?_eq_getElem h3, getElem!_pos (cellL ks[t / 7]) (t % 7) h3]
  · rw [List.getElem?_eq_none (by simp; omega), List.getElem?_eq_none (by rw [flatC_length]; omega)]
theorem holds_of_cell {w : World} {base : Nat} {blk cap : Nat} {ks : List Cell} {cur : Array Value} (hh : w.heap[blk]? = some (.cells cur 52 (0, 0))) (hcs : cur.size = cap * 7) (hkc : ks.length ≤ cap) (htk : cur.toList.take (ks.length * 7) = flatC ks) : HoldsK cellL 7 w blk 0 ks.toArray := by
  intro j hj
  have hj' : j < ks.length * 7 := by simpa using hj
  have h1 : cur.toList[j]? = (flatC ks)[j]? := by rw [← htk, List.getElem?_take, if_pos hj']
  have h2 : (flatC ks)[j]? = some ((flatK cellL 7 ks.toArray)[j]!) := by
    rw [← flatK_list, Array.getElem?_toList, Array.getElem?_eq_getElem hj, getElem!_pos (flatK cellL 7 ks.toArray) j hj]
  have hc : j < cur.size := by rw [hcs]; omega
  refine ⟨?_, by simp [World.frozen?, hh]⟩
  have h3 : cur[j]? = some ((flatK cellL 7 ks.toArray)[j]!) := by rw [← Array.getElem?_toList, h1, h2]
  simp [World.cell?, hh, h3]
theorem heap_putRowK {w : World} {m blk cap : Nat} {ks : List Cell} {cur : Array Value} (os : Array Obj) (hh : w.heap[blk]? = some (.cells cur 52 (0, 0))) (hcs : cur.size = cap * 7) (hkc : ks.length ≤ cap) :
    ∃ cur', (grow (putRowK cellL 7 (Sort.ahead w m) blk 0 ks.toArray) os).heap[blk]? = some (.cells cur' 52 (0, 0)) ∧ cur'.size = cap * 7 ∧ cur'.toList.take (ks.length * 7) = flatC ks := by
  have hlt : blk < w.heap.size := (Array.getElem?_eq_some_iff.1 hh).1
  refine ⟨putCells id 0 (flatK cellL 7 ks.toArray) cur, ?_, by simp [putCells, hcs], ?_⟩
  · have e : (grow (putRowK cellL 7 (Sort.ahead w m) blk 0 ks.toArray) os).heap[blk]? = (putRowK cellL 7 (Sort.ahead w m) blk 0 ks.toArray).heap[blk]? := by
      simp only [grow]
      rw [Array.getElem?_append_left (by rw [size_putRowK]; exact hlt)]
    rw [e]
    simp only [putRowK, Go.Sort.putRow, mapBlock, Sort.ahead, Array.getElem?_modify, hh]
    simp [onCells]
  · apply List.ext_getElem?
    intro t
    rw [List.getElem?_take]
    by_cases ht : t < ks.length * 7
    · rw [if_pos ht, Array.getElem?_toList]
      have hc : t < cur.size := by rw [hcs]; omega
      have hsz : t < (flatK cellL 7 ks.toArray).size := by simpa using ht
      rw [← flatK_list, Array.getElem?_toList, Array.getElem?_eq_getElem hsz]
      simp only [putCells, Array.getElem?_mapIdx, Array.getElem?_eq_getElem hc, Option.map_some]
      rw [if_pos ⟨Nat.zero_le _, by simpa using ht⟩]
      simp only [id, Nat.sub_zero]
      rw [getElem!_pos (flatK cellL 7 ks.toArray) t hsz]
    · rw [if_neg ht, List.getElem?_eq_none (by rw [flatC_length]; omega)]
set_option maxHeartbeats 1000000 in
set_option maxRecDepth 100000 in
theorem go_ins_none (g : Nat) (cb : Array Value) (w : World) :
    Calls Try.prog 107 #[.slice none 0 0, .int .i64 0, .int .i64 0, .func (.func g) #[] cb] w fun e w' => e = .returned (.tuple #[]) ∧ w' = w := by
  go_enter Try.func107, Try.ntmps107
  go_wp2
  go_loopg [8] 0 (fun gk v8 wr => gk = 0 ∧ v8 = .int .i64 1 ∧ wr = w)
  case atStart => exact ⟨rfl, rfl, rfl⟩
  case round =>
    obtain ⟨rfl, rfl, rfl⟩ := hrel
    go_wp2
    go_end0
    exact ⟨rfl, rfl⟩
set_option maxHeartbeats 1000000 in
set_option maxRecDepth 100000 in
theorem go_stable_none (g : Nat) (cb : Array Value) (w : World) :
    Calls Try.prog 94 #[.slice none 0 0, .int .i64 0, .func (.func g) #[] cb] w fun e w' => e = .returned (.tuple #[]) ∧ w' = w := by
  go_enter Try.func94, Try.ntmps94
  go_wp2
  go_loopg [7, 8] 0 (fun gk v7 v8 wr => gk = 0 ∧ v7 = .int .i64 0 ∧ v8 = .int .i64 20 ∧ wr = w)
  case atStart => exact ⟨rfl, rfl, rfl, rfl⟩
  case round =>
    obtain ⟨rfl, rfl, rfl, rfl⟩ := hrel
    go_wp2_with fail
    refine (go_ins_none g cb _).mono ?_
    rintro e w' ⟨rfl, rfl⟩
    rename World => wR
    go_wp2_with fail
    go_loopg [6] 0 (fun gk v6 wr => gk = 0 ∧ v6 = .int .i64 20 ∧ wr = wR)
    case atStart => exact ⟨rfl, rfl, rfl⟩
    case round =>
      obtain ⟨rfl, rfl, rfl⟩ := hrel
      go_wp2
      go_end0
      exact ⟨rfl, rfl⟩
set_option maxRecDepth 100000 in
theorem go_sortNone (g : Nat) (cb : Array Value) (w : World) :
    Calls Try.prog 86 #[.slice none 0 0, .func (.func g) #[] cb] w fun e w' => e = .returned (.tuple #[]) ∧ w' = w := by
  go_enter Try.func86, Try.ntmps86
  go_wp2_with fail
  refine (go_stable_none g cb _).mono ?_
  rintro e w' ⟨rfl, rfl⟩
  go_wp2_with fail
  go_end0
  exact ⟨rfl, rfl⟩
theorem go_sortRow {w : World} {base z5 z6 : Nat} {l : List Cell} {v : Value} (hown : w.ownsRow base 52 7 v l.length (flatC l))
    (h5 : w.cell? ⟨z5, 0, none⟩ = some (.func (.func 54) #[] #[])) (h6 : w.cell? ⟨z6, 0, none⟩ = some (.func (.func 35) #[] #[])) (n5 : some z5 ≠ v.ownBlock) (n6 : some z6 ≠ v.ownBlock) (hbase : base ≤ w.heap.size) (hlen : l.length ≤ 1000000) :
    Calls Try.prog 86 #[v, .func (.func 87) #[] #[.pointer (some ⟨z6, 0, none⟩), .pointer (some ⟨z5, 0, none⟩)]] w fun e w' =>
      e = .returned (.tuple #[]) ∧ ∃ ks : List Cell, ks.Perm l ∧ ks.Pairwise (fun a b => keyCmp a.f0 b.f0 ≤ 0) ∧ w'.ownsRow base 52 7 v ks.length (flatC ks) ∧ Below base w w' ∧ (∀ g, g < w.heap.size → some g ≠ v.ownBlock → w'.heap[g]? = w.heap[g]?) := by
  obtain ⟨hl, hr⟩ := hown
  rcases hr with ⟨rfl, h0⟩ | ⟨blk, cap, cur, rfl, hg, hh, hnc, hcm, hcs, htk⟩
  · have : l = [] := List.eq_nil_of_length_eq_zero h0
    subst this
    refine (go_sortNone _ _ w).mono ?_
    rintro e w' ⟨rfl, rfl⟩
    exact ⟨rfl, [], List.Perm.refl _, List.Pairwise.nil, ⟨rfl, .inl ⟨rfl, rfl⟩⟩, Below.refl _ _, fun _ _ _ => rfl⟩
  · have hlt : blk < w.heap.size := (Array.getElem?_eq_some_iff.1 hh).1
    have hs := go_sortCells z5 z6 blk cap l.toArray (by simp; omega) w (holds_of_cell (base := base) hh hcs hnc htk) hlt h5 h6 (fun e => n5 (by rw [e]; rfl)) (fun e => n6 (by rw [e]; rfl))
    rw [show l.toArray.size = l.length by simp] at hs
    refine hs.mono ?_
    rintro e w' ⟨rfl, d', m, os, ⟨hp1, _, hp3⟩, hso, rfl⟩
    have hp1' : d'.size = l.length := by simpa using hp1
    have hperm : d'.toList.Perm l := by
      have e1 : d'.extract 0 l.length = d' := by rw [← hp1']; simp
      have e2 : l.toArray.extract 0 l.length = l.toArray := by simp
      rw [e1, e2] at hp3
      simpa using hp3
    have hpw : d'.toList.Pairwise (fun a b => keyCmp a.f0 b.f0 ≤ 0) := by
      rw [List.pairwise_iff_getElem]
      intro i j hi hj hij
      simp only [Array.length_toList] at hi hj
      have h2 := hso i j (Nat.zero_le _) hij (by omega)
      rw [getElem!_pos _ i hi, getElem!_pos _ j hj] at h2
      simp only [Array.getElem_toList]
      have h3 : ¬ keyCmp d'[j].f0 d'[i].f0 < 0 := of_decide_eq_false h2
      have := kc_anti d'[j].f0 d'[i].f0
      omega
    have hlen' : d'.toList.length = l.length := by simpa using hp1'
    obtain ⟨cur', hh', hcs', htk'⟩ := heap_putRowK (w := w) (m := m) (ks := d'.toList) os hh hcs (by omega)
    rw [show d'.toList.toArray = d' by simp] at hh'
    have hoth : ∀ g, g < w.heap.size → g ≠ blk → (grow (putRowK cellL 7 (Sort.ahead w m) blk 0 d') os).heap[g]? = w.heap[g]? := fun g hg hne => by
      simp only [grow]
      rw [Array.getElem?_append_left (by rw [size_putRowK]; exact hg)]
      simp only [putRowK, Go.Sort.putRow, mapBlock, Sort.ahead, Array.getElem?_modify]
      rw [if_neg (fun e => hne e.symm)]
    exact ⟨rfl, d'.toList, hperm, hpw, ⟨by rw [flatC_length], .inr ⟨blk, cap, cur', by rw [hlen'], hg, hh', by omega, hcm, hcs', htk'⟩⟩, ⟨rfl, rfl, rfl, by simp [grow, size_putRowK, Sort.ahead], fun k hk => hoth k (by omega) (by omega)⟩, fun g hg hne => hoth g hg (fun e => hne (by rw [e]; rfl))⟩
end Go.Proofs.Ytdlilbleohlmnaa.PAq
namespace Go.Proofs.Ytdlilbleohlmnaa.PAq
open Go.RowKit Go.Lib Go.Sort Go.Proofs.YtdlilbleohlmnaaW.PrintWords Go.Proofs.YtdlilbleohlmnaaW.PrintLast
def tot (l : List Int) : Int × Bool := ((told (sumI l)).1, (told (sumI l)).2 && !farB (told (sumI l)).1)
set_option maxHeartbeats 1000000 in
set_option maxRecDepth 100000 in
theorem go_total (l : List Int) (A : Option Addr) (c : Nat) (w : World) (hC : Kd.C (Kd.int .i64) w A l.length l) (hc : l.length ≤ c) (hr : ∀ x ∈ l, in64 x) (hl : l.length ≤ 4611686018427387904) :
    Calls Try.prog 33 #[.slice A l.length c] w fun e w' => e = .returned (.tuple #[.int .i64 (tot l).1, .bool (tot l).2]) ∧ w' = w := by
  have HN := Lib.hid (go_numSum l A c w hC hc hr hl)
  unfold tot
  obtain ⟨⟨n, ok⟩, hn⟩ : ∃ q, told (sumI l) = q := ⟨_, rfl⟩
  rw [hn] at HN ⊢
  clear hC hr hn
  cases ok
  · go_enter Try.func33, Try.ntmps33
    go_wp2_with fail
    refine HN.out.mono ?_
    rintro e w' ⟨rfl, rfl⟩
    go_wp2_with fail
    go_ret2
    exact ⟨rfl, rfl⟩
  · go_enter Try.func33, Try.ntmps33
    go_wp2_with fail
    refine HN.out.mono ?_
    rintro e w' ⟨rfl, rfl⟩
    go_wp2_with fail
    refine (go_far n _).mono ?_
    rintro e w' ⟨rfl, rfl⟩
    go_wp2_with fail
    go_ret2
    exact ⟨rfl, rfl⟩
def intsB (xs : List Int) : Array Value := (xs.map (Value.int .i64)).toArray
theorem addr_add_ (g o n : Nat) : (⟨g, o, none⟩ : Addr).add n = ⟨g, o + n, none⟩ := by
  unfold Addr.add
  split
  · rename_i h; rw [h, Nat.add_zero]
  · rfl
theorem C_of_ints {w : World} {g : Nat} {xs : List Int} {t : TypeId} (h : w.heap[g]? = some (.cells (intsB xs) t (0, 0))) (hl : xs.length ≤ 9223372036854775807) : Kd.C (Kd.int .i64) w (some ⟨g, 0, none⟩) xs.length xs :=
  ⟨rfl, hl, fun _ => ⟨_, rfl, fun j p hp => ⟨[.int .i64 p], rfl, rfl, fun i u hi => by
    match i, hi with
    | 0, hi =>
      have hi : Value.int .i64 p = u := by simpa using hi
      subst hi
      have h1 := blk_cell h j
      have e : (⟨g, 0, none⟩ : Addr).add (j * (Kd.int .i64).sz + 0) = ⟨g, j, none⟩ := by
        have es : (Kd.int .i64).sz = 1 := rfl
        rw [addr_add_, es]; congr 1; omega
      rw [e, h1]
      simp [intsB, hp]
    | i + 1, hi => simp at hi⟩⟩⟩
theorem intsB_set (xs : List Int) (i : Nat) (x : Int) : (intsB xs).setIfInBounds i (.int .i64 x) = intsB (xs.set i x) := by
  apply Array.ext_getElem?
  intro k
  simp [intsB, List.getElem?_set, Array.getElem?_setIfInBounds]
  all_goals (split <;> (try split) <;> simp_all)
theorem C_of_cells {w : World} {g cap : Nat} {ks : List Cell} {cur : Array Value} (hh : w.heap[g]? = some (.cells cur 52 (0, 0))) (htk : cur.toList.take (ks.length * 7) = flatC ks) (a n : Nat) (hn : a + n ≤ ks.length) (hl : ks.length ≤ 9223372036854775807) :
    Kd.C k52 w (some ⟨g, a * 7, none⟩) ((ks.drop a).take n).length ((ks.drop a).take n) := by
  have hlen : ((ks.drop a).take n).length = n := by simp; omega
  refine ⟨rfl, by rw [hlen]; omega, fun _ => ⟨_, rfl, fun j p hp => ?_⟩⟩
  have hj : j < n := by rw [← hlen]; exact (List.getElem?_eq_some_iff.mp hp).1
  have hp1 : ks[a + j]? = some p := by rw [List.getElem?_take, if_pos hj, List.getElem?_drop] at hp; exact hp
  obtain ⟨hlt, hp2⟩ := List.getElem?_eq_some_iff.mp hp1
  refine ⟨cellL p, rfl, k52_mk w p, fun i u hi => ?_⟩
  have hi7 : i < 7 := by
    have := (List.getElem?_eq_some_iff.mp hi).1
    simpa [cellL] using this
  have h1 := flatC_at ks (a + j) i hlt hi7
  rw [hp2, hi, ← htk, List.getElem?_take, if_pos (by omega), Array.getElem?_toList] at h1
  have e : (⟨g, a * 7, none⟩ : Addr).add (j * k52.sz + i) = ⟨g, (a + j) * 7 + i, none⟩ := by
    have es : k52.sz = 7 := rfl
    rw [addr_add_, es]; congr 1; omega
  rw [e, blk_cell hh, h1]
theorem info_int : (Try.prog.info? 3).map (fun i => (i.zero, i.size, i.bytes)) = some (some (.int .i64 0), 1, 8) := by kernel_rfl
theorem made_zeros (n : Nat) : madeCells (Value.cells (.int .i64 0)) (n * 1) = intsB (List.replicate n (0 : Int)) := by
  unfold intsB
  apply Array.ext
  · simp [madeCells]
  · intro i h1 h2
    simp [madeCells, Value.cells, Nat.mod_one]
theorem info_parts_ {t : TypeId} {z : Value} {s b : Nat} (h : (Try.prog.info? t).map (fun i => (i.zero, i.size, i.bytes)) = some (some z, s, b)) : ∃ i, Try.prog.info? t = some i ∧ i.zero = some z ∧ i.size = s ∧ i.bytes = b := by
  cases hi : Try.prog.info? t with
  | none => rw [hi] at h; cases h
  | some i =>
    rw [hi] at h
    injection h with h
    injection h with h1 h2
    injection h2 with h2 h3
    exact ⟨i, rfl, h1, h2, h3⟩
theorem run_make_ints (w : World) (n : Nat) (hn : n ≤ 1000000) : (Instr.makeSlice 71 (.int .i64 (n : Int)) (.int .i64 (n : Int))).run Try.prog w = .ok (.slice (some ⟨w.heap.size, 0, none⟩) n n) (w.alloc (.cells (intsB (List.replicate n (0 : Int))) 3)) := by
  obtain ⟨i, hi, hz, hs, hb⟩ := info_parts_ info_int
  have h := run_make w 71 3 i _ Try.underlying71 hi hz .i64 .i64 n n (by omega) (Int.le_refl _) (by rw [hb]; omega) (by omega)
  simp only [Int.toNat_natCast, hs, made_zeros] at h
  exact h
end Go.Proofs.Ytdlilbleohlmnaa.PAq
namespace Go.Proofs.Ytdlilbleohlmnaa
open Go.RowKit
open Go.Maps (Keyed)
def MapAt {κ : Type} (P : Program) (k : TypeId) (enc : κ → Value) (w : World) (b : Nat) (M : κ → Option Value) : Prop :=
  ∃ es clock, w.heap[b]? = some (.map es clock) ∧ MapKept.Stamped es clock ∧ (∀ e ∈ es.toList, ∃ x, e.key = enc x ∧ (∃ l, keyOf P k e.key = some l) ∧ M x = some e.val) ∧ ∀ x v, M x = some v → ∃ e ∈ es.toList, e.key = enc x ∧ e.val = v
theorem MapAt.lt {κ : Type} {P : Program} {k : TypeId} {enc : κ → Value} {w : World} {b : Nat} {M : κ → Option Value} (h : MapAt P k enc w b M) : b < w.heap.size := by
  obtain ⟨es, clock, hb, _⟩ := h
  exact (Array.getElem?_eq_some_iff.1 hb).1
theorem MapAt.of_block {κ : Type} {P : Program} {k : TypeId} {enc : κ → Value} {w w' : World} {b : Nat} {M : κ → Option Value} (h : MapAt P k enc w b M) (hb : w'.heap[b]? = w.heap[b]?) : MapAt P k enc w' b M := by
  obtain ⟨es, clock, h1, h2⟩ := h
  exact ⟨es, clock, hb.trans h1, h2⟩
theorem MapAt.below {κ : Type} {P : Program} {k : TypeId} {enc : κ → Value} {w w' : World} {b : Nat} {M : κ → Option Value} (h : MapAt P k enc w b M) (hB : Below w.heap.size w w') : MapAt P k enc w' b M :=
  h.of_block (hB.block b h.lt)
theorem MapAt.made {κ : Type} (P : Program) (k : TypeId) (enc : κ → Value) (w : World) : MapAt P k enc (w.alloc (.map #[] 0)) w.heap.size (fun _ => none) :=
  ⟨#[], 0, (MapKept.heap_alloc w _).1, MapKept.stamped_empty 0, by simp, by simp⟩
theorem MapAt.lookup {κ : Type} {P : Program} {k e t : TypeId} {enc : κ → Value} {w : World} {b : Nat} {M : κ → Option Value} (h : MapAt P k enc w b M) (K : Keyed P k) (inj : ∀ x y, enc x = enc y → x = y)
    (ht : P.underlying t = some (.map k e)) {z : Value} (hz : (zeroValue e).run P w = .ok z w) (c : Bool) (x : κ) {l : Lit} (hx : keyOf P k (enc x) = some l) :
    (Instr.lookup t (.map (some b)) (enc x) c).run P w = .ok (if c then .tuple #[(M x).getD z, .bool (M x).isSome] else (M x).getD z) w := by
  obtain ⟨es, clock, hb, hS, h1, h2⟩ := h
  rcases K.find w hx es.toList (fun e he => (h1 e he).choose_spec.2.1) with ⟨f1, f2⟩ | ⟨j, e0, f1, f2, f3⟩
  · have hM : M x = none := by
      cases hm : M x with
      | none => rfl
      | some v => obtain ⟨e, he, hk, _⟩ := h2 x v hm; exact absurd hk (f2 e he)
    cases c <;> simp [Instr.lookup, run_underlying ht, MapKept.run_getObj_map hb, K.check w _ hx, f1, hz, Result.andThen, hM]
  · have hM : M x = some e0.val := by
      obtain ⟨y, hy, _, hm⟩ := h1 e0 (List.mem_of_getElem? f2)
      rw [← inj y x (hy.symm.trans f3)]; exact hm
    cases c <;> simp [Instr.lookup, run_underlying ht, MapKept.run_getObj_map hb, K.check w _ hx, f1, Result.andThen, hM]
def putM {κ : Type} [DecidableEq κ] (M : κ → Option Value) (x : κ) (v : Value) : κ → Option Value := fun y => if y = x then some v else M y
theorem putM_self {κ : Type} [DecidableEq κ] (M : κ → Option Value) (x : κ) (v : Value) : putM M x v x = some v := by simp [putM]
theorem putM_ne {κ : Type} [DecidableEq κ] (M : κ → Option Value) {x y : κ} (v : Value) (h : y ≠ x) : putM M x v y = M y := by simp [putM, h]
theorem MapAt.store {κ : Type} [DecidableEq κ] {P : Program} {k e t : TypeId} {enc : κ → Value} {w : World} {b : Nat} {M : κ → Option Value} (h : MapAt P k enc w b M) (K : Keyed P k) (inj : ∀ x y, enc x = enc y → x = y)
    (ht : P.underlying t = some (.map k e)) (x : κ) (v : Value) {l : Lit} (hx : keyOf P k (enc x) = some l) :
    ∃ o, (Instr.mapUpdate t (.map (some b)) (enc x) v).run P w = .ok () (ChangeMaps.setBlock w b o) ∧ MapAt P k enc (ChangeMaps.setBlock w b o) b (putM M x v) := by
  have hlt := h.lt
  obtain ⟨es, clock, hb, hS, h1, h2⟩ := h
  rcases K.find w hx es.toList (fun e he => (h1 e he).choose_spec.2.1) with ⟨f1, f2⟩ | ⟨j, e0, f1, f2, f3⟩
  · refine ⟨.map (es.push ⟨enc x, v, clock⟩) (clock + 1), ?_, es.push ⟨enc x, v, clock⟩, clock + 1, ?_, MapKept.stamped_push hS f2, ?_, ?_⟩
    · simp [Instr.mapUpdate, run_underlying ht, MapKept.run_getObj_map hb, K.check w false hx, f1, MapKept.run_setObj_map _ hb, Result.andThen, ChangeMaps.setBlock]
    · simp [ChangeMaps.setBlock, hlt]
    · intro e he
      simp only [Array.toList_push, List.mem_append, List.mem_singleton] at he
      rcases he with he | rfl
      · obtain ⟨y, hy, hl, hm⟩ := h1 e he
        refine ⟨y, hy, hl, ?_⟩
        rw [putM_ne _ _ (fun c => f2 e he (by rw [hy, c]))]; exact hm
      · exact ⟨x, rfl, ⟨l, hx⟩, putM_self _ _ _⟩
    · intro y u hy
      simp only [Array.toList_push, List.mem_append, List.mem_singleton]
      by_cases c : y = x
      · rw [c, putM_self] at hy; cases hy; exact ⟨_, .inr rfl, by rw [c], rfl⟩
      · rw [putM_ne _ _ c] at hy
        obtain ⟨e, he, h3⟩ := h2 y u hy
        exact ⟨e, .inl he, h3⟩
  · have hj : es[j]? = some e0 := by simpa using f2
    have hjl : j < es.toList.length := (List.getElem?_eq_some_iff.1 f2).1
    have hlist : (es.modify j (fun e' => { e' with key := enc x, val := v })).toList = es.toList.set j { e0 with key := enc x, val := v } := by rw [Array.toList_modify, ChangeMaps.modify_eq_set _ _ _ _ f2]
    have hS' : MapKept.Stamped (es.modify j (fun e' => { e' with key := enc x, val := v })) clock :=
      MapKept.stamped_modify hS j _ (fun e' he' => rfl) (fun e' _ he' => by rw [hj] at he'; cases he'; exact f3.symm)
    have hpw := ((MapKept.stamped_iff es clock).1 hS).2.2
    have hne : ∀ i e', i ≠ j → es.toList[i]? = some e' → e'.key ≠ enc x := by
      intro i e' hij he' hk
      obtain ⟨hi, he2⟩ := List.getElem?_eq_some_iff.1 he'
      obtain ⟨hj2, he3⟩ := List.getElem?_eq_some_iff.1 f2
      have := List.pairwise_iff_getElem.1 hpw
      rcases Nat.lt_or_gt_of_ne hij with h | h
      · exact this i j hi hj2 h (by rw [he2, he3, hk, f3])
      · exact this j i hj2 hi h (by rw [he2, he3, hk, f3])
    refine ⟨.map (es.modify j (fun e' => { e' with key := enc x, val := v })) clock, ?_, _, clock, ?_, hS', ?_, ?_⟩
    · have hk : (Instr.keyThatStays (((es[j]?).map (·.key)).getD (enc x)) (enc x)).run P w = .ok (enc x) w := by rw [hj]; simp [f3, K.stays w hx]
      have hk' : (Instr.keyThatStays e0.key (enc x)).run P w = .ok (enc x) w := by rw [f3]; exact K.stays w hx
      simp [Instr.mapUpdate, run_underlying ht, MapKept.run_getObj_map hb, K.check w false hx, f1, hj, hk', MapKept.run_setObj_map _ hb, Result.andThen, ChangeMaps.setBlock]
    · simp [ChangeMaps.setBlock, hlt]
    · rw [hlist]
      intro e he
      obtain ⟨i, hi, rfl⟩ := List.getElem_of_mem he
      rw [List.getElem_set]
      split
      · exact ⟨x, rfl, ⟨l, hx⟩, putM_self _ _ _⟩
      · rename_i hij
        simp only [List.length_set] at hi
        have hm := List.getElem_mem (l := es.toList) hi
        obtain ⟨y, hy, hl, hmm⟩ := h1 _ hm
        refine ⟨y, hy, hl, ?_⟩
        rw [putM_ne _ _ (fun c => hne i _ (fun h => hij h.symm) (List.getElem?_eq_getElem hi) (by rw [hy, c]))]; exact hmm
    · intro y u hy
      rw [hlist]
      by_cases c : y = x
      · rw [c, putM_self] at hy; cases hy
        exact ⟨{ e0 with key := enc x, val := v }, List.mem_iff_getElem.2 ⟨j, by simpa using hjl, by simp⟩, by rw [c], rfl⟩
      · rw [putM_ne _ _ c] at hy
        obtain ⟨e, he, hk, hv⟩ := h2 y u hy
        obtain ⟨i, hi, rfl⟩ := List.getElem_of_mem he
        have hij : j ≠ i := by
          intro h
          subst h
          have : es.toList[j] = e0 := (List.getElem?_eq_some_iff.1 f2).2
          rw [this, f3] at hk
          exact c (inj x y hk).symm
        exact ⟨es.toList[i], List.mem_iff_getElem.2 ⟨i, by simpa using hi, by rw [List.getElem_set, if_neg hij]⟩, hk, hv⟩
open Go.Maps (Keyed)
open Go.ChangeMaps (setBlock)
open Go.MapKept (heap_set)
def RangeAt {κ : Type} (P : Program) (k : TypeId) (enc : κ → Value) (w : World) (b r : Nat) (M : κ → Option Value) (todo : List κ) : Prop :=
  ∃ es clock since seen c0, w.heap[b]? = some (.map es clock) ∧ MapKept.Stamped es clock ∧ (∀ e ∈ es.toList, ∃ x, e.key = enc x ∧ (∃ l, keyOf P k e.key = some l) ∧ M x = some e.val) ∧ (∀ x v, M x = some v → ∃ e ∈ es.toList, e.key = enc x ∧ e.val = v) ∧
    w.heap[r]? = some (.mapIter (some b) since seen c0) ∧ (∀ x ∈ es.toList, x.born < since) ∧ since ≤ c0 ∧ since ≤ clock ∧ (leftOf es seen).toList.map (·.key) = todo.map enc
section
variable {κ : Type} {P : Program} {k e t : TypeId} {enc : κ → Value} {w w' : World} {b r : Nat} {M : κ → Option Value} {todo : List κ}
theorem RangeAt.map (h : RangeAt P k enc w b r M todo) : MapAt P k enc w b M := by
  obtain ⟨es, clock, since, seen, c0, h1, h2, h3, h4, _⟩ := h
  exact ⟨es, clock, h1, h2, h3, h4⟩
theorem RangeAt.lt (h : RangeAt P k enc w b r M todo) : b < w.heap.size ∧ r < w.heap.size := by
  obtain ⟨es, clock, since, seen, c0, h1, h2, h3, h4, h5, _⟩ := h
  exact ⟨(Array.getElem?_eq_some_iff.1 h1).1, (Array.getElem?_eq_some_iff.1 h5).1⟩
theorem RangeAt.of_blocks (h : RangeAt P k enc w b r M todo) (hb : w'.heap[b]? = w.heap[b]?) (hr : w'.heap[r]? = w.heap[r]?) : RangeAt P k enc w' b r M todo := by
  obtain ⟨es, clock, since, seen, c0, h1, h2, h3, h4, h5, h6⟩ := h
  exact ⟨es, clock, since, seen, c0, hb.trans h1, h2, h3, h4, hr.trans h5, h6⟩
theorem RangeAt.below (h : RangeAt P k enc w b r M todo) (hB : Below w.heap.size w w') : RangeAt P k enc w' b r M todo := h.of_blocks (hB.block b h.lt.1) (hB.block r h.lt.2)
theorem nodup_of_left {es : Array MapEntry} {seen : Array Nat} {clock : Nat} (hS : MapKept.Stamped es clock) : ((leftOf es seen).toList.map (·.born)).Nodup ∧ (leftOf es seen).toList.Pairwise (fun x y => x.key ≠ y.key) := by
  obtain ⟨_, h2, h3⟩ := (MapKept.stamped_iff es clock).1 hS
  have hs : (leftOf es seen).toList.Sublist es.toList := by unfold leftOf; rw [Array.toList_filter]; exact List.filter_sublist
  exact ⟨(hs.map _).nodup h2, h3.sublist hs⟩
theorem todo_of : ∀ (l : List MapEntry), (∀ e ∈ l, ∃ x, e.key = enc x ∧ M x = some e.val) → ∃ todo : List κ, l.map (·.key) = todo.map enc ∧ ∀ x ∈ todo, (M x).isSome = true
  | [], _ => ⟨[], rfl, fun x hx => by cases hx⟩
  | a :: l, h => by
    obtain ⟨todo, h1, h2⟩ := todo_of l (fun e he => h e (List.mem_cons_of_mem _ he))
    obtain ⟨x, hx, hm⟩ := h a (List.mem_cons_self ..)
    refine ⟨x :: todo, by simp [h1, hx], fun y hy => ?_⟩
    rcases List.mem_cons.1 hy with rfl | hy
    · rw [hm]; rfl
    · exact h2 y hy
theorem MapAt.start (h : MapAt P k enc w b M) (inj : ∀ x y, enc x = enc y → x = y) (ht : P.underlying t = some (.map k e)) :
    ∃ (todo : List κ) (o : Obj), (Instr.range t (.map (some b))).run P w = .ok (.pointer (some ⟨w.heap.size, 0, none⟩)) (w.alloc o) ∧ RangeAt P k enc (w.alloc o) b w.heap.size M todo ∧ todo.Nodup ∧ ∀ x, x ∈ todo ↔ (M x).isSome = true := by
  have hlt := h.lt
  obtain ⟨es, clock, hb, hS, h1, h2⟩ := h
  have hl : (leftOf es #[]) = es := by simp [leftOf]
  obtain ⟨todo, ht1, ht2⟩ := todo_of (enc := enc) (M := M) es.toList (fun e he => by obtain ⟨x, a, _, c⟩ := h1 e he; exact ⟨x, a, c⟩)
  have hnd : todo.Nodup := by
    have h3 := ((MapKept.stamped_iff es clock).1 hS).2.2
    have h4 : (es.toList.map (·.key)).Nodup := List.pairwise_map.2 h3
    rw [ht1] at h4
    exact (List.pairwise_map.1 h4).imp (fun hne he => hne (by rw [he]))
  refine ⟨todo, .mapIter (some b) clock #[] clock, run_range_map w t k e b es clock ht hb, ⟨es, clock, clock, #[], clock, (Go.MapKept.heap_alloc w _).2 b hlt |>.trans hb, hS, h1, h2, (Go.MapKept.heap_alloc w _).1, hS.1, Nat.le_refl _, Nat.le_refl _, by rw [hl]; exact ht1⟩, hnd, fun x => ⟨ht2 x, fun hx => ?_⟩⟩
  obtain ⟨v, hv⟩ := Option.isSome_iff_exists.1 hx
  obtain ⟨e0, he, hk, _⟩ := h2 x v hv
  have : enc x ∈ todo.map enc := by rw [← ht1, ← hk]; exact List.mem_map.2 ⟨e0, he, rfl⟩
  obtain ⟨y, hy, hyx⟩ := List.mem_map.1 this
  rw [← inj y x hyx]; exact hy
theorem filter_one (l1 l2 : List MapEntry) (e : MapEntry) (h : ((l1 ++ e :: l2).map (·.born)).Nodup) : (l1 ++ e :: l2).filter (fun x => !(x.born == e.born)) = l1 ++ l2 := by
  rw [List.map_append, List.map_cons] at h
  obtain ⟨_, h2, h3⟩ := List.nodup_append.1 h
  have hn1 : ∀ x ∈ l1, x.born ≠ e.born := fun x hx => h3 _ (List.mem_map.2 ⟨x, hx, rfl⟩) _ (List.mem_cons_self ..)
  have hn2 : ∀ x ∈ l2, x.born ≠ e.born := fun x hx he => (List.nodup_cons.1 h2).1 (List.mem_map.2 ⟨x, hx, he⟩)
  rw [List.filter_append, List.filter_cons]
  simp only [beq_self_eq_true, Bool.not_true, Bool.false_eq_true, if_false]
  rw [List.filter_eq_self.2 (fun x hx => by simpa using hn1 x hx), List.filter_eq_self.2 (fun x hx => by simpa using hn2 x hx)]
theorem RangeAt.next (h : RangeAt P k enc w b r M todo) (inj : ∀ x y, enc x = enc y → x = y) (ty : TypeId) :
    (todo = [] ∧ (Instr.next (.pointer (some ⟨r, 0, none⟩)) false ty).run P w = .ok (.tuple #[.bool false]) w) ∨
    ∃ l1 x l2 v w', todo = l1 ++ x :: l2 ∧ M x = some v ∧ (Instr.next (.pointer (some ⟨r, 0, none⟩)) false ty).run P w = .ok (.tuple #[.bool true, enc x, v]) w' ∧ RangeAt P k enc w' b r M (l1 ++ l2) ∧
      w.grownBy w' (some r) ∧ w'.heap.size = w.heap.size ∧ (Instr.entry (.pointer (some ⟨r, 0, none⟩))).run P w' = .ok (.tuple #[enc x, v]) w' := by
  obtain ⟨es, clock, since, seen, c0, hb, hS, h1, h2, hr, hold, hsc, hsk, hk⟩ := h
  have hne : r ≠ b := by intro e; rw [e, hb] at hr; cases hr
  rcases run_next_at (P := P) w ty r b since c0 seen es clock hr hb hold hsc with ⟨h0, hrun⟩ | ⟨e, he, w1, hal, hrun⟩
  · left
    refine ⟨?_, hrun⟩
    have hl : (leftOf es seen).toList = [] := List.eq_nil_of_length_eq_zero (by simpa using h0)
    rw [hl] at hk
    exact (List.map_eq_nil_iff.1 hk.symm)
  · right
    obtain ⟨hem, hes⟩ := mem_left he
    obtain ⟨y, hy, hyl, hym⟩ := h1 e hem
    obtain ⟨L1, L2, hL⟩ := List.append_of_mem he
    rw [hL, List.map_append, List.map_cons] at hk
    obtain ⟨l1, l2', rfl, hk1, hk2⟩ := List.map_eq_append_iff.1 hk.symm
    obtain ⟨x, l2, rfl, hx, hk3⟩ := List.map_eq_cons_iff.1 hk2
    obtain ⟨x', hx', _, hm'⟩ := h1 e hem
    have hr1 : w1.heap[r]? = some (.mapIter (some b) since seen c0) := by rcases hal with rfl | rfl <;> exact hr
    have hb1 : w1.heap[b]? = some (.map es clock) := by rcases hal with rfl | rfl <;> exact hb
    have hset := heap_set (o' := .mapIter (some b) since (seen.push e.born) clock) hr1
    have hb' : (setBlock w1 r (.mapIter (some b) since (seen.push e.born) clock)).heap[b]? = some (.map es clock) := (hset.2 b (fun e1 => hne e1.symm)).trans hb1
    have hmx : M x = some e.val := by rw [inj x x' (hx.trans hx')]; exact hm'
    refine ⟨l1, x, l2, e.val, _, rfl, hmx, by rw [hx]; exact hrun, ⟨es, clock, since, seen.push e.born, clock, hb', hS, h1, h2, hset.1, hold, hsk, hsk, ?_⟩, ?_, ?_, by rw [hx]; exact run_entry_at _ r b since seen es clock e hset.1 hb' hem ((MapKept.stamped_iff es clock).1 hS).2.1⟩
    · have hlf : (leftOf es (seen.push e.born)).toList = (leftOf es seen).toList.filter (fun x => !(x.born == e.born)) := by
        unfold leftOf
        rw [Array.toList_filter, Array.toList_filter, List.filter_filter]
        congr 1
        funext z
        rw [Array.contains_push]
        cases seen.contains z.born <;> cases (z.born == e.born) <;> rfl
      rw [hlf, hL, filter_one L1 L2 e (by rw [← hL]; exact (nodup_of_left hS).1), List.map_append, List.map_append, hk1, hk3]
    · rcases hal with rfl | rfl <;> exact ⟨rfl, rfl, rfl, by simp [setBlock], fun i _ hi => hset.2 i (fun e1 => hi (by rw [e1]))⟩
    · rcases hal with rfl | rfl <;> simp [setBlock]
end
end Go.Proofs.Ytdlilbleohlmnaa
namespace Go.Proofs.Ytdlilbleohlmnaa
open Go.RowKit Go.Lib Go.Proofs.YtdlilbleohlmnaaW.PrintWords Go.Proofs.YtdlilbleohlmnaaW.PrintLast
section
variable {P : Program} {w : World}
theorem run_append_any (t ty : TypeId) (base : Nat) (e : TypeId) (i : TypeInfo) (z : Value) (size bytes : Nat) (ht : P.underlying t = some (.slice e)) (hi : P.info? e = some i) (hz : i.zero = some z)
    (hsize : i.size = size) (hby : i.bytes = bytes) (hzs : z.cells.size = size) (hsz : 0 < size)
    (v : Value) (n : Nat) (xs : List Value) (hown : w.ownsRow base e size v n xs)
    (A : Option Addr) (m c : Nat) (news : List Value) (hl : news.length = m * size) (hnews : ∀ j u, news[j]? = some u → ∃ ad, A = some ad ∧ w.cell? (ad.add j) = some u) (h1 : ∀ u ∈ news, u.oneCell' = true)
    (h63 : n + m ≤ maxLen) (hbytes : (n + m) * bytes ≤ 140737488355328) (hbase : base ≤ w.heap.size) :
    ∃ v' w', (Builtin.append_ #[t, t] ty #[v, .slice A m c]).run P w = .ok v' w' ∧ w'.ownsRow base e size v' (n + m) (xs ++ news) ∧ w.grownBy w' v.ownBlock ∧ (v'.ownBlock = v.ownBlock ∨ v'.ownBlock = some w.heap.size) := by
  cases A with
  | some ad =>
    obtain ⟨v', w', hr, h2, h3, _, h5⟩ := run_append_own_at (P := P) w base t ty e i z size bytes ht hi hz hsize hby hzs hsz v n xs hown ad m c news hl (fun j u hu => by obtain ⟨ad', h, hc⟩ := hnews j u hu; cases h; exact hc) h1 h63 hbytes hbase
    exact ⟨v', w', hr, h2, h3, h5⟩
  | none =>
    have hn : news = [] := by
      cases news with
      | nil => rfl
      | cons u r => obtain ⟨_, h, _⟩ := hnews 0 u rfl; cases h
    subst hn
    have hm : m = 0 := by
      have h2 : m * size = 0 := hl.symm
      rcases Nat.mul_eq_zero.1 h2 with h | h
      · exact h
      · omega
    subst hm
    refine ⟨v, w, ?_, by simpa using hown, World.grownBy.refl w _, .inl rfl⟩
    rcases hown.2 with ⟨rfl, rfl⟩ | ⟨g, cap, cur, rfl, _, _, hnc, _⟩
    · simp [Builtin.append_, run_underlying ht, sizeOf, typeInfo, hi, Builtin.lenOf, Builtin.firstCells]
    · simp [Builtin.append_, run_underlying ht, sizeOf, typeInfo, hi, Builtin.lenOf, Builtin.firstCells, hnc, storeCells]
theorem step_append_any {ops : Array Oper} {o : Oper} {a : Act} {K : Act → World → Prop} {Q : Exit → Act → World → Prop} {E : Prop} (hgd : o.guard = none) (s x : Operand) (t : TypeId)
    (ho : o.op = .call { callee := .builtin .append, args := #[s, x], argTypes := #[t, t] })
    (base : Nat) (e : TypeId) (i : TypeInfo) (z : Value) (size bytes : Nat) (ht : P.underlying t = some (.slice e)) (hi : P.info? e = some i) (hz : i.zero = some z)
    (hsize : i.size = size) (hby : i.bytes = bytes) (hzs : z.cells.size = size) (hsz : 0 < size)
    (v : Value) (n : Nat) (xs : List Value) (hs : a.eval s = v) (hown : w.ownsRow base e size v n xs)
    (A : Option Addr) (m c : Nat) (news : List Value) (hx : a.eval x = .slice A m c) (hl : news.length = m * size) (hnews : ∀ j u, news[j]? = some u → ∃ ad, A = some ad ∧ w.cell? (ad.add j) = some u) (h1 : ∀ u ∈ news, u.oneCell' = true)
    (h63 : n + m ≤ maxLen) (hbytes : (n + m) * bytes ≤ 140737488355328) (hbase : base ≤ w.heap.size)
    (h : ∀ v' w', w'.ownsRow base e size v' (n + m) (xs ++ news) → w.grownBy w' v.ownBlock → (v'.ownBlock = v.ownBlock ∨ v'.ownBlock = some w.heap.size) → K (a.put o.dst v') w') :
    if Region.wanted o (yielded ops a.tmps) = true then Oper.wp P o a w K Q else E := by
  have hw : Region.wanted o (yielded ops a.tmps) = true := by simp [Region.wanted, hgd]
  rw [if_pos hw]
  obtain ⟨v', w', hr, h2, h3, h4⟩ := run_append_any (P := P) (w := w) t o.type base e i z size bytes ht hi hz hsize hby hzs hsz v n xs hown A m c news hl hnews h1 h63 hbytes hbase
  unfold Oper.wp execOp
  simp only [ho, resolve, invoke, builtin, Sem.run_bind, Sem.run_pure, Result.andThen_ok, List.map_toArray, List.map_cons, List.map_nil, hs, hx, hr]
  exact h v' w' h2 h3 h4
theorem wpList_append_any {ops : Array Oper} {rest : List Oper} {o : Oper} {a : Act} {Q : Exit → Act → World → Prop} (hgd : o.guard = none) (s x : Operand) (t : TypeId)
    (ho : o.op = .call { callee := .builtin .append, args := #[s, x], argTypes := #[t, t] })
    (base : Nat) (e : TypeId) (i : TypeInfo) (z : Value) (size bytes : Nat) (ht : P.underlying t = some (.slice e)) (hi : P.info? e = some i) (hz : i.zero = some z)
    (hsize : i.size = size) (hby : i.bytes = bytes) (hzs : z.cells.size = size) (hsz : 0 < size)
    (v : Value) (n : Nat) (xs : List Value) (hs : a.eval s = v) (hown : w.ownsRow base e size v n xs)
    (A : Option Addr) (m c : Nat) (news : List Value) (hx : a.eval x = .slice A m c) (hl : news.length = m * size) (hnews : ∀ j u, news[j]? = some u → ∃ ad, A = some ad ∧ w.cell? (ad.add j) = some u) (h1 : ∀ u ∈ news, u.oneCell' = true)
    (h63 : n + m ≤ maxLen) (hbytes : (n + m) * bytes ≤ 140737488355328) (hbase : base ≤ w.heap.size)
    (h : ∀ v' w', w'.ownsRow base e size v' (n + m) (xs ++ news) → w.grownBy w' v.ownBlock → (v'.ownBlock = v.ownBlock ∨ v'.ownBlock = some w.heap.size) → wpList P ops Q rest (a.put o.dst v') w') :
    wpList P ops Q (o :: rest) a w := by
  obtain ⟨v', w', hr, h2, h3, h4⟩ := run_append_any (P := P) (w := w) t o.type base e i z size bytes ht hi hz hsize hby hzs hsz v n xs hown A m c news hl hnews h1 h63 hbytes hbase
  refine Kd.event_run hgd (v := v') (w1 := w') ?_ (h v' w' h2 h3 h4)
  unfold execOp
  simp only [ho, resolve, invoke, builtin, Sem.run_bind, Sem.run_pure, Result.andThen_ok, List.map_toArray, List.map_cons, List.map_nil, hs, hx, hr]
end
theorem own_lower_ {w : World} {b b' : Nat} {e : TypeId} {size n : Nat} {v : Value} {xs : List Value} (h : w.ownsRow b e size v n xs) (hb : b' ≤ b) : w.ownsRow b' e size v n xs := by
  refine ⟨h.1, ?_⟩
  rcases h.2 with h2 | ⟨g, cap, cur, h1, h2, h3⟩
  · exact .inl h2
  · exact .inr ⟨g, cap, cur, h1, Nat.le_trans hb h2, h3⟩
end Go.Proofs.Ytdlilbleohlmnaa
namespace Go.Proofs.Ytdlilbleohlmnaa.PAq
open Go.RowKit Go.Lib Go.Proofs.YtdlilbleohlmnaaW.PrintWords Go.Proofs.YtdlilbleohlmnaaW.PrintLast
theorem own_form {w : World} {B n sz e : Nat} {v : Value} {xs : List Value} (h : w.ownsRow B e sz v n xs) : ∃ A c, v = .slice A n c ∧ n ≤ c ∧ (A = none → n = 0 ∧ c = 0) ∧ c ≤ maxLen := by
  rcases h.2 with ⟨hv, h0⟩ | ⟨g, cap, cur, hv, _, hh, hnc, hcm, _⟩
  · exact ⟨none, 0, by rw [hv, h0], by omega, fun _ => ⟨h0, rfl⟩, by omega⟩
  · exact ⟨some ⟨g, 0, none⟩, cap, hv, hnc, (fun h => by cases h), hcm⟩
theorem grown_then {w a b : World} {row row' : Option Nat} (h : w.grownBy a row) (k : a.grownBy b row') (hr : row' = row ∨ ∃ n, row' = some n ∧ w.heap.size ≤ n) : w.grownBy b row :=
  ⟨k.os.trans h.os, k.tape.trans h.tape, k.output.trans h.output, Nat.le_trans h.size k.size, fun i hi hne => (k.block i (Nat.lt_of_lt_of_le hi h.size) (fun e => by
    rcases hr with hr | ⟨n, hr, hn⟩
    · exact hne (e.trans hr)
    · rw [hr] at e; injection e with e; omega)).trans (h.block i hi hne)⟩
theorem grown_below {w a b : World} {row : Option Nat} (h : w.grownBy a row) (k : Below a.heap.size a b) : w.grownBy b row :=
  ⟨k.os.trans h.os, k.tape.trans h.tape, k.output.trans h.output, Nat.le_trans h.size k.size, fun i hi hne => (k.block i (Nat.lt_of_lt_of_le hi h.size)).trans (h.block i hi hne)⟩
variable {w W : World}
theorem own_block_cells {B e sz n : Nat} {v : Value} {xs : List Value} (h : w.ownsRow B e sz v n xs) {k : Nat} (hk : v.ownBlock = some k) : ∃ cs, w.heap[k]? = some (.cells cs e (0, 0)) := (q_typed (q_of_own h) k hk).2
theorem own_not_block {B e sz n k : Nat} {v : Value} {xs : List Value} (h : w.ownsRow B e sz v n xs) {o : Obj} (ho : w.heap[k]? = some o) (hne : ∀ cs, o ≠ .cells cs e (0, 0)) : v.ownBlock ≠ some k := fun he => by
  obtain ⟨cs, hc⟩ := own_block_cells h he
  rw [ho] at hc
  injection hc with hc
  exact hne cs hc
theorem own_ne_of {B e sz n k e' : Nat} {v : Value} {xs : List Value} {cs : Array Value} (h : w.ownsRow B e sz v n xs) (hk : w.heap[k]? = some (.cells cs e' (0, 0))) (hne : e ≠ e') : v.ownBlock ≠ some k :=
  own_not_block h hk (fun cs' e1 => by injection e1 with _ e1; exact hne e1.symm)
end Go.Proofs.Ytdlilbleohlmnaa.PAq
namespace Go.Proofs.Ytdlilbleohlmnaa.PAq
open Go.RowKit Go.Lib Go.Sort Go.Proofs.YtdlilbleohlmnaaW.PrintWords Go.Proofs.YtdlilbleohlmnaaW.PrintLast
def amts (g : List Cell) : List Int := g.map (·.f1)
def bass (g : List Cell) : List Int := g.map (·.f2)
def oneG (g acc : List Cell) : Option (List Cell) :=
  if ((tot (amts g)).2 && (tot (bass g)).2) = true then some (if ((tot (amts g)).1 == 0 && (tot (bass g)).1 == 0) = true then acc else acc ++ [⟨g[0]!.f0, (tot (amts g)).1, (tot (bass g)).1⟩]) else none
theorem cell_blkA {W w : World} {a : Addr} (h : W.heap[a.block]? = w.heap[a.block]?) : W.cell? a = w.cell? a := by simp [World.cell?, h]
theorem set_take {k n : Nat} {x : Int} (l : List Int) (hl : l.length = n) (hk : k < n) (hx : l[k]? = some x) : (l.take k ++ List.replicate (n - k) 0).set k x = l.take (k + 1) ++ List.replicate (n - (k + 1)) 0 := by
  have hlk : (l.take k).length = k := by rw [List.length_take]; omega
  rw [List.set_append_right _ _ (by omega), hlk, Nat.sub_self, show n - k = (n - (k + 1)) + 1 by omega, List.replicate_succ, List.set_cons_zero, List.take_add_one, hx]
  simp
theorem amts_at (g : List Cell) (k : Nat) (h : k < g.length) : (amts g)[k]? = some g[k]!.f1 := by
  rw [amts, List.getElem?_map, List.getElem?_eq_getElem h, getElem!_pos g k h]; rfl
theorem bass_at (g : List Cell) (k : Nat) (h : k < g.length) : (bass g)[k]? = some g[k]!.f2 := by
  rw [bass, List.getElem?_map, List.getElem?_eq_getElem h, getElem!_pos g k h]; rfl
set_option maxHeartbeats 8000000 in
set_option maxRecDepth 100000 in
theorem go_ofOne (g acc : List Cell) (B z2 n c : Nat) (A : Option Addr) (v : Value) (w : World) (hC : Kd.C k52 w A n g) (hnc : n ≤ c) (hn1 : 1 ≤ n) (hn : n ≤ 1000000) (hr : ∀ x ∈ g, in64 x.f1 ∧ in64 x.f2)
    (hz : w.heap[z2]? = some (.cells #[v] 34 (0, 0))) (hown : w.ownsRow B 52 7 v acc.length (flatC acc)) (hB : B ≤ w.heap.size) (hne : ∀ ad, A = some ad → some ad.block ≠ v.ownBlock) (hacc : acc.length ≤ 1000000) :
    Calls Try.prog 52 #[.slice A n c, .pointer (some ⟨z2, 0, none⟩)] w fun e w' => e = .returned (.bool (oneG g acc).isSome) ∧ ∃ v', w'.heap[z2]? = some (.cells #[v'] 34 (0, 0)) ∧ w'.ownsRow B 52 7 v' ((oneG g acc).getD acc).length (flatC ((oneG g acc).getD acc)) ∧
      (v'.ownBlock = v.ownBlock ∨ ∃ b, v'.ownBlock = some b ∧ w.heap.size ≤ b) ∧ (∀ k, k < w.heap.size → k ≠ z2 → some k ≠ v.ownBlock → w'.heap[k]? = w.heap[k]?) ∧ w'.os = w.os ∧ w'.tape = w.tape ∧ w'.output = w.output ∧ w.heap.size ≤ w'.heap.size := by
  have HZ := Lib.hid hz; have HOWN := Lib.hid hown; have HCC := Lib.hid hC; have HRG := Lib.hid hr
  have hgl : g.length = n := Kd.C_len hC
  have HGL := Lib.hid hgl
  have HNE0 := Lib.hid hne
  clear hz hown hC hr hgl hne
  go_enter Try.func52, Try.ntmps52
  have hmk := fun W : World => run_make_ints W n hn
  go_upto_region 1 with fail
  refine start_ (n := 8) (S := fun w' => True) (ds := []) #[false, false, false, false, false, false, false, false] (by kernel_rfl) rfl rfl trivial (fun hHeld => ?_)
  refine pure_ (i := 0) (N := some 12) (v := ?_) (a' := ?_) #[true, false, false, false, false, false, false, false] rfl rfl (by kernel_rfl) (fun _ _ _ h => h) (Or.inl ⟨by rfl, ?_⟩) ?_ ?_
  rotate_left
  · intro w'
    go_simp
    with_reducible rfl
  rotate_left
  · simp only [Act.put, pkA, pkZ, pkS, i64_w, i32_w]
    rfl
  refine pure_ (i := 1) (N := some 13) (v := ?_) (a' := ?_) #[true, true, false, false, false, false, false, false] rfl rfl (by kernel_rfl) (fun _ _ _ h => h) (Or.inl ⟨by rfl, ?_⟩) ?_ ?_
  rotate_left
  · intro w'
    go_simp
    with_reducible rfl
  rotate_left
  · simp only [Act.put, pkA, pkZ, pkS, i64_w, i32_w]
    rfl
  refine pure_ (i := 3) (N := some 15) (v := ?_) (a' := ?_) #[true, true, false, true, false, false, false, false] rfl rfl (by kernel_rfl) (fun _ _ _ h => h) (Or.inl ⟨by rfl, ?_⟩) ?_ ?_
  rotate_left
  · intro w'
    go_simp
    with_reducible rfl
  rotate_left
  · simp only [Act.put, pkA, pkZ, pkS, i64_w, i32_w]
    rfl
  refine pure_ (i := 4) (N := some 16) (v := ?_) (a' := ?_) #[true, true, false, true, true, false, false, false] rfl rfl (by kernel_rfl) (fun _ _ _ h => h) (Or.inl ⟨by rfl, ?_⟩) ?_ ?_
  rotate_left
  · intro w'
    go_simp
    with_reducible rfl
  rotate_left
  · simp only [Act.put, pkA, pkZ, pkS, i64_w, i32_w]
    rfl
  refine join_ (σ := Nat × Nat) 1 #[true, true, true, true, true, true, true, false] (fun q => [(14, .slice (some ⟨q.1, 0, none⟩) n n), (17, .slice (some ⟨q.2, 0, none⟩) n n), (4, .slice (some ⟨q.1, 0, none⟩) n n)]) (fun q w' => Below w.heap.size w w' ∧ w'.heap[q.1]? = some (.cells (intsB (List.replicate n 0)) 3 (0, 0)) ∧ w'.heap[q.2]? = some (.cells (intsB (List.replicate n 0)) 3 (0, 0)) ∧ q.1 ≠ q.2 ∧ w.heap.size ≤ q.1 ∧ w.heap.size ≤ q.2) ?_ ?_
  rotate_left
  · intro hCont
    refine two_ (i := 2) (j := 5) (Ni := some 14) (Nj := some 17) #[true, true, true, true, true, false, false, false] #[true, true, false, true, true, true, false, false] rfl rfl rfl rfl (by kernel_rfl) (by decide) (by decide) (fun K hK => ?_) (fun K hK => ?_)
    · skip
      refine value_ (w1 := ?_) (v := ?_) (by rfl) rfl ?_ ?_
      rotate_left 2
      · go_simp
        constructor
        · rfl
        · rfl
      have gr1 : Below w.heap.size w ((w.alloc (.cells (intsB (List.replicate n (0 : Int))) 3)).drew) := ((Below.refl _ _).alloc (Nat.le_refl _) _).drew
      have h2 : ((w.alloc (.cells (intsB (List.replicate n (0 : Int))) 3)).drew).heap[w.heap.size]? = some (.cells (intsB (List.replicate n (0 : Int))) 3 (0, 0)) := (Go.MapKept.heap_alloc w (.cells (intsB (List.replicate n (0 : Int))) 3)).1
      have hs1 : ((w.alloc (.cells (intsB (List.replicate n (0 : Int))) 3)).drew).heap.size = w.heap.size + 1 := by show (w.alloc _).heap.size = _; rw [World.size_alloc]
      obtain ⟨za, eza⟩ : ∃ z, w.heap.size = z := ⟨_, rfl⟩
      have lza : w.heap.size ≤ za := by omega
      rw [eza] at h2 ⊢
      obtain ⟨w2, hw2⟩ : ∃ W, (w.alloc (.cells (intsB (List.replicate n (0 : Int))) 3)).drew = W := ⟨_, rfl⟩
      rw [hw2] at gr1 h2 hs1 ⊢
      have HS1 := Lib.hid (show w2.heap.size = za + 1 by omega)
      clear hw2 hs1 eza
      refine hK.out _ _ trivial (fun hHeld => ?_)
      clear hK K
      refine norm_ (a' := ?_) ?_ ?_
      rotate_left
      · show Act.put _ (some 14) _ = _
        simp only [Act.put, pkA, pkZ, pkS, i64_w, i32_w]
        rfl
      refine pure_ (i := 6) (N := some 4) (v := ?_) (a' := ?_) #[true, true, true, true, true, false, true, false] rfl rfl (by kernel_rfl) (fun _ _ _ h => h) (Or.inl ⟨by rfl, ?_⟩) ?_ ?_
      rotate_left
      · intro w'
        go_simp
        with_reducible rfl
      rotate_left
      · simp only [Act.put, pkA, pkZ, pkS, i64_w, i32_w]
        rfl
      refine one_ (i := 5) (N := some 17) #[true, true, true, true, true, true, true, false] rfl rfl (by kernel_rfl) (by decide) (fun K hK => ?_)
      refine value_ (w1 := ?_) (v := ?_) (by rfl) rfl ?_ ?_
      rotate_left 2
      · go_simp
        constructor
        · rfl
        · rfl
      have hs1 := HS1.out
      have gr2 := gr1.trans (((Below.refl _ w2).alloc (Nat.le_refl _) (.cells (intsB (List.replicate n (0 : Int))) 3)).mono gr1.size)
      have h5 := (Go.MapKept.heap_alloc w2 (.cells (intsB (List.replicate n (0 : Int))) 3)).1
      have h2b := (Below.heap_alloc w2 (.cells (intsB (List.replicate n (0 : Int))) 3) za (Array.getElem?_eq_some_iff.mp h2).1).trans h2
      obtain ⟨zb, ezb⟩ : ∃ z, w2.heap.size = z := ⟨_, rfl⟩
      have lzb : w.heap.size ≤ zb := by omega
      have ne : za ≠ zb := by omega
      rw [ezb] at h5 ⊢
      obtain ⟨w3, hw3⟩ : ∃ W, w2.alloc (.cells (intsB (List.replicate n (0 : Int))) 3) = W := ⟨_, rfl⟩
      rw [hw3] at gr2 h5 h2b ⊢
      clear hw3 hs1 ezb
      refine hK.out _ _ trivial (fun hHeld => ?_)
      clear hK K
      refine norm_ (a' := ?_) ?_ ?_
      rotate_left
      · show Act.put _ (some 17) _ = _
        simp only [Act.put, pkA, pkZ, pkS, i64_w, i32_w]
        rfl
      exact norm_ (by simp only [putAll, Act.put, pkA, pkZ, pkS]) (hCont (za, zb) _ ⟨gr2, h2b, h5, ne, lza, lzb⟩)
    · skip
      refine value_ (w1 := ?_) (v := ?_) (by rfl) rfl ?_ ?_
      rotate_left 2
      · go_simp
        constructor
        · rfl
        · rfl
      have gr1 : Below w.heap.size w ((w.alloc (.cells (intsB (List.replicate n (0 : Int))) 3)).drew) := ((Below.refl _ _).alloc (Nat.le_refl _) _).drew
      have h5 : ((w.alloc (.cells (intsB (List.replicate n (0 : Int))) 3)).drew).heap[w.heap.size]? = some (.cells (intsB (List.replicate n (0 : Int))) 3 (0, 0)) := (Go.MapKept.heap_alloc w (.cells (intsB (List.replicate n (0 : Int))) 3)).1
      have hs1 : ((w.alloc (.cells (intsB (List.replicate n (0 : Int))) 3)).drew).heap.size = w.heap.size + 1 := by show (w.alloc _).heap.size = _; rw [World.size_alloc]
      obtain ⟨zb, ezb⟩ : ∃ z, w.heap.size = z := ⟨_, rfl⟩
      have lzb : w.heap.size ≤ zb := by omega
      rw [ezb] at h5 ⊢
      obtain ⟨w2, hw2⟩ : ∃ W, (w.alloc (.cells (intsB (List.replicate n (0 : Int))) 3)).drew = W := ⟨_, rfl⟩
      rw [hw2] at gr1 h5 hs1 ⊢
      have HS1 := Lib.hid (show w2.heap.size = zb + 1 by omega)
      clear hw2 hs1 ezb
      refine hK.out _ _ trivial (fun hHeld => ?_)
      clear hK K
      refine norm_ (a' := ?_) ?_ ?_
      rotate_left
      · show Act.put _ (some 17) _ = _
        simp only [Act.put, pkA, pkZ, pkS, i64_w, i32_w]
        rfl
      refine one_ (i := 2) (N := some 14) #[true, true, true, true, true, true, false, false] rfl rfl (by kernel_rfl) (by decide) (fun K hK => ?_)
      refine value_ (w1 := ?_) (v := ?_) (by rfl) rfl ?_ ?_
      rotate_left 2
      · go_simp
        constructor
        · rfl
        · rfl
      have hs1 := HS1.out
      have gr2 := gr1.trans (((Below.refl _ w2).alloc (Nat.le_refl _) (.cells (intsB (List.replicate n (0 : Int))) 3)).mono gr1.size)
      have h2 := (Go.MapKept.heap_alloc w2 (.cells (intsB (List.replicate n (0 : Int))) 3)).1
      have h5b := (Below.heap_alloc w2 (.cells (intsB (List.replicate n (0 : Int))) 3) zb (Array.getElem?_eq_some_iff.mp h5).1).trans h5
      obtain ⟨za, eza⟩ : ∃ z, w2.heap.size = z := ⟨_, rfl⟩
      have lza : w.heap.size ≤ za := by omega
      have ne : za ≠ zb := by omega
      rw [eza] at h2 ⊢
      obtain ⟨w3, hw3⟩ : ∃ W, w2.alloc (.cells (intsB (List.replicate n (0 : Int))) 3) = W := ⟨_, rfl⟩
      rw [hw3] at gr2 h2 h5b ⊢
      clear hw3 hs1 eza
      refine hK.out _ _ trivial (fun hHeld => ?_)
      clear hK K
      refine norm_ (a' := ?_) ?_ ?_
      rotate_left
      · show Act.put _ (some 14) _ = _
        simp only [Act.put, pkA, pkZ, pkS, i64_w, i32_w]
        rfl
      refine pure_ (i := 6) (N := some 4) (v := ?_) (a' := ?_) #[true, true, true, true, true, true, true, false] rfl rfl (by kernel_rfl) (fun _ _ _ h => h) (Or.inl ⟨by rfl, ?_⟩) ?_ ?_
      rotate_left
      · intro w'
        go_simp
        with_reducible rfl
      rotate_left
      · simp only [Act.put, pkA, pkZ, pkS, i64_w, i32_w]
        rfl
      exact norm_ (by simp only [putAll, Act.put, pkA, pkZ, pkS]) (hCont (za, zb) _ ⟨gr2, h2, h5b, ne, lza, lzb⟩)
  rintro ⟨za, zb⟩ wj ⟨grj, ha, hb, hab, la, lb⟩
  have hHeld := trivial
  refine norm_ (a' := ?_) ?_ ?_
  rotate_left
  · simp only [putAll, Act.put, pkA, pkZ, pkS]
    rfl
  refine pure_ (i := 7) (N := some 5) (v := ?_) (a' := ?_) #[true, true, true, true, true, true, true, true] rfl rfl (by kernel_rfl) (fun _ _ _ h => h) (Or.inl ⟨by rfl, ?_⟩) ?_ ?_
  rotate_left
  · intro w'
    go_simp
    with_reducible rfl
  rotate_left
  · simp only [Act.put, pkA, pkZ, pkS, i64_w, i32_w]
    rfl
  refine done_ (by kernel_rfl) ?_
  clear hHeld
  have HAB := Lib.hid hab
  clear hab
  obtain ⟨ad, hA, _⟩ := cells_at (HGL.out ▸ HCC.out) 0 (by rw [HGL.out]; omega)
  subst hA
  have HCT := Lib.hid (cells_at (HGL.out ▸ HCC.out))
  have HGLA := Lib.hid (show (amts g).length = n ∧ (bass g).length = n from ⟨by rw [amts, List.length_map, HGL.out], by rw [bass, List.length_map, HGL.out]⟩)
  go_wp2
  go_loopg [20] n (fun gk v20 wr => ∃ (k : Nat) (xs ys : List Int), gk = n - k ∧ k ≤ n ∧ v20 = .int .i64 k ∧ Below w.heap.size w wr ∧ wr.heap[za]? = some (.cells (intsB xs) 3 (0, 0)) ∧ wr.heap[zb]? = some (.cells (intsB ys) 3 (0, 0)) ∧ Hid (xs = (amts g).take k ++ List.replicate (n - k) 0) ∧ Hid (ys = (bass g).take k ++ List.replicate (n - k) 0))
  case atStart => exact ⟨0, _, _, rfl, by omega, rfl, grj, ha, hb, Lib.hid rfl, Lib.hid rfl⟩
  case round =>
    obtain ⟨k, xs, ys, rfl, hk, rfl, hgr, hxa, hxb, HX, HY⟩ := hrel
    clear grj ha hb
    by_cases hlt : k < n
    · have hltz : (k : Int) < (n : Int) := by omega
      obtain ⟨ad2, had2, hcf⟩ := HCT.out k (by rw [HGL.out]; exact hlt)
      obtain rfl := Option.some.inj had2
      obtain ⟨c0, c1, c2, c3, c4, c5, c6⟩ := hcf wr hgr
      obtain ⟨x, hx⟩ : ∃ x, g[k]! = x := ⟨_, rfl⟩
      rw [hx] at c0 c1 c2 c3 c4 c5 c6
      have HXK := Lib.hid hx
      clear hcf hx had2
      go_upto_region 5 with fail
      have gb : Below w.heap.size w (wr.alloc (.cells #[.string x.f0.f0, .string x.f0.f1, .string x.f0.f2, .string x.f0.f3, .string x.f0.f4, .int .i64 x.f1, .int .i64 x.f2] 52)) := hgr.trans (((Below.refl _ _).alloc (Nat.le_refl _) _).mono hgr.size)
      have hzc := (Go.MapKept.heap_alloc wr (.cells #[.string x.f0.f0, .string x.f0.f1, .string x.f0.f2, .string x.f0.f3, .string x.f0.f4, .int .i64 x.f1, .int .i64 x.f2] 52)).1
      have hza := (Below.heap_alloc wr (.cells #[.string x.f0.f0, .string x.f0.f1, .string x.f0.f2, .string x.f0.f3, .string x.f0.f4, .int .i64 x.f1, .int .i64 x.f2] 52) za (Array.getElem?_eq_some_iff.mp hxa).1).trans hxa
      have hzb := (Below.heap_alloc wr (.cells #[.string x.f0.f0, .string x.f0.f1, .string x.f0.f2, .string x.f0.f3, .string x.f0.f4, .int .i64 x.f1, .int .i64 x.f2] 52) zb (Array.getElem?_eq_some_iff.mp hxb).1).trans hxb
      have HNE := Lib.hid (show wr.heap.size ≠ za ∧ wr.heap.size ≠ zb from ⟨by have := (Array.getElem?_eq_some_iff.mp hxa).1; omega, by have := (Array.getElem?_eq_some_iff.mp hxb).1; omega⟩)
      obtain ⟨zc, ezc⟩ : ∃ z, wr.heap.size = z := ⟨_, rfl⟩
      rw [ezc] at hzc HNE ⊢
      obtain ⟨wq, hwq⟩ : ∃ W, wr.alloc (.cells #[.string x.f0.f0, .string x.f0.f1, .string x.f0.f2, .string x.f0.f3, .string x.f0.f4, .int .i64 x.f1, .int .i64 x.f2] 52) = W := ⟨_, rfl⟩
      rw [hwq] at gb hzc hza hzb ⊢
      clear hwq ezc hxa hxb c0 c1 c2 c3 c4 c5 c6 hgr
      have hlx : k < xs.length := by rw [HX.out]; simp; have := HGLA.out.1; omega
      have hly : k < ys.length := by rw [HY.out]; simp; have := HGLA.out.2; omega
      have ea : ∀ W : World, W.heap[za]? = wq.heap[za]? → W.cell? ⟨za, k, none⟩ = some (.int .i64 xs[k]) ∧ W.frozen? ⟨za, k, none⟩ = false := fun W hW => ⟨(blk_cell (hW.trans hza) k).trans (by simp [intsB, hlx]), blk_frozen (hW.trans hza) k⟩
      have eb : ∀ W : World, W.heap[zb]? = wq.heap[zb]? → W.cell? ⟨zb, k, none⟩ = some (.int .i64 ys[k]) ∧ W.frozen? ⟨zb, k, none⟩ = false := fun W hW => ⟨(blk_cell (hW.trans hzb) k).trans (by simp [intsB, hly]), blk_frozen (hW.trans hzb) k⟩
      have ec : ∀ W : World, W.heap[zc]? = wq.heap[zc]? → W.cell? ⟨zc, 5, none⟩ = some (.int .i64 x.f1) ∧ W.cell? ⟨zc, 6, none⟩ = some (.int .i64 x.f2) := fun W hW => ⟨blk_cell (hW.trans hzc) 5, blk_cell (hW.trans hzc) 6⟩
      have HEA := Lib.hid ea; have HEB := Lib.hid eb; have HEC := Lib.hid ec
      clear ea eb ec
      refine start_ (n := 12) (S := fun w' => w'.cell? ⟨zc, 5, none⟩ = some (.int .i64 x.f1) ∧ w'.cell? ⟨zc, 6, none⟩ = some (.int .i64 x.f2)) (ds := [11]) #[false, false, false, false, false, false, false, false, false, false, false, false] (by kernel_rfl) rfl rfl ⟨(HEC.out _ rfl).1, (HEC.out _ rfl).2⟩ (fun hHeld => ?_)
      refine pure_ (i := 0) (N := some 25) (v := ?_) (a' := ?_) #[true, false, false, false, false, false, false, false, false, false, false, false] rfl rfl (by kernel_rfl) (fun _ _ _ h => h) (Or.inl ⟨by rfl, ?_⟩) ?_ ?_
      rotate_left
      · intro w'
        go_simp
        with_reducible rfl
      rotate_left
      · simp only [Act.put, pkA, pkZ, pkS, i64_w, i32_w]
        rfl
      refine pure_ (i := 1) (N := some 26) (v := ?_) (a' := ?_) #[true, true, false, false, false, false, false, false, false, false, false, false] rfl rfl (by kernel_rfl) (fun _ _ _ h => h) (Or.inl ⟨by rfl, ?_⟩) ?_ ?_
      rotate_left
      · intro w'
        go_simp
        with_reducible rfl
      rotate_left
      · simp only [Act.put, pkA, pkZ, pkS, i64_w, i32_w]
        rfl
      refine pure_ (i := 2) (N := some 27) (v := ?_) (a' := ?_) #[true, true, true, false, false, false, false, false, false, false, false, false] rfl rfl (by kernel_rfl) (fun _ _ _ h => h) (Or.inl ⟨by rfl, ?_⟩) ?_ ?_
      rotate_left
      · intro w'
        go_simp
        with_reducible rfl
      rotate_left
      · simp only [Act.put, pkA, pkZ, pkS, i64_w, i32_w]
        rfl
      refine pure_ (i := 3) (N := some 28) (v := ?_) (a' := ?_) #[true, true, true, true, false, false, false, false, false, false, false, false] rfl rfl (by kernel_rfl) (fun _ _ _ h => h) (Or.inl ⟨by rfl, ?_⟩) ?_ ?_
      rotate_left
      · intro w'
        go_simp
        with_reducible rfl
      rotate_left
      · simp only [Act.put, pkA, pkZ, pkS, i64_w, i32_w]
        rfl
      refine pure_ (i := 4) (N := some 29) (v := ?_) (a' := ?_) #[true, true, true, true, true, false, false, false, false, false, false, false] rfl rfl (by kernel_rfl) (fun _ _ _ h => h) (Or.inl ⟨by rfl, ?_⟩) ?_ ?_
      rotate_left
      · intro w'
        go_simp
        with_reducible rfl
      rotate_left
      · simp only [Act.put, pkA, pkZ, pkS, i64_w, i32_w]
        rfl
      refine pure_ (i := 6) (N := some 31) (v := ?_) (a' := ?_) #[true, true, true, true, true, false, true, false, false, false, false, false] rfl rfl (by kernel_rfl) (fun _ _ _ h => h) (Or.inl ⟨by rfl, ?_⟩) ?_ ?_
      rotate_left
      · intro w'
        go_simp
        with_reducible rfl
      rotate_left
      · simp only [Act.put, pkA, pkZ, pkS, i64_w, i32_w]
        rfl
      refine take_ (i := 5) (N := some 30) (v := ?_) (a' := ?_) #[true, true, true, true, true, true, true, false, false, false, false, false] rfl rfl (by kernel_rfl) (fun _ _ _ h => h) (Or.inl ⟨by rfl, ?_⟩) hHeld ?_ ?_
      rotate_left
      · rintro w' ⟨s0, s1⟩
        go_simp
        with_reducible rfl
      rotate_left
      · simp only [Act.put, pkA, pkZ, pkS, i64_w, i32_w]
        rfl
      refine pure_ (i := 8) (N := some 33) (v := ?_) (a' := ?_) #[true, true, true, true, true, true, true, false, true, false, false, false] rfl rfl (by kernel_rfl) (fun _ _ _ h => h) (Or.inl ⟨by rfl, ?_⟩) ?_ ?_
      rotate_left
      · intro w'
        go_simp
        with_reducible rfl
      rotate_left
      · simp only [Act.put, pkA, pkZ, pkS, i64_w, i32_w]
        rfl
      refine take_ (i := 7) (N := some 32) (v := ?_) (a' := ?_) #[true, true, true, true, true, true, true, true, true, false, false, false] rfl rfl (by kernel_rfl) (fun _ _ _ h => h) (Or.inl ⟨by rfl, ?_⟩) hHeld ?_ ?_
      rotate_left
      · rintro w' ⟨s0, s1⟩
        go_simp
        with_reducible rfl
      rotate_left
      · simp only [Act.put, pkA, pkZ, pkS, i64_w, i32_w]
        rfl
      refine one_ (i := 9) (N := none) #[true, true, true, true, true, true, true, true, true, true, false, false] rfl rfl (by kernel_rfl) (by decide) (fun K hK => ?_)
      obtain ⟨ea1, ea2⟩ := HEA.out wq.drew rfl
      refine skip_ (w1 := ?_) (by rfl) rfl ?_ ?_
      rotate_left
      · go_simp
        rfl
      have p1 : Below w.heap.size w ((wq.setCell ⟨za, k, none⟩ (.int .i64 x.f1)).drew) := (gb.setCell la _).drew
      have p2 : ((wq.setCell ⟨za, k, none⟩ (.int .i64 x.f1)).drew).heap[za]? = some (.cells (intsB (xs.set k x.f1)) 3 (0, 0)) := by have := blk_set (w := wq) hza k (.int .i64 x.f1); rw [intsB_set] at this; exact this
      have p3 : ((wq.setCell ⟨za, k, none⟩ (.int .i64 x.f1)).drew).heap[zb]? = wq.heap[zb]? := Below.heap_setCell _ _ _ _ (Ne.symm HAB.out)
      have p4 : ((wq.setCell ⟨za, k, none⟩ (.int .i64 x.f1)).drew).heap[zc]? = wq.heap[zc]? := Below.heap_setCell _ _ _ _ HNE.out.1
      obtain ⟨wp, hwp⟩ : ∃ W, ((wq.setCell ⟨za, k, none⟩ (.int .i64 x.f1)).drew) = W := ⟨_, rfl⟩
      rw [hwp] at p1 p2 p3 p4 ⊢
      clear hwp ea1 ea2
      refine hK.out _ _ ⟨(HEC.out _ p4).1, (HEC.out _ p4).2⟩ (fun hHeld => ?_)
      clear hK K
      refine pure_ (i := 10) (N := some 34) (v := ?_) (a' := ?_) #[true, true, true, true, true, true, true, true, true, true, true, false] rfl rfl (by kernel_rfl) (fun _ _ _ h => h) (Or.inl ⟨by rfl, ?_⟩) ?_ ?_
      rotate_left
      · intro w'
        go_simp
        with_reducible rfl
      rotate_left
      · simp only [Act.put, pkA, pkZ, pkS, i64_w, i32_w]
        rfl
      refine last_ (i := 11) (N := none) #[true, true, true, true, true, true, true, true, true, true, true, true] rfl rfl (by kernel_rfl) (by decide) (fun K hK => ?_)
      obtain ⟨eb1, eb2⟩ := HEB.out wp p3
      refine skip_ (w1 := ?_) (by rfl) rfl ?_ ?_
      rotate_left
      · go_simp
        rfl
      have r1 : Below w.heap.size w (wp.setCell ⟨zb, k, none⟩ (.int .i64 x.f2)) := p1.setCell lb _
      have r2 : (wp.setCell ⟨zb, k, none⟩ (.int .i64 x.f2)).heap[zb]? = some (.cells (intsB (ys.set k x.f2)) 3 (0, 0)) := by have := blk_set (p3.trans hzb) k (.int .i64 x.f2); rwa [intsB_set] at this
      have r3 : (wp.setCell ⟨zb, k, none⟩ (.int .i64 x.f2)).heap[za]? = some (.cells (intsB (xs.set k x.f1)) 3 (0, 0)) := (Below.heap_setCell _ _ _ _ HAB.out).trans p2
      obtain ⟨wo, hwo⟩ : ∃ W, (wp.setCell ⟨zb, k, none⟩ (.int .i64 x.f2)) = W := ⟨_, rfl⟩
      rw [hwo] at r1 r2 r3 ⊢
      clear hwo eb1 eb2 p1 p2 p3 p4
      refine hK.out _ _ ?_
      clear hK K
      refine done_ (by kernel_rfl) ?_
      clear hHeld
      have HX2 : Hid (xs.set k x.f1 = (amts g).take (k + 1) ++ List.replicate (n - (k + 1)) 0) := Lib.hid (by rw [HX.out]; exact set_take (amts g) (by rw [HGLA.out.1]) hlt (by rw [amts_at g k (by rw [HGL.out]; exact hlt), HXK.out]))
      have HY2 : Hid (ys.set k x.f2 = (bass g).take (k + 1) ++ List.replicate (n - (k + 1)) 0) := Lib.hid (by rw [HY.out]; exact set_take (bass g) (by rw [HGLA.out.2]) hlt (by rw [bass_at g k (by rw [HGL.out]; exact hlt), HXK.out]))
      clear HX HY hlx hly hza hzb hzc gb HEA HEB HEC HNE HXK
      go_wp2
      go_roundg (n - (k + 1))
      case measure => omega
      case rel => exact ⟨k + 1, _, _, rfl, by omega, by go_num, r1, r3, r2, HX2, HY2⟩
    · have hkn : k = n := by omega
      have hltz : ¬ ((k : Int) < (n : Int)) := by omega
      have hxe : xs = amts g := by rw [HX.out, hkn, Nat.sub_self, List.replicate_zero, List.append_nil, List.take_of_length_le (by rw [HGLA.out.1]; exact Nat.le_refl _)]
      have hye : ys = bass g := by rw [HY.out, hkn, Nat.sub_self, List.replicate_zero, List.append_nil, List.take_of_length_le (by rw [HGLA.out.2]; exact Nat.le_refl _)]
      subst hxe hye
      have CX := Lib.hid (C_of_ints hxa (by rw [HGLA.out.1]; omega))
      have CY := Lib.hid (C_of_ints hxb (by rw [HGLA.out.2]; omega))
      have HGR := Lib.hid hgr
      clear HX HY hxa hxb hkn hlt hk
      have hra : ∀ x ∈ amts g, in64 x := fun x hx => by
        obtain ⟨y, hy, rfl⟩ := List.mem_map.mp hx
        exact (HRG.out y hy).1
      have hrb : ∀ x ∈ bass g, in64 x := fun x hx => by
        obtain ⟨y, hy, rfl⟩ := List.mem_map.mp hx
        exact (HRG.out y hy).2
      have ht1 := go_total (amts g) _ n wr CX.out (by rw [HGLA.out.1]; exact Nat.le_refl _) hra (by rw [HGLA.out.1]; omega)
      have ht2 := go_total (bass g) _ n wr CY.out (by rw [HGLA.out.2]; exact Nat.le_refl _) hrb (by rw [HGLA.out.2]; omega)
      rw [HGLA.out.1] at ht1
      rw [HGLA.out.2] at ht2
      obtain ⟨⟨a1, a2⟩, eA⟩ : ∃ q, tot (amts g) = q := ⟨_, rfl⟩
      obtain ⟨⟨b1, b2⟩, eB⟩ : ∃ q, tot (bass g) = q := ⟨_, rfl⟩
      rw [eA] at ht1
      rw [eB] at ht2
      have HT1 := Lib.hid ht1; have HT2 := Lib.hid ht2
      have HONE : Hid (oneG g acc = if (a2 && b2) = true then some (if (a1 == 0 && b1 == 0) = true then acc else acc ++ [⟨g[0]!.f0, a1, b1⟩]) else none) := Lib.hid (by unfold oneG; rw [eA, eB])
      have HFR := Lib.hid (show ∀ k, k < w.heap.size → wr.heap[k]? = w.heap[k]? from fun k hk => hgr.block k hk)
      have hz2 : wr.heap[z2]? = some (.cells #[v] 34 (0, 0)) := (HFR.out z2 (Array.getElem?_eq_some_iff.mp HZ.out).1).trans HZ.out
      have hown : wr.ownsRow B 52 7 v acc.length (flatC acc) := pw_own_below HOWN.out hgr
      have HSAME : Hid (∀ q : Option (List Cell), oneG g acc = q → (q = none ∨ q = some acc) → ∃ v', wr.heap[z2]? = some (.cells #[v'] 34 (0, 0)) ∧ wr.ownsRow B 52 7 v' ((oneG g acc).getD acc).length (flatC ((oneG g acc).getD acc)) ∧
          (v'.ownBlock = v.ownBlock ∨ ∃ b, v'.ownBlock = some b ∧ w.heap.size ≤ b) ∧ (∀ k, k < w.heap.size → k ≠ z2 → some k ≠ v.ownBlock → wr.heap[k]? = w.heap[k]?) ∧ wr.os = w.os ∧ wr.tape = w.tape ∧ wr.output = w.output ∧ w.heap.size ≤ wr.heap.size) := Lib.hid (by
        intro q hq hq2
        have e : (oneG g acc).getD acc = acc := by rw [hq]; rcases hq2 with rfl | rfl <;> rfl
        rw [e]
        exact ⟨v, hz2, hown, .inl rfl, fun k hk _ _ => HFR.out k hk, hgr.os, hgr.tape, hgr.output, hgr.size⟩)
      clear ht1 ht2 eA eB hra hrb
      cases a2 with
      | false =>
        have hone : oneG g acc = none := by rw [HONE.out]; rfl
        have HO := Lib.hid hone
        clear hone hz2 hown hgr
        go_wp2_with fail
        refine HT1.out.mono ?_
        rintro e w' ⟨rfl, rfl⟩
        go_wp2_with fail
        refine HT2.out.mono ?_
        rintro e w' ⟨rfl, rfl⟩
        go_wp2_with fail
        go_ret
        exact ⟨by rw [HO.out]; rfl, HSAME.out _ HO.out (.inl rfl)⟩
      | true =>
      cases b2 with
      | false =>
        have hone : oneG g acc = none := by rw [HONE.out]; rfl
        have HO := Lib.hid hone
        clear hone hz2 hown hgr
        go_wp2_with fail
        refine HT1.out.mono ?_
        rintro e w' ⟨rfl, rfl⟩
        go_wp2_with fail
        refine HT2.out.mono ?_
        rintro e w' ⟨rfl, rfl⟩
        go_wp2_with fail
        go_ret
        exact ⟨by rw [HO.out]; rfl, HSAME.out _ HO.out (.inl rfl)⟩
      | true =>
      by_cases hab0 : a1 = 0 ∧ b1 = 0
      · obtain ⟨rfl, rfl⟩ := hab0
        have hone : oneG g acc = some acc := by rw [HONE.out]; rfl
        have HO := Lib.hid hone
        clear hone hz2 hown hgr
        go_wp2_with fail
        refine HT1.out.mono ?_
        rintro e w' ⟨rfl, rfl⟩
        go_wp2_with fail
        refine HT2.out.mono ?_
        rintro e w' ⟨rfl, rfl⟩
        go_wp2_with fail
        go_ret
        exact ⟨by rw [HO.out]; rfl, HSAME.out _ HO.out (.inr rfl)⟩
      · have hone : oneG g acc = some (acc ++ [⟨g[0]!.f0, a1, b1⟩]) := by
          rw [HONE.out, if_pos (by rfl), if_neg]
          intro h
          simp only [Bool.and_eq_true, beq_iff_eq] at h
          exact hab0 h
        obtain ⟨ad2, had2, hcf⟩ := HCT.out 0 (by rw [HGL.out]; omega)
        obtain rfl := Option.some.inj had2
        obtain ⟨x, hx⟩ : ∃ x, g[0]!.f0 = x := ⟨_, rfl⟩
        obtain ⟨d0, d1, d2, d3, d4, _, _⟩ := hcf wr hgr
        rw [Nat.zero_mul, show ad.add 0 = ad from rfl, hx] at d0
        rw [Nat.zero_mul, show ad.add 0 = ad from rfl, hx] at d1
        rw [Nat.zero_mul, show ad.add 0 = ad from rfl, hx] at d2
        rw [Nat.zero_mul, show ad.add 0 = ad from rfl, hx] at d3
        rw [Nat.zero_mul, show ad.add 0 = ad from rfl, hx] at d4
        rw [hx] at hone
        have HO := Lib.hid hone
        obtain ⟨Av, cv, hv, hvc, hvn, hvm⟩ := own_form hown
        subst hv
        have hadl := World.block_lt_of_cell? wr _ d0
        have hadn := HNE0.out ad rfl
        have hzne : some z2 ≠ (Value.slice Av acc.length cv).ownBlock := fun e => own_ne_of hown hz2 (by decide) e.symm
        have hz2l : z2 < wr.heap.size := (Array.getElem?_eq_some_iff.mp hz2).1
        have HS10 := Lib.hid (show ∀ w' : World, wr.grownBy w' (Value.slice Av acc.length cv).ownBlock → w'.cell? ⟨z2, 0, none⟩ = some (.slice Av acc.length cv) ∧ w'.cell? ad = some (.string x.f0) ∧ w'.cell? ⟨ad.block, ad.off + 1, none⟩ = some (.string x.f1) ∧ w'.cell? ⟨ad.block, ad.off + 2, none⟩ = some (.string x.f2) ∧ w'.cell? ⟨ad.block, ad.off + 3, none⟩ = some (.string x.f3) ∧ w'.cell? ⟨ad.block, ad.off + 4, none⟩ = some (.string x.f4) from fun w' gr => by
          have hb := gr.block ad.block hadl hadn
          exact ⟨blk_cell ((gr.block z2 hz2l hzne).trans hz2) 0, (cell_blkA hb).trans d0, (cell_blkA (a := ⟨ad.block, ad.off + 1, none⟩) hb).trans d1, (cell_blkA (a := ⟨ad.block, ad.off + 2, none⟩) hb).trans d2, (cell_blkA (a := ⟨ad.block, ad.off + 3, none⟩) hb).trans d3, (cell_blkA (a := ⟨ad.block, ad.off + 4, none⟩) hb).trans d4⟩)
        have HZ2 := Lib.hid (show ∀ w' : World, wr.grownBy w' (Value.slice Av acc.length cv).ownBlock → w'.heap[z2]? = some (.cells #[.slice Av acc.length cv] 34 (0, 0)) from fun w' gr => (gr.block z2 hz2l hzne).trans hz2)
        have HOW := Lib.hid hown; have HGR := Lib.hid hgr
        have HBW := Lib.hid (show B ≤ wr.heap.size ∧ w.heap.size ≤ wr.heap.size from ⟨Nat.le_trans hB hgr.size, hgr.size⟩)
        obtain ⟨i0, hi0, hi1, hi2, hi3⟩ := info_parts_ info52
        clear hone hz2 hown hgr d0 d1 d2 d3 d4 hcf hx hadl hadn hz2l hzne had2 hvc hvn hvm hB
        by_cases ha0 : a1 = 0
        · have hab2 : (b1 == 0) = false := beq_eq_false_iff_ne.mpr (fun h => hab0 ⟨ha0, h⟩)
          clear hab0
          subst ha0
          have hn0 : 0 < n := hn1
          go_wp2_with fail
          refine HT1.out.mono ?_
          rintro e w1_ ⟨rfl, hw1_⟩
          rw [hw1_]
          clear hw1_ w1_
          go_wp2_with fail
          refine HT2.out.mono ?_
          rintro e w1_ ⟨rfl, hw1_⟩
          rw [hw1_]
          clear hw1_ w1_
          have gr0 : wr.grownBy wr.drew (Value.slice Av acc.length cv).ownBlock := ⟨rfl, rfl, rfl, Nat.le_refl _, fun _ _ _ => rfl⟩
          go_upto_region 10 with fail
          refine start_ (n := 11) (S := fun w' => w'.cell? ⟨z2, 0, none⟩ = some (.slice Av acc.length cv) ∧ w'.cell? ad = some (.string x.f0) ∧ w'.cell? ⟨ad.block, ad.off + 1, none⟩ = some (.string x.f1) ∧ w'.cell? ⟨ad.block, ad.off + 2, none⟩ = some (.string x.f2) ∧ w'.cell? ⟨ad.block, ad.off + 3, none⟩ = some (.string x.f3) ∧ w'.cell? ⟨ad.block, ad.off + 4, none⟩ = some (.string x.f4)) (ds := [10]) #[false, false, false, false, false, false, false, false, false, false, false] (by kernel_rfl) rfl rfl ⟨(HS10.out _ gr0).1, (HS10.out _ gr0).2.1, (HS10.out _ gr0).2.2.1, (HS10.out _ gr0).2.2.2.1, (HS10.out _ gr0).2.2.2.2.1, (HS10.out _ gr0).2.2.2.2.2⟩ (fun hHeld => ?_)
          refine pure_ (i := 1) (N := some 59) (v := ?_) (a' := ?_) #[false, true, false, false, false, false, false, false, false, false, false] rfl rfl (by kernel_rfl) (fun _ _ _ h => h) (Or.inl ⟨by rfl, ?_⟩) ?_ ?_
          rotate_left
          · intro w'
            go_simp
            with_reducible rfl
          rotate_left
          · simp only [Act.put, pkA, pkZ, pkS, i64_w, i32_w]
            rfl
          refine pure_ (i := 2) (N := some 60) (v := ?_) (a' := ?_) #[false, true, true, false, false, false, false, false, false, false, false] rfl rfl (by kernel_rfl) (fun _ _ _ h => h) (Or.inl ⟨by rfl, ?_⟩) ?_ ?_
          rotate_left
          · intro w'
            go_simp
            with_reducible rfl
          rotate_left
          · simp only [Act.put, pkA, pkZ, pkS, i64_w, i32_w]
            rfl
          refine pure_ (i := 3) (N := some 61) (v := ?_) (a' := ?_) #[false, true, true, true, false, false, false, false, false, false, false] rfl rfl (by kernel_rfl) (fun _ _ _ h => h) (Or.inl ⟨by rfl, ?_⟩) ?_ ?_
          rotate_left
          · intro w'
            go_simp
            with_reducible rfl
          rotate_left
          · simp only [Act.put, pkA, pkZ, pkS, i64_w, i32_w]
            rfl
          refine pure_ (i := 5) (N := some 63) (v := ?_) (a' := ?_) #[false, true, true, true, false, true, false, false, false, false, false] rfl rfl (by kernel_rfl) (fun _ _ _ h => h) (Or.inl ⟨by rfl, ?_⟩) ?_ ?_
          rotate_left
          · intro w'
            go_simp
            with_reducible rfl
          rotate_left
          · simp only [Act.put, pkA, pkZ, pkS, i64_w, i32_w]
            rfl
          refine pure_ (i := 6) (N := some 64) (v := ?_) (a' := ?_) #[false, true, true, true, false, true, true, false, false, false, false] rfl rfl (by kernel_rfl) (fun _ _ _ h => h) (Or.inl ⟨by rfl, ?_⟩) ?_ ?_
          rotate_left
          · intro w'
            go_simp
            with_reducible rfl
          rotate_left
          · simp only [Act.put, pkA, pkZ, pkS, i64_w, i32_w]
            rfl
          refine take_ (i := 0) (N := some 58) (v := ?_) (a' := ?_) #[true, true, true, true, false, true, true, false, false, false, false] rfl rfl (by kernel_rfl) (fun _ _ _ h => h) (Or.inl ⟨by rfl, ?_⟩) hHeld ?_ ?_
          rotate_left
          · rintro w' ⟨s0, s1, s2, s3, s4, s5⟩
            go_simp
            with_reducible rfl
          rotate_left
          · simp only [Act.put, pkA, pkZ, pkS, i64_w, i32_w]
            rfl
          refine take_ (i := 4) (N := some 62) (v := ?_) (a' := ?_) #[true, true, true, true, true, true, true, false, false, false, false] rfl rfl (by kernel_rfl) (fun _ _ _ h => h) (Or.inl ⟨by rfl, ?_⟩) hHeld ?_ ?_
          rotate_left
          · rintro w' ⟨s0, s1, s2, s3, s4, s5⟩
            go_simp
            with_reducible rfl
          rotate_left
          · simp only [Act.put, pkA, pkZ, pkS, i64_w, i32_w]
            rfl
          refine pure_ (i := 7) (N := some 65) (v := ?_) (a' := ?_) #[true, true, true, true, true, true, true, true, false, false, false] rfl rfl (by kernel_rfl) (fun _ _ _ h => h) (Or.inl ⟨by rfl, ?_⟩) ?_ ?_
          rotate_left
          · intro w'
            go_simp
            with_reducible rfl
          rotate_left
          · simp only [Act.put, pkA, pkZ, pkS, i64_w, i32_w]
            rfl
          refine one_ (i := 8) (N := some 66) #[true, true, true, true, true, true, true, true, true, false, false] rfl rfl (by kernel_rfl) (by decide) (fun K hK => ?_)
          refine value_ (w1 := ?_) (v := ?_) (by rfl) rfl ?_ ?_
          rotate_left 2
          · go_simp
            constructor
            · rfl
            · rfl
          have gr8 : wr.grownBy ((wr.alloc (.cells #[.string x.f0, .string x.f1, .string x.f2, .string x.f3, .string x.f4, .int .i64 0, .int .i64 b1] 52)).drew) (Value.slice Av acc.length cv).ownBlock := grown_below (show wr.grownBy wr (Value.slice Av acc.length cv).ownBlock from ⟨rfl, rfl, rfl, Nat.le_refl _, fun _ _ _ => rfl⟩) (((Below.refl _ _).alloc (Nat.le_refl _) _).drew)
          have own8 : ((wr.alloc (.cells #[.string x.f0, .string x.f1, .string x.f2, .string x.f3, .string x.f4, .int .i64 0, .int .i64 b1] 52)).drew).ownsRow B 52 7 (.slice Av acc.length cv) acc.length (flatC acc) := pw_own_below HOW.out (((Below.refl _ _).alloc (Nat.le_refl _) _).drew)
          have ng : ((wr.alloc (.cells #[.string x.f0, .string x.f1, .string x.f2, .string x.f3, .string x.f4, .int .i64 0, .int .i64 b1] 52)).drew).heap[wr.heap.size]? = some (.cells #[.string x.f0, .string x.f1, .string x.f2, .string x.f3, .string x.f4, .int .i64 0, .int .i64 b1] 52 (0, 0)) := (Go.MapKept.heap_alloc wr (.cells #[.string x.f0, .string x.f1, .string x.f2, .string x.f3, .string x.f4, .int .i64 0, .int .i64 b1] 52)).1
          have HB8 := Lib.hid (show B ≤ ((wr.alloc (.cells #[.string x.f0, .string x.f1, .string x.f2, .string x.f3, .string x.f4, .int .i64 0, .int .i64 b1] 52)).drew).heap.size ∧ wr.heap.size ≤ ((wr.alloc (.cells #[.string x.f0, .string x.f1, .string x.f2, .string x.f3, .string x.f4, .int .i64 0, .int .i64 b1] 52)).drew).heap.size from ⟨Nat.le_trans HBW.out.1 gr8.size, gr8.size⟩)
          obtain ⟨zg, hzg⟩ : ∃ z, wr.heap.size = z := ⟨_, rfl⟩
          have HZG := Lib.hid hzg
          rw [hzg] at ng ⊢
          obtain ⟨w8, hw8⟩ : ∃ W, (wr.alloc (.cells #[.string x.f0, .string x.f1, .string x.f2, .string x.f3, .string x.f4, .int .i64 0, .int .i64 b1] 52)).drew = W := ⟨_, rfl⟩
          rw [hw8] at gr8 own8 ng HB8 ⊢
          clear hw8 hzg
          refine hK.out _ _ ⟨(HS10.out _ gr8).1, (HS10.out _ gr8).2.1, (HS10.out _ gr8).2.2.1, (HS10.out _ gr8).2.2.2.1, (HS10.out _ gr8).2.2.2.2.1, (HS10.out _ gr8).2.2.2.2.2⟩ (fun hHeld => ?_)
          clear hK K
          refine norm_ (a' := ?_) ?_ ?_
          rotate_left
          · show Act.put _ (some 66) _ = _
            simp only [Act.put, pkA, pkZ, pkS, i64_w, i32_w]
            rfl
          refine one_ (i := 9) (N := some 67) #[true, true, true, true, true, true, true, true, true, true, false] rfl rfl (by kernel_rfl) (by decide) (fun K hK => ?_)
          refine step_append_any (by rfl) (.tmp 58) (.tmp 66) 34 (by rfl) B 52 i0 _ 7 96 Try.underlying34 hi0 hi1 hi2 hi3 rfl (by omega) _ acc.length (flatC acc) (by rfl) own8 _ 1 _ (cellL ⟨x, 0, b1⟩) (by rfl) rfl (fun j u hu => ⟨_, rfl, World.news_of_block ng j u hu⟩) (cellL_one _) (by unfold maxLen; omega) (by omega) HB8.out.1 ?_
          intro v9 w9 own9 gr9 fr9
          have gr9a := grown_then gr8 gr9 (.inl rfl)
          obtain ⟨A9, c9, hv9, _⟩ := own_form own9
          subst hv9
          refine hK.out _ _ ⟨(HS10.out _ gr9a).1, (HS10.out _ gr9a).2.1, (HS10.out _ gr9a).2.2.1, (HS10.out _ gr9a).2.2.2.1, (HS10.out _ gr9a).2.2.2.2.1, (HS10.out _ gr9a).2.2.2.2.2⟩ (fun hHeld => ?_)
          clear hK K
          refine norm_ (a' := ?_) ?_ ?_
          rotate_left
          · show Act.put _ (some 67) _ = _
            simp only [Act.put, pkA, pkZ, pkS, i64_w, i32_w]
            rfl
          refine last_ (i := 10) (N := none) #[true, true, true, true, true, true, true, true, true, true, true] rfl rfl (by kernel_rfl) (by decide) (fun K hK => ?_)
          have h10 := HZ2.out _ gr9a
          have e10 := blk_cell h10 0
          have f10 := blk_frozen h10 0
          refine skip_ (w1 := ?_) (by rfl) rfl ?_ ?_
          rotate_left
          · go_simp
            rfl
          refine hK.out _ _ ?_
          clear hK K
          refine done_ (by kernel_rfl) ?_
          have own10 : (w9.setCell ⟨z2, 0, none⟩ (.slice A9 (acc.length + 1) c9)).ownsRow B 52 7 (.slice A9 (acc.length + 1) c9) (acc.length + 1) (flatC acc ++ cellL ⟨x, 0, b1⟩) := own_move own9 (fun b hb => Below.heap_setCell _ _ _ _ (fun e => own_ne_of own9 h10 (by decide) (by rw [hb, e])))
          have hset := blk_set h10 0 (.slice A9 (acc.length + 1) c9)
          have HFIN := Lib.hid (show ∃ v', (w9.setCell ⟨z2, 0, none⟩ (.slice A9 (acc.length + 1) c9)).heap[z2]? = some (.cells #[v'] 34 (0, 0)) ∧ (w9.setCell ⟨z2, 0, none⟩ (.slice A9 (acc.length + 1) c9)).ownsRow B 52 7 v' ((oneG g acc).getD acc).length (flatC ((oneG g acc).getD acc)) ∧ (v'.ownBlock = (Value.slice Av acc.length cv).ownBlock ∨ ∃ b, v'.ownBlock = some b ∧ w.heap.size ≤ b) ∧ (∀ k, k < w.heap.size → k ≠ z2 → some k ≠ (Value.slice Av acc.length cv).ownBlock → (w9.setCell ⟨z2, 0, none⟩ (.slice A9 (acc.length + 1) c9)).heap[k]? = w.heap[k]?) ∧ (w9.setCell ⟨z2, 0, none⟩ (.slice A9 (acc.length + 1) c9)).os = w.os ∧ (w9.setCell ⟨z2, 0, none⟩ (.slice A9 (acc.length + 1) c9)).tape = w.tape ∧ (w9.setCell ⟨z2, 0, none⟩ (.slice A9 (acc.length + 1) c9)).output = w.output ∧ w.heap.size ≤ (w9.setCell ⟨z2, 0, none⟩ (.slice A9 (acc.length + 1) c9)).heap.size from by
            have e : (oneG g acc).getD acc = acc ++ [⟨x, 0, b1⟩] := by rw [HO.out]; rfl
            rw [e]
            refine ⟨_, hset, ?_, ?_, ?_, gr9a.os.trans HGR.out.os, gr9a.tape.trans HGR.out.tape, gr9a.output.trans HGR.out.output, ?_⟩
            · rw [List.length_append, flatC, List.flatMap_append]; simpa [flatC] using own10
            · rcases fr9 with f | f
              · exact .inl f
              · exact .inr ⟨_, f, Nat.le_trans HBW.out.2 HB8.out.2⟩
            · intro k hk hkz hkv
              rw [Below.heap_setCell _ _ _ _ hkz, gr9a.block k (Nat.lt_of_lt_of_le hk HBW.out.2) hkv]
              exact HFR.out k hk
            · refine Nat.le_trans HBW.out.2 (Nat.le_trans gr9a.size ?_)
              simp [World.setCell])
          obtain ⟨wf, hwf⟩ : ∃ W, w9.setCell ⟨z2, 0, none⟩ (.slice A9 (acc.length + 1) c9) = W := ⟨_, rfl⟩
          rw [hwf] at HFIN ⊢
          clear hwf hset own10 own9 gr9 gr9a fr9 h10 e10 f10 hHeld gr8 own8 ng gr0
          go_wp2
          go_ret
          exact ⟨by rw [HO.out]; rfl, HFIN.out⟩
        · have hab1 : (a1 == 0) = false := beq_eq_false_iff_ne.mpr ha0
          clear ha0 hab0
          have hn0 : 0 < n := hn1
          go_wp2_with fail
          refine HT1.out.mono ?_
          rintro e w1_ ⟨rfl, hw1_⟩
          rw [hw1_]
          clear hw1_ w1_
          go_wp2_with fail
          refine HT2.out.mono ?_
          rintro e w1_ ⟨rfl, hw1_⟩
          rw [hw1_]
          clear hw1_ w1_
          have gr0 : wr.grownBy wr.drew (Value.slice Av acc.length cv).ownBlock := ⟨rfl, rfl, rfl, Nat.le_refl _, fun _ _ _ => rfl⟩
          go_upto_region 10 with fail
          refine start_ (n := 11) (S := fun w' => w'.cell? ⟨z2, 0, none⟩ = some (.slice Av acc.length cv) ∧ w'.cell? ad = some (.string x.f0) ∧ w'.cell? ⟨ad.block, ad.off + 1, none⟩ = some (.string x.f1) ∧ w'.cell? ⟨ad.block, ad.off + 2, none⟩ = some (.string x.f2) ∧ w'.cell? ⟨ad.block, ad.off + 3, none⟩ = some (.string x.f3) ∧ w'.cell? ⟨ad.block, ad.off + 4, none⟩ = some (.string x.f4)) (ds := [10]) #[false, false, false, false, false, false, false, false, false, false, false] (by kernel_rfl) rfl rfl ⟨(HS10.out _ gr0).1, (HS10.out _ gr0).2.1, (HS10.out _ gr0).2.2.1, (HS10.out _ gr0).2.2.2.1, (HS10.out _ gr0).2.2.2.2.1, (HS10.out _ gr0).2.2.2.2.2⟩ (fun hHeld => ?_)
          refine pure_ (i := 1) (N := some 59) (v := ?_) (a' := ?_) #[false, true, false, false, false, false, false, false, false, false, false] rfl rfl (by kernel_rfl) (fun _ _ _ h => h) (Or.inl ⟨by rfl, ?_⟩) ?_ ?_
          rotate_left
          · intro w'
            go_simp
            with_reducible rfl
          rotate_left
          · simp only [Act.put, pkA, pkZ, pkS, i64_w, i32_w]
            rfl
          refine pure_ (i := 2) (N := some 60) (v := ?_) (a' := ?_) #[false, true, true, false, false, false, false, false, false, false, false] rfl rfl (by kernel_rfl) (fun _ _ _ h => h) (Or.inl ⟨by rfl, ?_⟩) ?_ ?_
          rotate_left
          · intro w'
            go_simp
            with_reducible rfl
          rotate_left
          · simp only [Act.put, pkA, pkZ, pkS, i64_w, i32_w]
            rfl
          refine pure_ (i := 3) (N := some 61) (v := ?_) (a' := ?_) #[false, true, true, true, false, false, false, false, false, false, false] rfl rfl (by kernel_rfl) (fun _ _ _ h => h) (Or.inl ⟨by rfl, ?_⟩) ?_ ?_
          rotate_left
          · intro w'
            go_simp
            with_reducible rfl
          rotate_left
          · simp only [Act.put, pkA, pkZ, pkS, i64_w, i32_w]
            rfl
          refine pure_ (i := 5) (N := some 63) (v := ?_) (a' := ?_) #[false, true, true, true, false, true, false, false, false, false, false] rfl rfl (by kernel_rfl) (fun _ _ _ h => h) (Or.inl ⟨by rfl, ?_⟩) ?_ ?_
          rotate_left
          · intro w'
            go_simp
            with_reducible rfl
          rotate_left
          · simp only [Act.put, pkA, pkZ, pkS, i64_w, i32_w]
            rfl
          refine pure_ (i := 6) (N := some 64) (v := ?_) (a' := ?_) #[false, true, true, true, false, true, true, false, false, false, false] rfl rfl (by kernel_rfl) (fun _ _ _ h => h) (Or.inl ⟨by rfl, ?_⟩) ?_ ?_
          rotate_left
          · intro w'
            go_simp
            with_reducible rfl
          rotate_left
          · simp only [Act.put, pkA, pkZ, pkS, i64_w, i32_w]
            rfl
          refine take_ (i := 0) (N := some 58) (v := ?_) (a' := ?_) #[true, true, true, true, false, true, true, false, false, false, false] rfl rfl (by kernel_rfl) (fun _ _ _ h => h) (Or.inl ⟨by rfl, ?_⟩) hHeld ?_ ?_
          rotate_left
          · rintro w' ⟨s0, s1, s2, s3, s4, s5⟩
            go_simp
            with_reducible rfl
          rotate_left
          · simp only [Act.put, pkA, pkZ, pkS, i64_w, i32_w]
            rfl
          refine take_ (i := 4) (N := some 62) (v := ?_) (a' := ?_) #[true, true, true, true, true, true, true, false, false, false, false] rfl rfl (by kernel_rfl) (fun _ _ _ h => h) (Or.inl ⟨by rfl, ?_⟩) hHeld ?_ ?_
          rotate_left
          · rintro w' ⟨s0, s1, s2, s3, s4, s5⟩
            go_simp
            with_reducible rfl
          rotate_left
          · simp only [Act.put, pkA, pkZ, pkS, i64_w, i32_w]
            rfl
          refine pure_ (i := 7) (N := some 65) (v := ?_) (a' := ?_) #[true, true, true, true, true, true, true, true, false, false, false] rfl rfl (by kernel_rfl) (fun _ _ _ h => h) (Or.inl ⟨by rfl, ?_⟩) ?_ ?_
          rotate_left
          · intro w'
            go_simp
            with_reducible rfl
          rotate_left
          · simp only [Act.put, pkA, pkZ, pkS, i64_w, i32_w]
            rfl
          refine one_ (i := 8) (N := some 66) #[true, true, true, true, true, true, true, true, true, false, false] rfl rfl (by kernel_rfl) (by decide) (fun K hK => ?_)
          refine value_ (w1 := ?_) (v := ?_) (by rfl) rfl ?_ ?_
          rotate_left 2
          · go_simp
            constructor
            · rfl
            · rfl
          have gr8 : wr.grownBy ((wr.alloc (.cells #[.string x.f0, .string x.f1, .string x.f2, .string x.f3, .string x.f4, .int .i64 a1, .int .i64 b1] 52)).drew) (Value.slice Av acc.length cv).ownBlock := grown_below (show wr.grownBy wr (Value.slice Av acc.length cv).ownBlock from ⟨rfl, rfl, rfl, Nat.le_refl _, fun _ _ _ => rfl⟩) (((Below.refl _ _).alloc (Nat.le_refl _) _).drew)
          have own8 : ((wr.alloc (.cells #[.string x.f0, .string x.f1, .string x.f2, .string x.f3, .string x.f4, .int .i64 a1, .int .i64 b1] 52)).drew).ownsRow B 52 7 (.slice Av acc.length cv) acc.length (flatC acc) := pw_own_below HOW.out (((Below.refl _ _).alloc (Nat.le_refl _) _).drew)
          have ng : ((wr.alloc (.cells #[.string x.f0, .string x.f1, .string x.f2, .string x.f3, .string x.f4, .int .i64 a1, .int .i64 b1] 52)).drew).heap[wr.heap.size]? = some (.cells #[.string x.f0, .string x.f1, .string x.f2, .string x.f3, .string x.f4, .int .i64 a1, .int .i64 b1] 52 (0, 0)) := (Go.MapKept.heap_alloc wr (.cells #[.string x.f0, .string x.f1, .string x.f2, .string x.f3, .string x.f4, .int .i64 a1, .int .i64 b1] 52)).1
          have HB8 := Lib.hid (show B ≤ ((wr.alloc (.cells #[.string x.f0, .string x.f1, .string x.f2, .string x.f3, .string x.f4, .int .i64 a1, .int .i64 b1] 52)).drew).heap.size ∧ wr.heap.size ≤ ((wr.alloc (.cells #[.string x.f0, .string x.f1, .string x.f2, .string x.f3, .string x.f4, .int .i64 a1, .int .i64 b1] 52)).drew).heap.size from ⟨Nat.le_trans HBW.out.1 gr8.size, gr8.size⟩)
          obtain ⟨zg, hzg⟩ : ∃ z, wr.heap.size = z := ⟨_, rfl⟩
          have HZG := Lib.hid hzg
          rw [hzg] at ng ⊢
          obtain ⟨w8, hw8⟩ : ∃ W, (wr.alloc (.cells #[.string x.f0, .string x.f1, .string x.f2, .string x.f3, .string x.f4, .int .i64 a1, .int .i64 b1] 52)).drew = W := ⟨_, rfl⟩
          rw [hw8] at gr8 own8 ng HB8 ⊢
          clear hw8 hzg
          refine hK.out _ _ ⟨(HS10.out _ gr8).1, (HS10.out _ gr8).2.1, (HS10.out _ gr8).2.2.1, (HS10.out _ gr8).2.2.2.1, (HS10.out _ gr8).2.2.2.2.1, (HS10.out _ gr8).2.2.2.2.2⟩ (fun hHeld => ?_)
          clear hK K
          refine norm_ (a' := ?_) ?_ ?_
          rotate_left
          · show Act.put _ (some 66) _ = _
            simp only [Act.put, pkA, pkZ, pkS, i64_w, i32_w]
            rfl
          refine one_ (i := 9) (N := some 67) #[true, true, true, true, true, true, true, true, true, true, false] rfl rfl (by kernel_rfl) (by decide) (fun K hK => ?_)
          refine step_append_any (by rfl) (.tmp 58) (.tmp 66) 34 (by rfl) B 52 i0 _ 7 96 Try.underlying34 hi0 hi1 hi2 hi3 rfl (by omega) _ acc.length (flatC acc) (by rfl) own8 _ 1 _ (cellL ⟨x, a1, b1⟩) (by rfl) rfl (fun j u hu => ⟨_, rfl, World.news_of_block ng j u hu⟩) (cellL_one _) (by unfold maxLen; omega) (by omega) HB8.out.1 ?_
          intro v9 w9 own9 gr9 fr9
          have gr9a := grown_then gr8 gr9 (.inl rfl)
          obtain ⟨A9, c9, hv9, _⟩ := own_form own9
          subst hv9
          refine hK.out _ _ ⟨(HS10.out _ gr9a).1, (HS10.out _ gr9a).2.1, (HS10.out _ gr9a).2.2.1, (HS10.out _ gr9a).2.2.2.1, (HS10.out _ gr9a).2.2.2.2.1, (HS10.out _ gr9a).2.2.2.2.2⟩ (fun hHeld => ?_)
          clear hK K
          refine norm_ (a' := ?_) ?_ ?_
          rotate_left
          · show Act.put _ (some 67) _ = _
            simp only [Act.put, pkA, pkZ, pkS, i64_w, i32_w]
            rfl
          refine last_ (i := 10) (N := none) #[true, true, true, true, true, true, true, true, true, true, true] rfl rfl (by kernel_rfl) (by decide) (fun K hK => ?_)
          have h10 := HZ2.out _ gr9a
          have e10 := blk_cell h10 0
          have f10 := blk_frozen h10 0
          refine skip_ (w1 := ?_) (by rfl) rfl ?_ ?_
          rotate_left
          · go_simp
            rfl
          refine hK.out _ _ ?_
          clear hK K
          refine done_ (by kernel_rfl) ?_
          have own10 : (w9.setCell ⟨z2, 0, none⟩ (.slice A9 (acc.length + 1) c9)).ownsRow B 52 7 (.slice A9 (acc.length + 1) c9) (acc.length + 1) (flatC acc ++ cellL ⟨x, a1, b1⟩) := own_move own9 (fun b hb => Below.heap_setCell _ _ _ _ (fun e => own_ne_of own9 h10 (by decide) (by rw [hb, e])))
          have hset := blk_set h10 0 (.slice A9 (acc.length + 1) c9)
          have HFIN := Lib.hid (show ∃ v', (w9.setCell ⟨z2, 0, none⟩ (.slice A9 (acc.length + 1) c9)).heap[z2]? = some (.cells #[v'] 34 (0, 0)) ∧ (w9.setCell ⟨z2, 0, none⟩ (.slice A9 (acc.length + 1) c9)).ownsRow B 52 7 v' ((oneG g acc).getD acc).length (flatC ((oneG g acc).getD acc)) ∧ (v'.ownBlock = (Value.slice Av acc.length cv).ownBlock ∨ ∃ b, v'.ownBlock = some b ∧ w.heap.size ≤ b) ∧ (∀ k, k < w.heap.size → k ≠ z2 → some k ≠ (Value.slice Av acc.length cv).ownBlock → (w9.setCell ⟨z2, 0, none⟩ (.slice A9 (acc.length + 1) c9)).heap[k]? = w.heap[k]?) ∧ (w9.setCell ⟨z2, 0, none⟩ (.slice A9 (acc.length + 1) c9)).os = w.os ∧ (w9.setCell ⟨z2, 0, none⟩ (.slice A9 (acc.length + 1) c9)).tape = w.tape ∧ (w9.setCell ⟨z2, 0, none⟩ (.slice A9 (acc.length + 1) c9)).output = w.output ∧ w.heap.size ≤ (w9.setCell ⟨z2, 0, none⟩ (.slice A9 (acc.length + 1) c9)).heap.size from by
            have e : (oneG g acc).getD acc = acc ++ [⟨x, a1, b1⟩] := by rw [HO.out]; rfl
            rw [e]
            refine ⟨_, hset, ?_, ?_, ?_, gr9a.os.trans HGR.out.os, gr9a.tape.trans HGR.out.tape, gr9a.output.trans HGR.out.output, ?_⟩
            · rw [List.length_append, flatC, List.flatMap_append]; simpa [flatC] using own10
            · rcases fr9 with f | f
              · exact .inl f
              · exact .inr ⟨_, f, Nat.le_trans HBW.out.2 HB8.out.2⟩
            · intro k hk hkz hkv
              rw [Below.heap_setCell _ _ _ _ hkz, gr9a.block k (Nat.lt_of_lt_of_le hk HBW.out.2) hkv]
              exact HFR.out k hk
            · refine Nat.le_trans HBW.out.2 (Nat.le_trans gr9a.size ?_)
              simp [World.setCell])
          obtain ⟨wf, hwf⟩ : ∃ W, w9.setCell ⟨z2, 0, none⟩ (.slice A9 (acc.length + 1) c9) = W := ⟨_, rfl⟩
          rw [hwf] at HFIN ⊢
          clear hwf hset own10 own9 gr9 gr9a fr9 h10 e10 f10 hHeld gr8 own8 ng gr0
          go_wp2
          go_ret
          exact ⟨by rw [HO.out]; rfl, HFIN.out⟩
end Go.Proofs.Ytdlilbleohlmnaa.PAq
namespace Go.Proofs
open Go.Shelf
def Try.svCloneC_ren : Go.Shelf.Ren := ⟨fun | 41 => 85 | n => n, fun | 22 => 34 | 23 => 52 | 4 => 4 | n => n, fun | n => n⟩
theorem Try.svCloneC : Go.Proofs.SlLaysE0.n41 Try.prog Try.svCloneC_ren := {
  mixed := by kernel_rfl
  f41 := ⟨Try.f85.name, by decide, Try.func85.trans (congrArg some (by kernel_rfl))⟩
  t4 := Try.underlying4
  a4 := Try.isAgg4
  z4 := Try.sizeOf4
  v4 := Try.zeroValue4
  t22 := Try.underlying34
  a22 := Try.isAgg34
  z22 := Try.sizeOf34
  v22 := Try.zeroValue34 }
end Go.Proofs
namespace Go.Proofs.Ytdlilbleohlmnaa.PAq
open Go.RowKit Go.Shelf Go.Lib Go.Sort Go.Proofs.YtdlilbleohlmnaaW.PrintWords Go.Proofs.YtdlilbleohlmnaaW.PrintLast
theorem C_flat {w : World} {b off n : Nat} {l : List Cell} (hC : Kd.C k52 w (some ⟨b, off, none⟩) n l) : ∀ j u, (flatC l)[j]? = some u → w.cell? ⟨b, off + j, none⟩ = some u := by
  intro j u hu
  have hj : j < l.length * 7 := by rw [← flatC_length]; exact (List.getElem?_eq_some_iff.mp hu).1
  obtain ⟨hl, hm, h⟩ := hC
  have hi : j / 7 < l.length := by omega
  obtain ⟨ad, had, hc⟩ := h (by omega)
  obtain rfl := Option.some.inj had
  obtain ⟨c, _, hK, hcell⟩ := hc (j / 7) l[j / 7] (List.getElem?_eq_getElem hi)
  have hcl : c = cellL l[j / 7] := k52_open hK
  have h1 := flatC_at l (j / 7) (j % 7) hi (by omega)
  rw [show j / 7 * 7 + j % 7 = j by omega, hu] at h1
  have h2 := hcell (j % 7) u (by rw [hcl]; exact h1.symm)
  have es : k52.sz = 7 := rfl
  rw [addr_add_, es, show j / 7 * 7 + j % 7 = j by omega] at h2
  exact h2
theorem flatC_one (l : List Cell) : ∀ u ∈ flatC l, u.oneCell' = true := by
  intro u hu
  obtain ⟨x, _, hx⟩ := List.mem_flatMap.mp hu
  exact cellL_one x u hx
theorem go_cloneC (l : List Cell) (A : Option Addr) (c : Nat) (w : World) (hC : Kd.C k52 w A l.length l) (hA : (A = none ∧ l = [] ∧ c = 0) ∨ ∃ b off, A = some ⟨b, off, none⟩) (hl : l.length ≤ 1000000) :
    Calls Try.prog 85 #[.slice A l.length c] w fun e w' => ∃ v', e = .returned v' ∧ w'.ownsRow w.heap.size 52 7 v' l.length (flatC l) ∧ Below w.heap.size w w' := by
  rcases hA with ⟨rfl, rfl, rfl⟩ | ⟨b, off, rfl⟩
  · refine (AnyE.slices_Clone_nil Try.svCloneC 0 0 w).mono ?_
    rintro e w' ⟨rfl, rfl⟩
    exact ⟨_, rfl, ⟨rfl, .inl ⟨rfl, rfl⟩⟩, Below.refl _ _⟩
  · obtain ⟨i0, hi0, hi1, hi2, hi3⟩ := info_parts_ info52
    refine (AnyE.slices_Clone Try.svCloneC i0 _ 7 96 hi0 hi1 hi2 hi3 rfl (by omega) Try.sizeOf52 b off l.length c (flatC l) w (flatC_length l) (by unfold maxLen; omega) (by omega) (C_flat hC) (flatC_one l)).mono ?_
    rintro e w' ⟨v', rfl, hown, _, hb⟩
    exact ⟨v', rfl, hown, hb⟩
end Go.Proofs.Ytdlilbleohlmnaa.PAq
namespace Go.Proofs.Ytdlilbleohlmnaa.PAq
open Go.RowKit Go.Lib Go.Sort Go.Proofs.YtdlilbleohlmnaaW.PrintWords Go.Proofs.YtdlilbleohlmnaaW.PrintLast
def stepTo (ks : List Cell) : Nat → Nat → Nat → Nat
  | 0, _, b => b
  | f + 1, a, b => if b < ks.length ∧ keyCmp ks[a]!.f0 ks[b]!.f0 = 0 then stepTo ks f a (b + 1) else b
def grpI (ks : List Cell) : Nat → Nat → List Cell → Option (List Cell)
  | 0, _, acc => some acc
  | f + 1, a, acc => if a < ks.length then (oneG ((ks.drop a).take (stepTo ks ks.length a (a + 1) - a)) acc).bind (fun acc' => grpI ks f (stepTo ks ks.length a (a + 1)) acc') else some acc
theorem oneG_len {g acc acc' : List Cell} (h : oneG g acc = some acc') : acc'.length ≤ acc.length + 1 := by
  unfold oneG at h
  split at h
  · injection h with h
    subst h
    split <;> simp
  · cases h
structure GI (w0 w : World) (B z2 z5 z6 : Nat) (t5 t6 : TypeId) (ks : List Cell) (vs v : Value) (acc : List Cell) : Prop where
  f5 : w.heap[z5]? = some (.cells #[.func (.func 54) #[] #[]] t5 (0, 0))
  f6 : w.heap[z6]? = some (.cells #[.func (.func 35) #[] #[]] t6 (0, 0))
  row : w.ownsRow B 52 7 vs ks.length (flatC ks)
  box : w.heap[z2]? = some (.cells #[v] 34 (0, 0))
  own : w.ownsRow B 52 7 v acc.length (flatC acc)
  ne : ∀ b, vs.ownBlock = some b → some b ≠ v.ownBlock
  bel : Below B w0 w
variable {w0 w w1 : World} {B z2 z5 z6 : Nat} {t5 t6 : TypeId} {ks acc : List Cell} {vs v : Value}
theorem GI.below (h : GI w0 w B z2 z5 z6 t5 t6 ks vs v acc) (g : Below w.heap.size w w1) (hB : B ≤ w.heap.size) : GI w0 w1 B z2 z5 z6 t5 t6 ks vs v acc := by
  have k : ∀ {z : Nat} {o : Obj}, w.heap[z]? = some o → w1.heap[z]? = some o := fun {z o} hz => (g.block z (Array.getElem?_eq_some_iff.mp hz).1).trans hz
  exact ⟨k h.f5, k h.f6, pw_own_below h.row g, k h.box, pw_own_below h.own g, h.ne, h.bel.trans (g.mono hB)⟩
theorem GI.next (h : GI w0 w B z2 z5 z6 t5 t6 ks vs v acc) (h5 : t5 ≠ 52 ∧ t5 ≠ 34) (h6 : t6 ≠ 52 ∧ t6 ≠ 34) (hB2 : B ≤ z2) {v' : Value} {acc' : List Cell}
    (hbox : w1.heap[z2]? = some (.cells #[v'] 34 (0, 0))) (hown : w1.ownsRow B 52 7 v' acc'.length (flatC acc')) (hv : v'.ownBlock = v.ownBlock ∨ ∃ b, v'.ownBlock = some b ∧ w.heap.size ≤ b)
    (hfr : ∀ k, k < w.heap.size → k ≠ z2 → some k ≠ v.ownBlock → w1.heap[k]? = w.heap[k]?) (hos : w1.os = w.os) (ht : w1.tape = w.tape) (ho : w1.output = w.output) (hs : w.heap.size ≤ w1.heap.size) : GI w0 w1 B z2 z5 z6 t5 t6 ks vs v' acc' := by
  have z2l : z2 < w.heap.size := (Array.getElem?_eq_some_iff.mp h.box).1
  have keep : ∀ {z : Nat} {cs : Array Value} {t : TypeId}, w.heap[z]? = some (.cells cs t (0, 0)) → t ≠ 34 → some z ≠ v.ownBlock → w1.heap[z]? = some (.cells cs t (0, 0)) := fun {z cs t} hz ht hn => by
    rw [hfr z (Array.getElem?_eq_some_iff.mp hz).1 (fun e => by rw [e, h.box] at hz; injection hz with hz; injection hz with _ hz; exact ht hz.symm) hn]
    exact hz
  refine ⟨keep h.f5 h5.2 (fun e => own_ne_of h.own h.f5 h5.1.symm e.symm), keep h.f6 h6.2 (fun e => own_ne_of h.own h.f6 h6.1.symm e.symm), ?_, hbox, hown, ?_, ?_⟩
  · refine own_move h.row (fun b hb => ?_)
    obtain ⟨cs, hcs⟩ := own_block_cells h.row hb
    rw [keep hcs (by decide) (h.ne b hb), hcs]
  · intro b hb
    obtain ⟨cs, hcs⟩ := own_block_cells h.row hb
    rcases hv with e | ⟨b', e, hl⟩
    · rw [e]; exact h.ne b hb
    · rw [e]
      have := (Array.getElem?_eq_some_iff.mp hcs).1
      intro e2
      injection e2 with e2
      omega
  · refine ⟨hos.trans h.bel.os, ht.trans h.bel.tape, ho.trans h.bel.output, Nat.le_trans h.bel.size hs, fun k hk => ?_⟩
    rw [hfr k (by omega) (by omega) (fun e => by
      rcases h.own.2 with ⟨hv, _⟩ | ⟨g, cap, cur, hv, hg, _⟩
      · rw [hv] at e; cases e
      · rw [hv] at e
        injection e with e
        have : k = g := e
        omega)]
    exact h.bel.block k hk
theorem GI.group (h : GI w0 w B z2 z5 z6 t5 t6 ks vs v acc) {a b : Nat} (hab : a < b) (hb : b ≤ ks.length) (hl : ks.length ≤ 1000000) : ∃ blk cap, vs = .slice (some ⟨blk, 0, none⟩) ks.length cap ∧ ks.length ≤ cap ∧ cap ≤ maxLen ∧ some blk ≠ v.ownBlock ∧ Kd.C k52 w (some ⟨blk, a * 7, none⟩) (b - a) ((ks.drop a).take (b - a)) ∧ Kd.C k52 w (some ⟨blk, 0, none⟩) ks.length ks := by
  rcases h.row.2 with ⟨_, h0⟩ | ⟨blk, cap, cur, hv, hg, hh, hn, hm, hcs, htk⟩
  · omega
  · have c1 := C_of_cells (cap := cap) hh htk a (b - a) (by omega) (by omega)
    have c2 := C_of_cells (cap := cap) hh htk 0 ks.length (by omega) (by omega)
    rw [show ((ks.drop a).take (b - a)).length = b - a by simp; omega] at c1
    rw [List.drop_zero, List.take_of_length_le (Nat.le_refl _), Nat.zero_mul] at c2
    exact ⟨blk, cap, hv, hn, hm, h.ne blk (by rw [hv]; rfl), c1, c2⟩
end Go.Proofs.Ytdlilbleohlmnaa.PAq
namespace Go.Proofs.Ytdlilbleohlmnaa.PAq
open Go.RowKit Go.Lib Go.Sort Go.Proofs.YtdlilbleohlmnaaW.PrintWords Go.Proofs.YtdlilbleohlmnaaW.PrintLast
theorem cells_blk {w : World} {blk n : Nat} {ks : List Cell} (hC : Kd.C k52 w (some ⟨blk, 0, none⟩) n ks) (k : Nat) (hk : k < ks.length) (W : World) (hW : Below w.heap.size w W) : W.cell? ⟨blk, k * 7, none⟩ = some (.string ks[k]!.f0.f0) ∧ W.cell? ⟨blk, k * 7 + 1, none⟩ = some (.string ks[k]!.f0.f1) ∧ W.cell? ⟨blk, k * 7 + 2, none⟩ = some (.string ks[k]!.f0.f2) ∧ W.cell? ⟨blk, k * 7 + 3, none⟩ = some (.string ks[k]!.f0.f3) ∧ W.cell? ⟨blk, k * 7 + 4, none⟩ = some (.string ks[k]!.f0.f4) ∧ W.cell? ⟨blk, k * 7 + 5, none⟩ = some (.int .i64 ks[k]!.f1) ∧ W.cell? ⟨blk, k * 7 + 6, none⟩ = some (.int .i64 ks[k]!.f2) := by
  have h := C_flat hC
  have tr : ∀ {a : Addr} {v : Value}, w.cell? a = some v → W.cell? a = some v := fun {a v} h => (hW.cell (World.block_lt_of_cell? w a h)).trans h
  have f : ∀ t, t < 7 → ∀ u, (cellL ks[k])[t]? = some u → W.cell? ⟨blk, k * 7 + t, none⟩ = some u := fun t ht u hu => by
    have h1 := h (k * 7 + t) u ((flatC_at ks k t hk ht).trans hu)
    rw [Nat.zero_add] at h1
    exact tr h1
  rw [getElem!_pos ks k hk]
  exact ⟨f 0 (by omega) _ rfl, f 1 (by omega) _ rfl, f 2 (by omega) _ rfl, f 3 (by omega) _ rfl, f 4 (by omega) _ rfl, f 5 (by omega) _ rfl, f 6 (by omega) _ rfl⟩
def GrpPost (l : List Cell) (B z2 : Nat) (w : World) (e : Ending) (w' : World) : Prop :=
      ∃ (ks : List Cell) (v : Value) (acc : List Cell), ks.Perm l ∧ ks.Pairwise (fun a b => keyCmp a.f0 b.f0 ≤ 0) ∧ e = .returned (.bool (grpI ks (ks.length + 1) 0 []).isSome) ∧ (∀ s, grpI ks (ks.length + 1) 0 [] = some s → acc = s) ∧ w'.heap[z2]? = some (.cells #[v] 34 (0, 0)) ∧ w'.ownsRow B 52 7 v acc.length (flatC acc) ∧ Below B w w'
set_option maxHeartbeats 4000000 in
set_option maxRecDepth 100000 in
theorem go_grouped (l : List Cell) (A : Option Addr) (c z2 B : Nat) (w : World) (hC : Kd.C k52 w A l.length l) (hc : l.length ≤ c) (hA : (A = none ∧ l = [] ∧ c = 0) ∨ ∃ b off, A = some ⟨b, off, none⟩) (hl : l.length ≤ 100000) (hr : ∀ x ∈ l, in64 x.f1 ∧ in64 x.f2)
    (hz : w.heap[z2]? = some (.cells #[.slice none 0 0] 34 (0, 0))) (hB : B ≤ z2) :
    Calls Try.prog 53 #[.slice A l.length c, .func (.func 54) #[] #[], .func (.func 35) #[] #[], .func (.func 52) #[] #[.pointer (some ⟨z2, 0, none⟩)]] w fun e w' =>
      GrpPost l B z2 w e w' := by
  have mixed : Try.prog.follows Departure.mixedOrders = true := by kernel_rfl
  have HCC := Lib.hid hC; have HAA := Lib.hid hA; have HRR := Lib.hid hr; have HZ := Lib.hid hz
  have hz2l : z2 < w.heap.size := (Array.getElem?_eq_some_iff.mp hz).1
  clear hC hA hr hz
  go_enter Try.func53, Try.ntmps53
  go_wp2_with fail
  have gr1 : Below w.heap.size w ((w.alloc (.cells #[.func (.func 54) #[] #[]] 95)).alloc (.cells #[.func (.func 35) #[] #[]] 74)) := ((Below.refl _ _).alloc (Nat.le_refl _) _).alloc (by simp) _
  have h5 := (Below.heap_alloc (w.alloc (.cells #[.func (.func 54) #[] #[]] 95)) (.cells #[.func (.func 35) #[] #[]] 74) w.heap.size (by simp)).trans (Go.MapKept.heap_alloc w (.cells #[.func (.func 54) #[] #[]] 95)).1
  have h6 := (Go.MapKept.heap_alloc (w.alloc (.cells #[.func (.func 54) #[] #[]] 95)) (.cells #[.func (.func 35) #[] #[]] 74)).1
  have hs1 : ((w.alloc (.cells #[.func (.func 54) #[] #[]] 95)).alloc (.cells #[.func (.func 35) #[] #[]] 74)).heap.size = w.heap.size + 1 + 1 := by rw [World.size_alloc, World.size_alloc]
  rw [World.size_alloc] at h6
  obtain ⟨w1, hw1⟩ : ∃ W, (w.alloc (.cells #[.func (.func 54) #[] #[]] 95)).alloc (.cells #[.func (.func 35) #[] #[]] 74) = W := ⟨_, rfl⟩
  obtain ⟨z6, ez6⟩ : ∃ z, w.heap.size + 1 = z := ⟨_, rfl⟩
  obtain ⟨z5, ez5⟩ : ∃ z, w.heap.size = z := ⟨_, rfl⟩
  rw [hw1] at gr1 h5 h6 hs1 ⊢
  rw [ez6] at h6 hs1 ⊢
  rw [ez5] at h5 ⊢
  have HZZ := Lib.hid (show w.heap.size = z5 ∧ z6 = z5 + 1 ∧ w1.heap.size = z6 + 1 from ⟨ez5, by omega, by omega⟩)
  clear hw1 ez5 ez6 hs1
  refine (go_cloneC l A c w1 (Kd.C_below HCC.out gr1) HAA.out (by omega)).mono ?_
  rintro e w2 ⟨v', rfl, hown2, hb2⟩
  have h52 := (hb2.block z5 (by have := HZZ.out; omega)).trans h5
  have h62 := (hb2.block z6 (by have := HZZ.out; omega)).trans h6
  have hlow : ∀ z, z < w1.heap.size → some z ≠ v'.ownBlock := fun z hz e => by
    rcases hown2.2 with ⟨hv, _⟩ | ⟨g, cap, cur, hv, hg, _⟩
    · rw [hv] at e; cases e
    · rw [hv] at e; injection e with e; have : z = g := e; omega
  have hn5 := hlow z5 (by have := HZZ.out; omega)
  have hn6 := hlow z6 (by have := HZZ.out; omega)
  have hn2 := hlow z2 (by have := gr1.size; omega)
  go_wp2_with fail
  refine (go_sortRow hown2 (blk_cell h52 0) (blk_cell h62 0) hn5 hn6 hb2.size (by omega)).mono ?_
  rintro e w3 ⟨rfl, ks, hperm, hpw, hown3, hb3, hfr3⟩
  have hn : ks.length = l.length := hperm.length_eq
  have hGI : GI w w3 B z2 z5 z6 95 74 ks v' (.slice none 0 0) [] := by
    have hz1 := (gr1.block z2 hz2l).trans HZ.out
    have hz2' := (hb2.block z2 (by have := gr1.size; omega)).trans hz1
    have kp : ∀ {z : Nat} {o : Obj}, w2.heap[z]? = some o → some z ≠ v'.ownBlock → w3.heap[z]? = some o := fun {z o} h h' => (hfr3 z (Array.getElem?_eq_some_iff.mp h).1 h').trans h
    refine ⟨kp h52 hn5, kp h62 hn6, own_lower_ hown3 (by have := gr1.size; omega), kp hz2' hn2, ⟨rfl, .inl ⟨rfl, rfl⟩⟩, fun b _ e => by (cases e), ?_⟩
    refine ((gr1.mono (by omega)).trans (hb2.mono (by have := gr1.size; omega))).trans ⟨hb3.os, hb3.tape, hb3.output, hb3.size, fun k hk => hb3.block k (by have := gr1.size; omega)⟩
  obtain ⟨Av, cv, hv, _, _, _⟩ := own_form hown3
  rw [hv] at hGI ⊢
  have HP := Lib.hid (And.intro hperm hpw)
  have HRK : Hid (∀ x ∈ ks, in64 x.f1 ∧ in64 x.f2) := Lib.hid (fun x hx => HRR.out x (hperm.mem_iff.mp hx))
  have hnl : ks.length ≤ 100000 := by omega
  have hBw : B ≤ w.heap.size := by omega
  obtain ⟨n, en⟩ : ∃ n, ks.length = n := ⟨_, rfl⟩
  have HN := Lib.hid en
  rw [en] at hGI hnl ⊢
  clear hown2 hown3 hb2 hb3 hfr3 h5 h6 h52 h62 hlow hn5 hn6 hn2 gr1 hperm hpw hv hn HCC HAA HRR HZ HZZ en hc hz2l v' w1 w2
  go_wp2_with fail
  go_loopg [10] n (fun gk v10 wr => ∃ (a f : Nat) (acc : List Cell) (v : Value), v10 = .int .i64 a ∧ a ≤ n ∧ n - a ≤ gk ∧ n - a < f ∧ acc.length ≤ a ∧ GI w wr B z2 z5 z6 95 74 ks (.slice Av n cv) v acc ∧ Hid (grpI ks f a acc = grpI ks (n + 1) 0 []))
  case atStart => exact ⟨0, n + 1, [], _, rfl, by omega, by omega, by omega, by simp, hGI, Lib.hid rfl⟩
  case round =>
    obtain ⟨a, f, acc, v, rfl, ha, hg, hf, hacc, hG, HR⟩ := hrel
    clear hGI w3
    cases f with
    | zero => omega
    | succ f =>
    by_cases hlt : a < n
    · have hltz : (a : Int) < (n : Int) := by omega
      obtain ⟨gk1, hgk1⟩ : ∃ x, x = gk := ⟨gk, rfl⟩
      obtain ⟨blk, cap, hvs, hcap1, hcap2, hblkv, _, hCk⟩ := hG.group (a := a) (b := a + 1) (by omega) (by rw [HN.out]; omega) (by rw [HN.out]; omega)
      rw [HN.out] at hvs hcap1
      injection hvs with hv1 hv3 hv2
      subst hv1 hv2
      clear hv3
      have wa : IntKind.i64.wrap ((a : Int) + 1) = ((a + 1 : Nat) : Int) := by rw [IntKind.wrap_i64]; omega
      clear hblkv hCk
      go_wp2_with fail
      go_loopg [11] n (fun gk v11 wr => ∃ (b f2 : Nat), v11 = .int .i64 b ∧ a < b ∧ b ≤ n ∧ n - b ≤ gk ∧ n - b ≤ f2 ∧ GI w wr B z2 z5 z6 95 74 ks (.slice (some ⟨blk, 0, none⟩) n cv) v acc ∧ B ≤ wr.heap.size ∧ Hid (stepTo ks f2 a b = stepTo ks n a (a + 1)))
      case atStart => exact ⟨a + 1, n, by go_num, by omega, by omega, by omega, by omega, hG, Nat.le_trans hBw hG.bel.size, Lib.hid rfl⟩
      case round =>
        obtain ⟨b, f2, rfl, hab, hb, hgi, hf2, hGi, hBi, HS⟩ := hrel
        clear hG wa
        obtain ⟨blk', cap', hvs, _, _, _, _, hCk⟩ := hGi.group (a := a) (b := b) hab (by rw [HN.out]; exact hb) (by rw [HN.out]; omega)
        injection hvs with hv1 hv2 hv3
        injection hv1 with hv1
        injection hv1 with hv1 _ _
        subst hv1
        clear hv2 hv3
        have HCB := Lib.hid (fun (k : Nat) (hk : k < ks.length) (n os : _) => cells_blk hCk k hk _ (Grn.of_form ⟨n, os, rfl⟩ : Grn wr (grow (wr.drewN n) os)).b)
        clear hCk
        by_cases hbn : b < n
        · have hbz : (b : Int) < (n : Int) := by omega
          obtain ⟨x, hx⟩ : ∃ x, ks[a]! = x := ⟨_, rfl⟩
          obtain ⟨y, hy⟩ : ∃ y, ks[b]! = y := ⟨_, rfl⟩
          have HX := Lib.hid hx; have HY := Lib.hid hy
          have cx := HCB.out a (by rw [HN.out]; exact hlt)
          have cy := HCB.out b (by rw [HN.out]; exact hbn)
          rw [hx] at cx
          rw [hy] at cy
          have G : ∀ n os, Grn wr (grow (wr.drewN n) os) := fun n os => Grn.of_form ⟨n, os, rfl⟩
          have q5 : ∀ n os, (grow (wr.drewN n) os).cell? ⟨z5, 0, none⟩ = some (.func (.func 54) #[] #[]) := fun n os => blk_cell ((G n os).blk hGi.f5) 0
          have q6 : ∀ n os, (grow (wr.drewN n) os).cell? ⟨z6, 0, none⟩ = some (.func (.func 35) #[] #[]) := fun n os => blk_cell ((G n os).blk hGi.f6) 0
          have x0 := fun n os => (cx n os).1
          have x1 := fun n os => (cx n os).2.1
          have x2 := fun n os => (cx n os).2.2.1
          have x3 := fun n os => (cx n os).2.2.2.1
          have x4 := fun n os => (cx n os).2.2.2.2.1
          have x5 := fun n os => (cx n os).2.2.2.2.2.1
          have x6 := fun n os => (cx n os).2.2.2.2.2.2
          have y0 := fun n os => (cy n os).1
          have y1 := fun n os => (cy n os).2.1
          have y2 := fun n os => (cy n os).2.2.1
          have y3 := fun n os => (cy n os).2.2.2.1
          have y4 := fun n os => (cy n os).2.2.2.2.1
          have y5 := fun n os => (cy n os).2.2.2.2.2.1
          have y6 := fun n os => (cy n os).2.2.2.2.2.2
          obtain ⟨kc, hkc⟩ : ∃ q, keyCmp x.f0 y.f0 = q := ⟨_, rfl⟩
          have HKC := Lib.hid hkc
          have CMP : ∀ W, Calls Try.prog 35 #[.agg #[.string x.f0.f0, .string x.f0.f1, .string x.f0.f2, .string x.f0.f3, .string x.f0.f4], .agg #[.string y.f0.f0, .string y.f0.f1, .string y.f0.f2, .string y.f0.f3, .string y.f0.f4]] W fun e w' => e = .returned (.int .i64 kc) ∧ ∃ q os, w' = grow (W.drewN q) os := fun W => hkc ▸ go_keyCmpG x.f0 y.f0 W
          have hgrn : ∀ m os, GI w (grow (wr.drewN m) os) B z2 z5 z6 95 74 ks (.slice (some ⟨blk, 0, none⟩) n cv) v acc ∧ B ≤ (grow (wr.drewN m) os).heap.size := fun m os => ⟨hGi.below (G m os).b hBi, Nat.le_trans hBi (G m os).b.size⟩
          have HGN := Lib.hid hgrn
          clear cx cy G hkc hx hy hGi hBi hgrn HCB
          go_upto_region 6 with fail
          have e46 : ∀ args w, (callFunc 54 args).run Try.prog w = .ok (.enter 54 args) w := enters_of Try.func54 (by kernel_rfl) rfl
          have e47 : ∀ args w, (callFunc 35 args).run Try.prog w = .ok (.enter 35 args) w := enters_of Try.func35 (by kernel_rfl) rfl
          go_quiet_grown (first
            | (go_at_fn 54; first | refine Calls.grown_of (go_ofKeyG x _) | refine Calls.grown_of (go_ofKeyG y _))
            | (go_at_fn 35; refine Calls.grown_of (CMP _)))
          have gG := HGN.out nq osq
          dsimp only
          obtain ⟨wn, hwn⟩ : ∃ W, grow (wr.drewN nq) osq = W := ⟨_, rfl⟩
          rw [hwn] at gG ⊢
          have HGG := Lib.hid gG
          clear hwn q5 q6 x0 x1 x2 x3 x4 x5 x6 y0 y1 y2 y3 y4 y5 y6 CMP HGN e46 e47 gG
          cases f2 with
          | zero => omega
          | succ f2 =>
          by_cases hk0 : kc = 0
          · have HS2 : Hid (stepTo ks f2 a (b + 1) = stepTo ks n a (a + 1)) := Lib.hid (by
              have h := HS.out
              rw [stepTo, if_pos ⟨by rw [HN.out]; exact hbn, by rw [HX.out, HY.out, HKC.out, hk0]⟩] at h
              exact h)
            subst hk0
            have wb : IntKind.i64.wrap ((b : Int) + 1) = ((b + 1 : Nat) : Int) := by rw [IntKind.wrap_i64]; omega
            clear HS HX HY HKC
            go_wp2_with fail
            go_roundg (gk - 1)
            case measure => omega
            case rel => exact ⟨b + 1, f2, by go_num, by omega, by omega, by omega, by omega, HGG.out.1, HGG.out.2, HS2⟩
          · have hk1 : (kc == 0) = false := beq_eq_false_iff_ne.mpr hk0
            have HS3 : Hid (stepTo ks n a (a + 1) = b) := Lib.hid (by
              have h := HS.out
              rw [stepTo, if_neg (by rw [HX.out, HY.out, HKC.out]; exact fun e => hk0 e.2)] at h
              exact h.symm)
            clear HS HX HY HKC hk0 hbn hbz
            obtain ⟨blk', cap'', hvs, _, _, hnv, hCg, _⟩ := HGG.out.1.group hab (by rw [HN.out]; exact hb) (by rw [HN.out]; omega)
            injection hvs with hv1 hv2 hv3
            injection hv1 with hv1
            injection hv1 with hv1 _ _
            subst hv1
            clear hv2 hv3
            obtain ⟨g, hgd⟩ : ∃ g, (ks.drop a).take (b - a) = g := ⟨_, rfl⟩
            rw [hgd] at hCg
            have hrg : ∀ x ∈ g, in64 x.f1 ∧ in64 x.f2 := fun x hx => by
              rw [← hgd] at hx
              exact HRK.out x (List.mem_of_mem_drop (List.mem_of_mem_take hx))
            have HRES : Hid ((oneG g acc).bind (fun acc' => grpI ks f b acc') = grpI ks (n + 1) 0 []) := Lib.hid (by
              have h := HR.out
              rw [grpI, if_pos (by rw [HN.out]; exact hlt), HN.out, HS3.out, hgd] at h
              exact h)
            have HCALL := Lib.hid (go_ofOne g acc B z2 (b - a) (cv - a) _ v wn hCg (by omega) (by omega) (by omega) hrg HGG.out.1.box HGG.out.1.own HGG.out.2 (fun ad e => by injection e with e; subst e; exact hnv) (by omega))
            clear hCg hrg hnv hgd HR HS3
            go_wp2_with fail
            refine HCALL.out.mono ?_
            rintro e w4 ⟨rfl, v4, hbox4, hown4, hv4, hfr4, hos4, ht4, ho4, hs4⟩
            have hG4 := HGG.out.1.next ⟨by decide, by decide⟩ ⟨by decide, by decide⟩ hB hbox4 hown4 hv4 hfr4 hos4 ht4 ho4 hs4
            clear hbox4 hown4 hv4 hfr4 hos4 ht4 ho4 hs4 HCALL HGG
            cases ho : oneG g acc with
            | none =>
              have hres : grpI ks (n + 1) 0 [] = none := by rw [← HRES.out, ho]; rfl
              rw [ho] at hG4
              have HF := Lib.hid hres; have HG4 := Lib.hid hG4
              clear hres hG4 ho
              go_wp2_with fail
              refine bodyPost_ret (v := .bool false) (by simp [results, Try.results53, go_sem]) rfl ?_
              refine ⟨ks, v4, acc, HP.out.1, HP.out.2, ?_, ?_, HG4.out.box, HG4.out.own, HG4.out.bel⟩
              · rw [HN.out, HF.out]; rfl
              · intro s hs
                rw [HN.out, HF.out] at hs
                cases hs
            | some acc' =>
              have HR2 : Hid (grpI ks f b acc' = grpI ks (n + 1) 0 []) := Lib.hid (by rw [← HRES.out, ho]; rfl)
              have hln := oneG_len ho
              rw [ho] at hG4
              have HG4 := Lib.hid hG4
              clear hG4 ho HRES
              go_wp2_with fail
              go_roundg (gk1 - 1)
              case measure => omega
              case rel => exact ⟨b, f, acc', v4, rfl, hb, by omega, by omega, by omega, HG4.out, HR2⟩
        · have hbz : ¬ ((b : Int) < (n : Int)) := by omega
          have HGN := Lib.hid (show GI w wr.drew B z2 z5 z6 95 74 ks (.slice (some ⟨blk, 0, none⟩) n cv) v acc ∧ B ≤ wr.drew.heap.size from ⟨hGi.below (Below.refl _ _).drew hBi, hBi⟩)
          have HS3 : Hid (stepTo ks n a (a + 1) = b) := Lib.hid (by
            have h := HS.out
            cases f2 with
            | zero => exact h.symm
            | succ f2 =>
              rw [stepTo, if_neg (by rw [HN.out]; exact fun e => hbn e.1)] at h
              exact h.symm)
          have hbd : decide ((b : Int) < (n : Int)) = false := decide_eq_false hbz
          clear hGi hBi HCB HS hbz
          go_upto_region 6 with fail
          refine start_ (n := 21) (S := fun w' => True) (ds := []) #[false, false, false, false, false, false, false, false, false, false, false, false, false, false, false, false, false, false, false, false, false] (by kernel_rfl) rfl rfl trivial (fun hHeld => ?_)
          refine pure_ (i := 0) (N := some 23) (v := ?_) (a' := ?_) #[true, false, false, false, false, false, false, false, false, false, false, false, false, false, false, false, false, false, false, false, false] rfl rfl (by kernel_rfl) (fun _ _ _ h => h) (Or.inl ⟨by rfl, ?_⟩) ?_ ?_
          rotate_left
          · intro w'
            go_simp
            with_reducible rfl
          rotate_left
          · simp only [Act.put, pkA, pkZ, pkS, i64_w, i32_w]
            rfl
          refine pure_ (i := 1) (N := some 24) (v := ?_) (a' := ?_) #[true, true, false, false, false, false, false, false, false, false, false, false, false, false, false, false, false, false, false, false, false] rfl rfl (by kernel_rfl) (fun _ _ _ h => h) (Or.inl ⟨by rfl, ?_⟩) ?_ ?_
          rotate_left
          · intro w'
            go_simp
            with_reducible rfl
          rotate_left
          · simp only [Act.put, pkA, pkZ, pkS, i64_w, i32_w]
            rfl
          refine pure_ (i := 2) (N := some 25) (v := ?_) (a' := ?_) #[true, true, true, false, false, false, false, false, false, false, false, false, false, false, false, false, false, false, false, false, false] rfl rfl (by kernel_rfl) (fun _ _ _ h => h) (Or.inl ⟨by rfl, ?_⟩) ?_ ?_
          rotate_left
          · intro w'
            go_simp
            with_reducible rfl
          rotate_left
          · simp only [Act.put, pkA, pkZ, pkS, i64_w, i32_w]
            rfl
          refine pure_ (i := 3) (N := some 26) (v := ?_) (a' := ?_) #[true, true, true, true, false, false, false, false, false, false, false, false, false, false, false, false, false, false, false, false, false] rfl rfl (by kernel_rfl) (fun _ _ _ h => h) (Or.inl ⟨by rfl, ?_⟩) ?_ ?_
          rotate_left
          · intro w'
            go_simp
            with_reducible rfl
          rotate_left
          · simp only [Act.put, pkA, pkZ, pkS, i64_w, i32_w]
            rfl
          refine pure_ (i := 4) (N := some 27) (v := ?_) (a' := ?_) #[true, true, true, true, true, false, false, false, false, false, false, false, false, false, false, false, false, false, false, false, false] rfl rfl (by kernel_rfl) (fun _ _ _ h => h) (Or.inl ⟨by rfl, ?_⟩) ?_ ?_
          rotate_left
          · intro w'
            go_simp
            with_reducible rfl
          rotate_left
          · simp only [Act.put, pkA, pkZ, pkS, i64_w, i32_w]
            rfl
          refine pure_ (i := 5) (N := some 28) (v := undef) (a' := ?_) #[true, true, true, true, true, true, false, false, false, false, false, false, false, false, false, false, false, false, false, false, false] rfl rfl (by kernel_rfl) (fun _ _ _ h => h) (Or.inr ⟨by rfl, rfl⟩) ?_ ?_
          rotate_left
          · simp only [Act.put, pkA, pkZ, pkS, i64_w, i32_w]
            rfl
          refine pure_ (i := 6) (N := some 29) (v := undef) (a' := ?_) #[true, true, true, true, true, true, true, false, false, false, false, false, false, false, false, false, false, false, false, false, false] rfl rfl (by kernel_rfl) (fun _ _ _ h => h) (Or.inr ⟨by rfl, rfl⟩) ?_ ?_
          rotate_left
          · simp only [Act.put, pkA, pkZ, pkS, i64_w, i32_w]
            rfl
          refine pure_ (i := 7) (N := some 30) (v := undef) (a' := ?_) #[true, true, true, true, true, true, true, true, false, false, false, false, false, false, false, false, false, false, false, false, false] rfl rfl (by kernel_rfl) (fun _ _ _ h => h) (Or.inr ⟨by rfl, rfl⟩) ?_ ?_
          rotate_left
          · simp only [Act.put, pkA, pkZ, pkS, i64_w, i32_w]
            rfl
          refine pure_ (i := 8) (N := some 31) (v := undef) (a' := ?_) #[true, true, true, true, true, true, true, true, true, false, false, false, false, false, false, false, false, false, false, false, false] rfl rfl (by kernel_rfl) (fun _ _ _ h => h) (Or.inr ⟨by rfl, rfl⟩) ?_ ?_
          rotate_left
          · simp only [Act.put, pkA, pkZ, pkS, i64_w, i32_w]
            rfl
          refine pure_ (i := 9) (N := some 32) (v := undef) (a' := ?_) #[true, true, true, true, true, true, true, true, true, true, false, false, false, false, false, false, false, false, false, false, false] rfl rfl (by kernel_rfl) (fun _ _ _ h => h) (Or.inr ⟨by rfl, rfl⟩) ?_ ?_
          rotate_left
          · simp only [Act.put, pkA, pkZ, pkS, i64_w, i32_w]
            rfl
          refine pure_ (i := 10) (N := some 33) (v := undef) (a' := ?_) #[true, true, true, true, true, true, true, true, true, true, true, false, false, false, false, false, false, false, false, false, false] rfl rfl (by kernel_rfl) (fun _ _ _ h => h) (Or.inr ⟨by rfl, rfl⟩) ?_ ?_
          rotate_left
          · simp only [Act.put, pkA, pkZ, pkS, i64_w, i32_w]
            rfl
          refine pure_ (i := 11) (N := some 34) (v := undef) (a' := ?_) #[true, true, true, true, true, true, true, true, true, true, true, true, false, false, false, false, false, false, false, false, false] rfl rfl (by kernel_rfl) (fun _ _ _ h => h) (Or.inr ⟨by rfl, rfl⟩) ?_ ?_
          rotate_left
          · simp only [Act.put, pkA, pkZ, pkS, i64_w, i32_w]
            rfl
          refine pure_ (i := 12) (N := some 35) (v := undef) (a' := ?_) #[true, true, true, true, true, true, true, true, true, true, true, true, true, false, false, false, false, false, false, false, false] rfl rfl (by kernel_rfl) (fun _ _ _ h => h) (Or.inr ⟨by rfl, rfl⟩) ?_ ?_
          rotate_left
          · simp only [Act.put, pkA, pkZ, pkS, i64_w, i32_w]
            rfl
          refine pure_ (i := 13) (N := some 36) (v := undef) (a' := ?_) #[true, true, true, true, true, true, true, true, true, true, true, true, true, true, false, false, false, false, false, false, false] rfl rfl (by kernel_rfl) (fun _ _ _ h => h) (Or.inr ⟨by rfl, rfl⟩) ?_ ?_
          rotate_left
          · simp only [Act.put, pkA, pkZ, pkS, i64_w, i32_w]
            rfl
          refine pure_ (i := 14) (N := some 37) (v := undef) (a' := ?_) #[true, true, true, true, true, true, true, true, true, true, true, true, true, true, true, false, false, false, false, false, false] rfl rfl (by kernel_rfl) (fun _ _ _ h => h) (Or.inr ⟨by rfl, rfl⟩) ?_ ?_
          rotate_left
          · simp only [Act.put, pkA, pkZ, pkS, i64_w, i32_w]
            rfl
          refine pure_ (i := 15) (N := some 38) (v := undef) (a' := ?_) #[true, true, true, true, true, true, true, true, true, true, true, true, true, true, true, true, false, false, false, false, false] rfl rfl (by kernel_rfl) (fun _ _ _ h => h) (Or.inr ⟨by rfl, rfl⟩) ?_ ?_
          rotate_left
          · simp only [Act.put, pkA, pkZ, pkS, i64_w, i32_w]
            rfl
          refine pure_ (i := 16) (N := some 39) (v := undef) (a' := ?_) #[true, true, true, true, true, true, true, true, true, true, true, true, true, true, true, true, true, false, false, false, false] rfl rfl (by kernel_rfl) (fun _ _ _ h => h) (Or.inr ⟨by rfl, rfl⟩) ?_ ?_
          rotate_left
          · simp only [Act.put, pkA, pkZ, pkS, i64_w, i32_w]
            rfl
          refine pure_ (i := 17) (N := some 40) (v := undef) (a' := ?_) #[true, true, true, true, true, true, true, true, true, true, true, true, true, true, true, true, true, true, false, false, false] rfl rfl (by kernel_rfl) (fun _ _ _ h => h) (Or.inr ⟨by rfl, rfl⟩) ?_ ?_
          rotate_left
          · simp only [Act.put, pkA, pkZ, pkS, i64_w, i32_w]
            rfl
          refine pure_ (i := 18) (N := some 41) (v := undef) (a' := ?_) #[true, true, true, true, true, true, true, true, true, true, true, true, true, true, true, true, true, true, true, false, false] rfl rfl (by kernel_rfl) (fun _ _ _ h => h) (Or.inr ⟨by rfl, rfl⟩) ?_ ?_
          rotate_left
          · simp only [Act.put, pkA, pkZ, pkS, i64_w, i32_w]
            rfl
          refine pure_ (i := 19) (N := some 42) (v := undef) (a' := ?_) #[true, true, true, true, true, true, true, true, true, true, true, true, true, true, true, true, true, true, true, true, false] rfl rfl (by kernel_rfl) (fun _ _ _ h => h) (Or.inr ⟨by rfl, rfl⟩) ?_ ?_
          rotate_left
          · simp only [Act.put, pkA, pkZ, pkS, i64_w, i32_w]
            rfl
          refine pure_ (i := 20) (N := some 43) (v := ?_) (a' := ?_) #[true, true, true, true, true, true, true, true, true, true, true, true, true, true, true, true, true, true, true, true, true] rfl rfl (by kernel_rfl) (fun _ _ _ h => h) (Or.inl ⟨by rfl, ?_⟩) ?_ ?_
          rotate_left
          · intro w'
            go_simp
            with_reducible rfl
          rotate_left
          · simp only [Act.put, pkA, pkZ, pkS, i64_w, i32_w]
            rfl
          refine done_ (by kernel_rfl) ?_
          obtain ⟨wn, hwn⟩ : ∃ W, wr.drew = W := ⟨_, rfl⟩
          rw [hwn] at HGN ⊢
          have HGG := HGN
          clear hHeld
          clear hwn HGN hbn
          obtain ⟨blk', cap'', hvs, _, _, hnv, hCg, _⟩ := HGG.out.1.group hab (by rw [HN.out]; exact hb) (by rw [HN.out]; omega)
          injection hvs with hv1 hv2 hv3
          injection hv1 with hv1
          injection hv1 with hv1 _ _
          subst hv1
          clear hv2 hv3
          obtain ⟨g, hgd⟩ : ∃ g, (ks.drop a).take (b - a) = g := ⟨_, rfl⟩
          rw [hgd] at hCg
          have hrg : ∀ x ∈ g, in64 x.f1 ∧ in64 x.f2 := fun x hx => by
            rw [← hgd] at hx
            exact HRK.out x (List.mem_of_mem_drop (List.mem_of_mem_take hx))
          have HRES : Hid ((oneG g acc).bind (fun acc' => grpI ks f b acc') = grpI ks (n + 1) 0 []) := Lib.hid (by
            have h := HR.out
            rw [grpI, if_pos (by rw [HN.out]; exact hlt), HN.out, HS3.out, hgd] at h
            exact h)
          have HCALL := Lib.hid (go_ofOne g acc B z2 (b - a) (cv - a) _ v wn hCg (by omega) (by omega) (by omega) hrg HGG.out.1.box HGG.out.1.own HGG.out.2 (fun ad e => by injection e with e; subst e; exact hnv) (by omega))
          clear hCg hrg hnv hgd HR HS3
          go_wp2_with fail
          refine HCALL.out.mono ?_
          rintro e w4 ⟨rfl, v4, hbox4, hown4, hv4, hfr4, hos4, ht4, ho4, hs4⟩
          have hG4 := HGG.out.1.next ⟨by decide, by decide⟩ ⟨by decide, by decide⟩ hB hbox4 hown4 hv4 hfr4 hos4 ht4 ho4 hs4
          clear hbox4 hown4 hv4 hfr4 hos4 ht4 ho4 hs4 HCALL HGG
          cases ho : oneG g acc with
          | none =>
            have hres : grpI ks (n + 1) 0 [] = none := by rw [← HRES.out, ho]; rfl
            rw [ho] at hG4
            have HF := Lib.hid hres; have HG4 := Lib.hid hG4
            clear hres hG4 ho
            go_wp2_with fail
            refine bodyPost_ret (v := .bool false) (by simp [results, Try.results53, go_sem]) rfl ?_
            refine ⟨ks, v4, acc, HP.out.1, HP.out.2, ?_, ?_, HG4.out.box, HG4.out.own, HG4.out.bel⟩
            · rw [HN.out, HF.out]; rfl
            · intro s hs
              rw [HN.out, HF.out] at hs
              cases hs
          | some acc' =>
            have HR2 : Hid (grpI ks f b acc' = grpI ks (n + 1) 0 []) := Lib.hid (by rw [← HRES.out, ho]; rfl)
            have hln := oneG_len ho
            rw [ho] at hG4
            have HG4 := Lib.hid hG4
            clear hG4 ho HRES
            go_wp2_with fail
            go_roundg (gk1 - 1)
            case measure => omega
            case rel => exact ⟨b, f, acc', v4, rfl, hb, by omega, by omega, by omega, HG4.out, HR2⟩
    · have hltz : ¬ ((a : Int) < (n : Int)) := by omega
      have han : a = n := by omega
      have hfin : grpI ks (n + 1) 0 [] = some acc := by
        have h := HR.out
        rw [grpI, if_neg (by rw [HN.out]; omega)] at h
        exact h.symm
      have HF := Lib.hid hfin
      have HG := Lib.hid hG
      clear hfin hG han
      go_wp2_with fail
      refine bodyPost_ret (v := .bool true) (by simp [results, Try.results53, go_sem]) rfl ?_
      refine ⟨ks, v, acc, HP.out.1, HP.out.2, ?_, ?_, HG.out.box, HG.out.own, HG.out.bel⟩
      · rw [HN.out, HF.out]; rfl
      · intro s hs
        rw [HN.out, HF.out] at hs
        injection hs
def ofErr (r : Option (List Cell)) : Int := if r.isSome then 0 else 4
def OfPost (l : List Cell) (w : World) (e : Ending) (w' : World) : Prop :=
  ∃ (ks : List Cell) (v : Value), ks.Perm l ∧ ks.Pairwise (fun a b => keyCmp a.f0 b.f0 ≤ 0) ∧ e = .returned (.tuple #[v, .int .i64 (ofErr (grpI ks (ks.length + 1) 0 []))]) ∧ w'.ownsRow w.heap.size 52 7 v ((grpI ks (ks.length + 1) 0 []).getD []).length (flatC ((grpI ks (ks.length + 1) 0 []).getD [])) ∧ Below w.heap.size w w'
set_option maxHeartbeats 4000000 in
set_option maxRecDepth 100000 in
theorem go_of (l : List Cell) (A : Option Addr) (c : Nat) (w : World) (hC : Kd.C k52 w A l.length l) (hc : l.length ≤ c) (hA : (A = none ∧ l = [] ∧ c = 0) ∨ ∃ b off, A = some ⟨b, off, none⟩) (hl : l.length ≤ 100000) (hr : ∀ x ∈ l, in64 x.f1 ∧ in64 x.f2) :
    Calls Try.prog 32 #[.slice A l.length c] w fun e w' => OfPost l w e w' := by
  have gr1 : Below w.heap.size w (w.alloc (.cells #[.slice none 0 0] 34)) := (Below.refl _ _).alloc (Nat.le_refl _) _
  have HG := Lib.hid (go_grouped l A c w.heap.size w.heap.size (w.alloc (.cells #[.slice none 0 0] 34)) (Kd.C_below hC gr1) hc hA hl hr (Go.MapKept.heap_alloc w _).1 (Nat.le_refl _))
  have HGR := Lib.hid gr1
  clear hC hc hA hl hr gr1
  go_enter Try.func32, Try.ntmps32
  go_wp2_with fail
  refine HG.out.mono ?_
  rintro e w2 ⟨ks, v, acc, hp, hs, rfl, hacc, hbox, hown, hbel⟩
  obtain ⟨A9, c9, hv9, _⟩ := own_form hown
  subst hv9
  have c2 := blk_cell hbox 0
  have f2 := blk_frozen hbox 0
  have HP := Lib.hid (And.intro hp hs)
  have HB := Lib.hid (HGR.out.trans hbel)
  clear hp hs hbel HG HGR
  cases hgr : grpI ks (ks.length + 1) 0 [] with
  | none =>
    have HN := Lib.hid hgr
    clear hgr hacc hown
    go_wp2_with fail
    have hset := blk_set hbox 0 (.slice none 0 0)
    have HFB := Lib.hid (HB.out.setCell (p := ⟨w.heap.size, 0, none⟩) (Nat.le_refl _) (.slice none 0 0))
    refine bodyPost_ret (v := .tuple #[.slice none 0 0, .int .i64 4]) (by simp [results, Try.results32, go_sem, c2]) rfl ?_
    refine ⟨ks, .slice none 0 0, HP.out.1, HP.out.2, by rw [HN.out]; rfl, ?_, HFB.out⟩
    rw [HN.out]
    exact ⟨rfl, .inl ⟨rfl, rfl⟩⟩
  | some s =>
    have HN := Lib.hid hgr
    have ha := hacc s hgr
    subst ha
    have HO := Lib.hid hown
    clear hgr hacc hown
    go_wp2_with fail
    have hset := blk_set hbox 0 (.slice A9 acc.length c9)
    have HFB := Lib.hid (HB.out.setCell (p := ⟨w.heap.size, 0, none⟩) (Nat.le_refl _) (.slice A9 acc.length c9))
    have HOW : Hid ((w2.setCell ⟨w.heap.size, 0, none⟩ (.slice A9 acc.length c9)).ownsRow w.heap.size 52 7 (.slice A9 acc.length c9) acc.length (flatC acc)) := Lib.hid (own_move HO.out (fun b hb => Below.heap_setCell _ _ _ _ (fun e => own_ne_of HO.out hbox (by decide) (by rw [hb, e]))))
    refine bodyPost_ret (v := .tuple #[.slice A9 acc.length c9, .int .i64 0]) (by simp [results, Try.results32, go_sem, c2]) rfl ?_
    refine ⟨ks, .slice A9 acc.length c9, HP.out.1, HP.out.2, by rw [HN.out]; rfl, ?_, HFB.out⟩
    rw [HN.out]
    exact HOW.out
end Go.Proofs.Ytdlilbleohlmnaa.PAq
namespace Go.Proofs.Ytdlilbleohlmnaa.PAq
open Go.RowKit Go.Lib Go.Sort
abbrev Key := S50
theorem sumI_perm {l m : List Int} (h : l.Perm m) : sumI l = sumI m := by
  induction h with
  | nil => rfl
  | cons x _ ih => simp only [sumI, ih]
  | swap x y l => simp only [sumI]; omega
  | trans _ _ h1 h2 => exact h1.trans h2
theorem tot_perm {l m : List Int} (h : l.Perm m) : tot l = tot m := by unfold tot; rw [sumI_perm h]
def oneK (k : Key) (g acc : List Cell) : Option (List Cell) :=
  if ((tot (amts g)).2 && (tot (bass g)).2) = true then some (if ((tot (amts g)).1 == 0 && (tot (bass g)).1 == 0) = true then acc else acc ++ [⟨k, (tot (amts g)).1, (tot (bass g)).1⟩]) else none
theorem oneK_perm {k : Key} {g g' : List Cell} (acc : List Cell) (h : g.Perm g') : oneK k g acc = oneK k g' acc := by
  unfold oneK
  rw [tot_perm (show (amts g).Perm (amts g') from h.map _), tot_perm (show (bass g).Perm (bass g') from h.map _)]
def sheetK (l : List Cell) : List Key → List Cell → Option (List Cell)
  | [], acc => some acc
  | k :: K, acc => (oneK k (l.filter (fun x => decide (keyCmp k x.f0 = 0))) acc).bind (fun acc' => sheetK l K acc')
def grpL : Nat → List Cell → List Cell → Option (List Cell)
  | 0, _, acc => some acc
  | _ + 1, [], acc => some acc
  | f + 1, x :: t, acc => (oneG (x :: t.takeWhile (fun y => decide (keyCmp x.f0 y.f0 = 0))) acc).bind (fun acc' => grpL f (t.dropWhile (fun y => decide (keyCmp x.f0 y.f0 = 0))) acc')
theorem stepTo_eq (ks : List Cell) (a : Nat) : ∀ (f b : Nat), ks.length - b ≤ f → b ≤ ks.length → stepTo ks f a b = b + ((ks.drop b).takeWhile (fun y => decide (keyCmp ks[a]!.f0 y.f0 = 0))).length
  | 0, b, h1, h2 => by
    rw [stepTo, List.drop_eq_nil_of_le (by omega)]; rfl
  | f + 1, b, h1, h2 => by
    rw [stepTo]
    by_cases hb : b < ks.length
    · rw [List.drop_eq_getElem_cons hb, List.takeWhile_cons]
      rw [getElem!_pos ks b hb]
      by_cases hk : keyCmp ks[a]!.f0 ks[b].f0 = 0
      · rw [if_pos ⟨hb, hk⟩, stepTo_eq ks a f (b + 1) (by omega) hb, decide_eq_true hk]
        simp only [if_true, List.length_cons]
        omega
      · rw [if_neg (fun h => hk h.2), decide_eq_false hk]
        simp
    · rw [if_neg (fun h => hb h.1), List.drop_eq_nil_of_le (by omega)]
      rfl
theorem grpI_eq (ks : List Cell) : ∀ (f a : Nat) (acc : List Cell), ks.length - a < f → a ≤ ks.length → grpI ks f a acc = grpL f (ks.drop a) acc
  | 0, _, _, h, _ => by omega
  | f + 1, a, acc, h, ha => by
    rw [grpI]
    by_cases c : a < ks.length
    · rw [if_pos c, List.drop_eq_getElem_cons c, grpL]
      have hs := stepTo_eq ks a ks.length (a + 1) (by omega) c
      rw [getElem!_pos ks a c] at hs
      obtain ⟨t, ht⟩ : ∃ t, ks.drop (a + 1) = t := ⟨_, rfl⟩
      rw [ht] at hs ⊢
      obtain ⟨p, hp⟩ : ∃ p : Cell → Bool, (fun y => decide (keyCmp ks[a].f0 y.f0 = 0)) = p := ⟨_, rfl⟩
      rw [hp] at hs ⊢
      have hle : (t.takeWhile p).length ≤ t.length := (List.takeWhile_sublist p).length_le
      have htl : t.length = ks.length - (a + 1) := by rw [← ht, List.length_drop]
      have htd : ks.drop (a + 1 + (t.takeWhile p).length) = t.dropWhile p := by
        rw [← List.drop_drop, ht]
        conv => lhs; rw [← List.takeWhile_append_dropWhile (p := p) (l := t)]
        rw [List.drop_append_of_le_length (by simp)]
        simp
      have htt : ((ks[a] :: t).take (a + 1 + (t.takeWhile p).length - a)) = ks[a] :: t.takeWhile p := by
        rw [show a + 1 + (t.takeWhile p).length - a = (t.takeWhile p).length + 1 by omega, List.take_succ_cons]
        congr 1
        conv => lhs; rw [← List.takeWhile_append_dropWhile (p := p) (l := t)]
        rw [List.take_append_of_le_length (by simp)]
        simp
      rw [hs, htt]
      congr 1
      funext acc'
      rw [grpI_eq ks f _ acc' (by omega) (by omega), htd]
    · rw [if_neg c, List.drop_eq_nil_of_le (by omega), grpL]
theorem mem_tw {p : Cell → Bool} : ∀ {l : List Cell} {y : Cell}, y ∈ l.takeWhile p → p y = true
  | [], _, h => by simp at h
  | a :: l, y, h => by
    rw [List.takeWhile_cons] at h
    split at h
    · rcases List.mem_cons.mp h with rfl | h
      · assumption
      · exact mem_tw h
    · cases h
theorem head_dw {p : Cell → Bool} {z : Cell} {r : List Cell} : ∀ {l : List Cell}, l.dropWhile p = z :: r → p z = false
  | [], h => by simp at h
  | a :: l, h => by
    rw [List.dropWhile_cons] at h
    split at h
    · exact head_dw h
    · injection h with h _
      subst h
      simp_all
theorem grpL_sheet (l : List Cell) : ∀ (f : Nat) (s acc : List Cell) (K : List Key) (pre : List Cell), s.length < f → s.Pairwise (fun a b => keyCmp a.f0 b.f0 ≤ 0) → K.Pairwise (fun a b => keyCmp a b < 0) → (∀ k, k ∈ K ↔ ∃ x ∈ s, x.f0 = k) → (pre ++ s).Perm l → (∀ x ∈ pre, ∀ y ∈ s, keyCmp x.f0 y.f0 < 0) → grpL f s acc = sheetK l K acc
  | 0, _, _, _, _, h, _, _, _, _, _ => by omega
  | f + 1, [], acc, K, pre, _, _, _, hK, _, _ => by
    cases K with
    | nil => rfl
    | cons k K =>
      obtain ⟨x, hx, _⟩ := (hK k).mp (List.mem_cons_self ..)
      cases hx
  | f + 1, x :: t, acc, K, pre, hf, hs, hKs, hK, hP, hpre => by
    have hxK := (hK x.f0).mpr ⟨x, List.mem_cons_self .., rfl⟩
    cases K with
    | nil => cases hxK
    | cons k0 K =>
    rw [List.pairwise_cons] at hs hKs
    have hk0 : k0 = x.f0 := by
      rcases List.mem_cons.mp hxK with e | e
      · exact e.symm
      · exfalso
        have h1 := hKs.1 _ e
        obtain ⟨y, hy, hyk⟩ := (hK k0).mp (List.mem_cons_self ..)
        have h2 := kc_anti k0 x.f0
        rcases List.mem_cons.mp hy with rfl | hy
        · rw [hyk, kc_refl] at h1; omega
        · have := hs.1 y hy
          rw [hyk] at this
          omega
    subst hk0
    obtain ⟨p, hp⟩ : ∃ p : Cell → Bool, (fun y => decide (keyCmp x.f0 y.f0 = 0)) = p := ⟨_, rfl⟩
    have hpd : ∀ y, p y = decide (keyCmp x.f0 y.f0 = 0) := fun y => by rw [← hp]
    rw [grpL, sheetK, hp]
    have hg : ∀ y ∈ t.takeWhile p, keyCmp x.f0 y.f0 = 0 := fun y hy => by
      have := mem_tw hy
      rw [hpd] at this
      exact of_decide_eq_true this
    have hd : ∀ y ∈ t.dropWhile p, keyCmp x.f0 y.f0 < 0 := by
      have hsd : (t.dropWhile p).Pairwise (fun a b => keyCmp a.f0 b.f0 ≤ 0) := hs.2.sublist (List.dropWhile_sublist p)
      intro y hy
      cases hdw : t.dropWhile p with
      | nil => rw [hdw] at hy; cases hy
      | cons z r =>
        have hz : p z = false := head_dw hdw
        rw [hpd] at hz
        have hz0 := of_decide_eq_false hz
        have hzt : z ∈ t := (List.dropWhile_sublist p).subset (by rw [hdw]; exact List.mem_cons_self ..)
        have hz1 := hs.1 z hzt
        have hzl : keyCmp x.f0 z.f0 < 0 := by omega
        rw [hdw] at hy hsd
        rw [List.pairwise_cons] at hsd
        rcases List.mem_cons.mp hy with rfl | hy
        · exact hzl
        · exact kc_lt_le hzl (hsd.1 y hy)
    have hsplit : t.takeWhile p ++ t.dropWhile p = t := List.takeWhile_append_dropWhile
    have hfil : (l.filter p).Perm (x :: t.takeWhile p) := by
      have h1 : (l.filter p).Perm ((pre ++ (x :: t)).filter p) := (hP.filter p).symm
      refine h1.trans ?_
      rw [List.filter_append]
      have e1 : pre.filter p = [] := List.filter_eq_nil_iff.mpr (fun y hy => by
        rw [hpd]
        have h2 := hpre y hy x (List.mem_cons_self ..)
        have h3 := kc_anti y.f0 x.f0
        simp only [decide_eq_true_eq]
        omega)
      have e2 : (x :: t).filter p = x :: t.takeWhile p := by
        rw [List.filter_cons, if_pos (by rw [hpd]; exact decide_eq_true (kc_refl _))]
        congr 1
        conv => lhs; rw [← hsplit]
        rw [List.filter_append]
        have e3 : (t.takeWhile p).filter p = t.takeWhile p := List.filter_eq_self.mpr (fun y hy => mem_tw hy)
        have e4 : (t.dropWhile p).filter p = [] := List.filter_eq_nil_iff.mpr (fun y hy => by
          rw [hpd]
          have := hd y hy
          simp only [decide_eq_true_eq]
          omega)
        rw [e3, e4, List.append_nil]
      rw [e1, e2, List.nil_append]
    have hone : oneG (x :: t.takeWhile p) acc = oneK x.f0 (l.filter p) acc := by
      rw [oneK_perm acc hfil]
      rfl
    rw [hone]
    congr 1
    funext acc'
    refine grpL_sheet l f (t.dropWhile p) acc' K (pre ++ (x :: t.takeWhile p)) ?_ (hs.2.sublist (List.dropWhile_sublist p)) hKs.2 ?_ ?_ ?_
    · have := (List.dropWhile_sublist p (l := t)).length_le
      simp only [List.length_cons] at hf
      omega
    · intro k
      constructor
      · intro hk
        obtain ⟨y, hy, hyk⟩ := (hK k).mp (List.mem_cons_of_mem _ hk)
        refine ⟨y, ?_, hyk⟩
        have hne := hKs.1 k hk
        rcases List.mem_cons.mp hy with rfl | hy
        · rw [hyk, kc_refl] at hne; omega
        · rw [← hsplit] at hy
          rcases List.mem_append.mp hy with hy | hy
          · have := hg y hy
            rw [hyk] at this
            omega
          · exact hy
      · rintro ⟨y, hy, rfl⟩
        have hyt : y ∈ t := (List.dropWhile_sublist p).subset hy
        rcases List.mem_cons.mp ((hK y.f0).mpr ⟨y, List.mem_cons_of_mem _ hyt, rfl⟩) with e | e
        · have := hd y hy
          rw [e, kc_refl] at this
          omega
        · exact e
    · rw [List.append_assoc, List.cons_append, hsplit]
      exact hP
    · intro y hy z hz
      rcases List.mem_append.mp hy with hy | hy
      · exact hpre y hy z (List.mem_cons_of_mem _ ((List.dropWhile_sublist p).subset hz))
      · rcases List.mem_cons.mp hy with rfl | hy
        · exact hd z hz
        · have h1 := hg y hy
          have h2 := kc_anti x.f0 y.f0
          exact kc_le_lt (by omega) (hd z hz)
theorem grp_sheet {l ks : List Cell} {K : List Key} (hp : ks.Perm l) (hs : ks.Pairwise (fun a b => keyCmp a.f0 b.f0 ≤ 0)) (hKs : K.Pairwise (fun a b => keyCmp a b < 0)) (hK : ∀ k, k ∈ K ↔ ∃ x ∈ l, x.f0 = k) : grpI ks (ks.length + 1) 0 [] = sheetK l K [] := by
  rw [grpI_eq ks (ks.length + 1) 0 [] (by omega) (by omega), List.drop_zero]
  exact grpL_sheet l (ks.length + 1) ks [] K [] (by omega) hs hKs (fun k => (hK k).trans ⟨fun ⟨x, hx, e⟩ => ⟨x, hp.mem_iff.mpr hx, e⟩, fun ⟨x, hx, e⟩ => ⟨x, hp.mem_iff.mp hx, e⟩⟩) hp (fun x hx => by cases hx)
end Go.Proofs.Ytdlilbleohlmnaa.PAq
namespace Go.Proofs.Ytdlilbleohlmnaa.PAq
open Go.RowKit Go.Lib Go.Sort Go.Proofs.YtdlilbleohlmnaaW.PrintWords Go.Proofs.YtdlilbleohlmnaaW.PrintLast
theorem wrap64_id {n : Int} (h1 : -9223372036854775808 ≤ n) (h2 : n ≤ 9223372036854775807) : wrap64 n = n := by unfold wrap64; omega
def gcdP (a b : Int) : Int := (Nat.gcd a.toNat b.toNat : Nat)
theorem gcdP_step (x y : Int) (hx : 0 ≤ x) (hy : 0 < y) : gcdP y (Int.tmod x y) = gcdP x y := by
  unfold gcdP
  rw [Int.tmod_eq_emod_of_nonneg hx, Int.toNat_emod hx (by omega), Nat.gcd_comm y.toNat, ← Nat.gcd_rec, Nat.gcd_comm]
theorem gcd_l0 : ∀ (k : Nat) (x y : Int), 0 ≤ x → 0 ≤ y → y.toNat < k → frac_gcd.l0 k x y = some (gcdP x y)
  | 0, _, _, _, _, h => by omega
  | k + 1, x, y, hx, hy, h => by
    rw [frac_gcd.l0]
    by_cases h0 : y = 0
    · subst h0
      rw [if_pos rfl]
      unfold gcdP
      simp
      omega
    · rw [if_neg h0]
      have h1 : 0 ≤ Int.tmod x y := by rw [Int.tmod_eq_emod_of_nonneg hx]; exact Int.emod_nonneg _ h0
      have h2 : Int.tmod x y < y := by rw [Int.tmod_eq_emod_of_nonneg hx]; exact Int.emod_lt_of_pos _ (by omega)
      rw [gcd_l0 k y _ hy h1 (by omega), gcdP_step x y hx (by omega)]
def absP (n : Int) : Int := if n < 0 then -n else n
theorem size_f (n : Int) (h : in64 n) : frac_size.f n = some (absP n) := by
  obtain ⟨h1, h2⟩ := h
  unfold frac_size.f absP
  split
  · rw [IntKind.wrap_u64, IntKind.wrap_u64]; congr 1; omega
  · rw [IntKind.wrap_u64]; congr 1; omega
def fracB (n d : Int) : Bool := decide (1 ≤ d) && decide (d ≤ 1000000) && decide (absP n ≤ 1000000) && decide (gcdP (absP n) d = 1)
theorem absP_nn (n : Int) : 0 ≤ absP n := by unfold absP; split <;> omega
theorem right_f (k : Nat) (n d : Int) (hk : 1000010 ≤ k) (hn : in64 n) (hd : in64 d) : frac_Right.f k n d = some (fracB n d) := by
  obtain ⟨k, rfl⟩ : ∃ j, k = j + 1 := ⟨k - 1, by omega⟩
  unfold frac_Right.f
  by_cases h1 : d < 1
  · rw [if_pos h1, frac_Right.j0, if_pos rfl]
    have e : decide (1 ≤ d) = false := decide_eq_false (by omega)
    simp [fracB, e]
  · rw [if_neg h1]
    by_cases h2 : d > 1000000
    · rw [if_pos h2, frac_Right.j0, if_pos rfl]
      have e : decide (d ≤ 1000000) = false := decide_eq_false (by omega)
      simp [fracB, e]
    · rw [if_neg h2, size_f n hn, Option.bind_some, frac_Right.j0]
      have e1 : decide (1 ≤ d) = true := decide_eq_true (by omega)
      have e2 : decide (d ≤ 1000000) = true := decide_eq_true (by omega)
      by_cases h3 : absP n > 1000000
      · rw [if_pos (decide_eq_true h3)]
        have e : decide (absP n ≤ 1000000) = false := decide_eq_false (by omega)
        simp [fracB, e]
      · have e3 : decide (absP n ≤ 1000000) = true := decide_eq_true (by omega)
        rw [if_neg (by simpa using h3), size_f n hn, Option.bind_some, size_f d hd, Option.bind_some]
        have ed : absP d = d := by unfold absP; split <;> omega
        rw [ed, frac_gcd.f, gcd_l0 k _ _ (absP_nn n) (by omega) (by omega), Option.bind_some, fracB, e1, e2, e3]
        congr 1
def shareB (n d : Int) : Bool := fracB n d && decide (0 < n) && decide (n ≤ d)
theorem frac_one (n : Int) (h0 : 0 < n) (h : fracB n n = true) : n = 1 := by
  unfold fracB at h
  have e : absP n = n := by unfold absP; split <;> omega
  have hg : gcdP (absP n) n = 1 := by simp at h; exact h.2
  rw [e, gcdP, Nat.gcd_self] at hg
  omega
theorem isShare_f (k : Nat) (n d : Int) (hk : 1000010 ≤ k) (hn : in64 n) (hd : in64 d) : acquire_isShare.f k n d = some (shareB n d) := by
  have h11 : fracB 1 1 = true := by decide
  unfold acquire_isShare.f acquire_whole.f
  rw [Option.bind_some]
  by_cases h1 : (n == 1 && d == 1) = true
  · simp at h1
    obtain ⟨rfl, rfl⟩ := h1
    rw [if_pos (by decide), show shareB 1 1 = true by decide]
  · rw [if_neg h1, right_f k n d hk hn hd, Option.bind_some]
    cases hf : fracB n d with
    | false => simp [shareB, hf]
    | true =>
      rw [if_pos rfl]
      by_cases h2 : n > 0
      · have h1' : in64 1 := ⟨by omega, by omega⟩
        have hcmp : muldiv_Cmp.f n 1 1 d = some (cmpI (n * 1) (1 * d)) := by
          unfold muldiv_Cmp.f
          rw [if_pos ⟨hn, h1', h1', hd⟩]
        rw [if_pos h2, Option.bind_some]
        unfold frac_Cmp.f
        rw [right_f k n d hk hn hd, Option.bind_some, hf, if_pos rfl]
        show Option.bind (Option.bind (frac_Right.f k 1 1) _) _ = _
        rw [right_f k 1 1 hk h1' h1', Option.bind_some, h11, if_pos rfl, hcmp, Option.bind_some, Option.bind_some, Int.mul_one, Int.one_mul]
        congr 1
        unfold shareB cmpI
        rw [hf, decide_eq_true (show 0 < n from h2)]
        by_cases h3 : n < d
        · rw [if_pos h3, decide_eq_true (show n ≤ d by omega)]; rfl
        · have h4 : ¬ n ≤ d := fun h => by
            have : n = d := by omega
            subst this
            have := frac_one n h2 hf
            subst this
            simp at h1
          rw [if_neg h3, decide_eq_false h4]
          split <;> rfl
      · rw [if_neg h2]
        simp [shareB, show ¬ 0 < n by omega]
theorem md_share (n d x m : Int) (hm : 1 ≤ m ∧ m ≤ 5) (h0 : 0 < n) (h1 : n ≤ d) (hx : -1000000000000000 ≤ x ∧ x ≤ 1000000000000000) :
    ∃ o, mdS n x d m = (o, 0) ∧ (0 ≤ x → 0 ≤ o ∧ o ≤ x) ∧ (x ≤ 0 → x ≤ o ∧ o ≤ 0) ∧ (n = d → o = x) := by
  unfold mdS
  rw [if_neg (by omega), if_neg (by omega)]
  have en : absI n = n := by unfold absI; split <;> omega
  have ed : absI d = d := by unfold absI; split <;> omega
  obtain ⟨A, hA⟩ : ∃ A, absI x = A := ⟨_, rfl⟩
  have hA0 : 0 ≤ A := by rw [← hA]; exact absI_nn x
  have hAx : (0 ≤ x → A = x) ∧ (x < 0 → A = -x) := by rw [← hA]; unfold absI; constructor <;> intro h <;> split <;> omega
  simp only [en, ed, hA]
  obtain ⟨p, hp⟩ : ∃ p, n * A = p := ⟨_, rfl⟩
  have hpd : p ≤ A * d := by rw [← hp, Int.mul_comm A d]; exact Int.mul_le_mul_of_nonneg_right h1 hA0
  have hp0 : 0 ≤ p := by rw [← hp]; exact Int.mul_nonneg (by omega) hA0
  have hpz : p = 0 → A = 0 := fun h => by
    rw [← hp] at h
    rcases Int.mul_eq_zero.mp h with h | h <;> omega
  have hnd : n = d → p = A * d := fun h => by rw [← hp, h, Int.mul_comm]
  have hq1 : p / d ≤ A := Int.ediv_le_of_le_mul (by omega) hpd
  have hq0 : 0 ≤ p / d := Int.ediv_nonneg hp0 (by omega)
  have hrq : p % d ≠ 0 → p / d < A := fun h => by
    refine Int.ediv_lt_of_lt_mul (by omega) ?_
    rcases Int.lt_or_eq_of_le hpd with h2 | h2
    · exact h2
    · exfalso; apply h; rw [h2, Int.mul_emod_left]
  have hfull : n = d → p / d = A ∧ p % d = 0 := fun h => by
    rw [hnd h]
    exact ⟨Int.mul_ediv_cancel _ (by omega), Int.mul_emod_left _ _⟩
  rw [hp]
  obtain ⟨neg, hneg⟩ : ∃ b, (decide (p ≠ 0) && ((decide (n < 0) != decide (x < 0)) != decide (d < 0))) = b := ⟨_, rfl⟩
  have hnegx : neg = decide (p ≠ 0 ∧ x < 0) := by
    rw [← hneg, decide_eq_false (show ¬ n < 0 by omega), decide_eq_false (show ¬ d < 0 by omega)]
    by_cases c1 : p = 0 <;> by_cases c2 : x < 0 <;> simp [c1, c2]
  rw [hneg]
  obtain ⟨aw, haw⟩ : ∃ b, awayB m neg (decide (p / d % 2 = 1)) (p % d) d = b := ⟨_, rfl⟩
  have haw2 : aw = true → p % d ≠ 0 := fun h h2 => by
    rw [← haw, awayB, if_pos h2] at h
    cases h
  rw [haw]
  obtain ⟨s, hs⟩ : ∃ s, p / d + (if aw = true then 1 else 0) = s := ⟨_, rfl⟩
  rw [hs]
  have hs0 : 0 ≤ s ∧ s ≤ A ∧ (n = d → s = A) := by
    rw [← hs]
    cases aw with
    | false => exact ⟨by simp; exact hq0, by simp; exact hq1, fun h => by simp; exact (hfull h).1⟩
    | true =>
      have := hrq (haw2 rfl)
      exact ⟨by simp; omega, by simp; omega, fun h => absurd (hfull h).2 (haw2 rfl)⟩
  unfold sgnS
  cases neg with
  | true =>
    have hh := of_decide_eq_true hnegx.symm
    rw [if_pos rfl, if_neg (by omega)]
    have := hAx.2 hh.2
    exact ⟨_, rfl, fun h => by omega, fun h => by omega, fun h => by have := hs0.2.2 h; omega⟩
  | false =>
    rw [if_neg (by simp), if_neg (by have := hAx; omega)]
    have hh := of_decide_eq_false hnegx.symm
    refine ⟨_, rfl, fun h => ?_, fun h => ?_, fun h => ?_⟩
    · have := hAx.1 h; omega
    · by_cases c : x = 0
      · have := hAx.1 (by omega); omega
      · have : p = 0 := Classical.byContradiction fun c2 => hh ⟨c2, by omega⟩
        have := hpz this
        omega
    · have h3 := hs0.2.2 h
      by_cases c : 0 ≤ x
      · have := hAx.1 c; omega
      · have : p = 0 := Classical.byContradiction fun c2 => hh ⟨c2, by omega⟩
        have := hpz this
        have := hAx.2 (by omega)
        omega
def splitE (p x n d m : Int) : Int × Int × Int × Int :=
  if m < 1 ∨ 5 < m then (0, 0, 0, 10) else if shareB n d = false then (0, 0, 0, 2) else if (farB p || farB x) = true then (0, 0, 0, 4) else ((mdS n x d m).1, p - (mdS n x d m).1, x - (mdS n x d m).1, 0)
theorem farB_false {n : Int} (h : farB n = false) : -1000000000000000 ≤ n ∧ n ≤ 1000000000000000 := by
  simp [farB] at h
  omega
theorem split_f (k : Nat) (p x n d m : Int) (hk : 1000020 ≤ k) (hp : in64 p) (hx : in64 x) (hn : in64 n) (hd : in64 d) : acquire_Split.f k p x n d m = some (splitE p x n d m) := by
  obtain ⟨k, rfl⟩ : ∃ j, k = j + 1 := ⟨k - 1, by omega⟩
  unfold acquire_Split.f acquire_isMode.f splitE
  by_cases h1 : m < 1 ∨ 5 < m
  · rw [if_pos h1]
    by_cases h2 : m ≥ 1
    · rw [if_pos h2, Option.bind_some, if_neg (by simp; omega)]
    · rw [if_neg h2, Option.bind_some, if_neg (by simp)]
  · rw [if_neg h1, if_pos (by omega), Option.bind_some, if_pos (decide_eq_true (by omega)), isShare_f _ n d (by omega) hn hd, Option.bind_some]
    cases hs : shareB n d with
    | false => rfl
    | true =>
      rw [if_pos rfl, if_neg (by simp)]
      have hlp : acquire_large.f p = some (farB p) := by
        unfold acquire_large.f farB
        split
        · rename_i h; rw [decide_eq_true h]; rfl
        · rename_i h; rw [decide_eq_false h]; rfl
      have hlx : acquire_large.f x = some (farB x) := by
        unfold acquire_large.f farB
        split
        · rename_i h; rw [decide_eq_true h]; rfl
        · rename_i h; rw [decide_eq_false h]; rfl
      rw [hlp, Option.bind_some]
      cases hfp : farB p with
      | true => rfl
      | false =>
        rw [if_neg (by simp), hlx, Option.bind_some, acquire_Split.j0, Bool.false_or]
        cases hfx : farB x with
        | true => rfl
        | false =>
          rw [if_neg (by simp), if_neg (by simp)]
          have hb := farB_false hfp
          have hbx := farB_false hfx
          have hsh : fracB n d = true ∧ 0 < n ∧ n ≤ d := by simpa [shareB, and_assoc] using hs
          obtain ⟨o, ho, h3, h4, _⟩ := md_share n d x m (by omega) hsh.2.1 hsh.2.2 hbx
          have hap : frac_Apply.f k n d x m = some (o, 0) := by
            unfold frac_Apply.f
            rw [right_f k n d (by omega) hn hd, Option.bind_some, hsh.1, if_pos rfl]
            unfold muldiv_MulDiv.f
            rw [if_pos ⟨hn, hx, hd⟩, Option.bind_some, ho]
          rw [hap, Option.bind_some, if_pos rfl, ho]
          have w1 : wrap64 (p - o) = p - o := wrap64_id (by omega) (by omega)
          have w2 : wrap64 (x - o) = x - o := wrap64_id (by omega) (by omega)
          rw [w1, w2]
def strs (l : List ByteArray) : List Value := l.map Value.string
theorem strs_one (l : List ByteArray) : ∀ u ∈ strs l, u.oneCell' = true := by
  intro u hu
  obtain ⟨x, _, rfl⟩ := List.mem_map.mp hu
  rfl
theorem C_strs {w : World} {A : Option Addr} {n : Nat} {l : List ByteArray} (hC : Kd.C Kd.string w A n l) : ∀ j u, (strs l)[j]? = some u → ∃ ad, A = some ad ∧ w.cell? (ad.add j) = some u := by
  intro j u hu
  obtain ⟨hl, hm, h⟩ := hC
  have hj : j < l.length := by
    have := (List.getElem?_eq_some_iff.mp hu).1
    simpa [strs] using this
  obtain ⟨ad, had, hc⟩ := h (by omega)
  obtain ⟨c, _, hK, hcell⟩ := hc j l[j] (List.getElem?_eq_getElem hj)
  have hcl : c = [.string l[j]] := hK
  subst hcl
  have h2 := hcell 0 _ rfl
  have es : (Kd.string).sz = 1 := rfl
  rw [es, show j * 1 + 0 = j by omega] at h2
  rw [strs, List.getElem?_map, List.getElem?_eq_getElem hj] at hu
  injection hu with hu
  exact ⟨ad, had, by rw [← hu]; exact h2⟩
theorem C_of_own {w : World} {B : Nat} {A : Option Addr} {c : Nat} {l : List ByteArray} (h : w.ownsRow B 9 1 (.slice A l.length c) l.length (strs l)) (hl : l.length ≤ 1000000) : Kd.C Kd.string w A l.length l := by
  refine ⟨rfl, by omega, fun hn => ?_⟩
  rcases h.2 with ⟨_, h0⟩ | ⟨g, cap, cur, hv, hg, hh, _, _, _, ht⟩
  · omega
  · injection hv with ha _ _
    subst ha
    refine ⟨_, rfl, fun j p hp => ⟨[.string p], rfl, rfl, fun i u hi => ?_⟩⟩
    match i, hi with
    | 0, hi =>
      have hi : Value.string p = u := by simpa using hi
      subst hi
      have es : (Kd.string).sz = 1 := rfl
      have hj := (List.getElem?_eq_some_iff.mp hp).1
      have h1 : (strs l)[j]? = some (.string p) := by rw [strs, List.getElem?_map, hp]; rfl
      rw [← ht, List.getElem?_take, if_pos (by omega), Array.getElem?_toList] at h1
      rw [addr_add_, es, show 0 + (j * 1 + 0) = j by omega, blk_cell hh, h1]
    | i + 1, hi => simp at hi
theorem info_str : (Try.prog.info? 9).map (fun i => (i.zero, i.size, i.bytes)) = some (some (.string ⟨#[]⟩), 1, 16) := by kernel_rfl
set_option maxHeartbeats 2000000 in
set_option maxRecDepth 100000 in
theorem go_cloneS (l : List ByteArray) (A : Option Addr) (c : Nat) (w : World) (hC : Kd.C Kd.string w A l.length l) (hl : l.length ≤ 1000000) :
    Calls Try.prog 74 #[.slice A l.length c] w fun e w' => ∃ v', e = .returned v' ∧ w'.ownsRow w.heap.size 9 1 v' l.length (strs l) ∧ Below w.heap.size w w' := by
  obtain ⟨i0, hi0, hi1, hi2, hi3⟩ := info_parts_ info_str
  have HS := Lib.hid (C_strs hC)
  have HL := Lib.hid hC
  clear hC
  have q22 : ∀ (w : World) (a : Option Addr) (n c n' c' : Nat), (binOp .eql 48 (.slice a n c) (.slice none n' c')).run Try.prog w = .ok (.bool a.isNone) w := fun w a n c n' c' => Lib.run_eql_slice_nil w _ _ a n c n' c' Try.underlying48
  cases A with
  | none =>
    have h0 : l = [] := by
      obtain ⟨_, _, h⟩ := HL.out
      rcases Nat.eq_zero_or_pos l.length with h1 | h1
      · exact List.eq_nil_of_length_eq_zero h1
      · obtain ⟨ad, had, _⟩ := h h1
        cases had
    subst h0
    go_enter Try.func74, Try.ntmps74
    go_wp2
    refine bodyPost_ret (v := .slice none 0 0) (by simp [results, Try.results74, go_sem]) rfl ?_
    exact ⟨_, rfl, ⟨rfl, .inl ⟨rfl, rfl⟩⟩, Below.refl _ _⟩
  | some ad =>
    obtain ⟨n, hn⟩ : ∃ n, l.length = n := ⟨_, rfl⟩
    have HN := Lib.hid hn
    have HB := Lib.hid ((Below.refl w.heap.size w).alloc (Nat.le_refl _) (.cells #[] 9))
    have HNW : Hid (∀ j u, (strs l)[j]? = some u → ∃ a, some ad = some a ∧ (w.alloc (.cells #[] 9)).cell? (a.add j) = some u) := Lib.hid (fun j u hu => by
      obtain ⟨a, ha, hc⟩ := HS.out j u hu
      exact ⟨a, ha, Lib.cell?_alloc_some _ hc⟩)
    have HLS : Hid ((strs l).length = n * 1) := Lib.hid (by rw [strs, List.length_map, hn, Nat.mul_one])
    rw [hn] at hl ⊢
    clear hn
    go_enter Try.func74, Try.ntmps74
    go_wp2_with (at_builtin; (refine wpList_append_any rfl (.tmp 5) (.tmp 6) 48 rfl w.heap.size 9 i0 _ 1 16 Try.underlying48 hi0 hi1 hi2 hi3 rfl (by omega) _ 0 [] rfl (World.ownsRow_made w #[] 0 (Nat.le_refl _) (Nat.zero_le _) (by simp)) _ n _ (strs l) rfl HLS.out HNW.out (strs_one _) (by unfold maxLen; omega) (by omega) (by simp) ?_; intro v1 w1 own1 gr1 fr1))
    rw [Nat.zero_add, List.nil_append] at own1
    have HO := Lib.hid own1
    have HG := Lib.hid (HB.out.grown gr1 (by simp) (by intro k hk; have hk2 : w.heap.size = k := Option.some.inj hk; omega))
    clear own1 gr1 fr1
    go_wp2
    refine bodyPost_ret (v := v1) (by simp [results, Try.results74, go_sem]) rfl ?_
    exact ⟨_, rfl, HO.out, HG.out⟩
abbrev Acct := S62
set_option maxHeartbeats 4000000 in
set_option maxRecDepth 100000 in
theorem go_copied (a : Acct) (A : Option Addr) (c : Nat) (w : World) (hC : Kd.C Kd.string w A a.f7.length a.f7) (hl : a.f7.length ≤ 1000000) :
    Calls Try.prog 44 #[.agg #[.string a.f0, .string a.f1, .int .i64 a.f2, .bool a.f3, .string a.f4, .bool a.f5, .bool a.f6, .slice A a.f7.length c]] w fun e w' =>
      ∃ v', e = .returned (.agg #[.string a.f0, .string a.f1, .int .i64 a.f2, .bool a.f3, .string a.f4, .bool a.f5, .bool a.f6, v']) ∧ w'.ownsRow w.heap.size 9 1 v' a.f7.length (strs a.f7) ∧ Below w.heap.size w w' := by
  obtain ⟨n, hn⟩ : ∃ n, a.f7.length = n := ⟨_, rfl⟩
  have HN := Lib.hid hn
  have HC := Lib.hid hC
  rw [hn] at hl ⊢
  clear hn hC
  go_enter Try.func44, Try.ntmps44
  go_wp2_with fail
  obtain ⟨w1, hw1⟩ : ∃ W, (w.alloc (.cells #[.string a.f0, .string a.f1, .int .i64 a.f2, .bool a.f3, .string a.f4, .bool a.f5, .bool a.f6, .slice A n c] 62)).alloc (.cells #[.string ⟨#[]⟩, .string ⟨#[]⟩, .int .i64 0, .bool false, .string ⟨#[]⟩, .bool false, .bool false, .slice none 0 0] 62) = W := ⟨_, rfl⟩
  have gr1 : Below w.heap.size w w1 := by rw [← hw1]; exact ((Below.refl _ _).alloc (Nat.le_refl _) _).alloc (by simp) _
  have hs1 : w1.heap.size = w.heap.size + 1 + 1 := by rw [← hw1, World.size_alloc, World.size_alloc]
  have hx : w1.heap[w.heap.size]? = some (.cells #[.string a.f0, .string a.f1, .int .i64 a.f2, .bool a.f3, .string a.f4, .bool a.f5, .bool a.f6, .slice A n c] 62 (0, 0)) := by
    rw [← hw1]
    exact (Below.heap_alloc _ _ _ (by simp)).trans (Go.MapKept.heap_alloc w _).1
  have hy : w1.heap[w.heap.size + 1]? = some (.cells #[.string ⟨#[]⟩, .string ⟨#[]⟩, .int .i64 0, .bool false, .string ⟨#[]⟩, .bool false, .bool false, .slice none 0 0] 62 (0, 0)) := by
    rw [← hw1]
    have := (Go.MapKept.heap_alloc (w.alloc (.cells #[.string a.f0, .string a.f1, .int .i64 a.f2, .bool a.f3, .string a.f4, .bool a.f5, .bool a.f6, .slice A n c] 62)) (.cells #[.string ⟨#[]⟩, .string ⟨#[]⟩, .int .i64 0, .bool false, .string ⟨#[]⟩, .bool false, .bool false, .slice none 0 0] 62)).1
    rw [World.size_alloc] at this
    exact this
  rw [hw1]
  have hcl := go_cloneS a.f7 A c w1 (Kd.C_below HC.out gr1) (by rw [HN.out]; exact hl)
  rw [HN.out] at hcl
  refine hcl.mono ?_
  rintro e w2 ⟨v', rfl, own, hb⟩
  have hx2 := (hb.block w.heap.size (by omega)).trans hx
  have hy2 := (hb.block (w.heap.size + 1) (by omega)).trans hy
  have HB := Lib.hid (gr1.trans (hb.mono gr1.size))
  have hsz := hb.size
  obtain ⟨z, hz⟩ : ∃ z, w.heap.size = z := ⟨_, rfl⟩
  have HO := Lib.hid own
  have HW1 := Lib.hid (show z + 1 < w1.heap.size by omega)
  have hvn : ∀ b, v'.ownBlock = some b → w1.heap.size ≤ b := fun b hb => by
    rcases own.2 with ⟨hv, _⟩ | ⟨g, cap, cur, hv, hg, _⟩
    · rw [hv] at hb; cases hb
    · rw [hv] at hb; injection hb with hb; rw [← hb]; exact hg
  have HVN := Lib.hid hvn
  have HZ := Lib.hid hz
  rw [hz] at hx2 hy2 ⊢
  have own2 := own
  clear hcl hw1 gr1 hs1 hx hy hb own hvn hsz
  obtain ⟨A2, c2, hv2, _⟩ := own_form own2
  subst hv2
  have x0 : w2.cell? ⟨z, 0, none⟩ = some (.string a.f0) := blk_cell hx2 0
  have x1 : w2.cell? ⟨z, 1, none⟩ = some (.string a.f1) := blk_cell hx2 1
  have x2 : w2.cell? ⟨z, 2, none⟩ = some (.int .i64 a.f2) := blk_cell hx2 2
  have x3 : w2.cell? ⟨z, 3, none⟩ = some (.bool a.f3) := blk_cell hx2 3
  have x4 : w2.cell? ⟨z, 4, none⟩ = some (.string a.f4) := blk_cell hx2 4
  have x5 : w2.cell? ⟨z, 5, none⟩ = some (.bool a.f5) := blk_cell hx2 5
  have x6 : w2.cell? ⟨z, 6, none⟩ = some (.bool a.f6) := blk_cell hx2 6
  have x7 : w2.cell? ⟨z, 7, none⟩ = some (.slice A n c) := blk_cell hx2 7
  have f7 : w2.frozen? ⟨z, 7, none⟩ = false := blk_frozen hx2 7
  have y0 : w2.cell? ⟨z + 1, 0, none⟩ = some (.string ⟨#[]⟩) := blk_cell hy2 0
  have g0 : w2.frozen? ⟨z + 1, 0, none⟩ = false := blk_frozen hy2 0
  have y1 : w2.cell? ⟨z + 1, 1, none⟩ = some (.string ⟨#[]⟩) := blk_cell hy2 1
  have g1 : w2.frozen? ⟨z + 1, 1, none⟩ = false := blk_frozen hy2 1
  have y2 : w2.cell? ⟨z + 1, 2, none⟩ = some (.int .i64 0) := blk_cell hy2 2
  have g2 : w2.frozen? ⟨z + 1, 2, none⟩ = false := blk_frozen hy2 2
  have y3 : w2.cell? ⟨z + 1, 3, none⟩ = some (.bool false) := blk_cell hy2 3
  have g3 : w2.frozen? ⟨z + 1, 3, none⟩ = false := blk_frozen hy2 3
  have y4 : w2.cell? ⟨z + 1, 4, none⟩ = some (.string ⟨#[]⟩) := blk_cell hy2 4
  have g4 : w2.frozen? ⟨z + 1, 4, none⟩ = false := blk_frozen hy2 4
  have y5 : w2.cell? ⟨z + 1, 5, none⟩ = some (.bool false) := blk_cell hy2 5
  have g5 : w2.frozen? ⟨z + 1, 5, none⟩ = false := blk_frozen hy2 5
  have y6 : w2.cell? ⟨z + 1, 6, none⟩ = some (.bool false) := blk_cell hy2 6
  have g6 : w2.frozen? ⟨z + 1, 6, none⟩ = false := blk_frozen hy2 6
  have y7 : w2.cell? ⟨z + 1, 7, none⟩ = some (.slice none 0 0) := blk_cell hy2 7
  have g7 : w2.frozen? ⟨z + 1, 7, none⟩ = false := blk_frozen hy2 7
  have HY := Lib.hid hy2
  clear hz hx2 hy2 own2
  go_wp2_with fail
  have hzl : w.heap.size ≤ z := by rw [HZ.out]; exact Nat.le_refl _
  have hzl1 : w.heap.size ≤ z + 1 := by omega
  have hy3 : (w2.setCell ⟨z, 7, none⟩ (.slice A2 n c2)).heap[z + 1]? = some (.cells #[.string ⟨#[]⟩, .string ⟨#[]⟩, .int .i64 0, .bool false, .string ⟨#[]⟩, .bool false, .bool false, .slice none 0 0] 62 (0, 0)) := (Below.heap_setCell _ _ _ _ (by simp)).trans HY.out
  have hyF : (((((((((w2.setCell ⟨z, 7, none⟩ (.slice A2 n c2)).setCell ⟨z + 1, 0, none⟩ (.string a.f0)).setCell ⟨z + 1, 1, none⟩ (.string a.f1)).setCell ⟨z + 1, 2, none⟩ (.int .i64 a.f2)).setCell ⟨z + 1, 3, none⟩ (.bool a.f3)).setCell ⟨z + 1, 4, none⟩ (.string a.f4)).setCell ⟨z + 1, 5, none⟩ (.bool a.f5)).setCell ⟨z + 1, 6, none⟩ (.bool a.f6)).setCell ⟨z + 1, 7, none⟩ (.slice A2 n c2)).heap[z + 1]? = some (.cells #[.string a.f0, .string a.f1, .int .i64 a.f2, .bool a.f3, .string a.f4, .bool a.f5, .bool a.f6, .slice A2 n c2] 62 (0, 0)) := (blk_set (blk_set (blk_set (blk_set (blk_set (blk_set (blk_set (blk_set hy3 0 (.string a.f0)) 1 (.string a.f1)) 2 (.int .i64 a.f2)) 3 (.bool a.f3)) 4 (.string a.f4)) 5 (.bool a.f5)) 6 (.bool a.f6)) 7 (.slice A2 n c2))
  have hBF : Below w.heap.size w (((((((((w2.setCell ⟨z, 7, none⟩ (.slice A2 n c2)).setCell ⟨z + 1, 0, none⟩ (.string a.f0)).setCell ⟨z + 1, 1, none⟩ (.string a.f1)).setCell ⟨z + 1, 2, none⟩ (.int .i64 a.f2)).setCell ⟨z + 1, 3, none⟩ (.bool a.f3)).setCell ⟨z + 1, 4, none⟩ (.string a.f4)).setCell ⟨z + 1, 5, none⟩ (.bool a.f5)).setCell ⟨z + 1, 6, none⟩ (.bool a.f6)).setCell ⟨z + 1, 7, none⟩ (.slice A2 n c2)) := ((((((((((HB.out.setCell (p := ⟨z, 7, none⟩) hzl _)).setCell (p := ⟨z + 1, 0, none⟩) hzl1 _).setCell (p := ⟨z + 1, 1, none⟩) hzl1 _).setCell (p := ⟨z + 1, 2, none⟩) hzl1 _).setCell (p := ⟨z + 1, 3, none⟩) hzl1 _).setCell (p := ⟨z + 1, 4, none⟩) hzl1 _).setCell (p := ⟨z + 1, 5, none⟩) hzl1 _).setCell (p := ⟨z + 1, 6, none⟩) hzl1 _).setCell (p := ⟨z + 1, 7, none⟩) hzl1 _)
  have hOF : (((((((((w2.setCell ⟨z, 7, none⟩ (.slice A2 n c2)).setCell ⟨z + 1, 0, none⟩ (.string a.f0)).setCell ⟨z + 1, 1, none⟩ (.string a.f1)).setCell ⟨z + 1, 2, none⟩ (.int .i64 a.f2)).setCell ⟨z + 1, 3, none⟩ (.bool a.f3)).setCell ⟨z + 1, 4, none⟩ (.string a.f4)).setCell ⟨z + 1, 5, none⟩ (.bool a.f5)).setCell ⟨z + 1, 6, none⟩ (.bool a.f6)).setCell ⟨z + 1, 7, none⟩ (.slice A2 n c2)).ownsRow w.heap.size 9 1 (.slice A2 n c2) n (strs a.f7) := by
    refine own_lower_ (own_move HO.out (fun b hb => ?_)) (by have := HW1.out; have := HB.out.size; omega)
    have h1 := HVN.out b hb
    have h2 := HW1.out
    have e1 : b ≠ z := by omega
    have e2 : b ≠ z + 1 := by omega
    rw [Below.heap_setCell _ ⟨z + 1, 7, none⟩ _ b e2, Below.heap_setCell _ ⟨z + 1, 6, none⟩ _ b e2, Below.heap_setCell _ ⟨z + 1, 5, none⟩ _ b e2, Below.heap_setCell _ ⟨z + 1, 4, none⟩ _ b e2, Below.heap_setCell _ ⟨z + 1, 3, none⟩ _ b e2, Below.heap_setCell _ ⟨z + 1, 2, none⟩ _ b e2, Below.heap_setCell _ ⟨z + 1, 1, none⟩ _ b e2, Below.heap_setCell _ ⟨z + 1, 0, none⟩ _ b e2, Below.heap_setCell _ ⟨z, 7, none⟩ _ b e1]
  obtain ⟨WF, hWF⟩ : ∃ W, (((((((((w2.setCell ⟨z, 7, none⟩ (.slice A2 n c2)).setCell ⟨z + 1, 0, none⟩ (.string a.f0)).setCell ⟨z + 1, 1, none⟩ (.string a.f1)).setCell ⟨z + 1, 2, none⟩ (.int .i64 a.f2)).setCell ⟨z + 1, 3, none⟩ (.bool a.f3)).setCell ⟨z + 1, 4, none⟩ (.string a.f4)).setCell ⟨z + 1, 5, none⟩ (.bool a.f5)).setCell ⟨z + 1, 6, none⟩ (.bool a.f6)).setCell ⟨z + 1, 7, none⟩ (.slice A2 n c2)) = W := ⟨_, rfl⟩
  rw [hWF] at hyF hBF hOF ⊢
  clear hWF
  have cf0 : WF.cell? ⟨z + 1, 0, none⟩ = some (.string a.f0) := blk_cell hyF 0
  have cf1 : WF.cell? ⟨z + 1, 1, none⟩ = some (.string a.f1) := blk_cell hyF 1
  have cf2 : WF.cell? ⟨z + 1, 2, none⟩ = some (.int .i64 a.f2) := blk_cell hyF 2
  have cf3 : WF.cell? ⟨z + 1, 3, none⟩ = some (.bool a.f3) := blk_cell hyF 3
  have cf4 : WF.cell? ⟨z + 1, 4, none⟩ = some (.string a.f4) := blk_cell hyF 4
  have cf5 : WF.cell? ⟨z + 1, 5, none⟩ = some (.bool a.f5) := blk_cell hyF 5
  have cf6 : WF.cell? ⟨z + 1, 6, none⟩ = some (.bool a.f6) := blk_cell hyF 6
  have cf7 : WF.cell? ⟨z + 1, 7, none⟩ = some (.slice A2 n c2) := blk_cell hyF 7
  refine bodyPost_ret (v := .agg #[.string a.f0, .string a.f1, .int .i64 a.f2, .bool a.f3, .string a.f4, .bool a.f5, .bool a.f6, .slice A2 n c2]) (by simp [results, Try.results44, go_sem, cf0, cf1, cf2, cf3, cf4, cf5, cf6, cf7]) rfl ?_
  exact ⟨_, rfl, hOF, hBF⟩
def encS (s : ByteArray) : Value := .string s
theorem encS_inj : ∀ x y, encS x = encS y → x = y := by
  intro a b h
  simpa [encS] using h
theorem str_keyed : Go.Maps.Keyed Try.prog 9 := Go.Maps.string_keyed Try.underlying9
theorem key_s {s : ByteArray} (hm : s.size ≤ maxLen) : ∃ l, keyOf Try.prog 9 (encS s) = some l := by
  refine ⟨.string s.data.toList, ?_⟩
  unfold keyOf encS
  simp [Try.underlying9, mapKey, hm]
def za : Acct := z62
def acctV (a : Acct) (v : Value) : Value := .agg #[.string a.f0, .string a.f1, .int .i64 a.f2, .bool a.f3, .string a.f4, .bool a.f5, .bool a.f6, v]
def ChartAt (w : World) (g L : Nat) (M : ByteArray → Option Acct) : Prop :=
  ∃ (m1 : Nat) (V : ByteArray → Value) (n : Nat), w.cell? ⟨g, 0, none⟩ = some (.map (some m1)) ∧ MapAt Try.prog 9 encS w m1 (fun x => (M x).map fun a => acctV a (V x)) ∧ (∀ x a, M x = some a → ∃ A c, V x = .slice A a.f7.length c ∧ Kd.C Kd.string w A a.f7.length a.f7 ∧ a.f7.length ≤ 1000000) ∧ n ≤ L ∧ ∃ es clock, w.heap[m1]? = some (.map es clock) ∧ es.size = n
theorem ChartAt.below {w W : World} {g L : Nat} {M : ByteArray → Option Acct} (h : ChartAt w g L M) (hb : Below w.heap.size w W) : ChartAt W g L M := by
  obtain ⟨m1, V, n, h1, h2, h3, h4⟩ := h
  exact ⟨m1, V, n, (hb.cell (World.block_lt_of_cell? w _ h1)).trans h1, h2.below hb, fun x a hx => by
    obtain ⟨A, c, e, hC, hl⟩ := h3 x a hx
    exact ⟨A, c, e, Kd.C_below hC hb, hl⟩, h4.1, by
      obtain ⟨es, clock, h5, h6⟩ := h4.2
      exact ⟨es, clock, (hb.block m1 (Array.getElem?_eq_some_iff.mp h5).1).trans h5, h6⟩⟩
theorem ChartAt.look {w : World} {g L : Nat} {M : ByteArray → Option Acct} (h : ChartAt w g L M) (x : ByteArray) (hx : x.size ≤ maxLen) : ∃ (m1 : Nat) (A : Option Addr) (c : Nat), Kd.C Kd.string w A ((M x).getD za).f7.length ((M x).getD za).f7 ∧ ((M x).getD za).f7.length ≤ 1000000 ∧ ∀ W, Below w.heap.size w W →
    W.cell? ⟨g, 0, none⟩ = some (.map (some m1)) ∧ (Instr.lookup 82 (.map (some m1)) (.string x) true).run Try.prog W = .ok (.tuple #[acctV ((M x).getD za) (.slice A ((M x).getD za).f7.length c), .bool (M x).isSome]) W ∧
    (Instr.lookup 82 (.map (some m1)) (.string x) false).run Try.prog W = .ok (acctV ((M x).getD za) (.slice A ((M x).getD za).f7.length c)) W := by
  obtain ⟨m1, V, n, h1, h2, h3, h4⟩ := h
  obtain ⟨kl, hkl⟩ := key_s hx
  have hr := fun (W : World) (hW : Below w.heap.size w W) (b : Bool) => (h2.below hW).lookup str_keyed encS_inj Try.underlying82 (z := acctV za (.slice none 0 0)) (by kernel_rfl) b x hkl
  have hc := fun (W : World) (hW : Below w.heap.size w W) => (hW.cell (World.block_lt_of_cell? w _ h1)).trans h1
  have e1 : encS x = .string x := rfl
  simp only [e1] at hr
  cases hm : M x with
  | none =>
    simp only [hm, Option.map_none, Option.getD_none] at hr
    exact ⟨m1, none, 0, ⟨rfl, Nat.zero_le _, fun h => by (exact absurd h (Nat.lt_irrefl 0))⟩, Nat.zero_le _, fun W hW => ⟨hc W hW, hr W hW true, hr W hW false⟩⟩
  | some a =>
    obtain ⟨A, c, e, hC, hl⟩ := h3 x a hm
    simp only [hm, Option.map_some, Option.getD_some, e] at hr
    exact ⟨m1, A, c, hC, hl, fun W hW => ⟨hc W hW, hr W hW true, hr W hW false⟩⟩
set_option maxHeartbeats 2000000 in
set_option maxRecDepth 100000 in
theorem go_known (x : ByteArray) (hx : x.size ≤ maxLen) (g L z : Nat) (M : ByteArray → Option Acct) (w : World) (hC : ChartAt w g L M) (hz : w.cell? ⟨z, 0, none⟩ = some (.pointer (some ⟨g, 0, none⟩))) :
    Calls Try.prog 70 #[.string x, .pointer (some ⟨z, 0, none⟩)] w fun e w' => e = .returned (.bool (M x).isSome) ∧ Below w.heap.size w w' := by
  obtain ⟨m1, A, c, _, _, hL⟩ := hC.look x hx
  obtain ⟨hg, hl, _⟩ := hL w (Below.refl _ _)
  obtain ⟨r, hr⟩ : ∃ r, (M x).getD za = r := ⟨_, rfl⟩
  obtain ⟨ok, hok⟩ : ∃ r, (M x).isSome = r := ⟨_, rfl⟩
  rw [hr, hok] at hl
  rw [hok]
  obtain ⟨n, hn⟩ : ∃ n, r.f7.length = n := ⟨_, rfl⟩
  rw [hn] at hl
  unfold acctV at hl
  clear hL hC hr hok hn
  go_enter Try.func70, Try.ntmps70
  go_wp2
  go_ret
  exact ⟨rfl, (Below.refl _ _).alloc (Nat.le_refl _) _⟩
def par (M : ByteArray → Option Acct) (x : ByteArray) : ByteArray := ((M x).getD za).f1
def circR (M : ByteArray → Option Acct) (code : ByteArray) : Nat → ByteArray → Bool
  | 0, _ => false
  | f + 1, x => if x.toList = code.toList then true else circR M code f (par M x)
set_option maxHeartbeats 2000000 in
set_option maxRecDepth 100000 in
theorem go_circular (code : ByteArray) (hx : code.size ≤ maxLen) (g L : Nat) (M : ByteArray → Option Acct) (w : World) (hC : ChartAt w g L M) (hL1 : L ≤ 1000000) (hM : ∀ x a, M x = some a → a.f1.size ≤ maxLen) :
    Calls Try.prog 75 #[.pointer (some ⟨g, 0, none⟩), .string code] w fun e w' => (∃ n, n ≤ L ∧ e = .returned (.bool (circR M code n (par M code)))) ∧ Below w.heap.size w w' := by
  have hlk : ∀ x : ByteArray, x.size ≤ maxLen → ∃ m A c, w.cell? ⟨g, 0, none⟩ = some (.map (some m)) ∧ (Instr.lookup 82 (.map (some m)) (.string x) false).run Try.prog w = .ok (acctV ((M x).getD za) (.slice A ((M x).getD za).f7.length c)) w := fun x hx => by
    obtain ⟨m, A, c, _, _, h⟩ := hC.look x hx
    exact ⟨m, A, c, (h w (Below.refl _ _)).1, (h w (Below.refl _ _)).2.2⟩
  obtain ⟨m1, V, n, h1, h2, h3, h4, es, clock, h5, h6⟩ := hC
  have HLK : Hid (∀ x : ByteArray, x.size ≤ maxLen → ∃ y v, y = par M x ∧ y.size ≤ maxLen ∧ ∃ a0 a2 a3 a4 a5 a6, (Instr.lookup 82 (.map (some m1)) (.string x) false).run Try.prog w = .ok (.agg #[.string a0, .string y, .int .i64 a2, .bool a3, .string a4, .bool a5, .bool a6, v]) w) := Lib.hid (fun x hx => by
    obtain ⟨m, A, c, e1, e2⟩ := hlk x hx
    rw [h1] at e1
    injection e1 with e1
    injection e1 with e1
    injection e1 with e1
    subst e1
    refine ⟨par M x, _, rfl, ?_, _, _, _, _, _, _, e2⟩
    unfold par
    cases hm : M x with
    | none => show (0 : Nat) ≤ _; omega
    | some a => exact hM x a hm)
  have hnL := h4
  have hn1 : n ≤ 1000000 := Nat.le_trans h4 hL1
  clear h2 h3 h4 hlk hM
  obtain ⟨y0, v0, hy0, hys, b0, b2, b3, b4, b5, b6, hl0⟩ := HLK.out code hx
  have HY := Lib.hid hy0
  clear hy0
  have hfld : ∀ (a0 y : ByteArray) (a2 : Int) (a3 : Bool) (a4 : ByteArray) (a5 a6 : Bool) (v : Value) (W : World), (Instr.field 62 (.agg #[.string a0, .string y, .int .i64 a2, .bool a3, .string a4, .bool a5, .bool a6, v]) 1).run Try.prog W = .ok (.string y) W := fun _ _ _ _ _ _ _ _ W => by kernel_rfl
  have hlen : ∀ ty, (Builtin.len_ #[82] ty #[.map (some m1)]).run Try.prog w = .ok (.int .i64 n) w := fun ty => by
    simp [Builtin.len_, run_underlying Try.underlying82, MapKept.run_getObj_map h5, goInt, Result.andThen, h6]
  clear h5 h6
  go_enter Try.func75, Try.ntmps75
  go_wp2
  go_loopg [18, 5] n (fun gk v18 v5 wr => ∃ (k : Nat) (y : ByteArray), gk = n - k ∧ k ≤ n ∧ v18 = .int .i64 k ∧ v5 = .string y ∧ y.size ≤ maxLen ∧ wr = w ∧ Hid (circR M code (n - k) y = circR M code n (par M code)))
  case atStart => exact ⟨0, y0, rfl, by omega, rfl, rfl, hys, rfl, Lib.hid (by rw [HY.out]; rfl)⟩
  case round =>
    obtain ⟨k, y, rfl, hk, rfl, rfl, hy, rfl, HR⟩ := hrel
    clear hl0 HY hys
    by_cases hlt : k < n
    · have hltz : (k : Int) < (n : Int) := by omega
      by_cases he : y.toList = code.toList
      · have hb1 : (y.toList == code.toList) = true := by rw [he]; exact beq_self_eq_true _
        have hres : circR M code n (par M code) = true := by
          rw [← HR.out, show n - k = (n - (k + 1)) + 1 by omega, circR, if_pos he]
        have HF := Lib.hid hres
        clear hres he
        go_wp2
        refine bodyPost_ret (v := .bool true) (by simp [results, Try.results75, go_sem]) rfl ?_
        exact ⟨⟨n, hnL, by rw [HF.out]⟩, Below.refl _ _⟩
      · have hb1 : (y.toList == code.toList) = false := beq_eq_false_iff_ne.mpr he
        obtain ⟨y2, v2, hy2, hys2, c0, c2, c3, c4, c5, c6, hl2⟩ := HLK.out y hy
        have HR2 : Hid (circR M code (n - (k + 1)) y2 = circR M code n (par M code)) := Lib.hid (by
          have h := HR.out
          rw [show n - k = (n - (k + 1)) + 1 by omega, circR, if_neg he] at h
          rw [hy2]; exact h)
        clear he hy2
        go_wp2
        go_roundg (n - (k + 1))
        case measure => omega
        case rel => exact ⟨k + 1, y2, rfl, by omega, by go_num, rfl, hys2, rfl, HR2⟩
    · have hltz : ¬ ((k : Int) < (n : Int)) := by omega
      have hres : circR M code n (par M code) = false := by
        rw [← HR.out, show n - k = 0 by omega, circR]
      have HF := Lib.hid hres
      clear hres
      go_wp2
      refine bodyPost_ret (v := .bool false) (by simp [results, Try.results75, go_sem]) rfl ?_
      exact ⟨⟨n, hnL, by rw [HF.out]⟩, Below.refl _ _⟩
set_option maxHeartbeats 4000000 in
set_option maxRecDepth 100000 in
theorem go_get (x : ByteArray) (hx : x.size ≤ maxLen) (g L : Nat) (M : ByteArray → Option Acct) (w : World) (hC : ChartAt w g L M) :
    Calls Try.prog 51 #[.pointer (some ⟨g, 0, none⟩), .string x] w fun e w' => ∃ A2 n2 c2, e = .returned (.tuple #[acctV ((M x).getD za) (.slice A2 n2 c2), .bool (M x).isSome]) ∧ Below w.heap.size w w' := by
  obtain ⟨m1, A, c, hCC, hll, hL⟩ := hC.look x hx
  have gr1 : Below w.heap.size w (w.alloc (.cells #[.string ⟨#[]⟩, .string ⟨#[]⟩, .int .i64 0, .bool false, .string ⟨#[]⟩, .bool false, .bool false, .slice none 0 0] 62)) := (Below.refl _ _).alloc (Nat.le_refl _) _
  obtain ⟨hg, hl, _⟩ := hL _ gr1
  obtain ⟨r, hr⟩ : ∃ r, (M x).getD za = r := ⟨_, rfl⟩
  obtain ⟨ok, hok⟩ : ∃ r, (M x).isSome = r := ⟨_, rfl⟩
  rw [hr, hok] at hl
  rw [hr] at hCC hll
  rw [hr, hok]
  unfold acctV at hl ⊢
  obtain ⟨n, hn⟩ : ∃ n, r.f7.length = n := ⟨_, rfl⟩
  have HN := Lib.hid hn
  rw [hn] at hl hll
  have HCC := Lib.hid hCC
  clear hL hC hr hok hn hCC gr1
  go_enter Try.func51, Try.ntmps51
  go_wp2_with fail
  have gr2 : Below w.heap.size w (w.alloc (.cells #[.string r.f0, .string r.f1, .int .i64 r.f2, .bool r.f3, .string r.f4, .bool r.f5, .bool r.f6, .slice A n c] 62)) := (Below.refl _ _).alloc (Nat.le_refl _) _
  have hz := (Go.MapKept.heap_alloc w (.cells #[.string r.f0, .string r.f1, .int .i64 r.f2, .bool r.f3, .string r.f4, .bool r.f5, .bool r.f6, .slice A n c] 62)).1
  have hs1 : (w.alloc (.cells #[.string r.f0, .string r.f1, .int .i64 r.f2, .bool r.f3, .string r.f4, .bool r.f5, .bool r.f6, .slice A n c] 62)).heap.size = w.heap.size + 1 := World.size_alloc _ _
  obtain ⟨w1, hw1⟩ : ∃ W, w.alloc (.cells #[.string r.f0, .string r.f1, .int .i64 r.f2, .bool r.f3, .string r.f4, .bool r.f5, .bool r.f6, .slice A n c] 62) = W := ⟨_, rfl⟩
  rw [hw1] at gr2 hz hs1 ⊢
  have hcp := go_copied r A c w1 (Kd.C_below HCC.out gr2) (by rw [HN.out]; exact hll)
  rw [HN.out] at hcp
  refine hcp.mono ?_
  rintro e w2 ⟨v', rfl, own, hb⟩
  obtain ⟨A2, c2, hv2, _⟩ := own_form own
  subst hv2
  have hz2 := (hb.block w.heap.size (by omega)).trans hz
  have HB := Lib.hid (gr2.trans (hb.mono gr2.size))
  obtain ⟨z, ez⟩ : ∃ z, w.heap.size = z := ⟨_, rfl⟩
  have HZ := Lib.hid ez
  rw [ez] at hz2 ⊢
  clear hcp hw1 gr2 hz hs1 hb own ez hg hl
  have x0 : w2.cell? ⟨z, 0, none⟩ = some (.string r.f0) := blk_cell hz2 0
  have g0 : w2.frozen? ⟨z, 0, none⟩ = false := blk_frozen hz2 0
  have x1 : w2.cell? ⟨z, 1, none⟩ = some (.string r.f1) := blk_cell hz2 1
  have g1 : w2.frozen? ⟨z, 1, none⟩ = false := blk_frozen hz2 1
  have x2 : w2.cell? ⟨z, 2, none⟩ = some (.int .i64 r.f2) := blk_cell hz2 2
  have g2 : w2.frozen? ⟨z, 2, none⟩ = false := blk_frozen hz2 2
  have x3 : w2.cell? ⟨z, 3, none⟩ = some (.bool r.f3) := blk_cell hz2 3
  have g3 : w2.frozen? ⟨z, 3, none⟩ = false := blk_frozen hz2 3
  have x4 : w2.cell? ⟨z, 4, none⟩ = some (.string r.f4) := blk_cell hz2 4
  have g4 : w2.frozen? ⟨z, 4, none⟩ = false := blk_frozen hz2 4
  have x5 : w2.cell? ⟨z, 5, none⟩ = some (.bool r.f5) := blk_cell hz2 5
  have g5 : w2.frozen? ⟨z, 5, none⟩ = false := blk_frozen hz2 5
  have x6 : w2.cell? ⟨z, 6, none⟩ = some (.bool r.f6) := blk_cell hz2 6
  have g6 : w2.frozen? ⟨z, 6, none⟩ = false := blk_frozen hz2 6
  have x7 : w2.cell? ⟨z, 7, none⟩ = some (.slice A n c) := blk_cell hz2 7
  have g7 : w2.frozen? ⟨z, 7, none⟩ = false := blk_frozen hz2 7
  have HY := Lib.hid hz2
  clear hz2
  go_wp2_with fail
  have hzl : w.heap.size ≤ z := by rw [HZ.out]; exact Nat.le_refl _
  have hyF : ((((((((w2.setCell ⟨z, 0, none⟩ (.string r.f0)).setCell ⟨z, 1, none⟩ (.string r.f1)).setCell ⟨z, 2, none⟩ (.int .i64 r.f2)).setCell ⟨z, 3, none⟩ (.bool r.f3)).setCell ⟨z, 4, none⟩ (.string r.f4)).setCell ⟨z, 5, none⟩ (.bool r.f5)).setCell ⟨z, 6, none⟩ (.bool r.f6)).setCell ⟨z, 7, none⟩ (.slice A2 n c2)).heap[z]? = some (.cells #[.string r.f0, .string r.f1, .int .i64 r.f2, .bool r.f3, .string r.f4, .bool r.f5, .bool r.f6, .slice A2 n c2] 62 (0, 0)) := (blk_set (blk_set (blk_set (blk_set (blk_set (blk_set (blk_set (blk_set HY.out 0 (.string r.f0)) 1 (.string r.f1)) 2 (.int .i64 r.f2)) 3 (.bool r.f3)) 4 (.string r.f4)) 5 (.bool r.f5)) 6 (.bool r.f6)) 7 (.slice A2 n c2))
  have hBF : Below w.heap.size w ((((((((w2.setCell ⟨z, 0, none⟩ (.string r.f0)).setCell ⟨z, 1, none⟩ (.string r.f1)).setCell ⟨z, 2, none⟩ (.int .i64 r.f2)).setCell ⟨z, 3, none⟩ (.bool r.f3)).setCell ⟨z, 4, none⟩ (.string r.f4)).setCell ⟨z, 5, none⟩ (.bool r.f5)).setCell ⟨z, 6, none⟩ (.bool r.f6)).setCell ⟨z, 7, none⟩ (.slice A2 n c2)) := ((((((((HB.out.setCell (p := ⟨z, 0, none⟩) hzl _).setCell (p := ⟨z, 1, none⟩) hzl _).setCell (p := ⟨z, 2, none⟩) hzl _).setCell (p := ⟨z, 3, none⟩) hzl _).setCell (p := ⟨z, 4, none⟩) hzl _).setCell (p := ⟨z, 5, none⟩) hzl _).setCell (p := ⟨z, 6, none⟩) hzl _).setCell (p := ⟨z, 7, none⟩) hzl _)
  obtain ⟨WF, hWF⟩ : ∃ W, ((((((((w2.setCell ⟨z, 0, none⟩ (.string r.f0)).setCell ⟨z, 1, none⟩ (.string r.f1)).setCell ⟨z, 2, none⟩ (.int .i64 r.f2)).setCell ⟨z, 3, none⟩ (.bool r.f3)).setCell ⟨z, 4, none⟩ (.string r.f4)).setCell ⟨z, 5, none⟩ (.bool r.f5)).setCell ⟨z, 6, none⟩ (.bool r.f6)).setCell ⟨z, 7, none⟩ (.slice A2 n c2)) = W := ⟨_, rfl⟩
  rw [hWF] at hyF hBF ⊢
  clear hWF
  have cf0 : WF.cell? ⟨z, 0, none⟩ = some (.string r.f0) := blk_cell hyF 0
  have cf1 : WF.cell? ⟨z, 1, none⟩ = some (.string r.f1) := blk_cell hyF 1
  have cf2 : WF.cell? ⟨z, 2, none⟩ = some (.int .i64 r.f2) := blk_cell hyF 2
  have cf3 : WF.cell? ⟨z, 3, none⟩ = some (.bool r.f3) := blk_cell hyF 3
  have cf4 : WF.cell? ⟨z, 4, none⟩ = some (.string r.f4) := blk_cell hyF 4
  have cf5 : WF.cell? ⟨z, 5, none⟩ = some (.bool r.f5) := blk_cell hyF 5
  have cf6 : WF.cell? ⟨z, 6, none⟩ = some (.bool r.f6) := blk_cell hyF 6
  have cf7 : WF.cell? ⟨z, 7, none⟩ = some (.slice A2 n c2) := blk_cell hyF 7
  refine bodyPost_ret (v := .tuple #[.agg #[.string r.f0, .string r.f1, .int .i64 r.f2, .bool r.f3, .string r.f4, .bool r.f5, .bool r.f6, .slice A2 n c2], .bool ok]) (by simp [results, Try.results51, go_sem, cf0, cf1, cf2, cf3, cf4, cf5, cf6, cf7]) rfl ?_
  exact ⟨_, _, _, rfl, hBF⟩
theorem w64 {n : Int} (h : -9223372036854775808 ≤ n ∧ n ≤ 9223372036854775807) : wrap64 n = n := by unfold wrap64; omega
abbrev Rule := S114
def firstE : List Rule → Int
  | [] => 0
  | r :: l => if r.f0 = true then r.f1 else firstE l
theorem first_law (xs : List Rule) (hl : xs.length ≤ 1000000) : ∀ (k i : Nat), xs.length - i < k → i ≤ xs.length → chart_first.l0 k xs (xs.length : Int) (i : Int) = some (firstE (xs.drop i))
  | 0, _, h, _ => by omega
  | k + 1, i, h, hi => by
    rw [chart_first.l0]
    by_cases c : i < xs.length
    · have e : rd_T114 xs (i : Int) = xs[i] := by
        show xs.getD (i : Int).toNat _ = _
        rw [Int.toNat_natCast, List.getD_eq_getElem?_getD, List.getElem?_eq_getElem c, Option.getD_some]
      rw [if_pos (by omega), if_pos (by omega), if_pos (by omega), e, List.drop_eq_getElem_cons c, firstE, w64 (by omega)]
      split
      · rfl
      · exact first_law xs hl k (i + 1) (by omega) (by omega)
    · rw [if_neg (by omega), List.drop_eq_nil_of_le (by omega), firstE]
def ruleL (r : Rule) : List Value := [.bool r.f0, .int .i64 r.f1]
theorem C_rules {w : World} {z : Nat} {t : TypeId} {xs : List Rule} (h : w.heap[z]? = some (.cells (xs.flatMap ruleL).toArray t (0, 0))) (hl : xs.length ≤ 1000000) : Kd.C k114 w (some ⟨z, 0, none⟩) xs.length xs := by
  refine ⟨rfl, by omega, fun _ => ⟨_, rfl, fun j p hp => ⟨ruleL p, rfl, k114_mk w p, fun i u hi => ?_⟩⟩⟩
  have hi2 : i < 2 := by
    have := (List.getElem?_eq_some_iff.mp hi).1
    simpa [ruleL] using this
  have es : k114.sz = 2 := rfl
  rw [addr_add_, es, Nat.zero_add, blk_cell h]
  have hat : ∀ (l : List Rule) (j i : Nat) (p : Rule), l[j]? = some p → i < 2 → (l.flatMap ruleL)[j * 2 + i]? = (ruleL p)[i]? := by
    intro l
    induction l with
    | nil => intro j i p h; simp at h
    | cons a l ih =>
      intro j i p h hi
      rw [List.flatMap_cons]
      cases j with
      | zero =>
        have : a = p := by simpa using h
        subst this
        rw [List.getElem?_append_left (by simp [ruleL]; omega), Nat.zero_mul, Nat.zero_add]
      | succ j =>
        rw [List.getElem?_append_right (by simp [ruleL]; omega)]
        rw [show (j + 1) * 2 + i - (ruleL a).length = j * 2 + i by simp [ruleL]; omega]
        exact ih j i p (by simpa using h) hi
  show (xs.flatMap ruleL).toArray[j * 2 + i]? = some u
  rw [List.getElem?_toArray, hat xs j i p hp hi2, hi]
theorem go_first (xs : List Rule) (hl : xs.length ≤ 1000000) (z c : Nat) (hc : xs.length ≤ c) (t : TypeId) (w : World) (h : w.heap[z]? = some (.cells (xs.flatMap ruleL).toArray t (0, 0))) :
    Calls Try.prog 71 #[.slice (some ⟨z, 0, none⟩) xs.length c] w fun e w' => e = .returned (.int .i64 (firstE xs)) ∧ Below w.heap.size w w' :=
  chart_first.calls (xs.length + 1) _ c xs (firstE xs) w (C_rules h hl) hc (by
    have := first_law xs hl (xs.length + 1) 0 (by omega) (by omega)
    rw [List.drop_zero] at this
    exact this)
def risingB : List ByteArray → Bool
  | [] => true
  | [_] => true
  | a :: b :: l => Op.bytesLess a.toList b.toList && risingB (b :: l)
theorem rdOf_at (xs : List ByteArray) (i : Nat) (h : i < xs.length) : rdOf ByteArray.empty xs (i : Int) = xs[i] := by
  show xs.getD (i : Int).toNat _ = _
  rw [Int.toNat_natCast, List.getD_eq_getElem?_getD, List.getElem?_eq_getElem h, Option.getD_some]
theorem rising_law (xs : List ByteArray) (hl : xs.length ≤ 8796093021952) : ∀ (k i : Nat), xs.length - i < k → 1 ≤ i → i ≤ xs.length → chart_rising.l0 k xs (i : Int) = some (risingB (xs.drop (i - 1)))
  | 0, _, h, _, _ => by omega
  | k + 1, i, h, h1, hi => by
    rw [chart_rising.l0]
    by_cases c : i < xs.length
    · have e1 : wrap64 ((i : Int) - 1) = ((i - 1 : Nat) : Int) := by rw [w64 (by omega)]; omega
      have e2 : wrap64 ((i : Int) + 1) = ((i + 1 : Nat) : Int) := by rw [w64 (by omega)]; omega
      have hd1 : xs.drop (i - 1) = xs[i - 1] :: xs.drop i := by
        rw [List.drop_eq_getElem_cons (show i - 1 < xs.length by omega), show i - 1 + 1 = i by omega]
      have hd2 : xs.drop i = xs[i] :: xs.drop (i + 1) := List.drop_eq_getElem_cons c
      rw [if_pos (by omega), e1, if_pos (by omega), if_pos (by omega), if_pos (by omega), rdOf_at xs (i - 1) (by omega), rdOf_at xs i c, e2, rising_law xs hl k (i + 1) (by omega) (by omega) (by omega), hd1, hd2, risingB, show i + 1 - 1 = i by omega, hd2]
      split
      · rename_i hh; rw [hh]; rfl
      · rename_i hh; simp only [Bool.not_eq_true] at hh; rw [hh]; rfl
    · rw [if_neg (by omega)]
      have hii : i = xs.length := by omega
      have : (xs.drop (i - 1)).length ≤ 1 := by rw [List.length_drop]; omega
      match hq : xs.drop (i - 1), this with
      | [], _ => rfl
      | [_], _ => rfl
theorem go_rising (xs : List ByteArray) (hl : xs.length ≤ 8796093021952) (A : Option Addr) (c : Nat) (w : World) (hC : Kd.C Kd.string w A xs.length xs) (hc : xs.length ≤ c) :
    Calls Try.prog 73 #[.slice A xs.length c] w fun e w' => e = .returned (.bool (risingB xs)) ∧ Below w.heap.size w w' := by
  have hf : chart_rising.f (xs.length + 1) xs = some (risingB xs) := by
    unfold chart_rising.f
    cases xs with
    | nil => rfl
    | cons a l =>
      have := rising_law (a :: l) hl ((a :: l).length + 1) 1 (by omega) (by omega) (by simp)
      rw [show 1 - 1 = 0 from rfl, List.drop_zero] at this
      exact this
  refine (chart_rising.calls _ A c xs _ w hC hc hf).mono ?_
  rintro e w' ⟨rfl, hd⟩
  exact ⟨rfl, Drawn0.below hd⟩
def namesB (a : Acct) : Bool := a.f7.all wcodeB && wcodeB a.f0 && (a.f1.toList.isEmpty || wcodeB a.f1)
def Sized (a : Acct) : Prop := a.f0.size ≤ 140737488351232 ∧ a.f1.size ≤ 140737488351232 ∧ a.f4.size ≤ 140737488351232 ∧ a.f7.length ≤ 8796093021952 ∧ ∀ s ∈ a.f7, s.size ≤ 140737488351232
theorem names_law (a : Acct) (hs : Sized a) : ∀ (k i : Nat), a.f7.length - i < k → i ≤ a.f7.length → chart_names.l0 k a.f7 (a.f7.length : Int) (i : Int) a.f0 a.f1 a.f2 a.f3 a.f4 a.f5 a.f6 a.f7 = some ((a.f7.drop i).all wcodeB && wcodeB a.f0 && (a.f1.toList.isEmpty || wcodeB a.f1))
  | 0, _, h, _ => by omega
  | k + 1, i, h, hi => by
    rw [chart_names.l0]
    have hl := hs.2.2.2.1
    by_cases c : i < a.f7.length
    · rw [if_pos (by omega), if_pos (by omega), if_pos (by omega), rdOf_at a.f7 i c, words_Code.f, if_pos (hs.2.2.2.2 _ (List.getElem_mem c)), Option.bind_some, List.drop_eq_getElem_cons c, List.all_cons, w64 (by omega)]
      cases hw : wcodeB a.f7[i]
      · rfl
      · rw [if_pos rfl, Bool.true_and]
        exact names_law a hs k (i + 1) (by omega) (by omega)
    · rw [if_neg (by omega), List.drop_eq_nil_of_le (by omega), words_Code.f, if_pos hs.1, Option.bind_some]
      cases hw : wcodeB a.f0
      · rfl
      · rw [if_pos rfl]
        cases he : a.f1.toList with
        | nil => rfl
        | cons x l =>
          rw [if_neg (by simp), words_Code.f, if_pos hs.2.1]
          rfl
theorem go_names (a : Acct) (hs : Sized a) (A : Option Addr) (c : Nat) (w : World) (hC : Kd.C Kd.string w A a.f7.length a.f7) (hc : a.f7.length ≤ c) :
    Calls Try.prog 72 #[.agg #[.string a.f0, .string a.f1, .int .i64 a.f2, .bool a.f3, .string a.f4, .bool a.f5, .bool a.f6, .slice A a.f7.length c]] w fun e w' => e = .returned (.bool (namesB a)) ∧ Below w.heap.size w w' :=
  chart_names.calls (a.f7.length + 1) a.f0 a.f1 a.f2 a.f3 a.f4 a.f5 a.f6 A c a.f7 (namesB a) w hC hc (by
    have := names_law a hs (a.f7.length + 1) 0 (by omega) (by omega)
    rw [List.drop_zero] at this
    exact this)
structure Tk where
  parent : ByteArray
  child : ByteArray
  price : Int
  fn : Int
  fd : Int
  invest : ByteArray
  goodwill : ByteArray
  gain : ByteArray
  minor : ByteArray
  ats : List Cell
def tkNames (t : Tk) : List ByteArray := [t.parent, t.child, t.invest, t.goodwill, t.gain, t.minor]
def namesE (t : Tk) (cur : ByteArray) : Int := if (tkNames t).all wcodeB = false then 7 else if codeB cur = false then 13 else if t.price < 0 ∨ t.price > 1000000000000 then 3 else 0
def TkSized (t : Tk) : Prop := ∀ s ∈ tkNames t, s.size ≤ 140737488351232
set_option maxHeartbeats 2000000 in
set_option maxRecDepth 100000 in
theorem go_checkNames (t : Tk) (hs : TkSized t) (cur : ByteArray) (hc : cur.size ≤ 140737488351232) (sv : Value) (hsv : ∃ A n c, sv = .slice A n c) (w : World) :
    Calls Try.prog 27 #[.agg #[.string t.parent, .string t.child, .int .i64 t.price, .int .i64 t.fn, .int .i64 t.fd, .string t.invest, .string t.goodwill, .string t.gain, .string t.minor, sv], .string cur] w fun e w' => e = .returned (.int .i64 (namesE t cur)) ∧ Below w.heap.size w w' := by
  obtain ⟨A, n, c, rfl⟩ := hsv
  obtain ⟨r, hr⟩ : ∃ r, namesE t cur = r := ⟨_, rfl⟩
  have HR := Lib.hid hr
  rw [hr]
  clear hr
  have gr1 : Below w.heap.size w (w.alloc (.cells #[.string t.parent, .string t.child, .int .i64 t.price, .int .i64 t.fn, .int .i64 t.fd, .string t.invest, .string t.goodwill, .string t.gain, .string t.minor, .slice A n c] 36)) := (Below.refl _ _).alloc (Nat.le_refl _) _
  have hz := (Go.MapKept.heap_alloc w (.cells #[.string t.parent, .string t.child, .int .i64 t.price, .int .i64 t.fn, .int .i64 t.fd, .string t.invest, .string t.goodwill, .string t.gain, .string t.minor, .slice A n c] 36)).1
  have HNM : Hid (∀ k : Nat, k < 6 → ∃ s, (tkNames t)[k]! = s ∧ s.size ≤ 140737488351232 ∧ ∀ W, (Instr.index 90 (.agg #[.string t.parent, .string t.child, .string t.invest, .string t.goodwill, .string t.gain, .string t.minor]) (.int .i64 (k : Int))).run Try.prog W = .ok (.string s) W) := Lib.hid (by
    intro k hk
    have hm : (tkNames t)[k]! ∈ tkNames t := by
      rw [getElem!_pos (tkNames t) k hk]
      exact List.getElem_mem hk
    refine ⟨_, rfl, hs _ hm, ?_⟩
    rcases (by omega : k = 0 ∨ k = 1 ∨ k = 2 ∨ k = 3 ∨ k = 4 ∨ k = 5) with rfl | rfl | rfl | rfl | rfl | rfl <;> (intro W; kernel_rfl))
  go_enter Try.func27, Try.ntmps27
  go_wp2
  obtain ⟨w1, hw1⟩ : ∃ W, w.alloc (.cells #[.string t.parent, .string t.child, .int .i64 t.price, .int .i64 t.fn, .int .i64 t.fd, .string t.invest, .string t.goodwill, .string t.gain, .string t.minor, .slice A n c] 36) = W := ⟨_, rfl⟩
  obtain ⟨z, ez⟩ : ∃ z, w.heap.size = z := ⟨_, rfl⟩
  rw [hw1] at gr1 hz ⊢
  rw [ez] at hz ⊢
  have HG := Lib.hid gr1; have HZ := Lib.hid hz
  clear hw1 ez hz gr1 hs
  go_loopg [20] 6 (fun gk v20 wr => ∃ k : Nat, gk = 6 - k ∧ k ≤ 6 ∧ v20 = .int .i64 k ∧ wr = w1 ∧ Hid ((tkNames t).all wcodeB = ((tkNames t).drop k).all wcodeB))
  case atStart => exact ⟨0, rfl, by omega, rfl, rfl, Lib.hid (by rw [List.drop_zero])⟩
  case round =>
    obtain ⟨k, rfl, hk, rfl, rfl, HA⟩ := hrel
    by_cases hlt : k < 6
    · have hltz : (k : Int) < 6 := by omega
      obtain ⟨s, hsk, hss, hix⟩ := HNM.out k hlt
      have hd : (tkNames t).all wcodeB = (wcodeB s && ((tkNames t).drop (k + 1)).all wcodeB) := by
        have hlen : k < (tkNames t).length := hlt
        rw [HA.out, List.drop_eq_getElem_cons hlen, List.all_cons, ← hsk, getElem!_pos (tkNames t) k hlen]
      have HD := Lib.hid hd
      have HWC := Lib.hid (fun W => Go.Proofs.Ytdlilbleohlmnaa.go_words_Code s W hss)
      clear hd hsk hss
      obtain ⟨wc, hwc⟩ : ∃ q, wcodeB s = q := ⟨_, rfl⟩
      rw [hwc] at HD HWC
      clear hwc
      cases wc with
      | true =>
        have HA2 : Hid ((tkNames t).all wcodeB = ((tkNames t).drop (k + 1)).all wcodeB) := Lib.hid (by rw [HD.out, Bool.true_and])
        go_wp2_with fail
        refine (HWC.out _).mono ?_
        rintro e w2 ⟨rfl, hw2⟩
        rw [← hw2]
        clear hw2 w2
        go_wp2_with fail
        go_roundg (6 - (k + 1))
        case measure => omega
        case rel => exact ⟨k + 1, rfl, by omega, by go_num, rfl, HA2⟩
      | false =>
        have HF : Hid (r = 7) := Lib.hid (by rw [← HR.out, namesE, if_pos (by rw [HD.out]; rfl)])
        go_wp2_with fail
        refine (HWC.out _).mono ?_
        rintro e w2 ⟨rfl, hw2⟩
        rw [← hw2]
        clear hw2 w2
        go_wp2_with fail
        go_ret
        exact ⟨by rw [HF.out]; rfl, HG.out⟩
    · have hk6 : k = 6 := by omega
      subst hk6
      have hall : (tkNames t).all wcodeB = true := HA.out
      have HMC := Lib.hid (fun W => Go.Proofs.Ytdlilbleohlmnaa.money_Code.calls cur W hc)
      have HR2 : Hid (r = if codeB cur = false then 13 else if t.price < 0 ∨ t.price > 1000000000000 then 3 else 0) := Lib.hid (by rw [← HR.out, namesE, if_neg (by rw [hall]; simp)])
      obtain ⟨mc, hmc⟩ : ∃ q, codeB cur = q := ⟨_, rfl⟩
      rw [hmc] at HMC HR2
      clear hmc hall hlt
      go_wp2_with fail
      refine (HMC.out _).mono ?_
      rintro e w2 ⟨rfl, hb2⟩
      have hz2 := (hb2.block z (Array.getElem?_eq_some_iff.mp HZ.out).1).trans HZ.out
      have x2 : w2.cell? ⟨z, 2, none⟩ = some (.int .i64 t.price) := blk_cell hz2 2
      have HG2 := Lib.hid (HG.out.trans (hb2.mono HG.out.size))
      clear hb2 hz2 HMC
      cases mc with
      | false =>
        have HF : Hid (r = 13) := Lib.hid (by rw [HR2.out]; rfl)
        go_wp2_with fail
        go_ret
        exact ⟨by rw [HF.out]; rfl, HG2.out⟩
      | true =>
        by_cases hp : t.price < 0
        · have HF : Hid (r = 3) := Lib.hid (by rw [HR2.out, if_neg (by simp), if_pos (.inl hp)])
          go_wp2_with fail
          go_ret
          exact ⟨by rw [HF.out]; rfl, HG2.out⟩
        · by_cases hq : t.price > 1000000000000
          · have HF : Hid (r = 3) := Lib.hid (by rw [HR2.out, if_neg (by simp), if_pos (.inr hq)])
            have hpd : decide (t.price < 0) = false := decide_eq_false hp
            go_wp2_with fail
            go_ret
            exact ⟨by rw [HF.out]; rfl, HG2.out⟩
          · have HF : Hid (r = 0) := Lib.hid (by rw [HR2.out, if_neg (by simp), if_neg (by omega)])
            have hpd : decide (t.price < 0) = false := decide_eq_false hp
            go_wp2_with fail
            go_ret
            exact ⟨by rw [HF.out]; rfl, HG2.out⟩
def belowE (M : ByteArray → Option Acct) (a : Acct) (n : Nat) : Int :=
  if a.f1.toList = [] then 0 else firstE [⟨!(M a.f1).isSome, 28⟩, ⟨decide (((M a.f1).getD za).f2 ≠ a.f2), 10⟩, ⟨((M a.f1).getD za).f3, 12⟩, ⟨circR M a.f0 n (par M a.f0), 24⟩]
set_option maxHeartbeats 8000000 in
set_option maxRecDepth 100000 in
theorem go_below (a : Acct) (hs : Sized a) (A : Option Addr) (c g L : Nat) (M : ByteArray → Option Acct) (w : World) (hCh : ChartAt w g L M) (hL1 : L ≤ 1000000) (hM : ∀ x a, M x = some a → a.f1.size ≤ maxLen) :
    Calls Try.prog 45 #[.pointer (some ⟨g, 0, none⟩), .agg #[.string a.f0, .string a.f1, .int .i64 a.f2, .bool a.f3, .string a.f4, .bool a.f5, .bool a.f6, .slice A a.f7.length c]] w fun e w' => (∃ n, n ≤ L ∧ e = .returned (.int .i64 (belowE M a n))) ∧ Below w.heap.size w w' := by
  obtain ⟨n, hn⟩ : ∃ n, a.f7.length = n := ⟨_, rfl⟩
  rw [hn]
  clear hn
  have gr1 : Below w.heap.size w (w.alloc (.cells #[.string a.f0, .string a.f1, .int .i64 a.f2, .bool a.f3, .string a.f4, .bool a.f5, .bool a.f6, .slice A n c] 62)) := (Below.refl _ _).alloc (Nat.le_refl _) _
  have h3 := (Go.MapKept.heap_alloc w (.cells #[.string a.f0, .string a.f1, .int .i64 a.f2, .bool a.f3, .string a.f4, .bool a.f5, .bool a.f6, .slice A n c] 62)).1
  have HCH := Lib.hid hCh; have HSZ := Lib.hid hs; have HMM := Lib.hid hM
  by_cases he : a.f1.toList = []
  · have heb : (a.f1.toList == []) = true := by rw [he]; rfl
    have HF : Hid (belowE M a 0 = 0) := Lib.hid (by unfold belowE; rw [if_pos he])
    clear he hCh hs hM
    go_enter Try.func45, Try.ntmps45
    go_wp2
    refine bodyPost_ret (v := .int .i64 0) (by simp [results, Try.results45, go_sem]) rfl ?_
    exact ⟨⟨0, Nat.zero_le _, by rw [HF.out]⟩, gr1⟩
  · have heb : (a.f1.toList == []) = false := beq_eq_false_iff_ne.mpr he
    obtain ⟨m1, Au, cu, hCu, hlu, hL⟩ := hCh.look a.f1 (Nat.le_trans hs.2.1 (by unfold maxLen; omega))
    have HF := Lib.hid (show ∀ n, belowE M a n = firstE [⟨!(M a.f1).isSome, 28⟩, ⟨decide (((M a.f1).getD za).f2 ≠ a.f2), 10⟩, ⟨((M a.f1).getD za).f3, 12⟩, ⟨circR M a.f0 n (par M a.f0), 24⟩] from fun n => by unfold belowE; rw [if_neg he])
    obtain ⟨u, hu⟩ : ∃ u, (M a.f1).getD za = u := ⟨_, rfl⟩
    obtain ⟨ok, hok⟩ : ∃ u, (M a.f1).isSome = u := ⟨_, rfl⟩
    rw [hu, hok] at HF
    simp only [hu, hok] at hL
    unfold acctV at hL
    obtain ⟨nu, hnu⟩ : ∃ q, u.f7.length = q := ⟨_, rfl⟩
    rw [hnu] at hL
    have HL := Lib.hid hL
    clear he hCh hs hM hL hCu hlu hu hok hnu
    go_enter Try.func45, Try.ntmps45
    go_upto_region 3 with fail
    obtain ⟨w1, hw1⟩ : ∃ W, w.alloc (.cells #[.string a.f0, .string a.f1, .int .i64 a.f2, .bool a.f3, .string a.f4, .bool a.f5, .bool a.f6, .slice A n c] 62) = W := ⟨_, rfl⟩
    obtain ⟨z3, ez3⟩ : ∃ z, w.heap.size = z := ⟨_, rfl⟩
    have HZ := Lib.hid ez3
    rw [hw1] at gr1 h3 ⊢
    rw [ez3] at h3 ⊢
    have HG := Lib.hid gr1
    have HS3 := Lib.hid (show ∀ w' : World, Below w1.heap.size w1 w' → w'.cell? ⟨g, 0, none⟩ = some (.map (some m1)) ∧ w'.cell? ⟨z3, 1, none⟩ = some (.string a.f1) ∧ (Instr.lookup 82 (.map (some m1)) (.string a.f1) true).run Try.prog w' = .ok (.tuple #[.agg #[.string u.f0, .string u.f1, .int .i64 u.f2, .bool u.f3, .string u.f4, .bool u.f5, .bool u.f6, .slice Au nu cu], .bool ok]) w' from fun w' gr => by
      have hbb := HG.out.trans (gr.mono HG.out.size)
      exact ⟨(HL.out w' hbb).1, (blk_cell ((gr.block z3 (Array.getElem?_eq_some_iff.mp h3).1).trans h3) 1), (HL.out w' hbb).2.1⟩)
    have gr1 : Below w1.heap.size w1 w1.drew := (Below.refl _ _).drew
    have H3 := Lib.hid h3
    clear hw1 ez3 h3
    refine start_ (n := 13) (S := fun w' => w'.cell? ⟨g, 0, none⟩ = some (.map (some m1)) ∧ w'.cell? ⟨z3, 1, none⟩ = some (.string a.f1) ∧ (Instr.lookup 82 (.map (some m1)) (.string a.f1) true).run Try.prog w' = .ok (.tuple #[.agg #[.string u.f0, .string u.f1, .int .i64 u.f2, .bool u.f3, .string u.f4, .bool u.f5, .bool u.f6, .slice Au nu cu], .bool ok]) w') (ds := []) #[false, false, false, false, false, false, false, false, false, false, false, false, false] (by kernel_rfl) rfl rfl ⟨(HS3.out _ gr1).1, (HS3.out _ gr1).2.1, (HS3.out _ gr1).2.2⟩ (fun hHeld => ?_)
    refine pure_ (i := 0) (N := some 11) (v := ?_) (a' := ?_) #[true, false, false, false, false, false, false, false, false, false, false, false, false] rfl rfl (by kernel_rfl) (fun _ _ _ h => h) (Or.inl ⟨by rfl, ?_⟩) ?_ ?_
    rotate_left
    · intro w'
      go_simp
      with_reducible rfl
    rotate_left
    · simp only [Act.put, pkA, pkZ, pkS, i64_w, i32_w]
      rfl
    refine pure_ (i := 1) (N := some 12) (v := ?_) (a' := ?_) #[true, true, false, false, false, false, false, false, false, false, false, false, false] rfl rfl (by kernel_rfl) (fun _ _ _ h => h) (Or.inl ⟨by rfl, ?_⟩) ?_ ?_
    rotate_left
    · intro w'
      go_simp
      with_reducible rfl
    rotate_left
    · simp only [Act.put, pkA, pkZ, pkS, i64_w, i32_w]
      rfl
    refine pure_ (i := 2) (N := some 13) (v := ?_) (a' := ?_) #[true, true, true, false, false, false, false, false, false, false, false, false, false] rfl rfl (by kernel_rfl) (fun _ _ _ h => h) (Or.inl ⟨by rfl, ?_⟩) ?_ ?_
    rotate_left
    · intro w'
      go_simp
      with_reducible rfl
    rotate_left
    · simp only [Act.put, pkA, pkZ, pkS, i64_w, i32_w]
      rfl
    refine pure_ (i := 4) (N := some 15) (v := ?_) (a' := ?_) #[true, true, true, false, true, false, false, false, false, false, false, false, false] rfl rfl (by kernel_rfl) (fun _ _ _ h => h) (Or.inl ⟨by rfl, ?_⟩) ?_ ?_
    rotate_left
    · intro w'
      go_simp
      with_reducible rfl
    rotate_left
    · simp only [Act.put, pkA, pkZ, pkS, i64_w, i32_w]
      rfl
    refine take_ (i := 3) (N := some 14) (v := ?_) (a' := ?_) #[true, true, true, true, true, false, false, false, false, false, false, false, false] rfl rfl (by kernel_rfl) (fun _ _ _ h => h) (Or.inl ⟨by rfl, ?_⟩) hHeld ?_ ?_
    rotate_left
    · rintro w' ⟨s0, s1, s2⟩
      go_simp
      with_reducible rfl
    rotate_left
    · simp only [Act.put, pkA, pkZ, pkS, i64_w, i32_w]
      rfl
    refine take_ (i := 5) (N := some 16) (v := ?_) (a' := ?_) #[true, true, true, true, true, true, false, false, false, false, false, false, false] rfl rfl (by kernel_rfl) (fun _ _ _ h => h) (Or.inl ⟨by rfl, ?_⟩) hHeld ?_ ?_
    rotate_left
    · rintro w' ⟨s0, s1, s2⟩
      go_simp
      with_reducible rfl
    rotate_left
    · simp only [Act.put, pkA, pkZ, pkS, i64_w, i32_w]
      rfl
    refine take_ (i := 6) (N := some 17) (v := ?_) (a' := ?_) #[true, true, true, true, true, true, true, false, false, false, false, false, false] rfl rfl (by kernel_rfl) (fun _ _ _ h => h) (Or.inl ⟨by rfl, ?_⟩) hHeld ?_ ?_
    rotate_left
    · rintro w' ⟨s0, s1, s2⟩
      go_simp
      with_reducible rfl
    rotate_left
    · simp only [Act.put, pkA, pkZ, pkS, i64_w, i32_w]
      rfl
    refine pure_ (i := 7) (N := some 10) (v := ?_) (a' := ?_) #[true, true, true, true, true, true, true, true, false, false, false, false, false] rfl rfl (by kernel_rfl) (fun _ _ _ h => h) (Or.inl ⟨by rfl, ?_⟩) ?_ ?_
    rotate_left
    · intro w'
      go_simp
      with_reducible rfl
    rotate_left
    · simp only [Act.put, pkA, pkZ, pkS, i64_w, i32_w]
      rfl
    refine pure_ (i := 8) (N := some 18) (v := ?_) (a' := ?_) #[true, true, true, true, true, true, true, true, true, false, false, false, false] rfl rfl (by kernel_rfl) (fun _ _ _ h => h) (Or.inl ⟨by rfl, ?_⟩) ?_ ?_
    rotate_left
    · intro w'
      go_simp
      with_reducible rfl
    rotate_left
    · simp only [Act.put, pkA, pkZ, pkS, i64_w, i32_w]
      rfl
    refine pure_ (i := 9) (N := some 19) (v := ?_) (a' := ?_) #[true, true, true, true, true, true, true, true, true, true, false, false, false] rfl rfl (by kernel_rfl) (fun _ _ _ h => h) (Or.inl ⟨by rfl, ?_⟩) ?_ ?_
    rotate_left
    · intro w'
      go_simp
      with_reducible rfl
    rotate_left
    · simp only [Act.put, pkA, pkZ, pkS, i64_w, i32_w]
      rfl
    refine one_ (i := 10) (N := some 5) #[true, true, true, true, true, true, true, true, true, true, true, false, false] rfl rfl (by kernel_rfl) (by decide) (fun K hK => ?_)
    refine value_ (w1 := ?_) (v := ?_) (by rfl) rfl ?_ ?_
    rotate_left 2
    · go_simp
      constructor
      · rfl
      · rfl
    have gr2 : Below w1.heap.size w1 ((w1.alloc (.cells #[.string ⟨#[]⟩, .string ⟨#[]⟩, .int .i64 0, .bool false, .string ⟨#[]⟩, .bool false, .bool false, .slice none 0 0] 62)).drew) := ((Below.refl _ _).alloc (Nat.le_refl _) _).drew
    have h5 : ((w1.alloc (.cells #[.string ⟨#[]⟩, .string ⟨#[]⟩, .int .i64 0, .bool false, .string ⟨#[]⟩, .bool false, .bool false, .slice none 0 0] 62)).drew).heap[w1.heap.size]? = some (.cells #[.string ⟨#[]⟩, .string ⟨#[]⟩, .int .i64 0, .bool false, .string ⟨#[]⟩, .bool false, .bool false, .slice none 0 0] 62 (0, 0)) := (Go.MapKept.heap_alloc w1 (.cells #[.string ⟨#[]⟩, .string ⟨#[]⟩, .int .i64 0, .bool false, .string ⟨#[]⟩, .bool false, .bool false, .slice none 0 0] 62)).1
    obtain ⟨z5, ez5⟩ : ∃ z, w1.heap.size = z := ⟨_, rfl⟩
    have HZ5 := Lib.hid (show w1.heap.size ≤ z5 from Nat.le_of_eq ez5)
    rw [ez5] at h5 ⊢
    obtain ⟨w2, hw2⟩ : ∃ W, ((w1.alloc (.cells #[.string ⟨#[]⟩, .string ⟨#[]⟩, .int .i64 0, .bool false, .string ⟨#[]⟩, .bool false, .bool false, .slice none 0 0] 62)).drew) = W := ⟨_, rfl⟩
    rw [hw2] at gr2 h5 ⊢
    clear hw2 ez5
    refine hK.out _ _ ⟨(HS3.out _ gr2).1, (HS3.out _ gr2).2.1, (HS3.out _ gr2).2.2⟩ (fun hHeld => ?_)
    clear hK K
    refine norm_ (a' := ?_) ?_ ?_
    rotate_left
    · show Act.put _ (some 5) _ = _
      simp only [Act.put, pkA, pkZ, pkS, i64_w, i32_w]
      rfl
    refine one_ (i := 11) (N := none) #[true, true, true, true, true, true, true, true, true, true, true, true, false] rfl rfl (by kernel_rfl) (by decide) (fun K hK => ?_)
    have e5_0 : w2.cell? ⟨z5, 0, none⟩ = some (.string ⟨#[]⟩) := blk_cell h5 0
    have e5_1 : w2.cell? ⟨z5, 1, none⟩ = some (.string ⟨#[]⟩) := blk_cell h5 1
    have e5_2 : w2.cell? ⟨z5, 2, none⟩ = some (.int .i64 0) := blk_cell h5 2
    have e5_3 : w2.cell? ⟨z5, 3, none⟩ = some (.bool false) := blk_cell h5 3
    have e5_4 : w2.cell? ⟨z5, 4, none⟩ = some (.string ⟨#[]⟩) := blk_cell h5 4
    have e5_5 : w2.cell? ⟨z5, 5, none⟩ = some (.bool false) := blk_cell h5 5
    have e5_6 : w2.cell? ⟨z5, 6, none⟩ = some (.bool false) := blk_cell h5 6
    have e5_7 : w2.cell? ⟨z5, 7, none⟩ = some (.slice none 0 0) := blk_cell h5 7
    have f5_0 : w2.frozen? ⟨z5, 0, none⟩ = false := blk_frozen h5 0
    have f5_1 : w2.frozen? ⟨z5, 1, none⟩ = false := blk_frozen h5 1
    have f5_2 : w2.frozen? ⟨z5, 2, none⟩ = false := blk_frozen h5 2
    have f5_3 : w2.frozen? ⟨z5, 3, none⟩ = false := blk_frozen h5 3
    have f5_4 : w2.frozen? ⟨z5, 4, none⟩ = false := blk_frozen h5 4
    have f5_5 : w2.frozen? ⟨z5, 5, none⟩ = false := blk_frozen h5 5
    have f5_6 : w2.frozen? ⟨z5, 6, none⟩ = false := blk_frozen h5 6
    have f5_7 : w2.frozen? ⟨z5, 7, none⟩ = false := blk_frozen h5 7
    refine skip_ (w1 := ?_) (by rfl) rfl ?_ ?_
    rotate_left
    · go_simp
      rfl
    have h6 : ((((((((w2.setCell ⟨z5, 0, none⟩ (.string u.f0)).setCell ⟨z5, 1, none⟩ (.string u.f1)).setCell ⟨z5, 2, none⟩ (.int .i64 u.f2)).setCell ⟨z5, 3, none⟩ (.bool u.f3)).setCell ⟨z5, 4, none⟩ (.string u.f4)).setCell ⟨z5, 5, none⟩ (.bool u.f5)).setCell ⟨z5, 6, none⟩ (.bool u.f6)).setCell ⟨z5, 7, none⟩ (.slice Au nu cu)).heap[z5]? = some (.cells #[.string u.f0, .string u.f1, .int .i64 u.f2, .bool u.f3, .string u.f4, .bool u.f5, .bool u.f6, .slice Au nu cu] 62 (0, 0)) := (blk_set (blk_set (blk_set (blk_set (blk_set (blk_set (blk_set (blk_set h5 0 (.string u.f0)) 1 (.string u.f1)) 2 (.int .i64 u.f2)) 3 (.bool u.f3)) 4 (.string u.f4)) 5 (.bool u.f5)) 6 (.bool u.f6)) 7 (.slice Au nu cu))
    have gr3 : Below w1.heap.size w1 ((((((((w2.setCell ⟨z5, 0, none⟩ (.string u.f0)).setCell ⟨z5, 1, none⟩ (.string u.f1)).setCell ⟨z5, 2, none⟩ (.int .i64 u.f2)).setCell ⟨z5, 3, none⟩ (.bool u.f3)).setCell ⟨z5, 4, none⟩ (.string u.f4)).setCell ⟨z5, 5, none⟩ (.bool u.f5)).setCell ⟨z5, 6, none⟩ (.bool u.f6)).setCell ⟨z5, 7, none⟩ (.slice Au nu cu)) := ((((((((gr2.setCell (p := ⟨z5, 0, none⟩) HZ5.out _).setCell (p := ⟨z5, 1, none⟩) HZ5.out _).setCell (p := ⟨z5, 2, none⟩) HZ5.out _).setCell (p := ⟨z5, 3, none⟩) HZ5.out _).setCell (p := ⟨z5, 4, none⟩) HZ5.out _).setCell (p := ⟨z5, 5, none⟩) HZ5.out _).setCell (p := ⟨z5, 6, none⟩) HZ5.out _).setCell (p := ⟨z5, 7, none⟩) HZ5.out _)
    obtain ⟨w3, hw3⟩ : ∃ W, ((((((((w2.setCell ⟨z5, 0, none⟩ (.string u.f0)).setCell ⟨z5, 1, none⟩ (.string u.f1)).setCell ⟨z5, 2, none⟩ (.int .i64 u.f2)).setCell ⟨z5, 3, none⟩ (.bool u.f3)).setCell ⟨z5, 4, none⟩ (.string u.f4)).setCell ⟨z5, 5, none⟩ (.bool u.f5)).setCell ⟨z5, 6, none⟩ (.bool u.f6)).setCell ⟨z5, 7, none⟩ (.slice Au nu cu)) = W := ⟨_, rfl⟩
    rw [hw3] at h6 gr3 ⊢
    clear hw3 e5_0 f5_0 e5_1 f5_1 e5_2 f5_2 e5_3 f5_3 e5_4 f5_4 e5_5 f5_5 e5_6 f5_6 e5_7 f5_7
    refine hK.out _ _ ⟨(HS3.out _ gr3).1, (HS3.out _ gr3).2.1, (HS3.out _ gr3).2.2⟩ (fun hHeld => ?_)
    clear hK K
    refine pure_ (i := 12) (N := some 6) (v := ?_) (a' := ?_) #[true, true, true, true, true, true, true, true, true, true, true, true, true] rfl rfl (by kernel_rfl) (fun _ _ _ h => h) (Or.inl ⟨by rfl, ?_⟩) ?_ ?_
    rotate_left
    · intro w'
      go_simp
      with_reducible rfl
    rotate_left
    · simp only [Act.put, pkA, pkZ, pkS, i64_w, i32_w]
      rfl
    refine done_ (by kernel_rfl) ?_
    clear hHeld
    have HG3 := Lib.hid (HG.out.trans (gr3.mono HG.out.size))
    have h36 : w3.heap[z3]? = some (.cells #[.string a.f0, .string a.f1, .int .i64 a.f2, .bool a.f3, .string a.f4, .bool a.f5, .bool a.f6, .slice A n c] 62 (0, 0)) := (gr3.block z3 (Array.getElem?_eq_some_iff.mp H3.out).1).trans H3.out
    have HS4 := Lib.hid (show ∀ w' : World, Below w3.heap.size w3 w' → w'.cell? ⟨z5, 2, none⟩ = some (.int .i64 u.f2) ∧ w'.cell? ⟨z5, 3, none⟩ = some (.bool u.f3) ∧ w'.cell? ⟨z3, 0, none⟩ = some (.string a.f0) ∧ w'.cell? ⟨z3, 2, none⟩ = some (.int .i64 a.f2) from fun w' gr => by
      have q5 := (gr.block z5 (Array.getElem?_eq_some_iff.mp h6).1).trans h6
      have q3 := (gr.block z3 (Array.getElem?_eq_some_iff.mp h36).1).trans h36
      exact ⟨blk_cell q5 2, blk_cell q5 3, blk_cell q3 0, blk_cell q3 2⟩)
    have HCI := Lib.hid (fun (W : World) (hW : Below w3.heap.size w3 W) => go_circular a.f0 (Nat.le_trans HSZ.out.1 (by unfold maxLen; omega)) g L M W ((HCH.out.below HG3.out).below hW) hL1 HMM.out)
    clear gr3 gr2 h5 h6 h36 gr1
    go_upto_region 4 with fail
    have gr4 : Below w3.heap.size w3 w3.drew := (Below.refl _ _).drew
    refine start_ (n := 20) (S := fun w' => w'.cell? ⟨z5, 2, none⟩ = some (.int .i64 u.f2) ∧ w'.cell? ⟨z5, 3, none⟩ = some (.bool u.f3) ∧ w'.cell? ⟨z3, 0, none⟩ = some (.string a.f0) ∧ w'.cell? ⟨z3, 2, none⟩ = some (.int .i64 a.f2)) (ds := []) #[false, false, false, false, false, false, false, false, false, false, false, false, false, false, false, false, false, false, false, false] (by kernel_rfl) rfl rfl ⟨(HS4.out _ gr4).1, (HS4.out _ gr4).2.1, (HS4.out _ gr4).2.2.1, (HS4.out _ gr4).2.2.2⟩ (fun hHeld => ?_)
    refine pure_ (i := 0) (N := some 20) (v := ?_) (a' := ?_) #[true, false, false, false, false, false, false, false, false, false, false, false, false, false, false, false, false, false, false, false] rfl rfl (by kernel_rfl) (fun _ _ _ h => h) (Or.inl ⟨by rfl, ?_⟩) ?_ ?_
    rotate_left
    · intro w'
      go_simp
      with_reducible rfl
    rotate_left
    · simp only [Act.put, pkA, pkZ, pkS, i64_w, i32_w]
      rfl
    refine pure_ (i := 1) (N := some 21) (v := ?_) (a' := ?_) #[true, true, false, false, false, false, false, false, false, false, false, false, false, false, false, false, false, false, false, false] rfl rfl (by kernel_rfl) (fun _ _ _ h => h) (Or.inl ⟨by rfl, ?_⟩) ?_ ?_
    rotate_left
    · intro w'
      go_simp
      with_reducible rfl
    rotate_left
    · simp only [Act.put, pkA, pkZ, pkS, i64_w, i32_w]
      rfl
    refine pure_ (i := 2) (N := some 22) (v := ?_) (a' := ?_) #[true, true, true, false, false, false, false, false, false, false, false, false, false, false, false, false, false, false, false, false] rfl rfl (by kernel_rfl) (fun _ _ _ h => h) (Or.inl ⟨by rfl, ?_⟩) ?_ ?_
    rotate_left
    · intro w'
      go_simp
      with_reducible rfl
    rotate_left
    · simp only [Act.put, pkA, pkZ, pkS, i64_w, i32_w]
      rfl
    refine pure_ (i := 3) (N := some 23) (v := ?_) (a' := ?_) #[true, true, true, true, false, false, false, false, false, false, false, false, false, false, false, false, false, false, false, false] rfl rfl (by kernel_rfl) (fun _ _ _ h => h) (Or.inl ⟨by rfl, ?_⟩) ?_ ?_
    rotate_left
    · intro w'
      go_simp
      with_reducible rfl
    rotate_left
    · simp only [Act.put, pkA, pkZ, pkS, i64_w, i32_w]
      rfl
    refine pure_ (i := 5) (N := some 25) (v := ?_) (a' := ?_) #[true, true, true, true, false, true, false, false, false, false, false, false, false, false, false, false, false, false, false, false] rfl rfl (by kernel_rfl) (fun _ _ _ h => h) (Or.inl ⟨by rfl, ?_⟩) ?_ ?_
    rotate_left
    · intro w'
      go_simp
      with_reducible rfl
    rotate_left
    · simp only [Act.put, pkA, pkZ, pkS, i64_w, i32_w]
      rfl
    refine pure_ (i := 9) (N := some 29) (v := ?_) (a' := ?_) #[true, true, true, true, false, true, false, false, false, true, false, false, false, false, false, false, false, false, false, false] rfl rfl (by kernel_rfl) (fun _ _ _ h => h) (Or.inl ⟨by rfl, ?_⟩) ?_ ?_
    rotate_left
    · intro w'
      go_simp
      with_reducible rfl
    rotate_left
    · simp only [Act.put, pkA, pkZ, pkS, i64_w, i32_w]
      rfl
    refine pure_ (i := 12) (N := some 32) (v := ?_) (a' := ?_) #[true, true, true, true, false, true, false, false, false, true, false, false, true, false, false, false, false, false, false, false] rfl rfl (by kernel_rfl) (fun _ _ _ h => h) (Or.inl ⟨by rfl, ?_⟩) ?_ ?_
    rotate_left
    · intro w'
      go_simp
      with_reducible rfl
    rotate_left
    · simp only [Act.put, pkA, pkZ, pkS, i64_w, i32_w]
      rfl
    refine pure_ (i := 13) (N := some 33) (v := ?_) (a' := ?_) #[true, true, true, true, false, true, false, false, false, true, false, false, true, true, false, false, false, false, false, false] rfl rfl (by kernel_rfl) (fun _ _ _ h => h) (Or.inl ⟨by rfl, ?_⟩) ?_ ?_
    rotate_left
    · intro w'
      go_simp
      with_reducible rfl
    rotate_left
    · simp only [Act.put, pkA, pkZ, pkS, i64_w, i32_w]
      rfl
    refine take_ (i := 4) (N := some 24) (v := ?_) (a' := ?_) #[true, true, true, true, true, true, false, false, false, true, false, false, true, true, false, false, false, false, false, false] rfl rfl (by kernel_rfl) (fun _ _ _ h => h) (Or.inl ⟨by rfl, ?_⟩) hHeld ?_ ?_
    rotate_left
    · rintro w' ⟨s0, s1, s2, s3⟩
      go_simp
      with_reducible rfl
    rotate_left
    · simp only [Act.put, pkA, pkZ, pkS, i64_w, i32_w]
      rfl
    refine take_ (i := 6) (N := some 26) (v := ?_) (a' := ?_) #[true, true, true, true, true, true, true, false, false, true, false, false, true, true, false, false, false, false, false, false] rfl rfl (by kernel_rfl) (fun _ _ _ h => h) (Or.inl ⟨by rfl, ?_⟩) hHeld ?_ ?_
    rotate_left
    · rintro w' ⟨s0, s1, s2, s3⟩
      go_simp
      with_reducible rfl
    rotate_left
    · simp only [Act.put, pkA, pkZ, pkS, i64_w, i32_w]
      rfl
    refine pure_ (i := 7) (N := some 27) (v := ?_) (a' := ?_) #[true, true, true, true, true, true, true, true, false, true, false, false, true, true, false, false, false, false, false, false] rfl rfl (by kernel_rfl) (fun _ _ _ h => h) (Or.inl ⟨by rfl, ?_⟩) ?_ ?_
    rotate_left
    · intro w'
      go_simp
      with_reducible rfl
    rotate_left
    · simp only [Act.put, pkA, pkZ, pkS, i64_w, i32_w]
      rfl
    refine pure_ (i := 8) (N := some 28) (v := ?_) (a' := ?_) #[true, true, true, true, true, true, true, true, true, true, false, false, true, true, false, false, false, false, false, false] rfl rfl (by kernel_rfl) (fun _ _ _ h => h) (Or.inl ⟨by rfl, ?_⟩) ?_ ?_
    rotate_left
    · intro w'
      go_simp
      with_reducible rfl
    rotate_left
    · simp only [Act.put, pkA, pkZ, pkS, i64_w, i32_w]
      rfl
    refine take_ (i := 10) (N := some 30) (v := ?_) (a' := ?_) #[true, true, true, true, true, true, true, true, true, true, true, false, true, true, false, false, false, false, false, false] rfl rfl (by kernel_rfl) (fun _ _ _ h => h) (Or.inl ⟨by rfl, ?_⟩) hHeld ?_ ?_
    rotate_left
    · rintro w' ⟨s0, s1, s2, s3⟩
      go_simp
      with_reducible rfl
    rotate_left
    · simp only [Act.put, pkA, pkZ, pkS, i64_w, i32_w]
      rfl
    refine pure_ (i := 11) (N := some 31) (v := ?_) (a' := ?_) #[true, true, true, true, true, true, true, true, true, true, true, true, true, true, false, false, false, false, false, false] rfl rfl (by kernel_rfl) (fun _ _ _ h => h) (Or.inl ⟨by rfl, ?_⟩) ?_ ?_
    rotate_left
    · intro w'
      go_simp
      with_reducible rfl
    rotate_left
    · simp only [Act.put, pkA, pkZ, pkS, i64_w, i32_w]
      rfl
    refine take_ (i := 14) (N := some 34) (v := ?_) (a' := ?_) #[true, true, true, true, true, true, true, true, true, true, true, true, true, true, true, false, false, false, false, false] rfl rfl (by kernel_rfl) (fun _ _ _ h => h) (Or.inl ⟨by rfl, ?_⟩) hHeld ?_ ?_
    rotate_left
    · rintro w' ⟨s0, s1, s2, s3⟩
      go_simp
      with_reducible rfl
    rotate_left
    · simp only [Act.put, pkA, pkZ, pkS, i64_w, i32_w]
      rfl
    refine one_ (i := 15) (N := some 35) #[true, true, true, true, true, true, true, true, true, true, true, true, true, true, true, true, false, false, false, false] rfl rfl (by kernel_rfl) (by decide) (fun K hK => ?_)
    refine goes_ Try.func75 (by kernel_rfl) rfl #[.pointer (some ⟨g, 0, none⟩), .string a.f0] (by rfl) rfl rfl (by simp only [List.map_toArray, List.map_cons, List.map_nil]; rfl) ?_
    refine (HCI.out _ gr4).mono ?_
    rintro e v15 ⟨⟨nc, hnc, rfl⟩, hb15⟩
    refine ⟨_, rfl, ?_⟩
    have gr5 := gr4.trans (hb15.mono gr4.size)
    obtain ⟨ci, hci⟩ : ∃ q, circR M a.f0 nc (par M a.f0) = q := ⟨_, rfl⟩
    have HCR := Lib.hid hci
    rw [hci]
    clear hci
    refine hK.out _ _ ⟨(HS4.out _ gr5).1, (HS4.out _ gr5).2.1, (HS4.out _ gr5).2.2.1, (HS4.out _ gr5).2.2.2⟩ (fun hHeld => ?_)
    clear hK K
    refine norm_ (a' := ?_) ?_ ?_
    rotate_left
    · show Act.put _ (some 35) _ = _
      simp only [Act.put, pkA, pkZ, pkS, i64_w, i32_w]
      rfl
    refine pure_ (i := 16) (N := some 36) (v := ?_) (a' := ?_) #[true, true, true, true, true, true, true, true, true, true, true, true, true, true, true, true, true, false, false, false] rfl rfl (by kernel_rfl) (fun _ _ _ h => h) (Or.inl ⟨by rfl, ?_⟩) ?_ ?_
    rotate_left
    · intro w'
      go_simp
      with_reducible rfl
    rotate_left
    · simp only [Act.put, pkA, pkZ, pkS, i64_w, i32_w]
      rfl
    refine one_ (i := 17) (N := some 37) #[true, true, true, true, true, true, true, true, true, true, true, true, true, true, true, true, true, true, false, false] rfl rfl (by kernel_rfl) (by decide) (fun K hK => ?_)
    refine value_ (w1 := ?_) (v := ?_) (by rfl) rfl ?_ ?_
    rotate_left 2
    · go_simp
      constructor
      · rfl
      · rfl
    have gr6 : Below w3.heap.size w3 (v15.alloc (.cells #[.bool (!ok), .int .i64 28, .bool (u.f2 != a.f2), .int .i64 10, .bool u.f3, .int .i64 12, .bool ci, .int .i64 24] 114)) := gr5.alloc gr5.size _
    have h9 := (Go.MapKept.heap_alloc v15 (.cells #[.bool (!ok), .int .i64 28, .bool (u.f2 != a.f2), .int .i64 10, .bool u.f3, .int .i64 12, .bool ci, .int .i64 24] 114)).1
    obtain ⟨z9, hz9⟩ : ∃ z, v15.heap.size = z := ⟨_, rfl⟩
    rw [hz9] at h9 ⊢
    obtain ⟨v17, hv17⟩ : ∃ W, v15.alloc (.cells #[.bool (!ok), .int .i64 28, .bool (u.f2 != a.f2), .int .i64 10, .bool u.f3, .int .i64 12, .bool ci, .int .i64 24] 114) = W := ⟨_, rfl⟩
    rw [hv17] at gr6 h9 ⊢
    clear hv17 hz9
    refine hK.out _ _ ⟨(HS4.out _ gr6).1, (HS4.out _ gr6).2.1, (HS4.out _ gr6).2.2.1, (HS4.out _ gr6).2.2.2⟩ (fun hHeld => ?_)
    clear hK K
    refine norm_ (a' := ?_) ?_ ?_
    rotate_left
    · show Act.put _ (some 37) _ = _
      simp only [Act.put, pkA, pkZ, pkS, i64_w, i32_w]
      rfl
    refine one_ (i := 18) (N := some 38) #[true, true, true, true, true, true, true, true, true, true, true, true, true, true, true, true, true, true, true, false] rfl rfl (by kernel_rfl) (by decide) (fun K hK => ?_)
    refine goes_ Try.func71 (by kernel_rfl) rfl #[.slice (some ⟨z9, 0, none⟩) 4 4] (by rfl) rfl rfl (by simp only [List.map_toArray, List.map_cons, List.map_nil]; rfl) ?_
    refine (go_first [⟨!ok, 28⟩, ⟨u.f2 != a.f2, 10⟩, ⟨u.f3, 12⟩, ⟨ci, 24⟩] (by simp) z9 4 (Nat.le_refl _) _ _ h9).mono ?_
    rintro e v18 ⟨rfl, hb18⟩
    refine ⟨_, rfl, ?_⟩
    have gr7 := gr6.trans (hb18.mono gr6.size)
    refine hK.out _ _ ⟨(HS4.out _ gr7).1, (HS4.out _ gr7).2.1, (HS4.out _ gr7).2.2.1, (HS4.out _ gr7).2.2.2⟩ (fun hHeld => ?_)
    clear hK K
    refine norm_ (a' := ?_) ?_ ?_
    rotate_left
    · show Act.put _ (some 38) _ = _
      simp only [Act.put, pkA, pkZ, pkS, i64_w, i32_w]
      rfl
    refine pure_ (i := 19) (N := some 4) (v := ?_) (a' := ?_) #[true, true, true, true, true, true, true, true, true, true, true, true, true, true, true, true, true, true, true, true] rfl rfl (by kernel_rfl) (fun _ _ _ h => h) (Or.inl ⟨by rfl, ?_⟩) ?_ ?_
    rotate_left
    · intro w'
      go_simp
      with_reducible rfl
    rotate_left
    · simp only [Act.put, pkA, pkZ, pkS, i64_w, i32_w]
      rfl
    refine done_ (by kernel_rfl) ?_
    clear hHeld
    have HFN : Hid (belowE M a nc = firstE [⟨!ok, 28⟩, ⟨u.f2 != a.f2, 10⟩, ⟨u.f3, 12⟩, ⟨ci, 24⟩]) := Lib.hid (by
      rw [HF.out, HCR.out]
      congr 3
      by_cases hq : u.f2 = a.f2
      · simp [hq]
      · simp [hq])
    have HB := Lib.hid (HG3.out.trans (gr7.mono HG3.out.size))
    obtain ⟨wf, hwf⟩ : ∃ W, v18 = W := ⟨_, rfl⟩
    rw [hwf] at HB ⊢
    clear gr7 gr6 gr5 gr4 hwf hb18 h9
    obtain ⟨rr, hrr⟩ : ∃ q, firstE [⟨!ok, 28⟩, ⟨u.f2 != a.f2, 10⟩, ⟨u.f3, 12⟩, ⟨ci, 24⟩] = q := ⟨_, rfl⟩
    rw [hrr] at HFN ⊢
    clear hrr
    go_wp2
    refine bodyPost_ret (v := .int .i64 rr) (by simp [results, Try.results45, go_sem]) rfl ?_
    exact ⟨⟨nc, hnc, by rw [HFN.out]⟩, HB.out⟩
end Go.Proofs.Ytdlilbleohlmnaa.PAq
namespace Go.Proofs
open Go.Shelf
def Try.svSortS_ren : Go.Shelf.Ren := ⟨fun | 190 => 76 | 125 => 93 | 258 => 92 | 128 => 105 | 129 => 106 | 302 => 96 | 303 => 97 | 304 => 98 | 305 => 99 | 306 => 100 | 307 => 101 | 308 => 102 | 309 => 103 | 310 => 104 | 333 => 109 | 329 => 110 | 330 => 111 | 334 => 112 | 335 => 113 | 336 => 114 | 344 => 116 | n => n, fun | 31 => 48 | 9 => 9 | 3 => 3 | 46 => 126 | 0 => 0 | 51 => 142 | 53 => 78 | 4 => 4 | 183 => 135 | 182 => 134 | 131 => 72 | 5 => 5 | 218 => 146 | 222 => 150 | 228 => 152 | 229 => 53 | n => n, fun | n => n⟩
theorem Try.svSortS : Go.Proofs.Lays.n190 Try.prog Try.svSortS_ren := {
  mixed := by kernel_rfl
  f125 := Try.func93.trans (congrArg some (by kernel_rfl))
  f128 := Try.func105.trans (congrArg some (by kernel_rfl))
  f129 := Try.func106.trans (congrArg some (by kernel_rfl))
  f190 := Try.func76.trans (congrArg some (by kernel_rfl))
  f258 := Try.func92.trans (congrArg some (by kernel_rfl))
  f302 := Try.func96.trans (congrArg some (by kernel_rfl))
  f303 := Try.func97.trans (congrArg some (by kernel_rfl))
  f304 := Try.func98.trans (congrArg some (by kernel_rfl))
  f305 := Try.func99.trans (congrArg some (by kernel_rfl))
  f306 := Try.func100.trans (congrArg some (by kernel_rfl))
  f307 := Try.func101.trans (congrArg some (by kernel_rfl))
  f308 := Try.func102.trans (congrArg some (by kernel_rfl))
  f309 := Try.func103.trans (congrArg some (by kernel_rfl))
  f310 := Try.func104.trans (congrArg some (by kernel_rfl))
  f329 := Try.func110.trans (congrArg some (by kernel_rfl))
  f330 := Try.func111.trans (congrArg some (by kernel_rfl))
  f333 := Try.func109.trans (congrArg some (by kernel_rfl))
  f334 := Try.func112.trans (congrArg some (by kernel_rfl))
  f335 := Try.func113.trans (congrArg some (by kernel_rfl))
  f336 := Try.func114.trans (congrArg some (by kernel_rfl))
  f344 := Try.func116.trans (congrArg some (by kernel_rfl))
  t0 := Try.underlying0
  a0 := Try.isAgg0
  z0 := Try.sizeOf0
  v0 := Try.zeroValue0
  t3 := Try.underlying3
  a3 := Try.isAgg3
  z3 := Try.sizeOf3
  v3 := Try.zeroValue3
  t4 := Try.underlying4
  a4 := Try.isAgg4
  z4 := Try.sizeOf4
  v4 := Try.zeroValue4
  t5 := Try.underlying5
  a5 := Try.isAgg5
  z5 := Try.sizeOf5
  v5 := Try.zeroValue5
  t9 := Try.underlying9
  a9 := Try.isAgg9
  z9 := Try.sizeOf9
  v9 := Try.zeroValue9
  t31 := Try.underlying48
  a31 := Try.isAgg48
  z31 := Try.sizeOf48
  v31 := Try.zeroValue48
  t46 := Try.underlying126
  a46 := Try.isAgg126
  z46 := Try.sizeOf126
  v46 := Try.zeroValue126
  t51 := Try.underlying142
  a51 := Try.isAgg142
  z51 := Try.sizeOf142
  v51 := Try.zeroValue142
  t53 := Try.underlying78
  a53 := Try.isAgg78
  z53 := Try.sizeOf78
  v53 := Try.zeroValue78
  t131 := Try.underlying72
  a131 := Try.isAgg72
  z131 := Try.sizeOf72
  v131 := Try.zeroValue72
  t182 := Try.underlying134
  a182 := Try.isAgg134
  z182 := Try.sizeOf134
  v182 := Try.zeroValue134
  t183 := Try.underlying135
  a183 := Try.isAgg135
  z183 := Try.sizeOf135
  v183 := Try.zeroValue135
  t218 := Try.underlying146
  a218 := Try.isAgg146
  z218 := Try.sizeOf146
  v218 := Try.zeroValue146
  t222 := Try.underlying150
  a222 := Try.isAgg150
  z222 := Try.sizeOf150
  v222 := Try.zeroValue150
  t228 := Try.underlying152
  a228 := Try.isAgg152
  z228 := Try.sizeOf152
  v228 := Try.zeroValue152
  t229 := Try.underlying53
  a229 := Try.isAgg53
  z229 := Try.sizeOf53
  v229 := Try.zeroValue53 }
end Go.Proofs
namespace Go.Proofs.Ytdlilbleohlmnaa.PAq
open Go.RowKit Go.Lib Go.Sort Go.Proofs.YtdlilbleohlmnaaW.PrintWords Go.Proofs.YtdlilbleohlmnaaW.PrintLast
structure SA (w0 w : World) (g m1 m2 : Nat) (vC : Value) (codes : List ByteArray) : Prop where
  blk : w.heap[g]? = some (.cells #[.map (some m1), .map (some m2), vC] 85 (0, 0))
  cr : w.ownsRow w0.heap.size 9 1 vC codes.length (strs codes)
  keep : ∀ k, k < w0.heap.size → k ≠ g → w.heap[k]? = w0.heap[k]?
  os : w.os = w0.os
  tape : w.tape = w0.tape
  output : w.output = w0.output
  size : w0.heap.size ≤ w.heap.size
variable {w0 w w1 : World} {g m1 m2 : Nat} {vC : Value} {codes : List ByteArray}
theorem SA.below (h : SA w0 w g m1 m2 vC codes) (hb : Below w.heap.size w w1) : SA w0 w1 g m1 m2 vC codes where
  blk := (hb.block g (Array.getElem?_eq_some_iff.mp h.blk).1).trans h.blk
  cr := pw_own_below h.cr hb
  keep k hk hg := (hb.block k (Nat.lt_of_lt_of_le hk h.size)).trans (h.keep k hk hg)
  os := hb.os.trans h.os
  tape := hb.tape.trans h.tape
  output := hb.output.trans h.output
  size := Nat.le_trans h.size hb.size
theorem SA.grown (h : SA w0 w g m1 m2 vC codes) (hg : w.grownBy w1 vC.ownBlock) {v' : Value} {codes' : List ByteArray} (hcr : w1.ownsRow w0.heap.size 9 1 v' codes'.length (strs codes')) (hgl : g < w0.heap.size) : SA w0 (w1.setCell ⟨g, 2, none⟩ v') g m1 m2 v' codes' := by
  have hvn : ∀ k, k < w0.heap.size → some k ≠ vC.ownBlock := fun k hk e => by
    rcases h.cr.2 with ⟨hv, _⟩ | ⟨b, cap, cur, hv, hb, _⟩
    · rw [hv] at e; cases e
    · rw [hv] at e; injection e with e; have : k = b := e; omega
  have hb1 : w1.heap[g]? = some (.cells #[.map (some m1), .map (some m2), vC] 85 (0, 0)) := (hg.block g (Nat.lt_of_lt_of_le hgl h.size) (hvn g hgl)).trans h.blk
  refine ⟨blk_set hb1 2 v', own_move hcr (fun b hb => Below.heap_setCell _ _ _ _ (fun e => own_ne_of hcr hb1 (by decide) (by rw [hb, e]))), fun k hk hkg => ?_, hg.os.trans h.os, hg.tape.trans h.tape, hg.output.trans h.output, ?_⟩
  · rw [Below.heap_setCell _ _ _ _ hkg, hg.block k (Nat.lt_of_lt_of_le hk h.size) (hvn k hk)]
    exact h.keep k hk hkg
  · refine Nat.le_trans h.size (Nat.le_trans hg.size ?_)
    simp [World.setCell]
theorem size_of_map {P : Program} {k : TypeId} {w : World} {b : Nat} {M : ByteArray → Option Value} (h : MapAt P k encS w b M) (xs : List ByteArray) (hx : ∀ x, (M x).isSome = true → x ∈ xs) : ∃ es clock, w.heap[b]? = some (.map es clock) ∧ es.size ≤ xs.length := by
  obtain ⟨es, clock, hb, hS, h1, h2⟩ := h
  refine ⟨es, clock, hb, ?_⟩
  have hpw := ((MapKept.stamped_iff es clock).1 hS).2.2
  have hnd : (es.toList.map (fun e => match e.key with | .string s => s | _ => ByteArray.empty)).Nodup := by
    rw [List.Nodup, List.pairwise_map]
    refine List.Pairwise.imp_of_mem ?_ hpw
    intro a b ha hb hne he
    obtain ⟨x, hx1, _⟩ := h1 a ha
    obtain ⟨y, hy1, _⟩ := h1 b hb
    rw [hx1, hy1] at he hne
    have : x = y := he
    exact hne (by rw [this])
  have hsub : ∀ y ∈ es.toList.map (fun e => match e.key with | .string s => s | _ => ByteArray.empty), y ∈ xs := by
    intro y hy
    obtain ⟨e, he, rfl⟩ := List.mem_map.mp hy
    obtain ⟨x, hx1, _, hx2⟩ := h1 e he
    rw [hx1]
    exact hx x (by rw [hx2]; rfl)
  have := List.Nodup.length_le_of_subset hnd hsub
  simpa using this
end Go.Proofs.Ytdlilbleohlmnaa.PAq
namespace Go.Proofs.Ytdlilbleohlmnaa.PAq
open Go.RowKit Go.Lib Go.Sort Go.Proofs.YtdlilbleohlmnaaW.PrintWords
def mkB (s : List UInt8) : ByteArray := ⟨s.toArray⟩
theorem mkB_eq (x : ByteArray) : mkB x.data.toList = x := by
  cases x
  simp [mkB]
theorem encStr_eq (x : ByteArray) : encStr x.data.toList = .string x := by
  show Value.string (mkB x.data.toList) = _
  rw [mkB_eq]
theorem encStr_mk (s : List UInt8) : encStr s = .string (mkB s) := rfl
theorem go_sortS {w : World} {base : Nat} {codes : List ByteArray} {A : Option Addr} {c : Nat} (hown : w.ownsRow base 9 1 (.slice A codes.length c) codes.length (strs codes)) (hbase : base ≤ w.heap.size) (hlen : codes.length ≤ 1000000) :
    Calls Try.prog 76 #[.slice A codes.length c] w fun e w' =>
      e = .returned (.tuple #[]) ∧ ∃ cs : List ByteArray, cs.length = codes.length ∧ (∀ x ∈ cs, x ∈ codes) ∧ w'.ownsRow base 9 1 (.slice A codes.length c) cs.length (strs cs) ∧ Below base w w' ∧ (∀ g, g < w.heap.size → some g ≠ (Value.slice A codes.length c).ownBlock → w'.heap[g]? = w.heap[g]?) := by
  obtain ⟨hl, hr⟩ := hown
  rcases hr with ⟨hv, h0⟩ | ⟨blk, cap, cur, hv, hg, hh, hnc, hcm, hcs, htk⟩
  · have hc : codes = [] := List.eq_nil_of_length_eq_zero h0
    subst hc
    refine (Any.slices_Sort_string_none Try.svSortS A c w).mono ?_
    rintro e w' ⟨rfl, rfl⟩
    exact ⟨rfl, [], rfl, (fun x hx => hx), ⟨rfl, .inl ⟨hv, rfl⟩⟩, Below.refl _ _, fun _ _ _ => rfl⟩
  · injection hv with hA _ hcc
    subst hA hcc
    have hlt : blk < w.heap.size := (Array.getElem?_eq_some_iff.1 hh).1
    have hat : ∀ j, j < codes.length → cur[j]? = some (.string codes[j]!) := fun j hj => by
      have h1 : cur.toList[j]? = (strs codes)[j]? := by rw [← htk, List.getElem?_take, if_pos (by omega)]
      rw [Array.getElem?_toList] at h1
      rw [h1, strs, List.getElem?_map, List.getElem?_eq_getElem hj, getElem!_pos codes j hj]
      rfl
    obtain ⟨ss, hss⟩ : ∃ ss : List (List UInt8), codes.map (fun x => x.data.toList) = ss := ⟨_, rfl⟩
    have hsl : ss.length = codes.length := by rw [← hss, List.length_map]
    have hsj : ∀ j, (h : j < ss.length) → encStr ss[j] = .string codes[j]! := fun j h => by
      have hj : j < codes.length := by omega
      have : ss[j] = codes[j].data.toList := by simp [← hss]
      rw [this, encStr_eq, getElem!_pos codes j hj]
    have hH : Holds encStr w blk 0 ss.toArray := by
      intro j hj
      have hj' : j < ss.length := by simpa using hj
      refine ⟨?_, by simp [World.frozen?, hh]⟩
      rw [Nat.zero_add, blk_cell hh, hat j (by omega), ← hsj j hj', getElem!_pos ss.toArray j hj]
      simp
    have hs := Any.slices_Sort_string Try.svSortS blk 0 c ss w hH hlt (by omega)
    rw [hsl] at hs
    refine hs.mono ?_
    rintro e w' ⟨rfl, n, os, rfl⟩
    obtain ⟨T, hT⟩ : ∃ T, (ss.mergeSort fun x y => decide (x ≤ y)) = T := ⟨_, rfl⟩
    have hTp : T.Perm ss := by rw [← hT]; exact List.mergeSort_perm _ _
    have hTl : T.length = codes.length := by rw [hTp.length_eq, hsl]
    rw [hT]
    have hoth : ∀ g, g < w.heap.size → g ≠ blk → (grow (putRow encStr (Sort.ahead w n) blk 0 T.toArray) os).heap[g]? = w.heap[g]? := fun g hg hne => by
      have hsz : (putRow encStr (Sort.ahead w n) blk 0 T.toArray).heap.size = w.heap.size := by simp [Go.Sort.putRow, mapBlock, Sort.ahead]
      simp only [grow]
      rw [Array.getElem?_append_left (by rw [hsz]; exact hg)]
      simp only [Go.Sort.putRow, mapBlock, Sort.ahead, Array.getElem?_modify]
      rw [if_neg (fun e => hne e.symm)]
    have hsz : (putRow encStr (Sort.ahead w n) blk 0 T.toArray).heap.size = w.heap.size := by simp [Go.Sort.putRow, mapBlock, Sort.ahead]
    have hbk : (grow (putRow encStr (Sort.ahead w n) blk 0 T.toArray) os).heap[blk]? = some (.cells (putCells encStr 0 T.toArray cur) 9 (0, 0)) := by
      simp only [grow]
      rw [Array.getElem?_append_left (by rw [hsz]; exact hlt)]
      simp only [Go.Sort.putRow, mapBlock, Sort.ahead, Array.getElem?_modify, hh]
      simp [onCells]
    refine ⟨rfl, T.map mkB, by rw [List.length_map, hTl], ?_, ?_, ⟨rfl, rfl, rfl, ?_, fun k hk => hoth k (by omega) (by omega)⟩, fun g hg hne => hoth g hg (fun e => hne (by rw [e]; rfl))⟩
    · intro x hx
      obtain ⟨s, hs, rfl⟩ := List.mem_map.mp hx
      have := hTp.mem_iff.mp hs
      rw [← hss] at this
      obtain ⟨y, hy, rfl⟩ := List.mem_map.mp this
      rw [mkB_eq]
      exact hy
    · refine ⟨by simp [strs], .inr ⟨blk, c, putCells encStr 0 T.toArray cur, by rw [List.length_map, hTl], hg, hbk, by rw [List.length_map, hTl]; exact hnc, hcm, by simp [putCells, hcs], ?_⟩⟩
      apply List.ext_getElem?
      intro t
      rw [List.getElem?_take]
      by_cases ht : t < (T.map mkB).length * 1
      · rw [if_pos ht, Array.getElem?_toList]
        have htT : t < T.length := by simpa using ht
        have hc : t < cur.size := by rw [hcs]; omega
        simp only [putCells, Array.getElem?_mapIdx, Array.getElem?_eq_getElem hc, Option.map_some]
        rw [if_pos ⟨Nat.zero_le _, by simpa using htT⟩, Nat.sub_zero, strs, List.map_map, List.getElem?_map, List.getElem?_eq_getElem htT, getElem!_pos T.toArray t (by simpa using htT)]
        simp [encStr_mk]
      · rw [if_neg ht, List.getElem?_eq_none (by simp [strs] at ht ⊢; omega)]
    · simp only [grow]
      rw [Array.size_append, hsz]
      omega
end Go.Proofs.Ytdlilbleohlmnaa.PAq
