/- The walk of the program and the plain laws behind the statements of this seat, part 5. -/
import Derived.Test.YtdlilbleohlmnaaZdd
import Derived.Shelf.SlSortCmp.QuietGrown
import Derived.StillTail
import Derived.Lib.QuietBelow
import Derived.WalkMore
import Derived.Laws.MakeOwn
import Derived.Laws.AppendOwn
set_option linter.all false
namespace Go.Proofs.Ytdlilbleohlmnaa.PAq
open Go.RowKit Go.Lib Go.Sort Go.Proofs.YtdlilbleohlmnaaW.PrintWords Go.Proofs.YtdlilbleohlmnaaW.PrintLast
structure SC (w0 wk w : World) (g m1 m2 : Nat) (vC : Value) (cs : List ByteArray) (U : ByteArray → Value) (K : ByteArray → Option (List ByteArray)) : Prop where
  blk : w.heap[g]? = some (.cells #[.map (some m1), .map (some m2), vC] 85 (0, 0))
  cr : w.ownsRow w0.heap.size 9 1 vC cs.length (strs cs)
  crl : ∀ b, vC.ownBlock = some b → b < wk.heap.size
  kd : MapAt Try.prog 9 encS w m2 (fun x => (K x).map fun _ => U x)
  kr : ∀ x l, K x = some l → l ≠ [] ∧ w.ownsRow wk.heap.size 9 1 (U x) l.length (strs l)
  ks : ∀ x y lx ly, K x = some lx → K y = some ly → (U x).ownBlock = (U y).ownBlock → x = y
  keep : ∀ k, k < w0.heap.size → k ≠ g → k ≠ m2 → w.heap[k]? = w0.heap[k]?
  gl : g < w0.heap.size
  ml : m2 < w0.heap.size
  os : w.os = w0.os
  tape : w.tape = w0.tape
  output : w.output = w0.output
  wks : wk.heap.size ≤ w.heap.size
  w0s : w0.heap.size ≤ wk.heap.size
variable {w0 wk w w1 : World} {g m1 m2 : Nat} {vC : Value} {cs : List ByteArray} {U : ByteArray → Value} {K : ByteArray → Option (List ByteArray)}
theorem SC.below (h : SC w0 wk w g m1 m2 vC cs U K) (hb : Below w.heap.size w w1) : SC w0 wk w1 g m1 m2 vC cs U K where
  blk := (hb.block g (Array.getElem?_eq_some_iff.mp h.blk).1).trans h.blk
  cr := pw_own_below h.cr hb
  crl := h.crl
  kd := h.kd.below hb
  kr x l hx := ⟨(h.kr x l hx).1, pw_own_below (h.kr x l hx).2 hb⟩
  ks := h.ks
  keep k hk h1 h2 := (hb.block k (by have := h.w0s; have := h.wks; omega)).trans (h.keep k hk h1 h2)
  gl := h.gl
  ml := h.ml
  os := hb.os.trans h.os
  tape := hb.tape.trans h.tape
  output := hb.output.trans h.output
  wks := Nat.le_trans h.wks hb.size
  w0s := h.w0s
theorem SC.look (h : SC w0 wk w g m1 m2 vC cs U K) (y : ByteArray) (hy : y.size ≤ maxLen) : ∃ A c, w.ownsRow wk.heap.size 9 1 (.slice A ((K y).getD []).length c) ((K y).getD []).length (strs ((K y).getD [])) ∧ (∀ l, K y = some l → U y = .slice A ((K y).getD []).length c) ∧ (K y = none → A = none ∧ c = 0) ∧
    ∀ W, W.heap[m2]? = w.heap[m2]? → (Instr.lookup 83 (.map (some m2)) (.string y) false).run Try.prog W = .ok (.slice A ((K y).getD []).length c) W := by
  obtain ⟨kl, hkl⟩ := key_s hy
  have hr := fun (W : World) (hW : W.heap[m2]? = w.heap[m2]?) => (h.kd.of_block hW).lookup str_keyed encS_inj Try.underlying83 (z := .slice none 0 0) (by kernel_rfl) false y hkl
  have e1 : encS y = .string y := rfl
  simp only [e1, Bool.false_eq_true, if_false] at hr
  cases hk : K y with
  | none =>
    simp only [hk, Option.map_none, Option.getD_none] at hr
    exact ⟨none, 0, ⟨rfl, .inl ⟨rfl, rfl⟩⟩, (fun l hl => by cases hl), (fun _ => ⟨rfl, rfl⟩), hr⟩
  | some l =>
    have ho := (h.kr y l hk).2
    obtain ⟨A, c, hv, _⟩ := own_form ho
    rw [hv] at ho
    simp only [hk, Option.map_some, Option.getD_some, hv] at hr
    exact ⟨A, c, ho, (fun l' _ => hv), (fun h => by cases h), hr⟩
theorem SC.store (h : SC w0 wk w g m1 m2 vC cs U K) (y : ByteArray) (hy : y.size ≤ maxLen) {v0 v' : Value} {l' : List ByteArray} (hl' : l' ≠ []) (hv0 : v0 = .slice none 0 0 ∨ ∃ l, K y = some l ∧ U y = v0) (hv0w : ∀ b, v0.ownBlock = some b → wk.heap.size ≤ b ∧ b < w.heap.size) (hg : w.grownBy w1 v0.ownBlock) (hown : w1.ownsRow wk.heap.size 9 1 v' l'.length (strs l')) (hv' : v'.ownBlock = v0.ownBlock ∨ ∃ b, v'.ownBlock = some b ∧ w.heap.size ≤ b) :
    ∃ ob, (Instr.mapUpdate 83 (.map (some m2)) (.string y) v').run Try.prog w1 = .ok () (ChangeMaps.setBlock w1 m2 ob) ∧ SC w0 wk (ChangeMaps.setBlock w1 m2 ob) g m1 m2 vC cs (fun x => if x = y then v' else U x) (fun x => if x = y then some l' else K x) := by
  obtain ⟨kl, hkl⟩ := key_s hy
  have hml := h.ml; have hgl := h.gl; have h0 := h.w0s; have h1 := h.wks
  have lo : ∀ k, k < wk.heap.size → w1.heap[k]? = w.heap[k]? := fun k hk => hg.block k (by omega) (fun e => by have := (hv0w k e.symm).1; omega)
  have hm2 := lo m2 (by omega)
  obtain ⟨ob, hob, hm⟩ := (h.kd.of_block hm2).store str_keyed encS_inj Try.underlying83 y v' hkl
  have hoth : ∀ b, b ≠ m2 → (ChangeMaps.setBlock w1 m2 ob).heap[b]? = w1.heap[b]? := fun b hb => by
    simp [ChangeMaps.setBlock, Ne.symm hb]
  obtain ⟨es, cl, hes, _⟩ := h.kd.of_block hm2
  have hrow : ∀ {B n : Nat} {v : Value} {xs : List Value}, w1.ownsRow B 9 1 v n xs → (ChangeMaps.setBlock w1 m2 ob).ownsRow B 9 1 v n xs := fun {B n v xs} ho =>
    own_move ho (fun b hb => hoth b (fun e1 => own_not_block ho hes (fun _ e => by cases e) (by rw [hb, e1])))
  have hgm : g ≠ m2 := fun e => by
    have hb := h.blk
    rw [← lo g (by omega), e, hes] at hb
    cases hb
  refine ⟨ob, hob, ⟨(hoth g hgm).trans ((lo g (by omega)).trans h.blk), hrow (own_move h.cr (fun b hb => lo b (h.crl b hb))), h.crl, ?_, ?_, ?_, ?_, hgl, hml, ?_, ?_, ?_, ?_, h0⟩⟩
  · have e : (fun x => ((if x = y then some l' else K x).map fun _ => if x = y then v' else U x)) = putM (fun x => (K x).map fun _ => U x) y v' := by
      funext x
      unfold putM
      by_cases hx : x = y
      · simp [hx]
      · simp [hx]
    rw [e]; exact hm
  · intro x l hx
    try simp only at hx ⊢
    by_cases hxy : x = y
    · rw [if_pos hxy] at hx ⊢
      cases hx
      exact ⟨hl', hrow hown⟩
    · rw [if_neg hxy] at hx ⊢
      have ho := (h.kr x l hx).2
      refine ⟨(h.kr x l hx).1, hrow (own_move ho (fun b hb => hg.block b (own_lt ho b hb) (fun e => ?_)))⟩
      rcases hv0 with e2 | ⟨ly, hly, hUy⟩
      · rw [e2] at e; cases e
      · exact hxy (h.ks x y l ly hx hly (by rw [hb, hUy, ← e]))
  · intro x z lx lz hx hz he
    try simp only at hx hz he
    have hne : ∀ u lu, u ≠ y → K u = some lu → v'.ownBlock ≠ (U u).ownBlock := fun u lu huy hu e => by
      have ho := (h.kr u lu hu).2
      rcases hv' with e2 | ⟨b, e2, hbw⟩
      · rcases hv0 with e3 | ⟨ly, hly, hUy⟩
        · have hn := (h.kr u lu hu).1
          rcases ho.2 with ⟨_, hl0⟩ | ⟨b, cap, cur, hv, _⟩
          · exact hn (List.eq_nil_of_length_eq_zero hl0)
          · rw [e2, e3, hv] at e; cases e
        · exact huy (h.ks u y lu ly hu hly (by rw [hUy, ← e2, e]))
      · have := own_lt ho b (by rw [← e, e2])
        omega
    by_cases hxy : x = y
    · by_cases hzy : z = y
      · rw [hxy, hzy]
      · rw [if_pos hxy, if_neg hzy] at he
        rw [if_neg hzy] at hz
        exact absurd he (hne z lz hzy hz)
    · rw [if_neg hxy] at hx he
      by_cases hzy : z = y
      · rw [if_pos hzy] at he
        exact absurd he.symm (hne x lx hxy hx)
      · rw [if_neg hzy] at hz he
        exact h.ks x z lx lz hx hz he
  · intro k hk h2 h3
    rw [hoth k h3, lo k (by omega)]
    exact h.keep k hk h2 h3
  · exact hg.os.trans h.os
  · exact hg.tape.trans h.tape
  · exact hg.output.trans h.output
  · refine Nat.le_trans h1 (Nat.le_trans hg.size ?_)
    simp [ChangeMaps.setBlock]
end Go.Proofs.Ytdlilbleohlmnaa.PAq
namespace Go.Proofs.Ytdlilbleohlmnaa.PAq
open Go.RowKit Go.Lib Go.Sort Go.Proofs.YtdlilbleohlmnaaW.PrintWords Go.Proofs.YtdlilbleohlmnaaW.PrintLast
theorem SA.iter {w0 w w1 : World} {g m1 m2 rb : Nat} {vC : Value} {codes : List ByteArray} (h : SA w0 w g m1 m2 vC codes) (hg : w.grownBy w1 (some rb)) (hrb : w0.heap.size ≤ rb) (hgl : g < w0.heap.size) (hne : ∀ b, vC.ownBlock = some b → b ≠ rb) : SA w0 w1 g m1 m2 vC codes := by
  refine ⟨(hg.block g (Nat.lt_of_lt_of_le hgl h.size) (fun e => by injection e with e; omega)).trans h.blk, own_move h.cr (fun b hb => hg.block b (own_lt h.cr b hb) (fun e => by injection e with e; exact hne b hb e)), fun k hk hkg => ?_, hg.os.trans h.os, hg.tape.trans h.tape, hg.output.trans h.output, Nat.le_trans h.size hg.size⟩
  rw [hg.block k (Nat.lt_of_lt_of_le hk h.size) (fun e => by injection e with e; omega)]
  exact h.keep k hk hkg
theorem strs_app (l : List ByteArray) (x : ByteArray) : strs (l ++ [x]) = strs l ++ [.string x] := by simp [strs]
def ChsPost (g m1 m2 : Nat) (w : World) (e : Ending) (w' : World) : Prop :=
  e = .returned (.tuple #[]) ∧ ∃ vC, w'.heap[g]? = some (.cells #[.map (some m1), .map (some m2), vC] 85 (0, 0)) ∧ (∀ k, k < w.heap.size → k ≠ g → k ≠ m2 → w'.heap[k]? = w.heap[k]?) ∧ w'.os = w.os ∧ w'.tape = w.tape ∧ w'.output = w.output ∧ w.heap.size ≤ w'.heap.size
set_option maxHeartbeats 4000000 in
set_option maxRecDepth 100000 in
theorem go_chsort (g m1 m2 : Nat) (MV : ByteArray → Option Value) (xs : List ByteArray) (w : World) (hblk : w.heap[g]? = some (.cells #[.map (some m1), .map (some m2), .slice none 0 0] 85 (0, 0)))
    (hm : MapAt Try.prog 9 encS w m1 MV) (hk : MapAt Try.prog 9 encS w m2 (fun _ => none)) (hd : m1 ≠ m2) (hxs : ∀ x, (MV x).isSome = true → x ∈ xs) (hxl : xs.length ≤ 1000) (hxz : ∀ x ∈ xs, x.size ≤ maxLen) (hval : ∀ x v, MV x = some v → ∃ (a : Acct) (s : Value), v = acctV a s ∧ a.f1.size ≤ maxLen) :
    Calls Try.prog 46 #[.pointer (some ⟨g, 0, none⟩)] w fun e w' => ChsPost g m1 m2 w e w' := by
  obtain ⟨i0, hi0, hi1, hi2, hi3⟩ := info_parts_ info_str
  have hgl : g < w.heap.size := (Array.getElem?_eq_some_iff.mp hblk).1
  have hgm : g ≠ m1 := fun e => by
    obtain ⟨es, cl, hb, _⟩ := hm
    rw [← e, hblk] at hb; cases hb
  have hc0 := blk_cell hblk 0
  obtain ⟨todo0, ito, hrun0, hR0, hnd0, hmem0⟩ := MapAt.start hm encS_inj Try.underlying82
  have htl : todo0.length ≤ 1000 := Nat.le_trans (List.Nodup.length_le_of_subset hnd0 (fun x hx => hxs x ((hmem0 x).mp hx))) hxl
  have hsa : SA w (w.alloc ito) g m1 m2 (.slice none 0 0) [] := ⟨(Below.heap_alloc w ito g hgl).trans hblk, ⟨rfl, .inl ⟨rfl, rfl⟩⟩, fun k hk _ => Below.heap_alloc w ito k hk, rfl, rfl, rfl, by simp⟩
  have SA_blk0 := Lib.hid hblk
  have HSA := Lib.hid hsa; have HR0 := Lib.hid hR0; have HM := Lib.hid hm; have HK := Lib.hid hk; have HXS := Lib.hid hxs; have HXZ := Lib.hid hxz; have HV := Lib.hid hval; have HMEM := Lib.hid hmem0
  have HD := Lib.hid hd; have HGM := Lib.hid hgm; have HXL := Lib.hid hxl
  obtain ⟨rb, erb⟩ : ∃ z, w.heap.size = z := ⟨_, rfl⟩
  have HRB := Lib.hid erb
  rw [erb] at hrun0 HR0
  obtain ⟨w1, hw1⟩ : ∃ W, w.alloc ito = W := ⟨_, rfl⟩
  rw [hw1] at hrun0 HSA HR0
  clear hsa hm hk hxs hxz hval hR0 hmem0 hnd0 hblk hd hgm hxl erb
  go_enter Try.func46, Try.ntmps46
  go_wp2
  go_loopg [2] todo0.length (fun gk v2 wr => ∃ (todo codes : List ByteArray) (vC : Value), gk = todo.length ∧ Hid (SA w wr g m1 m2 vC codes) ∧ Hid (RangeAt Try.prog 9 encS wr m1 rb MV todo) ∧ Hid (codes.length + todo.length ≤ 1000) ∧ Hid (∀ x ∈ codes, x ∈ xs))
  case atStart => exact ⟨todo0, [], _, rfl, HSA, HR0, Lib.hid (by simpa using htl), Lib.hid (fun x hx => by cases hx)⟩
  case round =>
    obtain ⟨todo, codes, vC, rfl, HS, HR, HL, HX⟩ := hrel
    clear HSA HR0 hrun0 hc0 hw1 htl
    rcases HR.out.next encS_inj 0 with ⟨rfl, hrun⟩ | ⟨l1, x, l2, vx, wn, rfl, hMx, hrun, hRn, hgr, hszn, hent⟩
    · have hc2 := blk_cell HS.out.blk 2
      obtain ⟨Ac, cc, hv, _⟩ := own_form HS.out.cr
      subst hv
      have hlc : codes.length ≤ 1000 := by have := HL.out; simp at this; omega
      go_wp2_with fail
      refine (go_sortS HS.out.cr HS.out.size (by omega)).mono ?_
      rintro e wk ⟨rfl, cs, hcl, hcm, hownk, hbk, hfrk⟩
      have hblkk : wk.heap[g]? = some (.cells #[.map (some m1), .map (some m2), .slice Ac codes.length cc] 85 (0, 0)) := (hfrk g (Nat.lt_of_lt_of_le hgl HS.out.size) (fun e => own_ne_of HS.out.cr HS.out.blk (by decide) e.symm)).trans HS.out.blk
      have hm2l := HK.out.lt
      have hrowk : ∀ b, (Value.slice Ac codes.length cc).ownBlock = some b → w.heap.size ≤ b := fun b hb => by
        rcases HS.out.cr.2 with ⟨hv, _⟩ | ⟨b', cap, cur, hv, hb', _⟩
        · rw [hv] at hb; cases hb
        · rw [hv] at hb; injection hb with hb; rw [← hb]; exact hb'
      have hkeepk : ∀ k, k < w.heap.size → k ≠ g → wk.heap[k]? = w.heap[k]? := fun k hk hkg => (hfrk k (Nat.lt_of_lt_of_le hk HS.out.size) (fun e => by have := hrowk k e.symm; omega)).trans (HS.out.keep k hk hkg)
      have hgm2 : m2 ≠ g := fun e => by
        obtain ⟨es, cl, hb, _⟩ := HK.out
        have h1 := HS.out.keep
        have h2 := SA_blk0.out
        rw [← e, hb] at h2; cases h2
      have hsc : SC w wk wk g m1 m2 (.slice Ac codes.length cc) cs (fun _ => .slice none 0 0) (fun _ => none) := ⟨hblkk, by rw [← hcl] at hownk ⊢; exact hownk, fun b hb => own_lt hownk b hb, HK.out.of_block (hkeepk m2 hm2l hgm2), fun x l h => by (cases h), fun x y lx ly h => by (cases h), fun k hk h1 _ => hkeepk k hk h1, hgl, hm2l, hbk.os.trans HS.out.os, hbk.tape.trans HS.out.tape, hbk.output.trans HS.out.output, Nat.le_refl _, Nat.le_trans HS.out.size hbk.size⟩
      have HSC := Lib.hid hsc
      have HCM := Lib.hid (fun x hx => HX.out x (hcm x hx))
      have hc2k := blk_cell hblkk 2
      have HM1 := Lib.hid (show m1 < w.heap.size ∧ m1 ≠ g from ⟨HM.out.lt, fun e => HGM.out e.symm⟩)
      have HWW := Lib.hid (Nat.le_trans HS.out.size hbk.size)
      obtain ⟨nc, enc_⟩ : ∃ q, codes.length = q := ⟨_, rfl⟩
      rw [enc_] at hc2k HSC hcl hlc ⊢
      have HCL := Lib.hid hcl
      clear hsc hcl hcm hownk hbk hfrk hblkk hrowk hkeepk hgm2 HS HR HL HX hrun hc2 enc_
      go_wp2_with fail
      go_loopg [35] nc (fun gk v35 wr => ∃ (k : Nat) (U : ByteArray → Value) (K : ByteArray → Option (List ByteArray)), gk = nc - k ∧ k ≤ nc ∧ v35 = .int .i64 k ∧ Hid (SC w wk wr g m1 m2 (.slice Ac nc cc) cs U K) ∧ Hid (∀ x, ((K x).getD []).length ≤ k))
      case atStart => exact ⟨0, _, _, rfl, by omega, rfl, HSC, Lib.hid (fun x => Nat.le_refl 0)⟩
      case round =>
        obtain ⟨k, U, K, rfl, hk, rfl, HSC, HLN⟩ := hrel
        clear hc2k
        by_cases hlt : k < nc
        · have hltz : (k : Int) < (nc : Int) := by omega
          have hkc : k < cs.length := by rw [HCL.out]; exact hlt
          obtain ⟨x, hx⟩ : ∃ x, cs[k] = x := ⟨_, rfl⟩
          have hxm : x ∈ xs := HCM.out x (by rw [← hx]; exact List.getElem_mem hkc)
          obtain ⟨bq, hbq, hcq⟩ : ∃ bq, Ac = some ⟨bq, 0, none⟩ ∧ wr.cell? ⟨bq, k, none⟩ = some (.string x) := by
            rcases HSC.out.cr.2 with ⟨_, h0⟩ | ⟨b, cap, cur, hv, _, hh, _, _, _, htk⟩
            · omega
            · injection hv with ha _ _
              refine ⟨b, ha, ?_⟩
              have h1 : (strs cs)[k]? = some (.string x) := by rw [strs, List.getElem?_map, List.getElem?_eq_getElem hkc, hx]; rfl
              rw [← htk, List.getElem?_take, if_pos (by omega), Array.getElem?_toList] at h1
              rw [blk_cell hh, h1]
          subst hbq
          have hgk := HSC.out.blk
          have hm1k : MapAt Try.prog 9 encS wr m1 MV := HM.out.of_block (HSC.out.keep m1 HM1.out.1 HM1.out.2 HD.out)
          obtain ⟨kl, hkl⟩ := key_s (HXZ.out x hxm)
          have hlk := hm1k.lookup str_keyed encS_inj Try.underlying82 (z := acctV za (.slice none 0 0)) (by kernel_rfl) false x hkl
          rw [show encS x = .string x from rfl, if_neg (by decide)] at hlk
          obtain ⟨au, su, hau, hys⟩ : ∃ (a : Acct) (s : Value), (MV x).getD (acctV za (.slice none 0 0)) = acctV a s ∧ a.f1.size ≤ maxLen := by
            cases hmx : MV x with
            | none => exact ⟨za, _, rfl, (show (0 : Nat) ≤ maxLen from Nat.zero_le _)⟩
            | some v => exact HV.out x v hmx
          rw [hau] at hlk
          unfold acctV at hlk
          obtain ⟨y, hy⟩ : ∃ y, au.f1 = y := ⟨_, rfl⟩
          rw [hy] at hlk hys
          have hfld : ∀ W, (Instr.field 62 (.agg #[.string au.f0, .string y, .int .i64 au.f2, .bool au.f3, .string au.f4, .bool au.f5, .bool au.f6, su]) 1).run Try.prog W = .ok (.string y) W := fun W => by kernel_rfl
          have hc0k := blk_cell hgk 0
          have HYS := Lib.hid hys
          clear hm1k hau hys hxm hx hy
          go_upto_region 9 with fail
          obtain ⟨A0, c0, hown0, hU0, hU1, hlook0⟩ := HSC.out.look y HYS.out
          obtain ⟨l0, hl0⟩ : ∃ l, (K y).getD [] = l := ⟨_, rfl⟩
          have hln0 := HLN.out y
          rw [hl0] at hown0 hU0 hlook0 hln0
          obtain ⟨n0, hn0⟩ : ∃ q, l0.length = q := ⟨_, rfl⟩
          rw [hn0] at hown0 hU0 hlook0 hln0
          have hrow0 : ∀ b, (Value.slice A0 n0 c0).ownBlock = some b → wk.heap.size ≤ b ∧ b < wr.heap.size := fun b hb => ⟨by
            rcases hown0.2 with ⟨hv, _⟩ | ⟨b', cap, cur, hv, hb', _⟩
            · rw [hv] at hb; cases hb
            · rw [hv] at hb; injection hb with hb; rw [← hb]; exact hb', own_lt hown0 b hb⟩
          have hv0 : (Value.slice A0 n0 c0) = .slice none 0 0 ∨ ∃ l, K y = some l ∧ U y = .slice A0 n0 c0 := by
            cases hky : K y with
            | none =>
              rw [hky] at hl0
              have : n0 = 0 := by rw [← hn0, ← hl0]; rfl
              obtain ⟨e1, e2⟩ := hU1 hky
              rw [e1, e2, this]
              exact .inl rfl
            | some l => exact .inr ⟨l, rfl, hU0 l hky⟩
          have HO0 := Lib.hid hown0
          have HWK := Lib.hid HSC.out.wks
          have HST := Lib.hid (fun (v9 : Value) (w9 : World) (hg9 : wr.grownBy w9 (Value.slice A0 n0 c0).ownBlock) (ho9 : w9.ownsRow wk.heap.size 9 1 v9 (n0 + 1) (strs l0 ++ [.string x])) (hf9 : v9.ownBlock = (Value.slice A0 n0 c0).ownBlock ∨ ∃ b, v9.ownBlock = some b ∧ wr.heap.size ≤ b) => HSC.out.store y HYS.out (v0 := .slice A0 n0 c0) (v' := v9) (l' := l0 ++ [x]) (by simp) hv0 hrow0 hg9 (by rw [strs_app, List.length_append, hn0]; exact ho9) hf9)
          have HS9 := Lib.hid (show ∀ w' : World, wr.grownBy w' (Value.slice A0 n0 c0).ownBlock → w'.cell? ⟨g, 1, none⟩ = some (.map (some m2)) ∧ (Instr.lookup 83 (.map (some m2)) (.string y) false).run Try.prog w' = .ok (.slice A0 n0 c0) w' from fun w' gr => by
            have b1 := gr.block g (Nat.lt_of_lt_of_le hgl (Nat.le_trans HWW.out HSC.out.wks)) (fun e => by have := (hrow0 g e.symm).1; have := HWW.out; omega)
            have b2 := gr.block m2 (Nat.lt_of_lt_of_le HSC.out.ml (Nat.le_trans HWW.out HSC.out.wks)) (fun e => by have := (hrow0 m2 e.symm).1; have := HWW.out; have := HSC.out.ml; omega)
            exact ⟨blk_cell (b1.trans hgk) 1, hlook0 w' b2⟩)
          have HLN2 : Hid (∀ z, (((if z = y then some (l0 ++ [x]) else K z)).getD []).length ≤ k + 1) := Lib.hid (fun z => by
            by_cases hz : z = y
            · rw [if_pos hz, Option.getD_some, List.length_append, hn0]; simp; exact hln0
            · rw [if_neg hz]; have := HLN.out z; omega)
          have gr0 : wr.grownBy wr.drew (Value.slice A0 n0 c0).ownBlock := ⟨rfl, rfl, rfl, Nat.le_refl _, fun _ _ _ => rfl⟩
          clear hown0 hU0 hU1 hlook0 hl0 hrow0 hv0 hgk HSC hn0 hlk hc0k hcq hfld
          refine start_ (n := 15) (S := fun w' => w'.cell? ⟨g, 1, none⟩ = some (.map (some m2)) ∧ (Instr.lookup 83 (.map (some m2)) (.string y) false).run Try.prog w' = .ok (.slice A0 n0 c0) w') (ds := [14]) #[false, false, false, false, false, false, false, false, false, false, false, false, false, false, false] (by kernel_rfl) rfl rfl ⟨(HS9.out _ gr0).1, (HS9.out _ gr0).2⟩ (fun hHeld => ?_)
          refine pure_ (i := 0) (N := some 46) (v := ?_) (a' := ?_) #[true, false, false, false, false, false, false, false, false, false, false, false, false, false, false] rfl rfl (by kernel_rfl) (fun _ _ _ h => h) (Or.inl ⟨by rfl, ?_⟩) ?_ ?_
          rotate_left
          · intro w'
            go_simp
            with_reducible rfl
          rotate_left
          · simp only [Act.put, pkA, pkZ, pkS, i64_w, i32_w]
            rfl
          refine pure_ (i := 1) (N := some 47) (v := ?_) (a' := ?_) #[true, true, false, false, false, false, false, false, false, false, false, false, false, false, false] rfl rfl (by kernel_rfl) (fun _ _ _ h => h) (Or.inl ⟨by rfl, ?_⟩) ?_ ?_
          rotate_left
          · intro w'
            go_simp
            with_reducible rfl
          rotate_left
          · simp only [Act.put, pkA, pkZ, pkS, i64_w, i32_w]
            rfl
          refine pure_ (i := 2) (N := some 48) (v := ?_) (a' := ?_) #[true, true, true, false, false, false, false, false, false, false, false, false, false, false, false] rfl rfl (by kernel_rfl) (fun _ _ _ h => h) (Or.inl ⟨by rfl, ?_⟩) ?_ ?_
          rotate_left
          · intro w'
            go_simp
            with_reducible rfl
          rotate_left
          · simp only [Act.put, pkA, pkZ, pkS, i64_w, i32_w]
            rfl
          refine pure_ (i := 4) (N := some 50) (v := ?_) (a' := ?_) #[true, true, true, false, true, false, false, false, false, false, false, false, false, false, false] rfl rfl (by kernel_rfl) (fun _ _ _ h => h) (Or.inl ⟨by rfl, ?_⟩) ?_ ?_
          rotate_left
          · intro w'
            go_simp
            with_reducible rfl
          rotate_left
          · simp only [Act.put, pkA, pkZ, pkS, i64_w, i32_w]
            rfl
          refine pure_ (i := 5) (N := some 51) (v := ?_) (a' := ?_) #[true, true, true, false, true, true, false, false, false, false, false, false, false, false, false] rfl rfl (by kernel_rfl) (fun _ _ _ h => h) (Or.inl ⟨by rfl, ?_⟩) ?_ ?_
          rotate_left
          · intro w'
            go_simp
            with_reducible rfl
          rotate_left
          · simp only [Act.put, pkA, pkZ, pkS, i64_w, i32_w]
            rfl
          refine pure_ (i := 6) (N := some 52) (v := ?_) (a' := ?_) #[true, true, true, false, true, true, true, false, false, false, false, false, false, false, false] rfl rfl (by kernel_rfl) (fun _ _ _ h => h) (Or.inl ⟨by rfl, ?_⟩) ?_ ?_
          rotate_left
          · intro w'
            go_simp
            with_reducible rfl
          rotate_left
          · simp only [Act.put, pkA, pkZ, pkS, i64_w, i32_w]
            rfl
          refine pure_ (i := 7) (N := some 53) (v := ?_) (a' := ?_) #[true, true, true, false, true, true, true, true, false, false, false, false, false, false, false] rfl rfl (by kernel_rfl) (fun _ _ _ h => h) (Or.inl ⟨by rfl, ?_⟩) ?_ ?_
          rotate_left
          · intro w'
            go_simp
            with_reducible rfl
          rotate_left
          · simp only [Act.put, pkA, pkZ, pkS, i64_w, i32_w]
            rfl
          refine pure_ (i := 9) (N := some 55) (v := ?_) (a' := ?_) #[true, true, true, false, true, true, true, true, false, true, false, false, false, false, false] rfl rfl (by kernel_rfl) (fun _ _ _ h => h) (Or.inl ⟨by rfl, ?_⟩) ?_ ?_
          rotate_left
          · intro w'
            go_simp
            with_reducible rfl
          rotate_left
          · simp only [Act.put, pkA, pkZ, pkS, i64_w, i32_w]
            rfl
          refine pure_ (i := 11) (N := some 57) (v := ?_) (a' := ?_) #[true, true, true, false, true, true, true, true, false, true, false, true, false, false, false] rfl rfl (by kernel_rfl) (fun _ _ _ h => h) (Or.inl ⟨by rfl, ?_⟩) ?_ ?_
          rotate_left
          · intro w'
            go_simp
            with_reducible rfl
          rotate_left
          · simp only [Act.put, pkA, pkZ, pkS, i64_w, i32_w]
            rfl
          refine take_ (i := 3) (N := some 49) (v := ?_) (a' := ?_) #[true, true, true, true, true, true, true, true, false, true, false, true, false, false, false] rfl rfl (by kernel_rfl) (fun _ _ _ h => h) (Or.inl ⟨by rfl, ?_⟩) hHeld ?_ ?_
          rotate_left
          · rintro w' ⟨s0, s1⟩
            go_simp
            with_reducible rfl
          rotate_left
          · simp only [Act.put, pkA, pkZ, pkS, i64_w, i32_w]
            rfl
          refine take_ (i := 8) (N := some 54) (v := ?_) (a' := ?_) #[true, true, true, true, true, true, true, true, true, true, false, true, false, false, false] rfl rfl (by kernel_rfl) (fun _ _ _ h => h) (Or.inl ⟨by rfl, ?_⟩) hHeld ?_ ?_
          rotate_left
          · rintro w' ⟨s0, s1⟩
            go_simp
            with_reducible rfl
          rotate_left
          · simp only [Act.put, pkA, pkZ, pkS, i64_w, i32_w]
            rfl
          refine take_ (i := 10) (N := some 56) (v := ?_) (a' := ?_) #[true, true, true, true, true, true, true, true, true, true, true, true, false, false, false] rfl rfl (by kernel_rfl) (fun _ _ _ h => h) (Or.inl ⟨by rfl, ?_⟩) hHeld ?_ ?_
          rotate_left
          · rintro w' ⟨s0, s1⟩
            go_simp
            with_reducible rfl
          rotate_left
          · simp only [Act.put, pkA, pkZ, pkS, i64_w, i32_w]
            rfl
          refine one_ (i := 12) (N := some 58) #[true, true, true, true, true, true, true, true, true, true, true, true, true, false, false] rfl rfl (by kernel_rfl) (by decide) (fun K hK => ?_)
          refine value_ (w1 := ?_) (v := ?_) (by rfl) rfl ?_ ?_
          rotate_left 2
          · go_simp
            constructor
            · rfl
            · rfl
          have gr8 : wr.grownBy ((wr.alloc (.cells #[.string x] 9)).drew) (Value.slice A0 n0 c0).ownBlock := grown_below (show wr.grownBy wr (Value.slice A0 n0 c0).ownBlock from ⟨rfl, rfl, rfl, Nat.le_refl _, fun _ _ _ => rfl⟩) (((Below.refl _ _).alloc (Nat.le_refl _) _).drew)
          have own8 : ((wr.alloc (.cells #[.string x] 9)).drew).ownsRow wk.heap.size 9 1 (.slice A0 n0 c0) n0 (strs l0) := pw_own_below HO0.out (((Below.refl _ _).alloc (Nat.le_refl _) _).drew)
          have ng : ((wr.alloc (.cells #[.string x] 9)).drew).heap[wr.heap.size]? = some (.cells #[.string x] 9 (0, 0)) := (Go.MapKept.heap_alloc wr (.cells #[.string x] 9)).1
          have HB8 := Lib.hid (show wk.heap.size ≤ ((wr.alloc (.cells #[.string x] 9)).drew).heap.size ∧ wr.heap.size ≤ ((wr.alloc (.cells #[.string x] 9)).drew).heap.size from ⟨Nat.le_trans HWK.out gr8.size, gr8.size⟩)
          obtain ⟨zg, hzg⟩ : ∃ z, wr.heap.size = z := ⟨_, rfl⟩
          rw [hzg] at ng ⊢
          obtain ⟨w8, hw8⟩ : ∃ W, (wr.alloc (.cells #[.string x] 9)).drew = W := ⟨_, rfl⟩
          rw [hw8] at gr8 own8 ng HB8 ⊢
          clear hw8 hzg
          refine hK.out _ _ ⟨(HS9.out _ gr8).1, (HS9.out _ gr8).2⟩ (fun hHeld => ?_)
          clear hK K
          refine norm_ (a' := ?_) ?_ ?_
          rotate_left
          · show Act.put _ (some 58) _ = _
            simp only [Act.put, pkA, pkZ, pkS, i64_w, i32_w]
            rfl
          refine one_ (i := 13) (N := some 59) #[true, true, true, true, true, true, true, true, true, true, true, true, true, true, false] rfl rfl (by kernel_rfl) (by decide) (fun K hK => ?_)
          refine step_append_any (by rfl) (.tmp 56) (.tmp 58) 48 (by rfl) wk.heap.size 9 i0 _ 1 16 Try.underlying48 hi0 hi1 hi2 hi3 rfl (by omega) _ n0 (strs l0) (by rfl) own8 _ 1 _ [.string x] (by rfl) rfl (fun j u hu => ⟨_, rfl, World.news_of_block ng j u hu⟩) (by intro u hu; simp at hu; subst hu; rfl) (by unfold maxLen; omega) (by omega) HB8.out.1 ?_
          intro v9 w9 own9 gr9 fr9
          have gr9a := grown_then gr8 gr9 (.inl rfl)
          obtain ⟨ob, hob, hSC⟩ := HST.out v9 w9 gr9a own9 (fr9.imp id fun e => ⟨_, e, HB8.out.2⟩)
          refine hK.out _ _ ⟨(HS9.out _ gr9a).1, (HS9.out _ gr9a).2⟩ (fun hHeld => ?_)
          clear hK K
          refine norm_ (a' := ?_) ?_ ?_
          rotate_left
          · show Act.put _ (some 59) _ = _
            simp only [Act.put, pkA, pkZ, pkS, i64_w, i32_w]
            rfl
          refine last_ (i := 14) (N := none) #[true, true, true, true, true, true, true, true, true, true, true, true, true, true, true] rfl rfl (by kernel_rfl) (by decide) (fun K hK => ?_)
          refine skip_ (w1 := ?_) (by rfl) rfl ?_ ?_
          rotate_left
          · go_simp
            rfl
          refine hK.out _ _ ?_
          clear hK K
          refine done_ (by kernel_rfl) ?_
          clear hHeld
          obtain ⟨wf, hwf⟩ : ∃ W, ChangeMaps.setBlock w9 m2 ob = W := ⟨_, rfl⟩
          rw [hwf] at hSC ⊢
          have HSC2 := Lib.hid hSC
          clear hwf hSC hob gr9a gr9 own9 fr9 gr8 own8 ng HB8 HST HS9 HO0 gr0
          go_wp2_with fail
          go_roundg (nc - (k + 1))
          case measure => omega
          case rel => exact ⟨k + 1, _, _, rfl, by omega, by go_num, HSC2, HLN2⟩
        · have hltz : ¬ ((k : Int) < (nc : Int)) := by omega
          have hfin := HSC.out
          go_wp2_with fail
          go_end0
          exact ⟨rfl, _, hfin.blk, hfin.keep, hfin.os, hfin.tape, hfin.output, Nat.le_trans hfin.w0s hfin.wks⟩
    · rw [show encS x = .string x from rfl] at hrun hent
      have hrbl := HR.out.lt.2
      have hne : ∀ b, vC.ownBlock = some b → b ≠ rb := fun b hb e => by
        obtain ⟨es, cl, since, seen, c0, h1, h2, h3, h4, h5, _⟩ := HR.out
        exact own_not_block HS.out.cr h5 (fun _ e => by cases e) (by rw [hb, e])
      obtain ⟨Ac, cc, hvc, _⟩ := own_form HS.out.cr
      subst hvc
      have HSN := Lib.hid (HS.out.iter hgr (by rw [HRB.out]; exact Nat.le_refl _) hgl hne)
      have hc2 := blk_cell HSN.out.blk 2
      have hf2 := blk_frozen HSN.out.blk 2
      have HRN := Lib.hid hRn
      have HNB := Lib.hid (Go.MapKept.heap_alloc wn (.cells #[.string x] 9)).1
      have HSB := Lib.hid (HSN.out.below ((Below.refl _ _).alloc (Nat.le_refl _) (.cells #[.string x] 9)))
      have hlen : codes.length + 1 ≤ 1000 := by have := HL.out; simp at this; omega
      have HBS := Lib.hid (show w.heap.size ≤ (wn.alloc (.cells #[.string x] 9)).heap.size from Nat.le_trans HSN.out.size (by simp))
      clear hRn hgr hne hrbl hszn
      go_wp2_with (at_builtin; (refine wpList_append_any rfl (.tmp 19) (.tmp 21) 48 rfl w.heap.size 9 i0 _ 1 16 Try.underlying48 hi0 hi1 hi2 hi3 rfl (by omega) _ codes.length (strs codes) rfl HSB.out.cr _ 1 _ [.string x] rfl rfl (fun j u hu => ⟨_, rfl, World.news_of_block HNB.out j u hu⟩) (by intro u hu; simp at hu; subst hu; rfl) (by unfold maxLen; omega) (by omega) HBS.out ?_; intro v1 w3 own1 gr1 fr1; obtain ⟨A3, c3, hv3, _⟩ := own_form own1; subst hv3; have hb3 : w3.heap[g]? = some (.cells #[.map (some m1), .map (some m2), .slice Ac codes.length cc] 85 (0, 0)) := (gr1.block g (Nat.lt_of_lt_of_le hgl HSB.out.size) (fun e => own_ne_of HSB.out.cr HSB.out.blk (by decide) e.symm)).trans HSB.out.blk; have hg0 := blk_cell hb3 2; have hgf := blk_frozen hb3 2))
      have HS3 := Lib.hid (HSB.out.grown gr1 (codes' := codes ++ [x]) (by rw [strs_app, List.length_append]; exact own1) hgl)
      have hrm : ∀ b, (b = m1 ∨ b = rb) → (w3.setCell ⟨g, 2, none⟩ (.slice A3 (codes.length + 1) c3)).heap[b]? = (wn.alloc (.cells #[.string x] 9)).heap[b]? := by
        intro b hb
        have hbg : b ≠ g := by
          rcases hb with rfl | rfl
          · exact fun e => HGM.out e.symm
          · have := HRB.out; omega
        have hbl : b < (wn.alloc (.cells #[.string x] 9)).heap.size := by
          rw [World.size_alloc]
          rcases hb with rfl | rfl
          · exact Nat.lt_succ_of_lt HRN.out.lt.1
          · exact Nat.lt_succ_of_lt HRN.out.lt.2
        rw [Below.heap_setCell _ _ _ _ hbg]
        refine gr1.block b hbl (fun e => ?_)
        obtain ⟨es, cl, since, seen, c0, h1, h2, h3, h4, h5, _⟩ := (HRN.out.below ((Below.refl _ _).alloc (Nat.le_refl _) (.cells #[.string x] 9)))
        rcases hb with rfl | rfl
        · exact own_not_block HSB.out.cr h1 (fun _ e => by cases e) e.symm
        · exact own_not_block HSB.out.cr h5 (fun _ e => by cases e) e.symm
      have HR3 := Lib.hid ((HRN.out.below ((Below.refl _ _).alloc (Nat.le_refl _) (.cells #[.string x] 9))).of_blocks (hrm m1 (.inl rfl)) (hrm rb (.inr rfl)))
      have hlen2 : codes.length + 1 + (l1 ++ l2).length ≤ 1000 := by have := HL.out; simp at this ⊢; omega
      have HL3 : Hid ((codes ++ [x]).length + (l1 ++ l2).length ≤ 1000) := Lib.hid (by rw [List.length_append]; exact hlen2)
      have HX3 : Hid (∀ y ∈ codes ++ [x], y ∈ xs) := Lib.hid (fun y hy => by
        rcases List.mem_append.mp hy with hy | hy
        · exact HX.out y hy
        · rw [List.mem_singleton.mp hy]
          exact HXS.out x (by rw [hMx]; rfl))
      clear hrm own1 gr1 fr1 hb3 hlen2
      go_roundg (l1 ++ l2).length
      case measure => simp
      case rel => exact ⟨l1 ++ l2, codes ++ [x], _, rfl, HS3, HR3, HL3, HX3⟩
end Go.Proofs.Ytdlilbleohlmnaa.PAq
namespace Go.Proofs.Ytdlilbleohlmnaa.PAq
open Go Go.Sort
structure Wq (P : Program) (ops : Array Oper) (C : World → Prop) (Q : Act → Prop) (l : List Oper) (a : Act) : Prop where
  out : wpQuiet P ops C Q l a
theorem wq_off {P : Program} {ops : Array Oper} {C : World → Prop} {Q : Act → Prop} {a : Act} {o : Oper} {rest : List Oper}
    (hw : Region.wanted o (yielded ops a.tmps) = false) (h : ∀ K : Act → Prop, (∀ a, Wq P ops C Q rest a → K a) → K (a.put o.dst undef)) : Wq P ops C Q (o :: rest) a := by
  refine ⟨?_⟩
  show if Region.wanted o (yielded ops a.tmps) then _ else _
  rw [hw]
  exact h _ (fun _ h => h.out)
theorem wq_on {P : Program} {ops : Array Oper} {C : World → Prop} {Q : Act → Prop} {a : Act} {o : Oper} {rest : List Oper}
    (hw : Region.wanted o (yielded ops a.tmps) = true) (h : ∀ K : Act → Prop, (∀ a, Wq P ops C Q rest a → K a) → o.quiet P a C K) : Wq P ops C Q (o :: rest) a := by
  refine ⟨?_⟩
  show if Region.wanted o (yielded ops a.tmps) then _ else _
  rw [hw]
  exact h _ (fun _ h => h.out)
theorem wq_nil {P : Program} {ops : Array Oper} {C : World → Prop} {Q : Act → Prop} {a : Act} (h : Q a) : Wq P ops C Q [] a := ⟨wpQuiet_nil h⟩
section
variable {P : Program} {ops : Array Oper} {md : Region.Mode} {C : World → Prop}
def wpAnyLQ (P : Program) (md : Region.Mode) (ops : Array Oper) (C : World → Prop) (n : Nat) (L : Array Bool → Act → Prop) : Nat → Array Bool → Act → Prop
  | 0, listed, a => L listed a
  | f + 1, listed, a =>
    Region.ready md ops listed ≠ [] ∧ ∀ i ∈ Region.ready md ops listed, i < n ∧ qOp P ops C i (wpAnyLQ P md ops C n L f (listed.setIfInBounds i true)) a
theorem wpAny_of_headQ {n g : Nat} {L : Array Bool → Act → Prop} {Q' : Exit → Act → World → Prop} (hL : ∀ listed a w, C w → L listed a → wpAny P md ops Q' g listed a w) :
    ∀ (f : Nat) (listed : Array Bool) (a : Act) (w : World), C w → wpAnyLQ P md ops C n L f listed a → wpAny P md ops Q' (f + g) listed a w
  | 0, listed, a, w, hw, h => by rw [Nat.zero_add]; exact hL _ _ _ hw h
  | f + 1, listed, a, w, hw, h => by
    rw [show f + 1 + g = (f + g) + 1 by omega]
    exact ⟨fun h0 => absurd h0 h.1, fun i hi => wpOp_of_qOp hw (fun a' w' hw' h' => wpAny_of_headQ hL f _ a' w' hw' h') (h.2 i hi).2⟩
theorem wpAnyLQ_first {n i : Nat} {oi : Oper} {v : Value} {L : Array Bool → Act → Prop} (hi : ops[i]? = some oi) (hsel : ∀ (j : Nat) (o : Oper) cs b, ops[j]? = some o → o.op ≠ .select cs b)
    (hs : Region.sinkB md ops n = true) (hc : Region.chainB md ops n = true) (hn : n < ops.size) (hin : i < n)
    (hdone : ∀ listed a, L listed a → ∀ j ∈ Region.ready md ops listed, n ≤ j) :
    ∀ (f : Nat) (listed : Array Bool) (a : Act), HeadInv md ops n listed →
      (∀ j oj, ops[j]? = some oj → j ≠ i → listed.getD j true = false → (∀ e ∈ oj.after, Region.binds md e = true → e.on ≠ i) → oi.apart ops oj = true) →
      i ∈ Region.ready md ops listed → YieldsIn P ops C oi v a →
      wpAnyLQ P md ops C n L f (listed.setIfInBounds i true) (a.put oi.dst v) → wpAnyLQ P md ops C n L (f + 1) listed a := by
  intro f
  induction f with
  | zero =>
    intro listed a inv _ hr hy H
    have hun := (mem_ready.1 hr).1
    refine ⟨fun h => (by rw [h] at hr; cases hr), fun j hj => ?_⟩
    have hjn : j < n := by
      rcases Nat.lt_or_ge j n with h | h
      · exact h
      · exact absurd hj (tail_waits hs hc hn inv _ i rfl hin hun j h)
    refine ⟨hjn, ?_⟩
    by_cases hji : j = i
    · subst hji; exact hy.qOp hi H
    · have := hdone _ _ H j (ready_mono hj hji)
      omega
  | succ f ih =>
    intro listed a inv hfree hr hy H
    have hun := (mem_ready.1 hr).1
    refine ⟨fun h => (by rw [h] at hr; cases hr), fun j hj => ?_⟩
    have hjn : j < n := by
      rcases Nat.lt_or_ge j n with h | h
      · exact h
      · exact absurd hj (tail_waits hs hc hn inv _ i rfl hin hun j h)
    refine ⟨hjn, ?_⟩
    by_cases hji : j = i
    · subst hji; exact hy.qOp hi H
    · have h1 := (H.2 j (ready_mono hj hji)).2
      obtain ⟨hjun, oj, hoj, hall⟩ := mem_ready.1 hj
      have hnot : ∀ e ∈ oj.after, Region.binds md e = true → e.on ≠ i := fun e he hb heq => by
        have h1 := hall e he hb
        rw [heq, getD_both hun] at h1
        cases h1
      have h2 := qOp_put hoj (hfree j oj hoj hji hjun hnot) (fun cs b => hsel i oi cs b hi) (fun cs b => hsel j oj cs b hoj) hy h1
      have hfree' : ∀ k ok, ops[k]? = some ok → k ≠ i → (listed.setIfInBounds j true).getD k true = false →
          (∀ e ∈ ok.after, Region.binds md e = true → e.on ≠ i) → oi.apart ops ok = true := fun k ok hk hki hun hno => by
        refine hfree k ok hk hki ?_ hno
        by_cases hjk : j = k
        · subst hjk; exact hjun
        · rw [getD_set_ne true hjk] at hun; exact hun
      refine qOp_mono (fun a' h3 => ih (listed.setIfInBounds j true) a' (inv.set hj hjn) hfree' (ready_mono hr (Ne.symm hji)) h3.1 ?_) h2
      rw [Array.setIfInBounds_comm _ _ hji]
      exact h3.2
theorem wpAnyLQ_lex {n g : Nat} {Lq : Act → Prop} (hsel : Region.noSelect ops = true) (hs : Region.sinkB md ops n = true) (hc : Region.chainB md ops n = true) (hn : n < ops.size) :
    ∀ (l : List Oper) (k : Nat) (listed : Array Bool) (a : Act), (∀ j, j < l.length → l[j]? = ops[k + j]?) → k + l.length = n → HeadInv md ops n listed →
    Region.lexHead md ops g l.length k listed = true → wpQuiet P ops C Lq l a →
    wpAnyLQ P md ops C n (fun listed' a' => Region.seqB md ops g n listed' = true ∧ Lq a') l.length listed a
  | [], k, listed, a, _, hk, _, hB, h => by
    have : k = n := by simpa using hk
    subst this
    exact ⟨by simpa [Region.lexHead] using hB, h⟩
  | o :: l, k, listed, a, hl, hk, inv, hB, h => by
    have h0 : ops[k]? = some o := by simpa using (hl 0 (by simp)).symm
    simp only [List.length_cons, Region.lexHead, Bool.and_eq_true] at hB
    obtain ⟨⟨hr, hf⟩, hB'⟩ := hB
    have hkn : k < n := by simp only [List.length_cons] at hk; omega
    have hr' : k ∈ Region.ready md ops listed := by simpa using hr
    have hst : qOp P ops C k (wpQuiet P ops C Lq l) a := by unfold qOp; simp only [h0]; exact h
    obtain ⟨v, hy, hK⟩ := yieldsIn_of_qOp h0 hst
    exact wpAnyLQ_first h0 (Region.noSelect_spec hsel) hs hc hn hkn (fun listed' a' hL => seqB_ready hL.1) l.length listed a inv (Region.free_spec h0 hf) hr' hy
      (wpAnyLQ_lex hsel hs hc hn l (k + 1) _ _ (fun j hj => by have := hl (j + 1) (by simp; omega); simpa [Nat.add_assoc, Nat.add_comm 1 j] using this) (by simp only [List.length_cons] at hk; omega) (inv.set hr' hkn) hB' hK)
theorem wp_region_class_tail {id : Nat} {Q : Exit → Act → World → Prop} {a : Act} {w : World} {l : List Oper} {C : World → Prop} (n : Nat) (hm : P.follows .mixedOrders = true) (hB : Region.lexTailB .any l.toArray n = true) (hC : C { w with drawn := w.drawn + 1 })
    (h : wpQuiet P l.toArray C (fun a' => ∀ w', C w' → wpList P l.toArray Q (l.drop n) a' w') (l.take n) a) : (Code.region id l.toArray true).wp P Q a w := by
  simp only [Region.lexTailB, Bool.and_eq_true, decide_eq_true_eq] at hB
  obtain ⟨⟨⟨⟨hsel, hn⟩, hs⟩, hc⟩, hlex⟩ := hB
  have hn' : n < l.length := by simpa using hn
  have htl : (l.take n).length = n := by simp; omega
  have hdl : (l.drop n).length = l.toArray.size - n := by simp
  have inv0 : HeadInv .any l.toArray n (Array.replicate l.toArray.size false) :=
    ⟨by simp, fun j oj _ hl => (by rw [getD_replicate_false] at hl; cases hl), fun t _ ht => getD_in (by simpa using ht) (getD_replicate_false _ _)⟩
  have H := wpAnyLQ_lex (md := .any) (g := l.toArray.size - n) hsel hs hc hn (l.take n) 0 _ a (fun j hj => by
    have hj' : j < n := by rw [htl] at hj; exact hj
    simp [hj']) (by simpa using htl) inv0 (by rw [htl]; exact hlex) h
  refine wp_region_any hm ?_
  have := wpAny_of_headQ (Q' := Q) (g := l.toArray.size - n) (fun listed a' w' hw' hL => by
    have := wpAny_of_seq (md := .any) (Q' := Q) (l.drop n) n listed a' w' (fun j => by simp [List.getElem?_drop]) (by rw [hdl]; exact hL.1) (hL.2 w' hw')
    rwa [hdl] at this) _ _ _ { w with drawn := w.drawn + 1 } hC H
  rw [htl, show n + (l.toArray.size - n) = l.toArray.size by omega] at this
  exact this
theorem wp_region_below_tail {id : Nat} {Q : Exit → Act → World → Prop} {a : Act} {w : World} {l : List Oper} (n : Nat) (hm : P.follows .mixedOrders = true) (hB : Region.lexTailB .any l.toArray n = true)
    (h : Wq P l.toArray (fun w' => ∃ p : Regrown, w' = grow (redrawn w p.d) p.os) (fun a' => ∀ w', (∃ p : Regrown, w' = grow (redrawn w p.d) p.os) → wpList P l.toArray Q (l.drop n) a' w') (l.take n) a) : (Code.region id l.toArray true).wp P Q a w :=
  wp_region_class_tail n hm hB ⟨⟨w.drawn + 1, #[]⟩, by rw [grow_empty]; rfl⟩ h.out
end
theorem below_of_regrown {w w' : World} (h : ∃ p : Regrown, w' = grow (redrawn w p.d) p.os) : Go.RowKit.Below w.heap.size w w' := by
  obtain ⟨p, rfl⟩ := h
  exact below_regrown _ _ _
end Go.Proofs.Ytdlilbleohlmnaa.PAq
namespace Go.Proofs.Ytdlilbleohlmnaa.PAq
open Go.RowKit Go.Lib Go.Sort Go.Proofs.YtdlilbleohlmnaaW.PrintWords Go.Proofs.YtdlilbleohlmnaaW.PrintLast
def aloneE (a : Acct) (kn : Bool) : Int := firstE [⟨!namesB a, 7⟩, ⟨decide (a.f2 < 1) || decide (a.f2 > 5), 10⟩, ⟨!a.f4.toList.isEmpty && !codeB a.f4, 13⟩, ⟨kn, 8⟩, ⟨decide (a.f7.length > 6) || !risingB a.f7, 14⟩]
set_option maxHeartbeats 16000000 in
set_option maxRecDepth 100000 in
theorem go_alone (a : Acct) (hs : Sized a) (A : Option Addr) (c g L : Nat) (M : ByteArray → Option Acct) (w : World) (hCh : ChartAt w g L M) (hC : Kd.C Kd.string w A a.f7.length a.f7) (hc : a.f7.length ≤ c) :
    Calls Try.prog 43 #[.pointer (some ⟨g, 0, none⟩), .agg #[.string a.f0, .string a.f1, .int .i64 a.f2, .bool a.f3, .string a.f4, .bool a.f5, .bool a.f6, .slice A a.f7.length c]] w fun e w' => e = .returned (.int .i64 (aloneE a (M a.f0).isSome)) ∧ Below w.heap.size w w' := by
  have hl := hs.2.2.2.1
  obtain ⟨n, hn⟩ : ∃ n, a.f7.length = n := ⟨_, rfl⟩
  obtain ⟨rr, hrr⟩ : ∃ q, aloneE a (M a.f0).isSome = q := ⟨_, rfl⟩
  have HE := Lib.hid (show rr = firstE [⟨!namesB a, 7⟩, ⟨decide (a.f2 < 1) || decide (a.f2 > 5), 10⟩, ⟨!a.f4.toList.isEmpty && !codeB a.f4, 13⟩, ⟨(M a.f0).isSome, 8⟩, ⟨decide (n > 6) || !risingB a.f7, 14⟩] by rw [← hrr, ← hn]; rfl)
  rw [hrr]
  clear hrr
  have HN := Lib.hid hn
  have HC := Lib.hid hC; have HSZ := Lib.hid hs; have HCH := Lib.hid hCh; have HCC := Lib.hid hc
  rw [hn] at hl ⊢
  have gr1 : Below w.heap.size w ((w.alloc (.cells #[.pointer (some ⟨g, 0, none⟩)] 39)).alloc (.cells #[.string a.f0, .string a.f1, .int .i64 a.f2, .bool a.f3, .string a.f4, .bool a.f5, .bool a.f6, .slice A n c] 62)) := ((Below.refl _ _).alloc (Nat.le_refl _) _).alloc (by simp) _
  have h2 := (Below.heap_alloc (w.alloc (.cells #[.pointer (some ⟨g, 0, none⟩)] 39)) (.cells #[.string a.f0, .string a.f1, .int .i64 a.f2, .bool a.f3, .string a.f4, .bool a.f5, .bool a.f6, .slice A n c] 62) w.heap.size (by simp)).trans (Go.MapKept.heap_alloc w (.cells #[.pointer (some ⟨g, 0, none⟩)] 39)).1
  have h3 := (Go.MapKept.heap_alloc (w.alloc (.cells #[.pointer (some ⟨g, 0, none⟩)] 39)) (.cells #[.string a.f0, .string a.f1, .int .i64 a.f2, .bool a.f3, .string a.f4, .bool a.f5, .bool a.f6, .slice A n c] 62)).1
  rw [World.size_alloc] at h3
  clear hn hC hs hCh hc
  go_enter Try.func43, Try.ntmps43
  go_upto_region 2 with fail
  obtain ⟨w1, hw1⟩ : ∃ W, (w.alloc (.cells #[.pointer (some ⟨g, 0, none⟩)] 39)).alloc (.cells #[.string a.f0, .string a.f1, .int .i64 a.f2, .bool a.f3, .string a.f4, .bool a.f5, .bool a.f6, .slice A n c] 62) = W := ⟨_, rfl⟩
  obtain ⟨z3, ez3⟩ : ∃ z, w.heap.size + 1 = z := ⟨_, rfl⟩
  obtain ⟨z2, ez2⟩ : ∃ z, w.heap.size = z := ⟨_, rfl⟩
  rw [hw1] at gr1 h2 h3 ⊢
  rw [ez3] at h3 ⊢
  rw [ez2] at h2 ⊢
  have HG := Lib.hid gr1
  have HS := Lib.hid (show ∀ w' : World, Below w1.heap.size w1 w' → w'.cell? ⟨z3, 0, none⟩ = some (.string a.f0) ∧ w'.cell? ⟨z3, 1, none⟩ = some (.string a.f1) ∧ w'.cell? ⟨z3, 2, none⟩ = some (.int .i64 a.f2) ∧ w'.cell? ⟨z3, 3, none⟩ = some (.bool a.f3) ∧ w'.cell? ⟨z3, 4, none⟩ = some (.string a.f4) ∧ w'.cell? ⟨z3, 5, none⟩ = some (.bool a.f5) ∧ w'.cell? ⟨z3, 6, none⟩ = some (.bool a.f6) ∧ w'.cell? ⟨z3, 7, none⟩ = some (.slice A n c) from fun w' gr => by
    have h := (gr.block z3 (Array.getElem?_eq_some_iff.mp h3).1).trans h3
    exact ⟨blk_cell h 0, blk_cell h 1, blk_cell h 2, blk_cell h 3, blk_cell h 4, blk_cell h 5, blk_cell h 6, blk_cell h 7⟩)
  have HNM : Hid (∀ W : World, Below w1.heap.size w1 W → Calls Try.prog 72 #[.agg #[.string a.f0, .string a.f1, .int .i64 a.f2, .bool a.f3, .string a.f4, .bool a.f5, .bool a.f6, .slice A n c]] W fun e w' => e = .returned (.bool (namesB a)) ∧ Below W.heap.size W w') := Lib.hid (fun W hW => by
    have := go_names a HSZ.out A c W (Kd.C_below (Kd.C_below HC.out HG.out) hW) HCC.out
    rw [HN.out] at this; exact this)
  have HMC : Hid (∀ W : World, Calls Try.prog 50 #[.string a.f4] W fun e w' => e = .returned (.bool (codeB a.f4)) ∧ Below W.heap.size W w') := Lib.hid (fun W => Go.Proofs.Ytdlilbleohlmnaa.money_Code.calls a.f4 W HSZ.out.2.2.1)
  have HKN : Hid (∀ W : World, Below w1.heap.size w1 W → Calls Try.prog 70 #[.string a.f0, .pointer (some ⟨z2, 0, none⟩)] W fun e w' => e = .returned (.bool (M a.f0).isSome) ∧ Below W.heap.size W w') := Lib.hid (fun W hW => go_known a.f0 (Nat.le_trans HSZ.out.1 (by unfold maxLen; omega)) g L z2 M W ((HCH.out.below HG.out).below hW) ((hW.cell (p := ⟨z2, 0, none⟩) (Array.getElem?_eq_some_iff.mp h2).1).trans (blk_cell h2 0)))
  have HRS : Hid (∀ W : World, Below w1.heap.size w1 W → Calls Try.prog 73 #[.slice A n c] W fun e w' => e = .returned (.bool (risingB a.f7)) ∧ Below W.heap.size W w') := Lib.hid (fun W hW => by
    have := go_rising a.f7 HSZ.out.2.2.2.1 A c W (Kd.C_below (Kd.C_below HC.out HG.out) hW) HCC.out
    rw [HN.out] at this; exact this)
  obtain ⟨nm, hnm⟩ : ∃ q, namesB a = q := ⟨_, rfl⟩
  obtain ⟨mc, hmc⟩ : ∃ q, codeB a.f4 = q := ⟨_, rfl⟩
  obtain ⟨kn, hkn⟩ : ∃ q, (M a.f0).isSome = q := ⟨_, rfl⟩
  obtain ⟨rs, hrs⟩ : ∃ q, risingB a.f7 = q := ⟨_, rfl⟩
  rw [hnm] at HNM HE
  rw [hmc] at HMC HE
  rw [hkn] at HKN HE
  rw [hrs] at HRS HE
  have mixed : Try.prog.follows Departure.mixedOrders = true := by kernel_rfl
  have e64 : ∀ args w, (callFunc 70 args).run Try.prog w = .ok (.enter 70 args) w := enters_of Try.func70 (by kernel_rfl) rfl
  have y0 := fun d os => blk_cell (((below_regrown w1 d os).block z3 (blk_lt h3)).trans h3) 0
  have y1 := fun d os => blk_cell (((below_regrown w1 d os).block z3 (blk_lt h3)).trans h3) 1
  have y2 := fun d os => blk_cell (((below_regrown w1 d os).block z3 (blk_lt h3)).trans h3) 2
  have y3 := fun d os => blk_cell (((below_regrown w1 d os).block z3 (blk_lt h3)).trans h3) 3
  have y4 := fun d os => blk_cell (((below_regrown w1 d os).block z3 (blk_lt h3)).trans h3) 4
  have y5 := fun d os => blk_cell (((below_regrown w1 d os).block z3 (blk_lt h3)).trans h3) 5
  have y6 := fun d os => blk_cell (((below_regrown w1 d os).block z3 (blk_lt h3)).trans h3) 6
  have y7 := fun d os => blk_cell (((below_regrown w1 d os).block z3 (blk_lt h3)).trans h3) 7
  have y8 := fun d os => blk_cell (((below_regrown w1 d os).block z2 (blk_lt h2)).trans h2) 0
  clear hw1 ez3 ez2 h2 h3 hnm hmc hkn hrs
  by_cases hk : a.f2 < 1
  · have HK := Lib.hid (show decide (a.f2 < 1) = true from decide_eq_true hk)
    by_cases hu : a.f4.toList = []
    · have HU := Lib.hid (show a.f4.toList.isEmpty = true from by rw [hu]; rfl)
      have hub : (a.f4.toList == []) = true := by rw [hu]; rfl
      by_cases h6 : n > 6
      · have H6 := Lib.hid (show decide (n > 6) = true from decide_eq_true h6)
        have hk6 : decide ((n : Int) > 6) = true := decide_eq_true (by omega)
        have hkd : decide (a.f2 < 1) = true := HK.out
        clear h6 hu hk
        refine wp_region_below_tail 39 (by assumption) (by kernel_rfl) ?_
        refine wq_on (by kernel_rfl) (fun K hK => ?_)
        go_simp
        refine hK _ ?_
        clear hK K
        refine wq_on (by kernel_rfl) (fun K hK => ?_)
        go_simp
        apply Exists.intro
        refine ⟨fun _ => ?_, hK _ ?_⟩
        · go_at_call 72; refine Calls.regrown_of (HNM.out _ (below_regrown _ _ _))
        clear hK K
        refine wq_on (by kernel_rfl) (fun K hK => ?_)
        go_simp
        refine hK _ ?_
        clear hK K
        refine wq_on (by kernel_rfl) (fun K hK => ?_)
        go_simp
        refine hK _ ?_
        clear hK K
        refine wq_on (by kernel_rfl) (fun K hK => ?_)
        go_simp
        refine hK _ ?_
        clear hK K
        refine wq_on (by kernel_rfl) (fun K hK => ?_)
        go_simp
        refine hK _ ?_
        clear hK K
        refine wq_on (by kernel_rfl) (fun K hK => ?_)
        go_simp
        refine hK _ ?_
        clear hK K
        refine wq_on (by kernel_rfl) (fun K hK => ?_)
        go_simp
        refine hK _ ?_
        clear hK K
        refine wq_off (by kernel_rfl) (fun K hK => ?_)
        go_simp
        refine hK _ ?_
        clear hK K
        refine wq_off (by kernel_rfl) (fun K hK => ?_)
        go_simp
        refine hK _ ?_
        clear hK K
        refine wq_off (by kernel_rfl) (fun K hK => ?_)
        go_simp
        refine hK _ ?_
        clear hK K
        refine wq_on (by kernel_rfl) (fun K hK => ?_)
        go_simp
        refine hK _ ?_
        clear hK K
        refine wq_on (by kernel_rfl) (fun K hK => ?_)
        go_simp
        refine hK _ ?_
        clear hK K
        refine wq_on (by kernel_rfl) (fun K hK => ?_)
        go_simp
        refine hK _ ?_
        clear hK K
        refine wq_on (by kernel_rfl) (fun K hK => ?_)
        go_simp
        refine hK _ ?_
        clear hK K
        refine wq_on (by kernel_rfl) (fun K hK => ?_)
        go_simp
        refine hK _ ?_
        clear hK K
        refine wq_on (by kernel_rfl) (fun K hK => ?_)
        go_simp
        refine hK _ ?_
        clear hK K
        refine wq_off (by kernel_rfl) (fun K hK => ?_)
        go_simp
        refine hK _ ?_
        clear hK K
        refine wq_off (by kernel_rfl) (fun K hK => ?_)
        go_simp
        refine hK _ ?_
        clear hK K
        refine wq_off (by kernel_rfl) (fun K hK => ?_)
        go_simp
        refine hK _ ?_
        clear hK K
        refine wq_off (by kernel_rfl) (fun K hK => ?_)
        go_simp
        refine hK _ ?_
        clear hK K
        refine wq_on (by kernel_rfl) (fun K hK => ?_)
        go_simp
        refine hK _ ?_
        clear hK K
        refine wq_on (by kernel_rfl) (fun K hK => ?_)
        go_simp
        refine hK _ ?_
        clear hK K
        refine wq_on (by kernel_rfl) (fun K hK => ?_)
        go_simp
        refine hK _ ?_
        clear hK K
        refine wq_on (by kernel_rfl) (fun K hK => ?_)
        go_simp
        refine hK _ ?_
        clear hK K
        refine wq_on (by kernel_rfl) (fun K hK => ?_)
        go_simp
        refine hK _ ?_
        clear hK K
        refine wq_on (by kernel_rfl) (fun K hK => ?_)
        go_simp
        apply Exists.intro
        refine ⟨fun _ => ?_, hK _ ?_⟩
        · go_at_fn 70; refine Calls.regrown_of (HKN.out _ (below_regrown _ _ _))
        clear hK K
        refine wq_on (by kernel_rfl) (fun K hK => ?_)
        go_simp
        refine hK _ ?_
        clear hK K
        refine wq_on (by kernel_rfl) (fun K hK => ?_)
        go_simp
        refine hK _ ?_
        clear hK K
        refine wq_on (by kernel_rfl) (fun K hK => ?_)
        go_simp
        refine hK _ ?_
        clear hK K
        refine wq_on (by kernel_rfl) (fun K hK => ?_)
        go_simp
        refine hK _ ?_
        clear hK K
        refine wq_on (by kernel_rfl) (fun K hK => ?_)
        go_simp
        refine hK _ ?_
        clear hK K
        refine wq_on (by kernel_rfl) (fun K hK => ?_)
        go_simp
        refine hK _ ?_
        clear hK K
        refine wq_off (by kernel_rfl) (fun K hK => ?_)
        go_simp
        refine hK _ ?_
        clear hK K
        refine wq_off (by kernel_rfl) (fun K hK => ?_)
        go_simp
        refine hK _ ?_
        clear hK K
        refine wq_off (by kernel_rfl) (fun K hK => ?_)
        go_simp
        refine hK _ ?_
        clear hK K
        refine wq_off (by kernel_rfl) (fun K hK => ?_)
        go_simp
        refine hK _ ?_
        clear hK K
        refine wq_on (by kernel_rfl) (fun K hK => ?_)
        go_simp
        refine hK _ ?_
        clear hK K
        refine wq_on (by kernel_rfl) (fun K hK => ?_)
        go_simp
        refine hK _ ?_
        clear hK K
        refine wq_nil ?_
        intro w4 hw4
        have gb4 := below_of_regrown hw4
        have HF : Hid (rr = firstE [⟨!nm, 7⟩, ⟨true, 10⟩, ⟨false, 13⟩, ⟨kn, 8⟩, ⟨true, 14⟩]) := Lib.hid (by rw [HE.out]; simp [HK.out, HU.out, H6.out])
        clear y0 y1 y2 y3 y4 y5 y6 y7 y8
        have h9 := (Go.MapKept.heap_alloc w4 (.cells #[.bool (!nm), .int .i64 7, .bool (true), .int .i64 10, .bool (false), .int .i64 13, .bool kn, .int .i64 8, .bool (true), .int .i64 14] 114)).1
        have gr9 := gb4.alloc gb4.size (.cells #[.bool (!nm), .int .i64 7, .bool (true), .int .i64 10, .bool (false), .int .i64 13, .bool kn, .int .i64 8, .bool (true), .int .i64 14] 114)
        go_wp2_with fail
        refine (go_first [⟨!nm, 7⟩, ⟨true, 10⟩, ⟨false, 13⟩, ⟨kn, 8⟩, ⟨true, 14⟩] (by simp) w4.heap.size 5 (Nat.le_refl _) _ _ h9).mono ?_
        rintro e wf ⟨rfl, hb40⟩
        have gr10 := gr9.trans (hb40.mono gr9.size)
        clear gr9 h9 hb40 gb4 hw4
        go_wp2
        go_ret
        exact ⟨by rw [HF.out]; rfl, HG.out.trans (gr10.mono HG.out.size)⟩
      · have H6 := Lib.hid (show decide (n > 6) = false from decide_eq_false h6)
        have hk6 : decide ((n : Int) > 6) = false := decide_eq_false (by omega)
        have hkd : decide (a.f2 < 1) = true := HK.out
        clear h6 hu hk
        refine wp_region_below_tail 39 (by assumption) (by kernel_rfl) ?_
        refine wq_on (by kernel_rfl) (fun K hK => ?_)
        go_simp
        refine hK _ ?_
        clear hK K
        refine wq_on (by kernel_rfl) (fun K hK => ?_)
        go_simp
        apply Exists.intro
        refine ⟨fun _ => ?_, hK _ ?_⟩
        · go_at_call 72; refine Calls.regrown_of (HNM.out _ (below_regrown _ _ _))
        clear hK K
        refine wq_on (by kernel_rfl) (fun K hK => ?_)
        go_simp
        refine hK _ ?_
        clear hK K
        refine wq_on (by kernel_rfl) (fun K hK => ?_)
        go_simp
        refine hK _ ?_
        clear hK K
        refine wq_on (by kernel_rfl) (fun K hK => ?_)
        go_simp
        refine hK _ ?_
        clear hK K
        refine wq_on (by kernel_rfl) (fun K hK => ?_)
        go_simp
        refine hK _ ?_
        clear hK K
        refine wq_on (by kernel_rfl) (fun K hK => ?_)
        go_simp
        refine hK _ ?_
        clear hK K
        refine wq_on (by kernel_rfl) (fun K hK => ?_)
        go_simp
        refine hK _ ?_
        clear hK K
        refine wq_off (by kernel_rfl) (fun K hK => ?_)
        go_simp
        refine hK _ ?_
        clear hK K
        refine wq_off (by kernel_rfl) (fun K hK => ?_)
        go_simp
        refine hK _ ?_
        clear hK K
        refine wq_off (by kernel_rfl) (fun K hK => ?_)
        go_simp
        refine hK _ ?_
        clear hK K
        refine wq_on (by kernel_rfl) (fun K hK => ?_)
        go_simp
        refine hK _ ?_
        clear hK K
        refine wq_on (by kernel_rfl) (fun K hK => ?_)
        go_simp
        refine hK _ ?_
        clear hK K
        refine wq_on (by kernel_rfl) (fun K hK => ?_)
        go_simp
        refine hK _ ?_
        clear hK K
        refine wq_on (by kernel_rfl) (fun K hK => ?_)
        go_simp
        refine hK _ ?_
        clear hK K
        refine wq_on (by kernel_rfl) (fun K hK => ?_)
        go_simp
        refine hK _ ?_
        clear hK K
        refine wq_on (by kernel_rfl) (fun K hK => ?_)
        go_simp
        refine hK _ ?_
        clear hK K
        refine wq_off (by kernel_rfl) (fun K hK => ?_)
        go_simp
        refine hK _ ?_
        clear hK K
        refine wq_off (by kernel_rfl) (fun K hK => ?_)
        go_simp
        refine hK _ ?_
        clear hK K
        refine wq_off (by kernel_rfl) (fun K hK => ?_)
        go_simp
        refine hK _ ?_
        clear hK K
        refine wq_off (by kernel_rfl) (fun K hK => ?_)
        go_simp
        refine hK _ ?_
        clear hK K
        refine wq_on (by kernel_rfl) (fun K hK => ?_)
        go_simp
        refine hK _ ?_
        clear hK K
        refine wq_on (by kernel_rfl) (fun K hK => ?_)
        go_simp
        refine hK _ ?_
        clear hK K
        refine wq_on (by kernel_rfl) (fun K hK => ?_)
        go_simp
        refine hK _ ?_
        clear hK K
        refine wq_on (by kernel_rfl) (fun K hK => ?_)
        go_simp
        refine hK _ ?_
        clear hK K
        refine wq_on (by kernel_rfl) (fun K hK => ?_)
        go_simp
        refine hK _ ?_
        clear hK K
        refine wq_on (by kernel_rfl) (fun K hK => ?_)
        go_simp
        apply Exists.intro
        refine ⟨fun _ => ?_, hK _ ?_⟩
        · go_at_fn 70; refine Calls.regrown_of (HKN.out _ (below_regrown _ _ _))
        clear hK K
        refine wq_on (by kernel_rfl) (fun K hK => ?_)
        go_simp
        refine hK _ ?_
        clear hK K
        refine wq_on (by kernel_rfl) (fun K hK => ?_)
        go_simp
        refine hK _ ?_
        clear hK K
        refine wq_on (by kernel_rfl) (fun K hK => ?_)
        go_simp
        refine hK _ ?_
        clear hK K
        refine wq_on (by kernel_rfl) (fun K hK => ?_)
        go_simp
        refine hK _ ?_
        clear hK K
        refine wq_on (by kernel_rfl) (fun K hK => ?_)
        go_simp
        refine hK _ ?_
        clear hK K
        refine wq_on (by kernel_rfl) (fun K hK => ?_)
        go_simp
        refine hK _ ?_
        clear hK K
        refine wq_on (by kernel_rfl) (fun K hK => ?_)
        go_simp
        refine hK _ ?_
        clear hK K
        refine wq_on (by kernel_rfl) (fun K hK => ?_)
        go_simp
        refine hK _ ?_
        clear hK K
        refine wq_on (by kernel_rfl) (fun K hK => ?_)
        go_simp
        apply Exists.intro
        refine ⟨fun _ => ?_, hK _ ?_⟩
        · go_at_call 73; refine Calls.regrown_of (HRS.out _ (below_regrown _ _ _))
        clear hK K
        refine wq_on (by kernel_rfl) (fun K hK => ?_)
        go_simp
        refine hK _ ?_
        clear hK K
        refine wq_on (by kernel_rfl) (fun K hK => ?_)
        go_simp
        refine hK _ ?_
        clear hK K
        refine wq_on (by kernel_rfl) (fun K hK => ?_)
        go_simp
        refine hK _ ?_
        clear hK K
        refine wq_nil ?_
        intro w4 hw4
        have gb4 := below_of_regrown hw4
        have HF : Hid (rr = firstE [⟨!nm, 7⟩, ⟨true, 10⟩, ⟨false, 13⟩, ⟨kn, 8⟩, ⟨!rs, 14⟩]) := Lib.hid (by rw [HE.out]; simp [HK.out, HU.out, H6.out])
        clear y0 y1 y2 y3 y4 y5 y6 y7 y8
        have h9 := (Go.MapKept.heap_alloc w4 (.cells #[.bool (!nm), .int .i64 7, .bool (true), .int .i64 10, .bool (false), .int .i64 13, .bool kn, .int .i64 8, .bool (!rs), .int .i64 14] 114)).1
        have gr9 := gb4.alloc gb4.size (.cells #[.bool (!nm), .int .i64 7, .bool (true), .int .i64 10, .bool (false), .int .i64 13, .bool kn, .int .i64 8, .bool (!rs), .int .i64 14] 114)
        go_wp2_with fail
        refine (go_first [⟨!nm, 7⟩, ⟨true, 10⟩, ⟨false, 13⟩, ⟨kn, 8⟩, ⟨!rs, 14⟩] (by simp) w4.heap.size 5 (Nat.le_refl _) _ _ h9).mono ?_
        rintro e wf ⟨rfl, hb40⟩
        have gr10 := gr9.trans (hb40.mono gr9.size)
        clear gr9 h9 hb40 gb4 hw4
        go_wp2
        go_ret
        exact ⟨by rw [HF.out]; rfl, HG.out.trans (gr10.mono HG.out.size)⟩
    · have HU := Lib.hid (show a.f4.toList.isEmpty = false from by cases hq : a.f4.toList with | nil => exact absurd hq hu | cons _ _ => rfl)
      have hub : (a.f4.toList == []) = false := beq_eq_false_iff_ne.mpr hu
      by_cases h6 : n > 6
      · have H6 := Lib.hid (show decide (n > 6) = true from decide_eq_true h6)
        have hk6 : decide ((n : Int) > 6) = true := decide_eq_true (by omega)
        have hkd : decide (a.f2 < 1) = true := HK.out
        clear h6 hu hk
        refine wp_region_below_tail 39 (by assumption) (by kernel_rfl) ?_
        refine wq_on (by kernel_rfl) (fun K hK => ?_)
        go_simp
        refine hK _ ?_
        clear hK K
        refine wq_on (by kernel_rfl) (fun K hK => ?_)
        go_simp
        apply Exists.intro
        refine ⟨fun _ => ?_, hK _ ?_⟩
        · go_at_call 72; refine Calls.regrown_of (HNM.out _ (below_regrown _ _ _))
        clear hK K
        refine wq_on (by kernel_rfl) (fun K hK => ?_)
        go_simp
        refine hK _ ?_
        clear hK K
        refine wq_on (by kernel_rfl) (fun K hK => ?_)
        go_simp
        refine hK _ ?_
        clear hK K
        refine wq_on (by kernel_rfl) (fun K hK => ?_)
        go_simp
        refine hK _ ?_
        clear hK K
        refine wq_on (by kernel_rfl) (fun K hK => ?_)
        go_simp
        refine hK _ ?_
        clear hK K
        refine wq_on (by kernel_rfl) (fun K hK => ?_)
        go_simp
        refine hK _ ?_
        clear hK K
        refine wq_on (by kernel_rfl) (fun K hK => ?_)
        go_simp
        refine hK _ ?_
        clear hK K
        refine wq_off (by kernel_rfl) (fun K hK => ?_)
        go_simp
        refine hK _ ?_
        clear hK K
        refine wq_off (by kernel_rfl) (fun K hK => ?_)
        go_simp
        refine hK _ ?_
        clear hK K
        refine wq_off (by kernel_rfl) (fun K hK => ?_)
        go_simp
        refine hK _ ?_
        clear hK K
        refine wq_on (by kernel_rfl) (fun K hK => ?_)
        go_simp
        refine hK _ ?_
        clear hK K
        refine wq_on (by kernel_rfl) (fun K hK => ?_)
        go_simp
        refine hK _ ?_
        clear hK K
        refine wq_on (by kernel_rfl) (fun K hK => ?_)
        go_simp
        refine hK _ ?_
        clear hK K
        refine wq_on (by kernel_rfl) (fun K hK => ?_)
        go_simp
        refine hK _ ?_
        clear hK K
        refine wq_on (by kernel_rfl) (fun K hK => ?_)
        go_simp
        refine hK _ ?_
        clear hK K
        refine wq_on (by kernel_rfl) (fun K hK => ?_)
        go_simp
        refine hK _ ?_
        clear hK K
        refine wq_on (by kernel_rfl) (fun K hK => ?_)
        go_simp
        refine hK _ ?_
        clear hK K
        refine wq_on (by kernel_rfl) (fun K hK => ?_)
        go_simp
        refine hK _ ?_
        clear hK K
        refine wq_on (by kernel_rfl) (fun K hK => ?_)
        go_simp
        apply Exists.intro
        refine ⟨fun _ => ?_, hK _ ?_⟩
        · go_at_call 50; refine Calls.regrown_of (HMC.out _)
        clear hK K
        refine wq_on (by kernel_rfl) (fun K hK => ?_)
        go_simp
        refine hK _ ?_
        clear hK K
        refine wq_on (by kernel_rfl) (fun K hK => ?_)
        go_simp
        refine hK _ ?_
        clear hK K
        refine wq_on (by kernel_rfl) (fun K hK => ?_)
        go_simp
        refine hK _ ?_
        clear hK K
        refine wq_on (by kernel_rfl) (fun K hK => ?_)
        go_simp
        refine hK _ ?_
        clear hK K
        refine wq_on (by kernel_rfl) (fun K hK => ?_)
        go_simp
        refine hK _ ?_
        clear hK K
        refine wq_on (by kernel_rfl) (fun K hK => ?_)
        go_simp
        refine hK _ ?_
        clear hK K
        refine wq_on (by kernel_rfl) (fun K hK => ?_)
        go_simp
        apply Exists.intro
        refine ⟨fun _ => ?_, hK _ ?_⟩
        · go_at_fn 70; refine Calls.regrown_of (HKN.out _ (below_regrown _ _ _))
        clear hK K
        refine wq_on (by kernel_rfl) (fun K hK => ?_)
        go_simp
        refine hK _ ?_
        clear hK K
        refine wq_on (by kernel_rfl) (fun K hK => ?_)
        go_simp
        refine hK _ ?_
        clear hK K
        refine wq_on (by kernel_rfl) (fun K hK => ?_)
        go_simp
        refine hK _ ?_
        clear hK K
        refine wq_on (by kernel_rfl) (fun K hK => ?_)
        go_simp
        refine hK _ ?_
        clear hK K
        refine wq_on (by kernel_rfl) (fun K hK => ?_)
        go_simp
        refine hK _ ?_
        clear hK K
        refine wq_on (by kernel_rfl) (fun K hK => ?_)
        go_simp
        refine hK _ ?_
        clear hK K
        refine wq_off (by kernel_rfl) (fun K hK => ?_)
        go_simp
        refine hK _ ?_
        clear hK K
        refine wq_off (by kernel_rfl) (fun K hK => ?_)
        go_simp
        refine hK _ ?_
        clear hK K
        refine wq_off (by kernel_rfl) (fun K hK => ?_)
        go_simp
        refine hK _ ?_
        clear hK K
        refine wq_off (by kernel_rfl) (fun K hK => ?_)
        go_simp
        refine hK _ ?_
        clear hK K
        refine wq_on (by kernel_rfl) (fun K hK => ?_)
        go_simp
        refine hK _ ?_
        clear hK K
        refine wq_on (by kernel_rfl) (fun K hK => ?_)
        go_simp
        refine hK _ ?_
        clear hK K
        refine wq_nil ?_
        intro w4 hw4
        have gb4 := below_of_regrown hw4
        have HF : Hid (rr = firstE [⟨!nm, 7⟩, ⟨true, 10⟩, ⟨!mc, 13⟩, ⟨kn, 8⟩, ⟨true, 14⟩]) := Lib.hid (by rw [HE.out]; simp [HK.out, HU.out, H6.out])
        clear y0 y1 y2 y3 y4 y5 y6 y7 y8
        have h9 := (Go.MapKept.heap_alloc w4 (.cells #[.bool (!nm), .int .i64 7, .bool (true), .int .i64 10, .bool (!mc), .int .i64 13, .bool kn, .int .i64 8, .bool (true), .int .i64 14] 114)).1
        have gr9 := gb4.alloc gb4.size (.cells #[.bool (!nm), .int .i64 7, .bool (true), .int .i64 10, .bool (!mc), .int .i64 13, .bool kn, .int .i64 8, .bool (true), .int .i64 14] 114)
        go_wp2_with fail
        refine (go_first [⟨!nm, 7⟩, ⟨true, 10⟩, ⟨!mc, 13⟩, ⟨kn, 8⟩, ⟨true, 14⟩] (by simp) w4.heap.size 5 (Nat.le_refl _) _ _ h9).mono ?_
        rintro e wf ⟨rfl, hb40⟩
        have gr10 := gr9.trans (hb40.mono gr9.size)
        clear gr9 h9 hb40 gb4 hw4
        go_wp2
        go_ret
        exact ⟨by rw [HF.out]; rfl, HG.out.trans (gr10.mono HG.out.size)⟩
      · have H6 := Lib.hid (show decide (n > 6) = false from decide_eq_false h6)
        have hk6 : decide ((n : Int) > 6) = false := decide_eq_false (by omega)
        have hkd : decide (a.f2 < 1) = true := HK.out
        clear h6 hu hk
        refine wp_region_below_tail 39 (by assumption) (by kernel_rfl) ?_
        refine wq_on (by kernel_rfl) (fun K hK => ?_)
        go_simp
        refine hK _ ?_
        clear hK K
        refine wq_on (by kernel_rfl) (fun K hK => ?_)
        go_simp
        apply Exists.intro
        refine ⟨fun _ => ?_, hK _ ?_⟩
        · go_at_call 72; refine Calls.regrown_of (HNM.out _ (below_regrown _ _ _))
        clear hK K
        refine wq_on (by kernel_rfl) (fun K hK => ?_)
        go_simp
        refine hK _ ?_
        clear hK K
        refine wq_on (by kernel_rfl) (fun K hK => ?_)
        go_simp
        refine hK _ ?_
        clear hK K
        refine wq_on (by kernel_rfl) (fun K hK => ?_)
        go_simp
        refine hK _ ?_
        clear hK K
        refine wq_on (by kernel_rfl) (fun K hK => ?_)
        go_simp
        refine hK _ ?_
        clear hK K
        refine wq_on (by kernel_rfl) (fun K hK => ?_)
        go_simp
        refine hK _ ?_
        clear hK K
        refine wq_on (by kernel_rfl) (fun K hK => ?_)
        go_simp
        refine hK _ ?_
        clear hK K
        refine wq_off (by kernel_rfl) (fun K hK => ?_)
        go_simp
        refine hK _ ?_
        clear hK K
        refine wq_off (by kernel_rfl) (fun K hK => ?_)
        go_simp
        refine hK _ ?_
        clear hK K
        refine wq_off (by kernel_rfl) (fun K hK => ?_)
        go_simp
        refine hK _ ?_
        clear hK K
        refine wq_on (by kernel_rfl) (fun K hK => ?_)
        go_simp
        refine hK _ ?_
        clear hK K
        refine wq_on (by kernel_rfl) (fun K hK => ?_)
        go_simp
        refine hK _ ?_
        clear hK K
        refine wq_on (by kernel_rfl) (fun K hK => ?_)
        go_simp
        refine hK _ ?_
        clear hK K
        refine wq_on (by kernel_rfl) (fun K hK => ?_)
        go_simp
        refine hK _ ?_
        clear hK K
        refine wq_on (by kernel_rfl) (fun K hK => ?_)
        go_simp
        refine hK _ ?_
        clear hK K
        refine wq_on (by kernel_rfl) (fun K hK => ?_)
        go_simp
        refine hK _ ?_
        clear hK K
        refine wq_on (by kernel_rfl) (fun K hK => ?_)
        go_simp
        refine hK _ ?_
        clear hK K
        refine wq_on (by kernel_rfl) (fun K hK => ?_)
        go_simp
        refine hK _ ?_
        clear hK K
        refine wq_on (by kernel_rfl) (fun K hK => ?_)
        go_simp
        apply Exists.intro
        refine ⟨fun _ => ?_, hK _ ?_⟩
        · go_at_call 50; refine Calls.regrown_of (HMC.out _)
        clear hK K
        refine wq_on (by kernel_rfl) (fun K hK => ?_)
        go_simp
        refine hK _ ?_
        clear hK K
        refine wq_on (by kernel_rfl) (fun K hK => ?_)
        go_simp
        refine hK _ ?_
        clear hK K
        refine wq_on (by kernel_rfl) (fun K hK => ?_)
        go_simp
        refine hK _ ?_
        clear hK K
        refine wq_on (by kernel_rfl) (fun K hK => ?_)
        go_simp
        refine hK _ ?_
        clear hK K
        refine wq_on (by kernel_rfl) (fun K hK => ?_)
        go_simp
        refine hK _ ?_
        clear hK K
        refine wq_on (by kernel_rfl) (fun K hK => ?_)
        go_simp
        refine hK _ ?_
        clear hK K
        refine wq_on (by kernel_rfl) (fun K hK => ?_)
        go_simp
        apply Exists.intro
        refine ⟨fun _ => ?_, hK _ ?_⟩
        · go_at_fn 70; refine Calls.regrown_of (HKN.out _ (below_regrown _ _ _))
        clear hK K
        refine wq_on (by kernel_rfl) (fun K hK => ?_)
        go_simp
        refine hK _ ?_
        clear hK K
        refine wq_on (by kernel_rfl) (fun K hK => ?_)
        go_simp
        refine hK _ ?_
        clear hK K
        refine wq_on (by kernel_rfl) (fun K hK => ?_)
        go_simp
        refine hK _ ?_
        clear hK K
        refine wq_on (by kernel_rfl) (fun K hK => ?_)
        go_simp
        refine hK _ ?_
        clear hK K
        refine wq_on (by kernel_rfl) (fun K hK => ?_)
        go_simp
        refine hK _ ?_
        clear hK K
        refine wq_on (by kernel_rfl) (fun K hK => ?_)
        go_simp
        refine hK _ ?_
        clear hK K
        refine wq_on (by kernel_rfl) (fun K hK => ?_)
        go_simp
        refine hK _ ?_
        clear hK K
        refine wq_on (by kernel_rfl) (fun K hK => ?_)
        go_simp
        refine hK _ ?_
        clear hK K
        refine wq_on (by kernel_rfl) (fun K hK => ?_)
        go_simp
        apply Exists.intro
        refine ⟨fun _ => ?_, hK _ ?_⟩
        · go_at_call 73; refine Calls.regrown_of (HRS.out _ (below_regrown _ _ _))
        clear hK K
        refine wq_on (by kernel_rfl) (fun K hK => ?_)
        go_simp
        refine hK _ ?_
        clear hK K
        refine wq_on (by kernel_rfl) (fun K hK => ?_)
        go_simp
        refine hK _ ?_
        clear hK K
        refine wq_on (by kernel_rfl) (fun K hK => ?_)
        go_simp
        refine hK _ ?_
        clear hK K
        refine wq_nil ?_
        intro w4 hw4
        have gb4 := below_of_regrown hw4
        have HF : Hid (rr = firstE [⟨!nm, 7⟩, ⟨true, 10⟩, ⟨!mc, 13⟩, ⟨kn, 8⟩, ⟨!rs, 14⟩]) := Lib.hid (by rw [HE.out]; simp [HK.out, HU.out, H6.out])
        clear y0 y1 y2 y3 y4 y5 y6 y7 y8
        have h9 := (Go.MapKept.heap_alloc w4 (.cells #[.bool (!nm), .int .i64 7, .bool (true), .int .i64 10, .bool (!mc), .int .i64 13, .bool kn, .int .i64 8, .bool (!rs), .int .i64 14] 114)).1
        have gr9 := gb4.alloc gb4.size (.cells #[.bool (!nm), .int .i64 7, .bool (true), .int .i64 10, .bool (!mc), .int .i64 13, .bool kn, .int .i64 8, .bool (!rs), .int .i64 14] 114)
        go_wp2_with fail
        refine (go_first [⟨!nm, 7⟩, ⟨true, 10⟩, ⟨!mc, 13⟩, ⟨kn, 8⟩, ⟨!rs, 14⟩] (by simp) w4.heap.size 5 (Nat.le_refl _) _ _ h9).mono ?_
        rintro e wf ⟨rfl, hb40⟩
        have gr10 := gr9.trans (hb40.mono gr9.size)
        clear gr9 h9 hb40 gb4 hw4
        go_wp2
        go_ret
        exact ⟨by rw [HF.out]; rfl, HG.out.trans (gr10.mono HG.out.size)⟩
  · have HK := Lib.hid (show decide (a.f2 < 1) = false from decide_eq_false hk)
    by_cases hu : a.f4.toList = []
    · have HU := Lib.hid (show a.f4.toList.isEmpty = true from by rw [hu]; rfl)
      have hub : (a.f4.toList == []) = true := by rw [hu]; rfl
      by_cases h6 : n > 6
      · have H6 := Lib.hid (show decide (n > 6) = true from decide_eq_true h6)
        have hk6 : decide ((n : Int) > 6) = true := decide_eq_true (by omega)
        have hkd : decide (a.f2 < 1) = false := HK.out
        clear h6 hu hk
        refine wp_region_below_tail 39 (by assumption) (by kernel_rfl) ?_
        refine wq_on (by kernel_rfl) (fun K hK => ?_)
        go_simp
        refine hK _ ?_
        clear hK K
        refine wq_on (by kernel_rfl) (fun K hK => ?_)
        go_simp
        apply Exists.intro
        refine ⟨fun _ => ?_, hK _ ?_⟩
        · go_at_call 72; refine Calls.regrown_of (HNM.out _ (below_regrown _ _ _))
        clear hK K
        refine wq_on (by kernel_rfl) (fun K hK => ?_)
        go_simp
        refine hK _ ?_
        clear hK K
        refine wq_on (by kernel_rfl) (fun K hK => ?_)
        go_simp
        refine hK _ ?_
        clear hK K
        refine wq_on (by kernel_rfl) (fun K hK => ?_)
        go_simp
        refine hK _ ?_
        clear hK K
        refine wq_on (by kernel_rfl) (fun K hK => ?_)
        go_simp
        refine hK _ ?_
        clear hK K
        refine wq_on (by kernel_rfl) (fun K hK => ?_)
        go_simp
        refine hK _ ?_
        clear hK K
        refine wq_on (by kernel_rfl) (fun K hK => ?_)
        go_simp
        refine hK _ ?_
        clear hK K
        refine wq_on (by kernel_rfl) (fun K hK => ?_)
        go_simp
        refine hK _ ?_
        clear hK K
        refine wq_on (by kernel_rfl) (fun K hK => ?_)
        go_simp
        refine hK _ ?_
        clear hK K
        refine wq_on (by kernel_rfl) (fun K hK => ?_)
        go_simp
        refine hK _ ?_
        clear hK K
        refine wq_on (by kernel_rfl) (fun K hK => ?_)
        go_simp
        refine hK _ ?_
        clear hK K
        refine wq_on (by kernel_rfl) (fun K hK => ?_)
        go_simp
        refine hK _ ?_
        clear hK K
        refine wq_on (by kernel_rfl) (fun K hK => ?_)
        go_simp
        refine hK _ ?_
        clear hK K
        refine wq_on (by kernel_rfl) (fun K hK => ?_)
        go_simp
        refine hK _ ?_
        clear hK K
        refine wq_on (by kernel_rfl) (fun K hK => ?_)
        go_simp
        refine hK _ ?_
        clear hK K
        refine wq_on (by kernel_rfl) (fun K hK => ?_)
        go_simp
        refine hK _ ?_
        clear hK K
        refine wq_off (by kernel_rfl) (fun K hK => ?_)
        go_simp
        refine hK _ ?_
        clear hK K
        refine wq_off (by kernel_rfl) (fun K hK => ?_)
        go_simp
        refine hK _ ?_
        clear hK K
        refine wq_off (by kernel_rfl) (fun K hK => ?_)
        go_simp
        refine hK _ ?_
        clear hK K
        refine wq_off (by kernel_rfl) (fun K hK => ?_)
        go_simp
        refine hK _ ?_
        clear hK K
        refine wq_on (by kernel_rfl) (fun K hK => ?_)
        go_simp
        refine hK _ ?_
        clear hK K
        refine wq_on (by kernel_rfl) (fun K hK => ?_)
        go_simp
        refine hK _ ?_
        clear hK K
        refine wq_on (by kernel_rfl) (fun K hK => ?_)
        go_simp
        refine hK _ ?_
        clear hK K
        refine wq_on (by kernel_rfl) (fun K hK => ?_)
        go_simp
        refine hK _ ?_
        clear hK K
        refine wq_on (by kernel_rfl) (fun K hK => ?_)
        go_simp
        refine hK _ ?_
        clear hK K
        refine wq_on (by kernel_rfl) (fun K hK => ?_)
        go_simp
        apply Exists.intro
        refine ⟨fun _ => ?_, hK _ ?_⟩
        · go_at_fn 70; refine Calls.regrown_of (HKN.out _ (below_regrown _ _ _))
        clear hK K
        refine wq_on (by kernel_rfl) (fun K hK => ?_)
        go_simp
        refine hK _ ?_
        clear hK K
        refine wq_on (by kernel_rfl) (fun K hK => ?_)
        go_simp
        refine hK _ ?_
        clear hK K
        refine wq_on (by kernel_rfl) (fun K hK => ?_)
        go_simp
        refine hK _ ?_
        clear hK K
        refine wq_on (by kernel_rfl) (fun K hK => ?_)
        go_simp
        refine hK _ ?_
        clear hK K
        refine wq_on (by kernel_rfl) (fun K hK => ?_)
        go_simp
        refine hK _ ?_
        clear hK K
        refine wq_on (by kernel_rfl) (fun K hK => ?_)
        go_simp
        refine hK _ ?_
        clear hK K
        refine wq_off (by kernel_rfl) (fun K hK => ?_)
        go_simp
        refine hK _ ?_
        clear hK K
        refine wq_off (by kernel_rfl) (fun K hK => ?_)
        go_simp
        refine hK _ ?_
        clear hK K
        refine wq_off (by kernel_rfl) (fun K hK => ?_)
        go_simp
        refine hK _ ?_
        clear hK K
        refine wq_off (by kernel_rfl) (fun K hK => ?_)
        go_simp
        refine hK _ ?_
        clear hK K
        refine wq_on (by kernel_rfl) (fun K hK => ?_)
        go_simp
        refine hK _ ?_
        clear hK K
        refine wq_on (by kernel_rfl) (fun K hK => ?_)
        go_simp
        refine hK _ ?_
        clear hK K
        refine wq_nil ?_
        intro w4 hw4
        have gb4 := below_of_regrown hw4
        have HF : Hid (rr = firstE [⟨!nm, 7⟩, ⟨decide (a.f2 > 5), 10⟩, ⟨false, 13⟩, ⟨kn, 8⟩, ⟨true, 14⟩]) := Lib.hid (by rw [HE.out]; simp [HK.out, HU.out, H6.out])
        clear y0 y1 y2 y3 y4 y5 y6 y7 y8
        have h9 := (Go.MapKept.heap_alloc w4 (.cells #[.bool (!nm), .int .i64 7, .bool (decide (a.f2 > 5)), .int .i64 10, .bool (false), .int .i64 13, .bool kn, .int .i64 8, .bool (true), .int .i64 14] 114)).1
        have gr9 := gb4.alloc gb4.size (.cells #[.bool (!nm), .int .i64 7, .bool (decide (a.f2 > 5)), .int .i64 10, .bool (false), .int .i64 13, .bool kn, .int .i64 8, .bool (true), .int .i64 14] 114)
        go_wp2_with fail
        refine (go_first [⟨!nm, 7⟩, ⟨decide (a.f2 > 5), 10⟩, ⟨false, 13⟩, ⟨kn, 8⟩, ⟨true, 14⟩] (by simp) w4.heap.size 5 (Nat.le_refl _) _ _ h9).mono ?_
        rintro e wf ⟨rfl, hb40⟩
        have gr10 := gr9.trans (hb40.mono gr9.size)
        clear gr9 h9 hb40 gb4 hw4
        go_wp2
        go_ret
        exact ⟨by rw [HF.out]; rfl, HG.out.trans (gr10.mono HG.out.size)⟩
      · have H6 := Lib.hid (show decide (n > 6) = false from decide_eq_false h6)
        have hk6 : decide ((n : Int) > 6) = false := decide_eq_false (by omega)
        have hkd : decide (a.f2 < 1) = false := HK.out
        clear h6 hu hk
        refine wp_region_below_tail 39 (by assumption) (by kernel_rfl) ?_
        refine wq_on (by kernel_rfl) (fun K hK => ?_)
        go_simp
        refine hK _ ?_
        clear hK K
        refine wq_on (by kernel_rfl) (fun K hK => ?_)
        go_simp
        apply Exists.intro
        refine ⟨fun _ => ?_, hK _ ?_⟩
        · go_at_call 72; refine Calls.regrown_of (HNM.out _ (below_regrown _ _ _))
        clear hK K
        refine wq_on (by kernel_rfl) (fun K hK => ?_)
        go_simp
        refine hK _ ?_
        clear hK K
        refine wq_on (by kernel_rfl) (fun K hK => ?_)
        go_simp
        refine hK _ ?_
        clear hK K
        refine wq_on (by kernel_rfl) (fun K hK => ?_)
        go_simp
        refine hK _ ?_
        clear hK K
        refine wq_on (by kernel_rfl) (fun K hK => ?_)
        go_simp
        refine hK _ ?_
        clear hK K
        refine wq_on (by kernel_rfl) (fun K hK => ?_)
        go_simp
        refine hK _ ?_
        clear hK K
        refine wq_on (by kernel_rfl) (fun K hK => ?_)
        go_simp
        refine hK _ ?_
        clear hK K
        refine wq_on (by kernel_rfl) (fun K hK => ?_)
        go_simp
        refine hK _ ?_
        clear hK K
        refine wq_on (by kernel_rfl) (fun K hK => ?_)
        go_simp
        refine hK _ ?_
        clear hK K
        refine wq_on (by kernel_rfl) (fun K hK => ?_)
        go_simp
        refine hK _ ?_
        clear hK K
        refine wq_on (by kernel_rfl) (fun K hK => ?_)
        go_simp
        refine hK _ ?_
        clear hK K
        refine wq_on (by kernel_rfl) (fun K hK => ?_)
        go_simp
        refine hK _ ?_
        clear hK K
        refine wq_on (by kernel_rfl) (fun K hK => ?_)
        go_simp
        refine hK _ ?_
        clear hK K
        refine wq_on (by kernel_rfl) (fun K hK => ?_)
        go_simp
        refine hK _ ?_
        clear hK K
        refine wq_on (by kernel_rfl) (fun K hK => ?_)
        go_simp
        refine hK _ ?_
        clear hK K
        refine wq_on (by kernel_rfl) (fun K hK => ?_)
        go_simp
        refine hK _ ?_
        clear hK K
        refine wq_off (by kernel_rfl) (fun K hK => ?_)
        go_simp
        refine hK _ ?_
        clear hK K
        refine wq_off (by kernel_rfl) (fun K hK => ?_)
        go_simp
        refine hK _ ?_
        clear hK K
        refine wq_off (by kernel_rfl) (fun K hK => ?_)
        go_simp
        refine hK _ ?_
        clear hK K
        refine wq_off (by kernel_rfl) (fun K hK => ?_)
        go_simp
        refine hK _ ?_
        clear hK K
        refine wq_on (by kernel_rfl) (fun K hK => ?_)
        go_simp
        refine hK _ ?_
        clear hK K
        refine wq_on (by kernel_rfl) (fun K hK => ?_)
        go_simp
        refine hK _ ?_
        clear hK K
        refine wq_on (by kernel_rfl) (fun K hK => ?_)
        go_simp
        refine hK _ ?_
        clear hK K
        refine wq_on (by kernel_rfl) (fun K hK => ?_)
        go_simp
        refine hK _ ?_
        clear hK K
        refine wq_on (by kernel_rfl) (fun K hK => ?_)
        go_simp
        refine hK _ ?_
        clear hK K
        refine wq_on (by kernel_rfl) (fun K hK => ?_)
        go_simp
        apply Exists.intro
        refine ⟨fun _ => ?_, hK _ ?_⟩
        · go_at_fn 70; refine Calls.regrown_of (HKN.out _ (below_regrown _ _ _))
        clear hK K
        refine wq_on (by kernel_rfl) (fun K hK => ?_)
        go_simp
        refine hK _ ?_
        clear hK K
        refine wq_on (by kernel_rfl) (fun K hK => ?_)
        go_simp
        refine hK _ ?_
        clear hK K
        refine wq_on (by kernel_rfl) (fun K hK => ?_)
        go_simp
        refine hK _ ?_
        clear hK K
        refine wq_on (by kernel_rfl) (fun K hK => ?_)
        go_simp
        refine hK _ ?_
        clear hK K
        refine wq_on (by kernel_rfl) (fun K hK => ?_)
        go_simp
        refine hK _ ?_
        clear hK K
        refine wq_on (by kernel_rfl) (fun K hK => ?_)
        go_simp
        refine hK _ ?_
        clear hK K
        refine wq_on (by kernel_rfl) (fun K hK => ?_)
        go_simp
        refine hK _ ?_
        clear hK K
        refine wq_on (by kernel_rfl) (fun K hK => ?_)
        go_simp
        refine hK _ ?_
        clear hK K
        refine wq_on (by kernel_rfl) (fun K hK => ?_)
        go_simp
        apply Exists.intro
        refine ⟨fun _ => ?_, hK _ ?_⟩
        · go_at_call 73; refine Calls.regrown_of (HRS.out _ (below_regrown _ _ _))
        clear hK K
        refine wq_on (by kernel_rfl) (fun K hK => ?_)
        go_simp
        refine hK _ ?_
        clear hK K
        refine wq_on (by kernel_rfl) (fun K hK => ?_)
        go_simp
        refine hK _ ?_
        clear hK K
        refine wq_on (by kernel_rfl) (fun K hK => ?_)
        go_simp
        refine hK _ ?_
        clear hK K
        refine wq_nil ?_
        intro w4 hw4
        have gb4 := below_of_regrown hw4
        have HF : Hid (rr = firstE [⟨!nm, 7⟩, ⟨decide (a.f2 > 5), 10⟩, ⟨false, 13⟩, ⟨kn, 8⟩, ⟨!rs, 14⟩]) := Lib.hid (by rw [HE.out]; simp [HK.out, HU.out, H6.out])
        clear y0 y1 y2 y3 y4 y5 y6 y7 y8
        have h9 := (Go.MapKept.heap_alloc w4 (.cells #[.bool (!nm), .int .i64 7, .bool (decide (a.f2 > 5)), .int .i64 10, .bool (false), .int .i64 13, .bool kn, .int .i64 8, .bool (!rs), .int .i64 14] 114)).1
        have gr9 := gb4.alloc gb4.size (.cells #[.bool (!nm), .int .i64 7, .bool (decide (a.f2 > 5)), .int .i64 10, .bool (false), .int .i64 13, .bool kn, .int .i64 8, .bool (!rs), .int .i64 14] 114)
        go_wp2_with fail
        refine (go_first [⟨!nm, 7⟩, ⟨decide (a.f2 > 5), 10⟩, ⟨false, 13⟩, ⟨kn, 8⟩, ⟨!rs, 14⟩] (by simp) w4.heap.size 5 (Nat.le_refl _) _ _ h9).mono ?_
        rintro e wf ⟨rfl, hb40⟩
        have gr10 := gr9.trans (hb40.mono gr9.size)
        clear gr9 h9 hb40 gb4 hw4
        go_wp2
        go_ret
        exact ⟨by rw [HF.out]; rfl, HG.out.trans (gr10.mono HG.out.size)⟩
    · have HU := Lib.hid (show a.f4.toList.isEmpty = false from by cases hq : a.f4.toList with | nil => exact absurd hq hu | cons _ _ => rfl)
      have hub : (a.f4.toList == []) = false := beq_eq_false_iff_ne.mpr hu
      by_cases h6 : n > 6
      · have H6 := Lib.hid (show decide (n > 6) = true from decide_eq_true h6)
        have hk6 : decide ((n : Int) > 6) = true := decide_eq_true (by omega)
        have hkd : decide (a.f2 < 1) = false := HK.out
        clear h6 hu hk
        refine wp_region_below_tail 39 (by assumption) (by kernel_rfl) ?_
        refine wq_on (by kernel_rfl) (fun K hK => ?_)
        go_simp
        refine hK _ ?_
        clear hK K
        refine wq_on (by kernel_rfl) (fun K hK => ?_)
        go_simp
        apply Exists.intro
        refine ⟨fun _ => ?_, hK _ ?_⟩
        · go_at_call 72; refine Calls.regrown_of (HNM.out _ (below_regrown _ _ _))
        clear hK K
        refine wq_on (by kernel_rfl) (fun K hK => ?_)
        go_simp
        refine hK _ ?_
        clear hK K
        refine wq_on (by kernel_rfl) (fun K hK => ?_)
        go_simp
        refine hK _ ?_
        clear hK K
        refine wq_on (by kernel_rfl) (fun K hK => ?_)
        go_simp
        refine hK _ ?_
        clear hK K
        refine wq_on (by kernel_rfl) (fun K hK => ?_)
        go_simp
        refine hK _ ?_
        clear hK K
        refine wq_on (by kernel_rfl) (fun K hK => ?_)
        go_simp
        refine hK _ ?_
        clear hK K
        refine wq_on (by kernel_rfl) (fun K hK => ?_)
        go_simp
        refine hK _ ?_
        clear hK K
        refine wq_on (by kernel_rfl) (fun K hK => ?_)
        go_simp
        refine hK _ ?_
        clear hK K
        refine wq_on (by kernel_rfl) (fun K hK => ?_)
        go_simp
        refine hK _ ?_
        clear hK K
        refine wq_on (by kernel_rfl) (fun K hK => ?_)
        go_simp
        refine hK _ ?_
        clear hK K
        refine wq_on (by kernel_rfl) (fun K hK => ?_)
        go_simp
        refine hK _ ?_
        clear hK K
        refine wq_on (by kernel_rfl) (fun K hK => ?_)
        go_simp
        refine hK _ ?_
        clear hK K
        refine wq_on (by kernel_rfl) (fun K hK => ?_)
        go_simp
        refine hK _ ?_
        clear hK K
        refine wq_on (by kernel_rfl) (fun K hK => ?_)
        go_simp
        refine hK _ ?_
        clear hK K
        refine wq_on (by kernel_rfl) (fun K hK => ?_)
        go_simp
        refine hK _ ?_
        clear hK K
        refine wq_on (by kernel_rfl) (fun K hK => ?_)
        go_simp
        refine hK _ ?_
        clear hK K
        refine wq_on (by kernel_rfl) (fun K hK => ?_)
        go_simp
        refine hK _ ?_
        clear hK K
        refine wq_on (by kernel_rfl) (fun K hK => ?_)
        go_simp
        refine hK _ ?_
        clear hK K
        refine wq_on (by kernel_rfl) (fun K hK => ?_)
        go_simp
        apply Exists.intro
        refine ⟨fun _ => ?_, hK _ ?_⟩
        · go_at_call 50; refine Calls.regrown_of (HMC.out _)
        clear hK K
        refine wq_on (by kernel_rfl) (fun K hK => ?_)
        go_simp
        refine hK _ ?_
        clear hK K
        refine wq_on (by kernel_rfl) (fun K hK => ?_)
        go_simp
        refine hK _ ?_
        clear hK K
        refine wq_on (by kernel_rfl) (fun K hK => ?_)
        go_simp
        refine hK _ ?_
        clear hK K
        refine wq_on (by kernel_rfl) (fun K hK => ?_)
        go_simp
        refine hK _ ?_
        clear hK K
        refine wq_on (by kernel_rfl) (fun K hK => ?_)
        go_simp
        refine hK _ ?_
        clear hK K
        refine wq_on (by kernel_rfl) (fun K hK => ?_)
        go_simp
        refine hK _ ?_
        clear hK K
        refine wq_on (by kernel_rfl) (fun K hK => ?_)
        go_simp
        apply Exists.intro
        refine ⟨fun _ => ?_, hK _ ?_⟩
        · go_at_fn 70; refine Calls.regrown_of (HKN.out _ (below_regrown _ _ _))
        clear hK K
        refine wq_on (by kernel_rfl) (fun K hK => ?_)
        go_simp
        refine hK _ ?_
        clear hK K
        refine wq_on (by kernel_rfl) (fun K hK => ?_)
        go_simp
        refine hK _ ?_
        clear hK K
        refine wq_on (by kernel_rfl) (fun K hK => ?_)
        go_simp
        refine hK _ ?_
        clear hK K
        refine wq_on (by kernel_rfl) (fun K hK => ?_)
        go_simp
        refine hK _ ?_
        clear hK K
        refine wq_on (by kernel_rfl) (fun K hK => ?_)
        go_simp
        refine hK _ ?_
        clear hK K
        refine wq_on (by kernel_rfl) (fun K hK => ?_)
        go_simp
        refine hK _ ?_
        clear hK K
        refine wq_off (by kernel_rfl) (fun K hK => ?_)
        go_simp
        refine hK _ ?_
        clear hK K
        refine wq_off (by kernel_rfl) (fun K hK => ?_)
        go_simp
        refine hK _ ?_
        clear hK K
        refine wq_off (by kernel_rfl) (fun K hK => ?_)
        go_simp
        refine hK _ ?_
        clear hK K
        refine wq_off (by kernel_rfl) (fun K hK => ?_)
        go_simp
        refine hK _ ?_
        clear hK K
        refine wq_on (by kernel_rfl) (fun K hK => ?_)
        go_simp
        refine hK _ ?_
        clear hK K
        refine wq_on (by kernel_rfl) (fun K hK => ?_)
        go_simp
        refine hK _ ?_
        clear hK K
        refine wq_nil ?_
        intro w4 hw4
        have gb4 := below_of_regrown hw4
        have HF : Hid (rr = firstE [⟨!nm, 7⟩, ⟨decide (a.f2 > 5), 10⟩, ⟨!mc, 13⟩, ⟨kn, 8⟩, ⟨true, 14⟩]) := Lib.hid (by rw [HE.out]; simp [HK.out, HU.out, H6.out])
        clear y0 y1 y2 y3 y4 y5 y6 y7 y8
        have h9 := (Go.MapKept.heap_alloc w4 (.cells #[.bool (!nm), .int .i64 7, .bool (decide (a.f2 > 5)), .int .i64 10, .bool (!mc), .int .i64 13, .bool kn, .int .i64 8, .bool (true), .int .i64 14] 114)).1
        have gr9 := gb4.alloc gb4.size (.cells #[.bool (!nm), .int .i64 7, .bool (decide (a.f2 > 5)), .int .i64 10, .bool (!mc), .int .i64 13, .bool kn, .int .i64 8, .bool (true), .int .i64 14] 114)
        go_wp2_with fail
        refine (go_first [⟨!nm, 7⟩, ⟨decide (a.f2 > 5), 10⟩, ⟨!mc, 13⟩, ⟨kn, 8⟩, ⟨true, 14⟩] (by simp) w4.heap.size 5 (Nat.le_refl _) _ _ h9).mono ?_
        rintro e wf ⟨rfl, hb40⟩
        have gr10 := gr9.trans (hb40.mono gr9.size)
        clear gr9 h9 hb40 gb4 hw4
        go_wp2
        go_ret
        exact ⟨by rw [HF.out]; rfl, HG.out.trans (gr10.mono HG.out.size)⟩
      · have H6 := Lib.hid (show decide (n > 6) = false from decide_eq_false h6)
        have hk6 : decide ((n : Int) > 6) = false := decide_eq_false (by omega)
        have hkd : decide (a.f2 < 1) = false := HK.out
        clear h6 hu hk
        refine wp_region_below_tail 39 (by assumption) (by kernel_rfl) ?_
        refine wq_on (by kernel_rfl) (fun K hK => ?_)
        go_simp
        refine hK _ ?_
        clear hK K
        refine wq_on (by kernel_rfl) (fun K hK => ?_)
        go_simp
        apply Exists.intro
        refine ⟨fun _ => ?_, hK _ ?_⟩
        · go_at_call 72; refine Calls.regrown_of (HNM.out _ (below_regrown _ _ _))
        clear hK K
        refine wq_on (by kernel_rfl) (fun K hK => ?_)
        go_simp
        refine hK _ ?_
        clear hK K
        refine wq_on (by kernel_rfl) (fun K hK => ?_)
        go_simp
        refine hK _ ?_
        clear hK K
        refine wq_on (by kernel_rfl) (fun K hK => ?_)
        go_simp
        refine hK _ ?_
        clear hK K
        refine wq_on (by kernel_rfl) (fun K hK => ?_)
        go_simp
        refine hK _ ?_
        clear hK K
        refine wq_on (by kernel_rfl) (fun K hK => ?_)
        go_simp
        refine hK _ ?_
        clear hK K
        refine wq_on (by kernel_rfl) (fun K hK => ?_)
        go_simp
        refine hK _ ?_
        clear hK K
        refine wq_on (by kernel_rfl) (fun K hK => ?_)
        go_simp
        refine hK _ ?_
        clear hK K
        refine wq_on (by kernel_rfl) (fun K hK => ?_)
        go_simp
        refine hK _ ?_
        clear hK K
        refine wq_on (by kernel_rfl) (fun K hK => ?_)
        go_simp
        refine hK _ ?_
        clear hK K
        refine wq_on (by kernel_rfl) (fun K hK => ?_)
        go_simp
        refine hK _ ?_
        clear hK K
        refine wq_on (by kernel_rfl) (fun K hK => ?_)
        go_simp
        refine hK _ ?_
        clear hK K
        refine wq_on (by kernel_rfl) (fun K hK => ?_)
        go_simp
        refine hK _ ?_
        clear hK K
        refine wq_on (by kernel_rfl) (fun K hK => ?_)
        go_simp
        refine hK _ ?_
        clear hK K
        refine wq_on (by kernel_rfl) (fun K hK => ?_)
        go_simp
        refine hK _ ?_
        clear hK K
        refine wq_on (by kernel_rfl) (fun K hK => ?_)
        go_simp
        refine hK _ ?_
        clear hK K
        refine wq_on (by kernel_rfl) (fun K hK => ?_)
        go_simp
        refine hK _ ?_
        clear hK K
        refine wq_on (by kernel_rfl) (fun K hK => ?_)
        go_simp
        refine hK _ ?_
        clear hK K
        refine wq_on (by kernel_rfl) (fun K hK => ?_)
        go_simp
        apply Exists.intro
        refine ⟨fun _ => ?_, hK _ ?_⟩
        · go_at_call 50; refine Calls.regrown_of (HMC.out _)
        clear hK K
        refine wq_on (by kernel_rfl) (fun K hK => ?_)
        go_simp
        refine hK _ ?_
        clear hK K
        refine wq_on (by kernel_rfl) (fun K hK => ?_)
        go_simp
        refine hK _ ?_
        clear hK K
        refine wq_on (by kernel_rfl) (fun K hK => ?_)
        go_simp
        refine hK _ ?_
        clear hK K
        refine wq_on (by kernel_rfl) (fun K hK => ?_)
        go_simp
        refine hK _ ?_
        clear hK K
        refine wq_on (by kernel_rfl) (fun K hK => ?_)
        go_simp
        refine hK _ ?_
        clear hK K
        refine wq_on (by kernel_rfl) (fun K hK => ?_)
        go_simp
        refine hK _ ?_
        clear hK K
        refine wq_on (by kernel_rfl) (fun K hK => ?_)
        go_simp
        apply Exists.intro
        refine ⟨fun _ => ?_, hK _ ?_⟩
        · go_at_fn 70; refine Calls.regrown_of (HKN.out _ (below_regrown _ _ _))
        clear hK K
        refine wq_on (by kernel_rfl) (fun K hK => ?_)
        go_simp
        refine hK _ ?_
        clear hK K
        refine wq_on (by kernel_rfl) (fun K hK => ?_)
        go_simp
        refine hK _ ?_
        clear hK K
        refine wq_on (by kernel_rfl) (fun K hK => ?_)
        go_simp
        refine hK _ ?_
        clear hK K
        refine wq_on (by kernel_rfl) (fun K hK => ?_)
        go_simp
        refine hK _ ?_
        clear hK K
        refine wq_on (by kernel_rfl) (fun K hK => ?_)
        go_simp
        refine hK _ ?_
        clear hK K
        refine wq_on (by kernel_rfl) (fun K hK => ?_)
        go_simp
        refine hK _ ?_
        clear hK K
        refine wq_on (by kernel_rfl) (fun K hK => ?_)
        go_simp
        refine hK _ ?_
        clear hK K
        refine wq_on (by kernel_rfl) (fun K hK => ?_)
        go_simp
        refine hK _ ?_
        clear hK K
        refine wq_on (by kernel_rfl) (fun K hK => ?_)
        go_simp
        apply Exists.intro
        refine ⟨fun _ => ?_, hK _ ?_⟩
        · go_at_call 73; refine Calls.regrown_of (HRS.out _ (below_regrown _ _ _))
        clear hK K
        refine wq_on (by kernel_rfl) (fun K hK => ?_)
        go_simp
        refine hK _ ?_
        clear hK K
        refine wq_on (by kernel_rfl) (fun K hK => ?_)
        go_simp
        refine hK _ ?_
        clear hK K
        refine wq_on (by kernel_rfl) (fun K hK => ?_)
        go_simp
        refine hK _ ?_
        clear hK K
        refine wq_nil ?_
        intro w4 hw4
        have gb4 := below_of_regrown hw4
        have HF : Hid (rr = firstE [⟨!nm, 7⟩, ⟨decide (a.f2 > 5), 10⟩, ⟨!mc, 13⟩, ⟨kn, 8⟩, ⟨!rs, 14⟩]) := Lib.hid (by rw [HE.out]; simp [HK.out, HU.out, H6.out])
        clear y0 y1 y2 y3 y4 y5 y6 y7 y8
        have h9 := (Go.MapKept.heap_alloc w4 (.cells #[.bool (!nm), .int .i64 7, .bool (decide (a.f2 > 5)), .int .i64 10, .bool (!mc), .int .i64 13, .bool kn, .int .i64 8, .bool (!rs), .int .i64 14] 114)).1
        have gr9 := gb4.alloc gb4.size (.cells #[.bool (!nm), .int .i64 7, .bool (decide (a.f2 > 5)), .int .i64 10, .bool (!mc), .int .i64 13, .bool kn, .int .i64 8, .bool (!rs), .int .i64 14] 114)
        go_wp2_with fail
        refine (go_first [⟨!nm, 7⟩, ⟨decide (a.f2 > 5), 10⟩, ⟨!mc, 13⟩, ⟨kn, 8⟩, ⟨!rs, 14⟩] (by simp) w4.heap.size 5 (Nat.le_refl _) _ _ h9).mono ?_
        rintro e wf ⟨rfl, hb40⟩
        have gr10 := gr9.trans (hb40.mono gr9.size)
        clear gr9 h9 hb40 gb4 hw4
        go_wp2
        go_ret
        exact ⟨by rw [HF.out]; rfl, HG.out.trans (gr10.mono HG.out.size)⟩
instance : Inhabited Acct := ⟨za⟩
theorem accts_at {w : World} {A : Option Addr} {l : List Acct} (hC : Kd.C k62 w A l.length l) : ∀ k, k < l.length → ∃ ad A7 c7, A = some ad ∧ l[k]!.f7.length ≤ c7 ∧ Kd.C Kd.string w A7 l[k]!.f7.length l[k]!.f7 ∧ ∀ W, Below w.heap.size w W → W.cell? (ad.add (k * 8)) = some (.string l[k]!.f0) ∧ W.cell? ⟨(ad.add (k * 8)).block, (ad.add (k * 8)).off + 1, none⟩ = some (.string l[k]!.f1) ∧ W.cell? ⟨(ad.add (k * 8)).block, (ad.add (k * 8)).off + 2, none⟩ = some (.int .i64 l[k]!.f2) ∧ W.cell? ⟨(ad.add (k * 8)).block, (ad.add (k * 8)).off + 3, none⟩ = some (.bool l[k]!.f3) ∧ W.cell? ⟨(ad.add (k * 8)).block, (ad.add (k * 8)).off + 4, none⟩ = some (.string l[k]!.f4) ∧ W.cell? ⟨(ad.add (k * 8)).block, (ad.add (k * 8)).off + 5, none⟩ = some (.bool l[k]!.f5) ∧ W.cell? ⟨(ad.add (k * 8)).block, (ad.add (k * 8)).off + 6, none⟩ = some (.bool l[k]!.f6) ∧ W.cell? ⟨(ad.add (k * 8)).block, (ad.add (k * 8)).off + 7, none⟩ = some (.slice A7 l[k]!.f7.length c7) := by
  intro k hk
  obtain ⟨ad, A7, c7, hA, c0, c1, c2, c3, c4, c5, c6, c7', h8, h9⟩ := at_T62 hC (k : Int) (by omega) (by omega)
  have e : rd_T62 l (k : Int) = l[k]! := by
    show l.getD (k : Int).toNat _ = _
    rw [Int.toNat_natCast, List.getD_eq_getElem?_getD, List.getElem?_eq_getElem hk, Option.getD_some, getElem!_pos l k hk]
  rw [e] at c0 c1 c2 c3 c4 c5 c6 c7' h8 h9
  rw [Int.toNat_natCast] at c0 c1 c2 c3 c4 c5 c6 c7'
  have tr : ∀ {a : Addr} {v : Value} (W : World), Below w.heap.size w W → w.cell? a = some v → W.cell? a = some v := fun {a v} W g h => (g.cell (World.block_lt_of_cell? w a h)).trans h
  exact ⟨ad, A7, c7, hA, h8, h9, fun W g => ⟨tr W g c0, tr W g c1, tr W g c2, tr W g c3, tr W g c4, tr W g c5, tr W g c6, tr W g c7'⟩⟩
def mapI (l : List Acct) : Nat → ByteArray → Option Acct
  | 0 => fun _ => none
  | i + 1 => fun x => if x = l[i]!.f0 then some l[i]! else mapI l i x
theorem mapI_mem (l : List Acct) : ∀ (i : Nat) (x : ByteArray) (a : Acct), i ≤ l.length → mapI l i x = some a → a ∈ l ∧ a.f0 = x
  | 0, _, _, _, h => by cases h
  | i + 1, x, a, hi, h => by
    have h : (if x = l[i]!.f0 then some l[i]! else mapI l i x) = some a := h
    split at h
    · injection h with h
      subst h
      rename_i hx
      exact ⟨by rw [getElem!_pos l i hi]; exact List.getElem_mem hi, hx.symm⟩
    · exact mapI_mem l i x a (by omega) h
theorem alone_need {a : Acct} {kn : Bool} (h : aloneE a kn = 0) : a.f7.length ≤ 1000000 := by
  refine Classical.byContradiction fun hc => ?_
  have hd : (decide (a.f7.length > 6) || !risingB a.f7) = true := by
    rw [decide_eq_true (show a.f7.length > 6 by omega)]; rfl
  unfold aloneE at h
  simp only [firstE, hd] at h
  repeat' split at h
  all_goals first | exact absurd h (by decide) | (rename_i hn; exact absurd trivial hn) | (rename_i hn; exact absurd rfl hn)
structure CB (w0 w : World) (g m1 m2 : Nat) (V : ByteArray → Value) (M : ByteArray → Option Acct) : Prop where
  blk : w.heap[g]? = some (.cells #[.map (some m1), .map (some m2), .slice none 0 0] 85 (0, 0))
  mp : MapAt Try.prog 9 encS w m1 (fun x => (M x).map fun a => acctV a (V x))
  nd : ∀ x a, M x = some a → w.ownsRow w0.heap.size 9 1 (V x) a.f7.length (strs a.f7) ∧ a.f7.length ≤ 1000000
  kd : MapAt Try.prog 9 encS w m2 (fun _ => none)
  dif : m1 ≠ m2
  gB : w0.heap.size ≤ g
  m1B : w0.heap.size ≤ m1
  m2B : w0.heap.size ≤ m2
  bel : Below w0.heap.size w0 w
variable {w0 w w1 : World} {g m1 m2 : Nat} {V : ByteArray → Value} {M : ByteArray → Option Acct}
theorem CB.below (h : CB w0 w g m1 m2 V M) (hb : Below w.heap.size w w1) : CB w0 w1 g m1 m2 V M where
  blk := (hb.block g (Array.getElem?_eq_some_iff.mp h.blk).1).trans h.blk
  mp := h.mp.below hb
  nd x a hx := ⟨pw_own_below (h.nd x a hx).1 hb, (h.nd x a hx).2⟩
  kd := h.kd.below hb
  dif := h.dif
  gB := h.gB
  m1B := h.m1B
  m2B := h.m2B
  bel := h.bel.trans (hb.mono h.bel.size)
theorem need_at {w : World} {B : Nat} {v : Value} {l : List ByteArray} (h : w.ownsRow B 9 1 v l.length (strs l)) (hl : l.length ≤ 1000000) : ∃ A c, v = .slice A l.length c ∧ Kd.C Kd.string w A l.length l := by
  obtain ⟨A, c, hv, _⟩ := own_form h
  subst hv
  exact ⟨A, c, rfl, C_of_own h hl⟩
theorem CB.chart (h : CB w0 w g m1 m2 V M) (xs : List ByteArray) (hx : ∀ x, (M x).isSome = true → x ∈ xs) (L : Nat) (hL : xs.length ≤ L) : ChartAt w g L M := by
  obtain ⟨es, clock, hes, hle⟩ := size_of_map h.mp xs (fun x hs => hx x (by cases hm : M x with | none => rw [hm] at hs; cases hs | some a => rfl))
  exact ⟨m1, V, es.size, blk_cell h.blk 0, h.mp, fun x a hxa => by
    obtain ⟨A, c, hv, hC⟩ := need_at (h.nd x a hxa).1 (h.nd x a hxa).2
    exact ⟨A, c, hv, hC, (h.nd x a hxa).2⟩, by omega, es, clock, hes, rfl⟩
theorem CB.store (h : CB w0 w g m1 m2 V M) (x : ByteArray) (hx : x.size ≤ maxLen) (a : Acct) {v : Value} (hv : w.ownsRow w0.heap.size 9 1 v a.f7.length (strs a.f7)) (hl : a.f7.length ≤ 1000000) :
    ∃ ob, (Instr.mapUpdate 82 (.map (some m1)) (.string x) (acctV a v)).run Try.prog w = .ok () (ChangeMaps.setBlock w m1 ob) ∧ CB w0 (ChangeMaps.setBlock w m1 ob) g m1 m2 (fun y => if y = x then v else V y) (fun y => if y = x then some a else M y) := by
  obtain ⟨kl, hkl⟩ := key_s hx
  obtain ⟨ob, hob, hm⟩ := h.mp.store str_keyed encS_inj Try.underlying82 x (acctV a v) hkl
  have hoth : ∀ b, b ≠ m1 → (ChangeMaps.setBlock w m1 ob).heap[b]? = w.heap[b]? := fun b hb => by
    simp [ChangeMaps.setBlock, Ne.symm hb]
  obtain ⟨es, cl, hes, _⟩ := h.mp
  have hrow : ∀ {B n : Nat} {v : Value} {xs : List Value}, w.ownsRow B 9 1 v n xs → (ChangeMaps.setBlock w m1 ob).ownsRow B 9 1 v n xs := fun {B n v xs} ho =>
    own_move ho (fun b hb => hoth b (fun e1 => own_not_block ho hes (fun _ e => by cases e) (by rw [hb, e1])))
  have hgm : g ≠ m1 := fun e => by
    have hb := h.blk
    rw [e, hes] at hb
    cases hb
  refine ⟨ob, hob, ⟨(hoth g hgm).trans h.blk, ?_, ?_, h.kd.of_block (hoth m2 (Ne.symm h.dif)), h.dif, h.gB, h.m1B, h.m2B, ?_⟩⟩
  · have e : (fun y => ((if y = x then some a else M y).map fun b => acctV b (if y = x then v else V y))) = putM (fun y => (M y).map fun b => acctV b (V y)) x (acctV a v) := by
      funext y
      unfold putM
      by_cases hy : y = x
      · simp [hy]
      · simp [hy]
    rw [e]; exact hm
  · intro y b hyb
    by_cases hy : y = x
    · rw [if_pos hy] at hyb ⊢
      cases hyb
      exact ⟨hrow hv, hl⟩
    · rw [if_neg hy] at hyb ⊢
      exact ⟨hrow (h.nd y b hyb).1, (h.nd y b hyb).2⟩
  · have hm1 := h.m1B
    refine h.bel.trans ⟨rfl, rfl, rfl, by simp [ChangeMaps.setBlock], fun k hk => hoth k (by omega)⟩
theorem CB.sorted (h : CB w0 w g m1 m2 V M) (xs : List ByteArray) (hx : ∀ x, (M x).isSome = true → x ∈ xs) (L : Nat) (hL : xs.length ≤ L) {vC : Value} (hblk : w1.heap[g]? = some (.cells #[.map (some m1), .map (some m2), vC] 85 (0, 0))) (hk : ∀ k, k < w.heap.size → k ≠ g → k ≠ m2 → w1.heap[k]? = w.heap[k]?) (hos : w1.os = w.os) (ht : w1.tape = w.tape) (ho : w1.output = w.output) (hsz : w.heap.size ≤ w1.heap.size) : ChartAt w1 g L M ∧ Below w0.heap.size w0 w1 := by
  obtain ⟨es2, cl2, hes2, _⟩ := h.kd
  have hgm : m1 ≠ g := fun e => by
    obtain ⟨es, cl, hes, _⟩ := h.mp
    have hb := h.blk
    rw [← e, hes] at hb
    cases hb
  have hm1 := hk m1 h.mp.lt hgm h.dif
  have hmp := h.mp.of_block hm1
  obtain ⟨es, clock, hes, hle⟩ := size_of_map hmp xs (fun x hs => hx x (by cases hm : M x with | none => rw [hm] at hs; cases hs | some a => rfl))
  have hgB := h.gB; have hm2B := h.m2B
  refine ⟨⟨m1, V, es.size, blk_cell hblk 0, hmp, fun x a hxa => ?_, by omega, es, clock, hes, rfl⟩, ⟨hos.trans h.bel.os, ht.trans h.bel.tape, ho.trans h.bel.output, Nat.le_trans h.bel.size hsz, fun k hk2 => ?_⟩⟩
  · have hr := (h.nd x a hxa).1
    have hr1 : w1.ownsRow w0.heap.size 9 1 (V x) a.f7.length (strs a.f7) := own_move hr (fun b hb => hk b (own_lt hr b hb) (fun e => own_ne_of hr h.blk (by decide) (by rw [hb, e])) (fun e => own_not_block hr hes2 (fun _ e => by cases e) (by rw [hb, e])))
    obtain ⟨A, c, hv, hC⟩ := need_at hr1 (h.nd x a hxa).2
    exact ⟨A, c, hv, hC, (h.nd x a hxa).2⟩
  · rw [hk k (Nat.lt_of_lt_of_le hk2 h.bel.size) (by omega) (by omega)]
    exact h.bel.block k hk2
theorem CB.start (w : World) : CB w (((w.alloc (.map #[] 0)).alloc (.map #[] 0)).alloc (.cells #[.map (some w.heap.size), .map (some (w.heap.size + 1)), .slice none 0 0] 85)) (w.heap.size + 1 + 1) w.heap.size (w.heap.size + 1) (fun _ => .slice none 0 0) (fun _ => none) := by
  have hm1 := MapAt.made Try.prog 9 encS w
  have hm2 := MapAt.made Try.prog 9 encS (w.alloc (.map #[] 0))
  rw [World.size_alloc] at hm2
  have hb2 := (Below.refl _ (w.alloc (.map #[] 0))).alloc (Nat.le_refl _) (.map #[] 0)
  have hb3 := (Below.refl _ ((w.alloc (.map #[] 0)).alloc (.map #[] 0))).alloc (Nat.le_refl _) (.cells #[.map (some w.heap.size), .map (some (w.heap.size + 1)), .slice none 0 0] 85)
  refine ⟨?_, (hm1.below hb2).below hb3, (fun x a h => by cases h), hm2.below hb3, by omega, by omega, Nat.le_refl _, by omega, (((Below.refl _ w).alloc (Nat.le_refl _) _).alloc (by simp) _).alloc (by simp; omega) _⟩
  have := (Go.MapKept.heap_alloc ((w.alloc (.map #[] 0)).alloc (.map #[] 0)) (.cells #[.map (some w.heap.size), .map (some (w.heap.size + 1)), .slice none 0 0] 85)).1
  rw [World.size_alloc, World.size_alloc] at this
  exact this
end Go.Proofs.Ytdlilbleohlmnaa.PAq
namespace Go.Proofs.Ytdlilbleohlmnaa.PAq
open Go.RowKit Go.Lib Go.Sort Go.Proofs.YtdlilbleohlmnaaW.PrintWords Go.Proofs.YtdlilbleohlmnaaW.PrintLast
def Bad (l : List Acct) : Prop := 400 < l.length ∨ (∃ i, i < l.length ∧ aloneE l[i]! (mapI l i l[i]!.f0).isSome ≠ 0) ∨ ∃ i n, i < l.length ∧ n ≤ l.length ∧ belowE (mapI l l.length) l[i]! n ≠ 0
def NewPost (l : List Acct) (w : World) (e : Ending) (w' : World) : Prop :=
  Below w.heap.size w w' ∧ ((∃ i er, e = .returned (.tuple #[.pointer none, .int .i64 i, .int .i64 er]) ∧ Bad l) ∨ ∃ g, e = .returned (.tuple #[.pointer (some ⟨g, 0, none⟩), .int .i64 0, .int .i64 0]) ∧ ChartAt w' g l.length (mapI l l.length))
set_option maxHeartbeats 2000000 in
set_option maxRecDepth 100000 in
theorem go_newChart (l : List Acct) (A : Option Addr) (c : Nat) (w : World) (hC : Kd.C k62 w A l.length l) (hc : l.length ≤ c) (hs : ∀ a ∈ l, Sized a) (hll : l.length ≤ 1000000) :
    Calls Try.prog 24 #[.slice A l.length c] w fun e w' => NewPost l w e w' := by
  have hBAD : 400 < l.length → Bad l := fun h => .inl h
  have HBAD := Lib.hid (show (∀ i, i < l.length → aloneE l[i]! (mapI l i l[i]!.f0).isSome ≠ 0 → Bad l) ∧ ∀ i n, i < l.length → n ≤ l.length → belowE (mapI l l.length) l[i]! n ≠ 0 → Bad l from ⟨fun i h1 h2 => .inr (.inl ⟨i, h1, h2⟩), fun i n h1 h2 h3 => .inr (.inr ⟨i, n, h1, h2, h3⟩)⟩)
  have HAC := Lib.hid (accts_at hC)
  have HSZ := Lib.hid (show ∀ i, i < l.length → Sized l[i]! from fun i hi => hs _ (by rw [getElem!_pos l i hi]; exact List.getElem_mem hi))
  have HMS := Lib.hid (show ∀ i x a, i ≤ l.length → mapI l i x = some a → Sized a from fun i x a hi h => hs a (mapI_mem l i x a hi h).1)
  have HXS := Lib.hid (show ∀ i x, i ≤ l.length → (mapI l i x).isSome = true → x ∈ l.map (fun a => a.f0) from fun i x hi h => by
    cases hm : mapI l i x with
    | none => rw [hm] at h; cases h
    | some a => exact List.mem_map.mpr ⟨a, mapI_mem l i x a hi hm⟩)
  have HXL := Lib.hid (show (l.map (fun a => a.f0)).length ≤ l.length from by rw [List.length_map]; exact Nat.le_refl _)
  have HXZ := Lib.hid (show ∀ x ∈ l.map (fun a => a.f0), x.size ≤ maxLen from fun x hx => by
    obtain ⟨a, ha, rfl⟩ := List.mem_map.mp hx
    exact Nat.le_trans (hs a ha).1 (by unfold maxLen; omega))
  obtain ⟨n, hn⟩ : ∃ n, l.length = n := ⟨_, rfl⟩
  have HN := Lib.hid hn
  rw [hn] at hBAD hll ⊢
  rw [hn] at HBAD HAC HSZ HMS HXS HXL
  clear hC hs hn hc
  by_cases hbig : n > 400
  · have hbz : (n : Int) > 400 := by omega
    have HB := Lib.hid (hBAD hbig)
    clear hBAD
    go_enter Try.func24, Try.ntmps24
    go_wp2
    go_step3
    go_wp2
    rw [Exit.noGoto_ret]
    refine bodyPost_ret (v := .tuple #[.pointer none, .int .i64 0, .int .i64 9]) (by simp [results, Try.results24, go_sem]) rfl ?_
    exact ⟨Below.refl _ _, .inl ⟨0, 9, rfl, HB.out⟩⟩
  · have hbz : ¬ ((n : Int) > 400) := by omega
    clear hBAD
    have hCB0 := CB.start w
    have HCB0 := Lib.hid hCB0
    have hmm := @run_makeMap Try.prog
    clear hCB0
    go_enter Try.func24, Try.ntmps24
    go_wp2
    go_step3
    go_wp2
    go_step3
    go_wp2
    obtain ⟨w1, hw1⟩ : ∃ W, ((w.alloc (.map #[] 0)).alloc (.map #[] 0)).alloc (.cells #[.map (some w.heap.size), .map (some (w.heap.size + 1)), .slice none 0 0] 85) = W := ⟨_, rfl⟩
    obtain ⟨g, hg⟩ : ∃ g, w.heap.size + 1 + 1 = g := ⟨_, rfl⟩
    obtain ⟨m1, hm1⟩ : ∃ m, w.heap.size = m := ⟨_, rfl⟩
    obtain ⟨m2, hm2⟩ : ∃ m, w.heap.size + 1 = m := ⟨_, rfl⟩
    have HC1 : Hid (CB w w1 g m1 m2 (fun _ => .slice none 0 0) (mapI l 0)) := Lib.hid (by have := HCB0.out; rw [hw1, hg, hm2, hm1] at this; exact this)
    rw [hw1, hg]
    clear hw1 hg hm1 hm2 hmm HCB0
    go_loopg [2] 0 (fun gk v2 wr => gk = 0 ∧ v2 = .pointer (some ⟨g, 0, none⟩) ∧ wr = w1)
    case atStart => exact ⟨rfl, rfl, rfl⟩
    case round =>
      obtain ⟨rfl, rfl, rfl⟩ := hrel
      go_wp2
      go_loopg [18] n (fun gk v18 wr => ∃ (i : Nat) (V : ByteArray → Value), gk = n - i ∧ i ≤ n ∧ v18 = .int .i64 i ∧ Hid (CB w wr g m1 m2 V (mapI l i)))
      case atStart => exact ⟨0, _, rfl, by omega, rfl, HC1⟩
      case round =>
        obtain ⟨i, V, rfl, hi, rfl, HCB⟩ := hrel
        clear HC1
        by_cases hlt : i < n
        · have hltz : (i : Int) < (n : Int) := by omega
          obtain ⟨ad, A7, c7, hA, hlc, hC7, hcf⟩ := HAC.out i hlt
          obtain ⟨a, ha⟩ : ∃ a, l[i]! = a := ⟨_, rfl⟩
          have hsz := HSZ.out i hlt
          rw [ha] at hlc hC7 hcf hsz
          have HA := Lib.hid ha; have HSA := Lib.hid hsz
          obtain ⟨e0, e1, e2, e3, e4, e5, e6, e7⟩ := hcf wr HCB.out.bel
          obtain ⟨n7, hn7⟩ : ∃ q, a.f7.length = q := ⟨_, rfl⟩
          have HN7 := Lib.hid hn7
          have HC7 := Lib.hid hC7; have HLC := Lib.hid hlc
          rw [hn7] at e7
          subst hA
          clear ha hsz hlc hC7 hcf hn7
          go_wp2_with fail
          have gb : Below wr.heap.size wr (wr.alloc (.cells #[.string a.f0, .string a.f1, .int .i64 a.f2, .bool a.f3, .string a.f4, .bool a.f5, .bool a.f6, .slice A7 n7 c7] 62)) := (Below.refl _ _).alloc (Nat.le_refl _) _
          have hz6 := (Go.MapKept.heap_alloc wr (.cells #[.string a.f0, .string a.f1, .int .i64 a.f2, .bool a.f3, .string a.f4, .bool a.f5, .bool a.f6, .slice A7 n7 c7] 62)).1
          have HCB2 := Lib.hid (HCB.out.below gb)
          obtain ⟨w2, hw2⟩ : ∃ W, wr.alloc (.cells #[.string a.f0, .string a.f1, .int .i64 a.f2, .bool a.f3, .string a.f4, .bool a.f5, .bool a.f6, .slice A7 n7 c7] 62) = W := ⟨_, rfl⟩
          obtain ⟨z6, ez6⟩ : ∃ z, wr.heap.size = z := ⟨_, rfl⟩
          rw [hw2] at gb hz6 HCB2 ⊢
          rw [ez6] at hz6 ⊢
          have hal := go_alone a HSA.out A7 c7 g n (mapI l i) w2 (HCB2.out.chart (l.map (fun a => a.f0)) (fun x hx => HXS.out i x hi hx) n HXL.out) (Kd.C_below HC7.out HCB2.out.bel) HLC.out
          rw [HN7.out] at hal
          have HAL := Lib.hid hal
          have HZ6 := Lib.hid hz6
          clear hal hw2 ez6 gb hz6 e0 e1 e2 e3 e4 e5 e6 e7
          refine HAL.out.mono ?_
          rintro e w3 ⟨rfl, hb3⟩
          obtain ⟨er, her⟩ : ∃ q, aloneE a (mapI l i a.f0).isSome = q := ⟨_, rfl⟩
          have HER := Lib.hid her
          have HCB3 := Lib.hid (HCB2.out.below hb3)
          have hz63 := (hb3.block z6 (Array.getElem?_eq_some_iff.mp HZ6.out).1).trans HZ6.out
          rw [her]
          clear her HAL hb3 HZ6 HCB2
          by_cases he0 : er = 0
          · subst he0
            have H7S := Lib.hid (alone_need HER.out)
            go_upto_region 9 with fail
            have HS9 := Lib.hid (show ∀ w' : World, Below w3.heap.size w3 w' → w'.cell? ⟨g, 0, none⟩ = some (.map (some m1)) ∧ w'.cell? ⟨z6, 0, none⟩ = some (.string a.f0) ∧ w'.cell? ⟨z6, 1, none⟩ = some (.string a.f1) ∧ w'.cell? ⟨z6, 2, none⟩ = some (.int .i64 a.f2) ∧ w'.cell? ⟨z6, 3, none⟩ = some (.bool a.f3) ∧ w'.cell? ⟨z6, 4, none⟩ = some (.string a.f4) ∧ w'.cell? ⟨z6, 5, none⟩ = some (.bool a.f5) ∧ w'.cell? ⟨z6, 6, none⟩ = some (.bool a.f6) ∧ w'.cell? ⟨z6, 7, none⟩ = some (.slice A7 n7 c7) from fun w' gr => by
              have h6 := (gr.block z6 (Array.getElem?_eq_some_iff.mp hz63).1).trans hz63
              exact ⟨blk_cell (HCB3.out.below gr).blk 0, blk_cell h6 0, blk_cell h6 1, blk_cell h6 2, blk_cell h6 3, blk_cell h6 4, blk_cell h6 5, blk_cell h6 6, blk_cell h6 7⟩)
            have HCP : Hid (∀ W : World, Below w3.heap.size w3 W → Calls Try.prog 44 #[.agg #[.string a.f0, .string a.f1, .int .i64 a.f2, .bool a.f3, .string a.f4, .bool a.f5, .bool a.f6, .slice A7 n7 c7]] W fun e w' => ∃ v', e = .returned (.agg #[.string a.f0, .string a.f1, .int .i64 a.f2, .bool a.f3, .string a.f4, .bool a.f5, .bool a.f6, v']) ∧ w'.ownsRow W.heap.size 9 1 v' n7 (strs a.f7) ∧ Below W.heap.size W w') := Lib.hid (fun W hW => by
              have := go_copied a A7 c7 W (Kd.C_below HC7.out (HCB3.out.below hW).bel) H7S.out
              rw [HN7.out] at this; exact this)
            have HST := Lib.hid (fun (W : World) (v' : Value) (hW : Below w3.heap.size w3 W) (ho : W.ownsRow w.heap.size 9 1 v' n7 (strs a.f7)) => (HCB3.out.below hW).store a.f0 (Nat.le_trans HSA.out.1 (by unfold maxLen; omega)) a (v := v') (by rw [HN7.out]; exact ho) H7S.out)
            have gr0 : Below w3.heap.size w3 w3.drew := (Below.refl _ _).drew
            have HW0 := Lib.hid (show w.heap.size ≤ w3.drew.heap.size from HCB3.out.bel.size)
            unfold acctV at HST
            refine start_ (n := 9) (S := fun w' => w'.cell? ⟨g, 0, none⟩ = some (.map (some m1)) ∧ w'.cell? ⟨z6, 0, none⟩ = some (.string a.f0) ∧ w'.cell? ⟨z6, 1, none⟩ = some (.string a.f1) ∧ w'.cell? ⟨z6, 2, none⟩ = some (.int .i64 a.f2) ∧ w'.cell? ⟨z6, 3, none⟩ = some (.bool a.f3) ∧ w'.cell? ⟨z6, 4, none⟩ = some (.string a.f4) ∧ w'.cell? ⟨z6, 5, none⟩ = some (.bool a.f5) ∧ w'.cell? ⟨z6, 6, none⟩ = some (.bool a.f6) ∧ w'.cell? ⟨z6, 7, none⟩ = some (.slice A7 n7 c7)) (ds := [8]) #[false, false, false, false, false, false, false, false, false] (by kernel_rfl) rfl rfl ⟨(HS9.out _ gr0).1, (HS9.out _ gr0).2.1, (HS9.out _ gr0).2.2.1, (HS9.out _ gr0).2.2.2.1, (HS9.out _ gr0).2.2.2.2.1, (HS9.out _ gr0).2.2.2.2.2.1, (HS9.out _ gr0).2.2.2.2.2.2.1, (HS9.out _ gr0).2.2.2.2.2.2.2.1, (HS9.out _ gr0).2.2.2.2.2.2.2.2⟩ (fun hHeld => ?_)
            refine pure_ (i := 0) (N := some 29) (v := ?_) (a' := ?_) #[true, false, false, false, false, false, false, false, false] rfl rfl (by kernel_rfl) (fun _ _ _ h => h) (Or.inl ⟨by rfl, ?_⟩) ?_ ?_
            rotate_left
            · intro w'
              go_simp
              with_reducible rfl
            rotate_left
            · simp only [Act.put, pkA, pkZ, pkS, i64_w, i32_w]
              rfl
            refine pure_ (i := 1) (N := some 30) (v := ?_) (a' := ?_) #[true, true, false, false, false, false, false, false, false] rfl rfl (by kernel_rfl) (fun _ _ _ h => h) (Or.inl ⟨by rfl, ?_⟩) ?_ ?_
            rotate_left
            · intro w'
              go_simp
              with_reducible rfl
            rotate_left
            · simp only [Act.put, pkA, pkZ, pkS, i64_w, i32_w]
              rfl
            refine pure_ (i := 2) (N := some 31) (v := ?_) (a' := ?_) #[true, true, true, false, false, false, false, false, false] rfl rfl (by kernel_rfl) (fun _ _ _ h => h) (Or.inl ⟨by rfl, ?_⟩) ?_ ?_
            rotate_left
            · intro w'
              go_simp
              with_reducible rfl
            rotate_left
            · simp only [Act.put, pkA, pkZ, pkS, i64_w, i32_w]
              rfl
            refine pure_ (i := 4) (N := some 33) (v := ?_) (a' := ?_) #[true, true, true, false, true, false, false, false, false] rfl rfl (by kernel_rfl) (fun _ _ _ h => h) (Or.inl ⟨by rfl, ?_⟩) ?_ ?_
            rotate_left
            · intro w'
              go_simp
              with_reducible rfl
            rotate_left
            · simp only [Act.put, pkA, pkZ, pkS, i64_w, i32_w]
              rfl
            refine take_ (i := 3) (N := some 32) (v := ?_) (a' := ?_) #[true, true, true, true, true, false, false, false, false] rfl rfl (by kernel_rfl) (fun _ _ _ h => h) (Or.inl ⟨by rfl, ?_⟩) hHeld ?_ ?_
            rotate_left
            · rintro w' ⟨s0, s1, s2, s3, s4, s5, s6, s7, s8⟩
              go_simp
              with_reducible rfl
            rotate_left
            · simp only [Act.put, pkA, pkZ, pkS, i64_w, i32_w]
              rfl
            refine take_ (i := 5) (N := some 34) (v := ?_) (a' := ?_) #[true, true, true, true, true, true, false, false, false] rfl rfl (by kernel_rfl) (fun _ _ _ h => h) (Or.inl ⟨by rfl, ?_⟩) hHeld ?_ ?_
            rotate_left
            · rintro w' ⟨s0, s1, s2, s3, s4, s5, s6, s7, s8⟩
              go_simp
              with_reducible rfl
            rotate_left
            · simp only [Act.put, pkA, pkZ, pkS, i64_w, i32_w]
              rfl
            refine take_ (i := 6) (N := some 35) (v := ?_) (a' := ?_) #[true, true, true, true, true, true, true, false, false] rfl rfl (by kernel_rfl) (fun _ _ _ h => h) (Or.inl ⟨by rfl, ?_⟩) hHeld ?_ ?_
            rotate_left
            · rintro w' ⟨s0, s1, s2, s3, s4, s5, s6, s7, s8⟩
              go_simp
              with_reducible rfl
            rotate_left
            · simp only [Act.put, pkA, pkZ, pkS, i64_w, i32_w]
              rfl
            refine one_ (i := 7) (N := some 36) #[true, true, true, true, true, true, true, true, false] rfl rfl (by kernel_rfl) (by decide) (fun K hK => ?_)
            refine goes_ Try.func44 (by kernel_rfl) rfl #[.agg #[.string a.f0, .string a.f1, .int .i64 a.f2, .bool a.f3, .string a.f4, .bool a.f5, .bool a.f6, .slice A7 n7 c7]] (by rfl) rfl rfl (by simp only [List.map_toArray, List.map_cons, List.map_nil]; rfl) ?_
            refine (HCP.out _ gr0).mono ?_
            rintro e w7 ⟨v', rfl, own7, hb7⟩
            refine ⟨_, rfl, ?_⟩
            have gr7 := gr0.trans (hb7.mono gr0.size)
            refine hK.out _ _ ⟨(HS9.out _ gr7).1, (HS9.out _ gr7).2.1, (HS9.out _ gr7).2.2.1, (HS9.out _ gr7).2.2.2.1, (HS9.out _ gr7).2.2.2.2.1, (HS9.out _ gr7).2.2.2.2.2.1, (HS9.out _ gr7).2.2.2.2.2.2.1, (HS9.out _ gr7).2.2.2.2.2.2.2.1, (HS9.out _ gr7).2.2.2.2.2.2.2.2⟩ (fun hHeld => ?_)
            clear hK K
            refine norm_ (a' := ?_) ?_ ?_
            rotate_left
            · show Act.put _ (some 36) _ = _
              simp only [Act.put, pkA, pkZ, pkS, i64_w, i32_w]
              rfl
            refine last_ (i := 8) (N := none) #[true, true, true, true, true, true, true, true, true] rfl rfl (by kernel_rfl) (by decide) (fun K hK => ?_)
            obtain ⟨ob, hob, hCB⟩ := HST.out w7 v' gr7 (own_lower_ own7 HW0.out)
            refine skip_ (w1 := ?_) (by rfl) rfl ?_ ?_
            rotate_left
            · go_simp
              rfl
            refine hK.out _ _ ?_
            clear hK K
            refine done_ (by kernel_rfl) ?_
            clear hHeld
            have hmi : (fun y => if y = a.f0 then some a else mapI l i y) = mapI l (i + 1) := by
              funext y
              show _ = (if y = l[i]!.f0 then some l[i]! else mapI l i y)
              rw [HA.out]
            rw [hmi] at hCB
            have HCB4 := Lib.hid hCB
            obtain ⟨wf, hwf⟩ : ∃ W, ChangeMaps.setBlock w7 m1 ob = W := ⟨_, rfl⟩
            rw [hwf] at HCB4 ⊢
            clear hwf hCB hob hmi gr7 own7 hb7 HST HCP HS9 gr0 hz63
            go_wp2_with fail
            go_roundg (n - (i + 1))
            case measure => omega
            case rel => exact ⟨i + 1, _, rfl, by omega, by go_num, HCB4⟩
          · have heb : (er == 0) = false := beq_eq_false_iff_ne.mpr he0
            have HB := Lib.hid (HBAD.out.1 i hlt (by rw [HA.out, HER.out]; exact he0))
            have HBL := Lib.hid HCB3.out.bel
            clear he0 hz63
            go_wp2_with fail
            rw [Exit.noGoto_ret]
            refine bodyPost_ret (v := .tuple #[.pointer none, .int .i64 i, .int .i64 er]) (by simp [results, Try.results24, go_sem]) rfl ?_
            exact ⟨HBL.out, .inl ⟨i, er, rfl, HB.out⟩⟩
        · have hin : i = n := by omega
          subst hin
          have HCBn := HCB
          have hltz : ¬ ((i : Int) < (i : Int)) := by omega
          clear hlt
          have hi4 : i ≤ 400 := by omega
          have HML := Lib.hid (show ∀ x a, mapI l i x = some a → a.f1.size ≤ maxLen from fun x a h => Nat.le_trans (HMS.out i x a (Nat.le_refl _) h).2.1 (by unfold maxLen; omega))
          go_wp2_with fail
          go_loopg [40] i (fun gk v40 wr => ∃ (j : Nat), gk = i - j ∧ j ≤ i ∧ v40 = .int .i64 j ∧ Hid (CB w wr g m1 m2 V (mapI l i)))
          case atStart => exact ⟨0, rfl, by omega, rfl, HCBn⟩
          case round =>
            obtain ⟨j, rfl, hj, rfl, HCB⟩ := hrel
            clear HCBn
            by_cases hlt : j < i
            · have hltz : (j : Int) < (i : Int) := by omega
              obtain ⟨ad, A7, c7, hA, hlc, hC7, hcf⟩ := HAC.out j hlt
              obtain ⟨a, ha⟩ : ∃ a, l[j]! = a := ⟨_, rfl⟩
              have hsz := HSZ.out j hlt
              rw [ha] at hlc hC7 hcf hsz
              have HA := Lib.hid ha; have HSA := Lib.hid hsz
              obtain ⟨e0, e1, e2, e3, e4, e5, e6, e7⟩ := hcf _ HCB.out.bel
              obtain ⟨n7, hn7⟩ : ∃ q, a.f7.length = q := ⟨_, rfl⟩
              have HN7 := Lib.hid hn7
              rw [hn7] at e7
              subst hA
              clear ha hsz hlc hC7 hcf hn7
              go_wp2_with fail
              have gb : Below wr.heap.size wr (wr.alloc (.cells #[.string a.f0, .string a.f1, .int .i64 a.f2, .bool a.f3, .string a.f4, .bool a.f5, .bool a.f6, .slice A7 n7 c7] 62)) := (Below.refl _ _).alloc (Nat.le_refl _) _
              have HCB2 := Lib.hid (HCB.out.below gb)
              obtain ⟨w2, hw2⟩ : ∃ W, wr.alloc (.cells #[.string a.f0, .string a.f1, .int .i64 a.f2, .bool a.f3, .string a.f4, .bool a.f5, .bool a.f6, .slice A7 n7 c7] 62) = W := ⟨_, rfl⟩
              rw [hw2] at gb HCB2 ⊢
              have hal := go_below a HSA.out A7 c7 g i (mapI l i) w2 (HCB2.out.chart (l.map (fun a => a.f0)) (fun x hx => HXS.out i x (Nat.le_refl _) hx) i HXL.out) hll HML.out
              rw [HN7.out] at hal
              have HAL := Lib.hid hal
              clear hal hw2 gb e0 e1 e2 e3 e4 e5 e6 e7
              refine HAL.out.mono ?_
              rintro e w3 ⟨⟨nc, hnc, rfl⟩, hb3⟩
              obtain ⟨er, her⟩ : ∃ q, belowE (mapI l i) a nc = q := ⟨_, rfl⟩
              have HER := Lib.hid her
              have HCB3 := Lib.hid (HCB2.out.below hb3)
              rw [her]
              clear her HAL hb3 HCB2
              by_cases he0 : er = 0
              · subst he0
                go_wp2_with fail
                go_roundg (i - (j + 1))
                case measure => omega
                case rel => exact ⟨j + 1, rfl, by omega, by go_num, HCB3⟩
              · have heb : (er == 0) = false := beq_eq_false_iff_ne.mpr he0
                have HB := Lib.hid (HBAD.out.2 j nc hlt hnc (by rw [HA.out, HER.out]; exact he0))
                have HBL := Lib.hid HCB3.out.bel
                clear he0
                go_wp2_with fail
                rw [Exit.noGoto_ret]
                refine bodyPost_ret (v := .tuple #[.pointer none, .int .i64 j, .int .i64 er]) (by simp [results, Try.results24, go_sem]) rfl ?_
                exact ⟨HBL.out, .inl ⟨j, er, rfl, HB.out⟩⟩
            · have hltz : ¬ ((j : Int) < (i : Int)) := by omega
              have hso := go_chsort g m1 m2 (fun x => (mapI l i x).map fun a => acctV a (V x)) (l.map (fun a => a.f0)) wr HCB.out.blk HCB.out.mp HCB.out.kd HCB.out.dif (fun x hx => HXS.out i x (Nat.le_refl _) (by
                cases hm : mapI l i x with
                | none => rw [hm] at hx; cases hx
                | some a => rfl)) (Nat.le_trans HXL.out (by omega)) HXZ.out (fun x v hv => by
                cases hm : mapI l i x with
                | none => rw [hm] at hv; cases hv
                | some a => rw [hm] at hv; injection hv with hv; exact ⟨a, _, hv.symm, HML.out x a hm⟩)
              have HSO := Lib.hid hso
              clear hso
              go_wp2_with fail
              refine HSO.out.mono ?_
              rintro e w4 ⟨rfl, vC, hb4, hk4, ho4, ht4, hu4, hs4⟩
              have HFIN := Lib.hid (HCB.out.sorted (l.map (fun a => a.f0)) (fun x hx => HXS.out i x (Nat.le_refl _) hx) i HXL.out hb4 hk4 ho4 ht4 hu4 hs4)
              clear hb4 hk4 ho4 ht4 hu4 hs4 HSO
              go_wp2_with fail
              rw [Exit.noGoto_ret]
              refine bodyPost_ret (v := .tuple #[.pointer (some ⟨g, 0, none⟩), .int .i64 0, .int .i64 0]) (by simp [results, Try.results24, go_sem]) rfl ?_
              exact ⟨HFIN.out.2, .inr ⟨g, rfl, by rw [HN.out]; exact HFIN.out.1⟩⟩
theorem go_farG (n : Int) (w : World) : Calls Try.prog 34 #[.int .i64 n] w fun e w' => e = .returned (.bool (farB n)) ∧ ∃ q os, w' = grow (w.drewN q) os :=
  (go_far n w).mono fun _ _ h => ⟨h.1, 0, #[], by rw [h.2, grow_empty]; rfl⟩
theorem rightK_step (l : List Cell) (n k : Nat) (hl : l.length = n) (hk : k < n) : rightK l (n - k) k = if badAt l k then false else rightK l (n - (k + 1)) (k + 1) := by
  rw [show n - k = (n - (k + 1)) + 1 by omega, rightK, if_pos (by omega)]
set_option maxHeartbeats 8000000 in
set_option maxRecDepth 100000 in
theorem go_right (l : List Cell) (A : Option Addr) (c n : Nat) (w : World) (hC : Kd.C k52 w A n l) (hl : n ≤ 100000) :
    Calls Try.prog 14 #[.slice A n c] w fun e w' => e = .returned (.bool (rightB l)) ∧ Below w.heap.size w w' := by
  have mixed : Try.prog.follows Departure.mixedOrders = true := by kernel_rfl
  have hln : l.length = n := Kd.C_len hC
  have HLN := Lib.hid hln
  have HCT := Lib.hid (cells_at (show Kd.C k52 w A l.length l from by rw [hln]; exact hC))
  obtain ⟨r, hr⟩ : ∃ r, rightB l = r := ⟨_, rfl⟩
  have HR := Lib.hid (show rightK l (n - 0) 0 = r by rw [← hr, ← hln]; rfl)
  rw [hr]
  clear hC hln hr
  go_enter Try.func14, Try.ntmps14
  go_wp2
  go_loopg [7] n (fun gk v7 wr => ∃ k : Nat, gk = n - k ∧ k ≤ n ∧ v7 = .int .i64 k ∧ Below w.heap.size w wr ∧ Hid (rightK l (n - k) k = r))
  case atStart => exact ⟨0, rfl, by omega, rfl, Below.refl _ _, HR⟩
  case round =>
    obtain ⟨k, rfl, hk, rfl, hgr, HK⟩ := hrel
    by_cases hlt : k < n
    · have hltz : (k : Int) < (n : Int) := by omega
      obtain ⟨ad, had, hcf⟩ := HCT.out k (by rw [HLN.out]; exact hlt)
      subst had
      obtain ⟨c0, c1, c2, c3, c4, c5, c6⟩ := hcf wr hgr
      have hst := rightK_step l n k HLN.out hlt
      have HB := Lib.hid (show badAt l k = ((l[k]!.f1 == 0 && l[k]!.f2 == 0) || farB l[k]!.f1 || farB l[k]!.f2 || (decide (0 < k) && decide (keyCmp l[k - 1]!.f0 l[k]!.f0 ≥ 0))) from rfl)
      have HT : Hid (badAt l k = true → r = false) := Lib.hid (fun h => by rw [← HK.out, hst, h]; rfl)
      have HF : Hid (badAt l k = false → rightK l (n - (k + 1)) (k + 1) = r) := Lib.hid (fun h => by rw [← HK.out, hst, h]; rfl)
      obtain ⟨x, hx⟩ : ∃ x, l[k]! = x := ⟨_, rfl⟩
      rw [hx] at c0 c1 c2 c3 c4 c5 c6
      rw [hx] at HB
      have gA : Below w.heap.size w (wr.alloc (.cells #[.string x.f0.f0, .string x.f0.f1, .string x.f0.f2, .string x.f0.f3, .string x.f0.f4, .int .i64 x.f1, .int .i64 x.f2] 52)) := hgr.alloc hgr.size _
      have hA := (Go.MapKept.heap_alloc wr (.cells #[.string x.f0.f0, .string x.f0.f1, .string x.f0.f2, .string x.f0.f3, .string x.f0.f4, .int .i64 x.f1, .int .i64 x.f2] 52)).1
      clear hcf hx hgr hst HK
      go_upto_region 4 with fail
      clear c0 c1 c2 c3 c4 c5 c6
      obtain ⟨z4, hz4⟩ : ∃ z, wr.heap.size = z := ⟨_, rfl⟩
      obtain ⟨wA, hwA⟩ : ∃ W, wr.alloc (.cells #[.string x.f0.f0, .string x.f0.f1, .string x.f0.f2, .string x.f0.f3, .string x.f0.f4, .int .i64 x.f1, .int .i64 x.f2] 52) = W := ⟨_, rfl⟩
      rw [hwA] at gA hA ⊢
      rw [hz4] at hA ⊢
      clear hwA hz4
      have G : ∀ n os, Grn wA (grow (wA.drewN n) os) := fun n os => Grn.of_form ⟨n, os, rfl⟩
      have HG2 := Lib.hid (fun n os => gA.trans ((G n os).b.mono gA.size))
      have y0 := fun n os => blk_cell ((G n os).blk hA) 0
      have y1 := fun n os => blk_cell ((G n os).blk hA) 1
      have y2 := fun n os => blk_cell ((G n os).blk hA) 2
      have y3 := fun n os => blk_cell ((G n os).blk hA) 3
      have y4 := fun n os => blk_cell ((G n os).blk hA) 4
      have y5 := fun n os => blk_cell ((G n os).blk hA) 5
      have y6 := fun n os => blk_cell ((G n os).blk hA) 6
      have FA1 := fun W => go_farG x.f1 W
      have FA2 := fun W => go_farG x.f2 W
      obtain ⟨b0, B0⟩ : ∃ b, (x.f1 == 0) = b := ⟨_, rfl⟩
      obtain ⟨b1, B1⟩ : ∃ b, (x.f2 == 0) = b := ⟨_, rfl⟩
      obtain ⟨f1, hf1⟩ : ∃ b, farB x.f1 = b := ⟨_, rfl⟩
      obtain ⟨f2, hf2⟩ : ∃ b, farB x.f2 = b := ⟨_, rfl⟩
      rw [B0, B1, hf1, hf2] at HB
      rw [hf1] at FA1
      rw [hf2] at FA2
      have B2 : True := trivial
      have B3 : True := trivial
      clear gA hA G hf1 hf2
      cases b0 with
      | true =>
        cases b1 with
        | true =>
          refine wp_region_quiet_grown (by assumption) (by kernel_rfl) (Wq.out ?_)
          refine wq_on (by kernel_rfl) (fun K hK => ?_)
          go_simp
          refine hK _ ?_
          clear hK K
          refine wq_on (by kernel_rfl) (fun K hK => ?_)
          go_simp
          refine hK _ ?_
          clear hK K
          refine wq_on (by kernel_rfl) (fun K hK => ?_)
          go_simp
          refine hK _ ?_
          clear hK K
          refine wq_on (by kernel_rfl) (fun K hK => ?_)
          go_simp
          refine hK _ ?_
          clear hK K
          refine wq_on (by kernel_rfl) (fun K hK => ?_)
          go_simp
          refine hK _ ?_
          clear hK K
          refine wq_on (by kernel_rfl) (fun K hK => ?_)
          go_simp
          refine hK _ ?_
          clear hK K
          refine wq_on (by kernel_rfl) (fun K hK => ?_)
          go_simp
          refine hK _ ?_
          clear hK K
          refine wq_on (by kernel_rfl) (fun K hK => ?_)
          go_simp
          refine hK _ ?_
          clear hK K
          refine wq_on (by kernel_rfl) (fun K hK => ?_)
          go_simp
          refine hK _ ?_
          clear hK K
          refine wq_off (by kernel_rfl) (fun K hK => ?_)
          go_simp
          refine hK _ ?_
          clear hK K
          refine wq_off (by kernel_rfl) (fun K hK => ?_)
          go_simp
          refine hK _ ?_
          clear hK K
          refine wq_off (by kernel_rfl) (fun K hK => ?_)
          go_simp
          refine hK _ ?_
          clear hK K
          refine wq_on (by kernel_rfl) (fun K hK => ?_)
          go_simp
          refine hK _ ?_
          clear hK K
          refine wq_on (by kernel_rfl) (fun K hK => ?_)
          go_simp
          refine hK _ ?_
          clear hK K
          refine wq_off (by kernel_rfl) (fun K hK => ?_)
          go_simp
          refine hK _ ?_
          clear hK K
          refine wq_off (by kernel_rfl) (fun K hK => ?_)
          go_simp
          refine hK _ ?_
          clear hK K
          refine wq_off (by kernel_rfl) (fun K hK => ?_)
          go_simp
          refine hK _ ?_
          clear hK K
          refine wq_on (by kernel_rfl) (fun K hK => ?_)
          go_simp
          refine hK _ ?_
          clear hK K
          refine wq_on (by kernel_rfl) (fun K hK => ?_)
          go_simp
          refine hK _ ?_
          clear hK K
          refine wq_off (by kernel_rfl) (fun K hK => ?_)
          go_simp
          refine hK _ ?_
          clear hK K
          refine wq_off (by kernel_rfl) (fun K hK => ?_)
          go_simp
          refine hK _ ?_
          clear hK K
          refine wq_off (by kernel_rfl) (fun K hK => ?_)
          go_simp
          refine hK _ ?_
          clear hK K
          refine wq_off (by kernel_rfl) (fun K hK => ?_)
          go_simp
          refine hK _ ?_
          clear hK K
          refine wq_off (by kernel_rfl) (fun K hK => ?_)
          go_simp
          refine hK _ ?_
          clear hK K
          refine wq_off (by kernel_rfl) (fun K hK => ?_)
          go_simp
          refine hK _ ?_
          clear hK K
          refine wq_off (by kernel_rfl) (fun K hK => ?_)
          go_simp
          refine hK _ ?_
          clear hK K
          refine wq_off (by kernel_rfl) (fun K hK => ?_)
          go_simp
          refine hK _ ?_
          clear hK K
          refine wq_off (by kernel_rfl) (fun K hK => ?_)
          go_simp
          refine hK _ ?_
          clear hK K
          refine wq_off (by kernel_rfl) (fun K hK => ?_)
          go_simp
          refine hK _ ?_
          clear hK K
          refine wq_off (by kernel_rfl) (fun K hK => ?_)
          go_simp
          refine hK _ ?_
          clear hK K
          refine wq_off (by kernel_rfl) (fun K hK => ?_)
          go_simp
          refine hK _ ?_
          clear hK K
          refine wq_off (by kernel_rfl) (fun K hK => ?_)
          go_simp
          refine hK _ ?_
          clear hK K
          refine wq_off (by kernel_rfl) (fun K hK => ?_)
          go_simp
          refine hK _ ?_
          clear hK K
          refine wq_on (by kernel_rfl) (fun K hK => ?_)
          go_simp
          refine hK _ ?_
          clear hK K
          refine wq_nil ?_
          intro _ hw'
          obtain ⟨⟨nq, osq⟩, hw''⟩ := hw'
          subst hw''
          have gN := HG2.out nq osq
          obtain ⟨wn, hwn⟩ : ∃ W, grow (wA.drewN nq) osq = W := ⟨_, rfl⟩
          rw [hwn] at gN ⊢
          have HGN := Lib.hid gN
          clear hwn gN y0 y1 y2 y3 y4 y5 y6
          go_wp2
          refine bodyPost_ret (v := .bool false) (by simp [results, Try.results14, go_sem]) rfl ?_
          exact ⟨by rw [HT.out (by rw [HB.out]; simp [])], HGN.out⟩
        | false =>
          cases f1 with
          | true =>
            refine wp_region_quiet_grown (by assumption) (by kernel_rfl) (Wq.out ?_)
            refine wq_on (by kernel_rfl) (fun K hK => ?_)
            go_simp
            refine hK _ ?_
            clear hK K
            refine wq_on (by kernel_rfl) (fun K hK => ?_)
            go_simp
            refine hK _ ?_
            clear hK K
            refine wq_on (by kernel_rfl) (fun K hK => ?_)
            go_simp
            refine hK _ ?_
            clear hK K
            refine wq_on (by kernel_rfl) (fun K hK => ?_)
            go_simp
            refine hK _ ?_
            clear hK K
            refine wq_on (by kernel_rfl) (fun K hK => ?_)
            go_simp
            refine hK _ ?_
            clear hK K
            refine wq_on (by kernel_rfl) (fun K hK => ?_)
            go_simp
            refine hK _ ?_
            clear hK K
            refine wq_on (by kernel_rfl) (fun K hK => ?_)
            go_simp
            refine hK _ ?_
            clear hK K
            refine wq_on (by kernel_rfl) (fun K hK => ?_)
            go_simp
            refine hK _ ?_
            clear hK K
            refine wq_on (by kernel_rfl) (fun K hK => ?_)
            go_simp
            refine hK _ ?_
            clear hK K
            refine wq_on (by kernel_rfl) (fun K hK => ?_)
            go_simp
            refine hK _ ?_
            clear hK K
            refine wq_on (by kernel_rfl) (fun K hK => ?_)
            go_simp
            refine hK _ ?_
            clear hK K
            refine wq_on (by kernel_rfl) (fun K hK => ?_)
            go_simp
            apply Exists.intro
            refine ⟨fun _ => ?_, hK _ ?_⟩
            · go_at_call 34; refine Calls.grown_of (FA1 _)
            clear hK K
            refine wq_on (by kernel_rfl) (fun K hK => ?_)
            go_simp
            refine hK _ ?_
            clear hK K
            refine wq_on (by kernel_rfl) (fun K hK => ?_)
            go_simp
            refine hK _ ?_
            clear hK K
            refine wq_off (by kernel_rfl) (fun K hK => ?_)
            go_simp
            refine hK _ ?_
            clear hK K
            refine wq_off (by kernel_rfl) (fun K hK => ?_)
            go_simp
            refine hK _ ?_
            clear hK K
            refine wq_off (by kernel_rfl) (fun K hK => ?_)
            go_simp
            refine hK _ ?_
            clear hK K
            refine wq_on (by kernel_rfl) (fun K hK => ?_)
            go_simp
            refine hK _ ?_
            clear hK K
            refine wq_on (by kernel_rfl) (fun K hK => ?_)
            go_simp
            refine hK _ ?_
            clear hK K
            refine wq_off (by kernel_rfl) (fun K hK => ?_)
            go_simp
            refine hK _ ?_
            clear hK K
            refine wq_off (by kernel_rfl) (fun K hK => ?_)
            go_simp
            refine hK _ ?_
            clear hK K
            refine wq_off (by kernel_rfl) (fun K hK => ?_)
            go_simp
            refine hK _ ?_
            clear hK K
            refine wq_off (by kernel_rfl) (fun K hK => ?_)
            go_simp
            refine hK _ ?_
            clear hK K
            refine wq_off (by kernel_rfl) (fun K hK => ?_)
            go_simp
            refine hK _ ?_
            clear hK K
            refine wq_off (by kernel_rfl) (fun K hK => ?_)
            go_simp
            refine hK _ ?_
            clear hK K
            refine wq_off (by kernel_rfl) (fun K hK => ?_)
            go_simp
            refine hK _ ?_
            clear hK K
            refine wq_off (by kernel_rfl) (fun K hK => ?_)
            go_simp
            refine hK _ ?_
            clear hK K
            refine wq_off (by kernel_rfl) (fun K hK => ?_)
            go_simp
            refine hK _ ?_
            clear hK K
            refine wq_off (by kernel_rfl) (fun K hK => ?_)
            go_simp
            refine hK _ ?_
            clear hK K
            refine wq_off (by kernel_rfl) (fun K hK => ?_)
            go_simp
            refine hK _ ?_
            clear hK K
            refine wq_off (by kernel_rfl) (fun K hK => ?_)
            go_simp
            refine hK _ ?_
            clear hK K
            refine wq_off (by kernel_rfl) (fun K hK => ?_)
            go_simp
            refine hK _ ?_
            clear hK K
            refine wq_off (by kernel_rfl) (fun K hK => ?_)
            go_simp
            refine hK _ ?_
            clear hK K
            refine wq_on (by kernel_rfl) (fun K hK => ?_)
            go_simp
            refine hK _ ?_
            clear hK K
            refine wq_nil ?_
            intro _ hw'
            obtain ⟨⟨nq, osq⟩, hw''⟩ := hw'
            subst hw''
            have gN := HG2.out nq osq
            obtain ⟨wn, hwn⟩ : ∃ W, grow (wA.drewN nq) osq = W := ⟨_, rfl⟩
            rw [hwn] at gN ⊢
            have HGN := Lib.hid gN
            clear hwn gN y0 y1 y2 y3 y4 y5 y6
            go_wp2
            refine bodyPost_ret (v := .bool false) (by simp [results, Try.results14, go_sem]) rfl ?_
            exact ⟨by rw [HT.out (by rw [HB.out]; simp [])], HGN.out⟩
          | false =>
            cases f2 with
            | true =>
              refine wp_region_quiet_grown (by assumption) (by kernel_rfl) (Wq.out ?_)
              refine wq_on (by kernel_rfl) (fun K hK => ?_)
              go_simp
              refine hK _ ?_
              clear hK K
              refine wq_on (by kernel_rfl) (fun K hK => ?_)
              go_simp
              refine hK _ ?_
              clear hK K
              refine wq_on (by kernel_rfl) (fun K hK => ?_)
              go_simp
              refine hK _ ?_
              clear hK K
              refine wq_on (by kernel_rfl) (fun K hK => ?_)
              go_simp
              refine hK _ ?_
              clear hK K
              refine wq_on (by kernel_rfl) (fun K hK => ?_)
              go_simp
              refine hK _ ?_
              clear hK K
              refine wq_on (by kernel_rfl) (fun K hK => ?_)
              go_simp
              refine hK _ ?_
              clear hK K
              refine wq_on (by kernel_rfl) (fun K hK => ?_)
              go_simp
              refine hK _ ?_
              clear hK K
              refine wq_on (by kernel_rfl) (fun K hK => ?_)
              go_simp
              refine hK _ ?_
              clear hK K
              refine wq_on (by kernel_rfl) (fun K hK => ?_)
              go_simp
              refine hK _ ?_
              clear hK K
              refine wq_on (by kernel_rfl) (fun K hK => ?_)
              go_simp
              refine hK _ ?_
              clear hK K
              refine wq_on (by kernel_rfl) (fun K hK => ?_)
              go_simp
              refine hK _ ?_
              clear hK K
              refine wq_on (by kernel_rfl) (fun K hK => ?_)
              go_simp
              apply Exists.intro
              refine ⟨fun _ => ?_, hK _ ?_⟩
              · go_at_call 34; refine Calls.grown_of (FA1 _)
              clear hK K
              refine wq_on (by kernel_rfl) (fun K hK => ?_)
              go_simp
              refine hK _ ?_
              clear hK K
              refine wq_on (by kernel_rfl) (fun K hK => ?_)
              go_simp
              refine hK _ ?_
              clear hK K
              refine wq_on (by kernel_rfl) (fun K hK => ?_)
              go_simp
              refine hK _ ?_
              clear hK K
              refine wq_on (by kernel_rfl) (fun K hK => ?_)
              go_simp
              refine hK _ ?_
              clear hK K
              refine wq_on (by kernel_rfl) (fun K hK => ?_)
              go_simp
              apply Exists.intro
              refine ⟨fun _ => ?_, hK _ ?_⟩
              · go_at_call 34; refine Calls.grown_of (FA2 _)
              clear hK K
              refine wq_on (by kernel_rfl) (fun K hK => ?_)
              go_simp
              refine hK _ ?_
              clear hK K
              refine wq_on (by kernel_rfl) (fun K hK => ?_)
              go_simp
              refine hK _ ?_
              clear hK K
              refine wq_off (by kernel_rfl) (fun K hK => ?_)
              go_simp
              refine hK _ ?_
              clear hK K
              refine wq_off (by kernel_rfl) (fun K hK => ?_)
              go_simp
              refine hK _ ?_
              clear hK K
              refine wq_off (by kernel_rfl) (fun K hK => ?_)
              go_simp
              refine hK _ ?_
              clear hK K
              refine wq_off (by kernel_rfl) (fun K hK => ?_)
              go_simp
              refine hK _ ?_
              clear hK K
              refine wq_off (by kernel_rfl) (fun K hK => ?_)
              go_simp
              refine hK _ ?_
              clear hK K
              refine wq_off (by kernel_rfl) (fun K hK => ?_)
              go_simp
              refine hK _ ?_
              clear hK K
              refine wq_off (by kernel_rfl) (fun K hK => ?_)
              go_simp
              refine hK _ ?_
              clear hK K
              refine wq_off (by kernel_rfl) (fun K hK => ?_)
              go_simp
              refine hK _ ?_
              clear hK K
              refine wq_off (by kernel_rfl) (fun K hK => ?_)
              go_simp
              refine hK _ ?_
              clear hK K
              refine wq_off (by kernel_rfl) (fun K hK => ?_)
              go_simp
              refine hK _ ?_
              clear hK K
              refine wq_off (by kernel_rfl) (fun K hK => ?_)
              go_simp
              refine hK _ ?_
              clear hK K
              refine wq_off (by kernel_rfl) (fun K hK => ?_)
              go_simp
              refine hK _ ?_
              clear hK K
              refine wq_off (by kernel_rfl) (fun K hK => ?_)
              go_simp
              refine hK _ ?_
              clear hK K
              refine wq_off (by kernel_rfl) (fun K hK => ?_)
              go_simp
              refine hK _ ?_
              clear hK K
              refine wq_on (by kernel_rfl) (fun K hK => ?_)
              go_simp
              refine hK _ ?_
              clear hK K
              refine wq_nil ?_
              intro _ hw'
              obtain ⟨⟨nq, osq⟩, hw''⟩ := hw'
              subst hw''
              have gN := HG2.out nq osq
              obtain ⟨wn, hwn⟩ : ∃ W, grow (wA.drewN nq) osq = W := ⟨_, rfl⟩
              rw [hwn] at gN ⊢
              have HGN := Lib.hid gN
              clear hwn gN y0 y1 y2 y3 y4 y5 y6
              go_wp2
              refine bodyPost_ret (v := .bool false) (by simp [results, Try.results14, go_sem]) rfl ?_
              exact ⟨by rw [HT.out (by rw [HB.out]; simp [])], HGN.out⟩
            | false =>
              by_cases hk0 : k = 0
              · subst hk0
                have B4 : decide (0 < (0 : Nat)) = false := rfl
                have B5 : True := trivial
                refine wp_region_quiet_grown (by assumption) (by kernel_rfl) (Wq.out ?_)
                refine wq_on (by kernel_rfl) (fun K hK => ?_)
                go_simp
                refine hK _ ?_
                clear hK K
                refine wq_on (by kernel_rfl) (fun K hK => ?_)
                go_simp
                refine hK _ ?_
                clear hK K
                refine wq_on (by kernel_rfl) (fun K hK => ?_)
                go_simp
                refine hK _ ?_
                clear hK K
                refine wq_on (by kernel_rfl) (fun K hK => ?_)
                go_simp
                refine hK _ ?_
                clear hK K
                refine wq_on (by kernel_rfl) (fun K hK => ?_)
                go_simp
                refine hK _ ?_
                clear hK K
                refine wq_on (by kernel_rfl) (fun K hK => ?_)
                go_simp
                refine hK _ ?_
                clear hK K
                refine wq_on (by kernel_rfl) (fun K hK => ?_)
                go_simp
                refine hK _ ?_
                clear hK K
                refine wq_on (by kernel_rfl) (fun K hK => ?_)
                go_simp
                refine hK _ ?_
                clear hK K
                refine wq_on (by kernel_rfl) (fun K hK => ?_)
                go_simp
                refine hK _ ?_
                clear hK K
                refine wq_on (by kernel_rfl) (fun K hK => ?_)
                go_simp
                refine hK _ ?_
                clear hK K
                refine wq_on (by kernel_rfl) (fun K hK => ?_)
                go_simp
                refine hK _ ?_
                clear hK K
                refine wq_on (by kernel_rfl) (fun K hK => ?_)
                go_simp
                apply Exists.intro
                refine ⟨fun _ => ?_, hK _ ?_⟩
                · go_at_call 34; refine Calls.grown_of (FA1 _)
                clear hK K
                refine wq_on (by kernel_rfl) (fun K hK => ?_)
                go_simp
                refine hK _ ?_
                clear hK K
                refine wq_on (by kernel_rfl) (fun K hK => ?_)
                go_simp
                refine hK _ ?_
                clear hK K
                refine wq_on (by kernel_rfl) (fun K hK => ?_)
                go_simp
                refine hK _ ?_
                clear hK K
                refine wq_on (by kernel_rfl) (fun K hK => ?_)
                go_simp
                refine hK _ ?_
                clear hK K
                refine wq_on (by kernel_rfl) (fun K hK => ?_)
                go_simp
                apply Exists.intro
                refine ⟨fun _ => ?_, hK _ ?_⟩
                · go_at_call 34; refine Calls.grown_of (FA2 _)
                clear hK K
                refine wq_on (by kernel_rfl) (fun K hK => ?_)
                go_simp
                refine hK _ ?_
                clear hK K
                refine wq_on (by kernel_rfl) (fun K hK => ?_)
                go_simp
                refine hK _ ?_
                clear hK K
                refine wq_on (by kernel_rfl) (fun K hK => ?_)
                go_simp
                refine hK _ ?_
                clear hK K
                refine wq_on (by kernel_rfl) (fun K hK => ?_)
                go_simp
                refine hK _ ?_
                clear hK K
                refine wq_on (by kernel_rfl) (fun K hK => ?_)
                go_simp
                refine hK _ ?_
                clear hK K
                refine wq_off (by kernel_rfl) (fun K hK => ?_)
                go_simp
                refine hK _ ?_
                clear hK K
                refine wq_off (by kernel_rfl) (fun K hK => ?_)
                go_simp
                refine hK _ ?_
                clear hK K
                refine wq_off (by kernel_rfl) (fun K hK => ?_)
                go_simp
                refine hK _ ?_
                clear hK K
                refine wq_off (by kernel_rfl) (fun K hK => ?_)
                go_simp
                refine hK _ ?_
                clear hK K
                refine wq_off (by kernel_rfl) (fun K hK => ?_)
                go_simp
                refine hK _ ?_
                clear hK K
                refine wq_off (by kernel_rfl) (fun K hK => ?_)
                go_simp
                refine hK _ ?_
                clear hK K
                refine wq_off (by kernel_rfl) (fun K hK => ?_)
                go_simp
                refine hK _ ?_
                clear hK K
                refine wq_off (by kernel_rfl) (fun K hK => ?_)
                go_simp
                refine hK _ ?_
                clear hK K
                refine wq_off (by kernel_rfl) (fun K hK => ?_)
                go_simp
                refine hK _ ?_
                clear hK K
                refine wq_off (by kernel_rfl) (fun K hK => ?_)
                go_simp
                refine hK _ ?_
                clear hK K
                refine wq_on (by kernel_rfl) (fun K hK => ?_)
                go_simp
                refine hK _ ?_
                clear hK K
                refine wq_on (by kernel_rfl) (fun K hK => ?_)
                go_simp
                refine hK _ ?_
                clear hK K
                refine wq_nil ?_
                intro _ hw'
                obtain ⟨⟨nq, osq⟩, hw''⟩ := hw'
                subst hw''
                have gN := HG2.out nq osq
                obtain ⟨wn, hwn⟩ : ∃ W, grow (wA.drewN nq) osq = W := ⟨_, rfl⟩
                rw [hwn] at gN ⊢
                have HGN := Lib.hid gN
                clear hwn gN y0 y1 y2 y3 y4 y5 y6
                go_wp2_with fail
                go_roundg (n - (0 + 1))
                case measure => omega
                case rel => exact ⟨0 + 1, rfl, by omega, by go_num, HGN.out, Lib.hid (HF.out (by rw [HB.out]; simp []))⟩
              · have hk1 : 0 < (k : Int) := by omega
                have B4 : decide (0 < k) = true := decide_eq_true (by omega)
                obtain ⟨ad2, had2, hcf2⟩ := HCT.out (k - 1) (by rw [HLN.out]; omega)
                obtain rfl := Option.some.inj had2
                have hzz := fun n os => hcf2 _ (HG2.out n os)
                obtain ⟨y, hy⟩ : ∃ y, l[k - 1]! = y := ⟨_, rfl⟩
                rw [hy] at HB hzz
                have ek : (k : Int) - 1 = ((k - 1 : Nat) : Int) := by omega
                have wk : IntKind.i64.wrap ((k : Int) - 1) = ((k - 1 : Nat) : Int) := by rw [IntKind.wrap_i64]; omega
                obtain ⟨j, hj⟩ : ∃ j, k - 1 = j := ⟨_, rfl⟩
                rw [hj] at hzz wk
                have hjn : (j : Int) < (n : Int) := by omega
                have p0 := fun n os => (hzz n os).1
                have p1 := fun n os => (hzz n os).2.1
                have p2 := fun n os => (hzz n os).2.2.1
                have p3 := fun n os => (hzz n os).2.2.2.1
                have p4 := fun n os => (hzz n os).2.2.2.2.1
                obtain ⟨kc, hkc⟩ : ∃ q, keyCmp y.f0 x.f0 = q := ⟨_, rfl⟩
                rw [hkc] at HB
                have CMP : ∀ W, Calls Try.prog 35 #[.agg #[.string y.f0.f0, .string y.f0.f1, .string y.f0.f2, .string y.f0.f3, .string y.f0.f4], .agg #[.string x.f0.f0, .string x.f0.f1, .string x.f0.f2, .string x.f0.f3, .string x.f0.f4]] W fun e w' => e = .returned (.int .i64 kc) ∧ ∃ q os, w' = grow (W.drewN q) os := fun W => hkc ▸ go_keyCmpG y.f0 x.f0 W
                clear hzz hcf2 had2 hy hkc hj ek
                by_cases hge : kc ≥ 0
                · have B5 : decide (kc ≥ 0) = true := decide_eq_true hge
                  refine wp_region_quiet_grown (by assumption) (by kernel_rfl) (Wq.out ?_)
                  refine wq_on (by kernel_rfl) (fun K hK => ?_)
                  go_simp
                  refine hK _ ?_
                  clear hK K
                  refine wq_on (by kernel_rfl) (fun K hK => ?_)
                  go_simp
                  refine hK _ ?_
                  clear hK K
                  refine wq_on (by kernel_rfl) (fun K hK => ?_)
                  go_simp
                  refine hK _ ?_
                  clear hK K
                  refine wq_on (by kernel_rfl) (fun K hK => ?_)
                  go_simp
                  refine hK _ ?_
                  clear hK K
                  refine wq_on (by kernel_rfl) (fun K hK => ?_)
                  go_simp
                  refine hK _ ?_
                  clear hK K
                  refine wq_on (by kernel_rfl) (fun K hK => ?_)
                  go_simp
                  refine hK _ ?_
                  clear hK K
                  refine wq_on (by kernel_rfl) (fun K hK => ?_)
                  go_simp
                  refine hK _ ?_
                  clear hK K
                  refine wq_on (by kernel_rfl) (fun K hK => ?_)
                  go_simp
                  refine hK _ ?_
                  clear hK K
                  refine wq_on (by kernel_rfl) (fun K hK => ?_)
                  go_simp
                  refine hK _ ?_
                  clear hK K
                  refine wq_on (by kernel_rfl) (fun K hK => ?_)
                  go_simp
                  refine hK _ ?_
                  clear hK K
                  refine wq_on (by kernel_rfl) (fun K hK => ?_)
                  go_simp
                  refine hK _ ?_
                  clear hK K
                  refine wq_on (by kernel_rfl) (fun K hK => ?_)
                  go_simp
                  apply Exists.intro
                  refine ⟨fun _ => ?_, hK _ ?_⟩
                  · go_at_call 34; refine Calls.grown_of (FA1 _)
                  clear hK K
                  refine wq_on (by kernel_rfl) (fun K hK => ?_)
                  go_simp
                  refine hK _ ?_
                  clear hK K
                  refine wq_on (by kernel_rfl) (fun K hK => ?_)
                  go_simp
                  refine hK _ ?_
                  clear hK K
                  refine wq_on (by kernel_rfl) (fun K hK => ?_)
                  go_simp
                  refine hK _ ?_
                  clear hK K
                  refine wq_on (by kernel_rfl) (fun K hK => ?_)
                  go_simp
                  refine hK _ ?_
                  clear hK K
                  refine wq_on (by kernel_rfl) (fun K hK => ?_)
                  go_simp
                  apply Exists.intro
                  refine ⟨fun _ => ?_, hK _ ?_⟩
                  · go_at_call 34; refine Calls.grown_of (FA2 _)
                  clear hK K
                  refine wq_on (by kernel_rfl) (fun K hK => ?_)
                  go_simp
                  refine hK _ ?_
                  clear hK K
                  refine wq_on (by kernel_rfl) (fun K hK => ?_)
                  go_simp
                  refine hK _ ?_
                  clear hK K
                  refine wq_on (by kernel_rfl) (fun K hK => ?_)
                  go_simp
                  refine hK _ ?_
                  clear hK K
                  refine wq_on (by kernel_rfl) (fun K hK => ?_)
                  go_simp
                  refine hK _ ?_
                  clear hK K
                  refine wq_on (by kernel_rfl) (fun K hK => ?_)
                  go_simp
                  refine hK _ ?_
                  clear hK K
                  refine wq_on (by kernel_rfl) (fun K hK => ?_)
                  go_simp
                  refine hK _ ?_
                  clear hK K
                  refine wq_on (by kernel_rfl) (fun K hK => ?_)
                  go_simp
                  refine hK _ ?_
                  clear hK K
                  refine wq_on (by kernel_rfl) (fun K hK => ?_)
                  go_simp
                  refine hK _ ?_
                  clear hK K
                  refine wq_on (by kernel_rfl) (fun K hK => ?_)
                  go_simp
                  refine hK _ ?_
                  clear hK K
                  refine wq_on (by kernel_rfl) (fun K hK => ?_)
                  go_simp
                  refine hK _ ?_
                  clear hK K
                  refine wq_on (by kernel_rfl) (fun K hK => ?_)
                  go_simp
                  refine hK _ ?_
                  clear hK K
                  refine wq_on (by kernel_rfl) (fun K hK => ?_)
                  go_simp
                  refine hK _ ?_
                  clear hK K
                  refine wq_on (by kernel_rfl) (fun K hK => ?_)
                  go_simp
                  refine hK _ ?_
                  clear hK K
                  refine wq_on (by kernel_rfl) (fun K hK => ?_)
                  go_simp
                  apply Exists.intro
                  refine ⟨fun _ => ?_, hK _ ?_⟩
                  · go_at_call 35; refine Calls.grown_of (CMP _)
                  clear hK K
                  refine wq_on (by kernel_rfl) (fun K hK => ?_)
                  go_simp
                  refine hK _ ?_
                  clear hK K
                  refine wq_on (by kernel_rfl) (fun K hK => ?_)
                  go_simp
                  refine hK _ ?_
                  clear hK K
                  refine wq_on (by kernel_rfl) (fun K hK => ?_)
                  go_simp
                  refine hK _ ?_
                  clear hK K
                  refine wq_nil ?_
                  intro _ hw'
                  obtain ⟨⟨nq, osq⟩, hw''⟩ := hw'
                  subst hw''
                  have gN := HG2.out nq osq
                  obtain ⟨wn, hwn⟩ : ∃ W, grow (wA.drewN nq) osq = W := ⟨_, rfl⟩
                  rw [hwn] at gN ⊢
                  have HGN := Lib.hid gN
                  clear hwn gN y0 y1 y2 y3 y4 y5 y6
                  go_wp2
                  refine bodyPost_ret (v := .bool false) (by simp [results, Try.results14, go_sem]) rfl ?_
                  exact ⟨by rw [HT.out (by rw [HB.out]; simp [B4, B5])], HGN.out⟩
                · have B5 : decide (kc ≥ 0) = false := decide_eq_false hge
                  refine wp_region_quiet_grown (by assumption) (by kernel_rfl) (Wq.out ?_)
                  refine wq_on (by kernel_rfl) (fun K hK => ?_)
                  go_simp
                  refine hK _ ?_
                  clear hK K
                  refine wq_on (by kernel_rfl) (fun K hK => ?_)
                  go_simp
                  refine hK _ ?_
                  clear hK K
                  refine wq_on (by kernel_rfl) (fun K hK => ?_)
                  go_simp
                  refine hK _ ?_
                  clear hK K
                  refine wq_on (by kernel_rfl) (fun K hK => ?_)
                  go_simp
                  refine hK _ ?_
                  clear hK K
                  refine wq_on (by kernel_rfl) (fun K hK => ?_)
                  go_simp
                  refine hK _ ?_
                  clear hK K
                  refine wq_on (by kernel_rfl) (fun K hK => ?_)
                  go_simp
                  refine hK _ ?_
                  clear hK K
                  refine wq_on (by kernel_rfl) (fun K hK => ?_)
                  go_simp
                  refine hK _ ?_
                  clear hK K
                  refine wq_on (by kernel_rfl) (fun K hK => ?_)
                  go_simp
                  refine hK _ ?_
                  clear hK K
                  refine wq_on (by kernel_rfl) (fun K hK => ?_)
                  go_simp
                  refine hK _ ?_
                  clear hK K
                  refine wq_on (by kernel_rfl) (fun K hK => ?_)
                  go_simp
                  refine hK _ ?_
                  clear hK K
                  refine wq_on (by kernel_rfl) (fun K hK => ?_)
                  go_simp
                  refine hK _ ?_
                  clear hK K
                  refine wq_on (by kernel_rfl) (fun K hK => ?_)
                  go_simp
                  apply Exists.intro
                  refine ⟨fun _ => ?_, hK _ ?_⟩
                  · go_at_call 34; refine Calls.grown_of (FA1 _)
                  clear hK K
                  refine wq_on (by kernel_rfl) (fun K hK => ?_)
                  go_simp
                  refine hK _ ?_
                  clear hK K
                  refine wq_on (by kernel_rfl) (fun K hK => ?_)
                  go_simp
                  refine hK _ ?_
                  clear hK K
                  refine wq_on (by kernel_rfl) (fun K hK => ?_)
                  go_simp
                  refine hK _ ?_
                  clear hK K
                  refine wq_on (by kernel_rfl) (fun K hK => ?_)
                  go_simp
                  refine hK _ ?_
                  clear hK K
                  refine wq_on (by kernel_rfl) (fun K hK => ?_)
                  go_simp
                  apply Exists.intro
                  refine ⟨fun _ => ?_, hK _ ?_⟩
                  · go_at_call 34; refine Calls.grown_of (FA2 _)
                  clear hK K
                  refine wq_on (by kernel_rfl) (fun K hK => ?_)
                  go_simp
                  refine hK _ ?_
                  clear hK K
                  refine wq_on (by kernel_rfl) (fun K hK => ?_)
                  go_simp
                  refine hK _ ?_
                  clear hK K
                  refine wq_on (by kernel_rfl) (fun K hK => ?_)
                  go_simp
                  refine hK _ ?_
                  clear hK K
                  refine wq_on (by kernel_rfl) (fun K hK => ?_)
                  go_simp
                  refine hK _ ?_
                  clear hK K
                  refine wq_on (by kernel_rfl) (fun K hK => ?_)
                  go_simp
                  refine hK _ ?_
                  clear hK K
                  refine wq_on (by kernel_rfl) (fun K hK => ?_)
                  go_simp
                  refine hK _ ?_
                  clear hK K
                  refine wq_on (by kernel_rfl) (fun K hK => ?_)
                  go_simp
                  refine hK _ ?_
                  clear hK K
                  refine wq_on (by kernel_rfl) (fun K hK => ?_)
                  go_simp
                  refine hK _ ?_
                  clear hK K
                  refine wq_on (by kernel_rfl) (fun K hK => ?_)
                  go_simp
                  refine hK _ ?_
                  clear hK K
                  refine wq_on (by kernel_rfl) (fun K hK => ?_)
                  go_simp
                  refine hK _ ?_
                  clear hK K
                  refine wq_on (by kernel_rfl) (fun K hK => ?_)
                  go_simp
                  refine hK _ ?_
                  clear hK K
                  refine wq_on (by kernel_rfl) (fun K hK => ?_)
                  go_simp
                  refine hK _ ?_
                  clear hK K
                  refine wq_on (by kernel_rfl) (fun K hK => ?_)
                  go_simp
                  refine hK _ ?_
                  clear hK K
                  refine wq_on (by kernel_rfl) (fun K hK => ?_)
                  go_simp
                  apply Exists.intro
                  refine ⟨fun _ => ?_, hK _ ?_⟩
                  · go_at_call 35; refine Calls.grown_of (CMP _)
                  clear hK K
                  refine wq_on (by kernel_rfl) (fun K hK => ?_)
                  go_simp
                  refine hK _ ?_
                  clear hK K
                  refine wq_on (by kernel_rfl) (fun K hK => ?_)
                  go_simp
                  refine hK _ ?_
                  clear hK K
                  refine wq_on (by kernel_rfl) (fun K hK => ?_)
                  go_simp
                  refine hK _ ?_
                  clear hK K
                  refine wq_nil ?_
                  intro _ hw'
                  obtain ⟨⟨nq, osq⟩, hw''⟩ := hw'
                  subst hw''
                  have gN := HG2.out nq osq
                  obtain ⟨wn, hwn⟩ : ∃ W, grow (wA.drewN nq) osq = W := ⟨_, rfl⟩
                  rw [hwn] at gN ⊢
                  have HGN := Lib.hid gN
                  clear hwn gN y0 y1 y2 y3 y4 y5 y6
                  go_wp2_with fail
                  go_roundg (n - (k + 1))
                  case measure => omega
                  case rel => exact ⟨k + 1, rfl, by omega, by go_num, HGN.out, Lib.hid (HF.out (by rw [HB.out]; simp [B4, B5]))⟩
      | false =>
        cases f1 with
        | true =>
          refine wp_region_quiet_grown (by assumption) (by kernel_rfl) (Wq.out ?_)
          refine wq_on (by kernel_rfl) (fun K hK => ?_)
          go_simp
          refine hK _ ?_
          clear hK K
          refine wq_on (by kernel_rfl) (fun K hK => ?_)
          go_simp
          refine hK _ ?_
          clear hK K
          refine wq_on (by kernel_rfl) (fun K hK => ?_)
          go_simp
          refine hK _ ?_
          clear hK K
          refine wq_on (by kernel_rfl) (fun K hK => ?_)
          go_simp
          refine hK _ ?_
          clear hK K
          refine wq_off (by kernel_rfl) (fun K hK => ?_)
          go_simp
          refine hK _ ?_
          clear hK K
          refine wq_off (by kernel_rfl) (fun K hK => ?_)
          go_simp
          refine hK _ ?_
          clear hK K
          refine wq_off (by kernel_rfl) (fun K hK => ?_)
          go_simp
          refine hK _ ?_
          clear hK K
          refine wq_on (by kernel_rfl) (fun K hK => ?_)
          go_simp
          refine hK _ ?_
          clear hK K
          refine wq_on (by kernel_rfl) (fun K hK => ?_)
          go_simp
          refine hK _ ?_
          clear hK K
          refine wq_on (by kernel_rfl) (fun K hK => ?_)
          go_simp
          refine hK _ ?_
          clear hK K
          refine wq_on (by kernel_rfl) (fun K hK => ?_)
          go_simp
          refine hK _ ?_
          clear hK K
          refine wq_on (by kernel_rfl) (fun K hK => ?_)
          go_simp
          apply Exists.intro
          refine ⟨fun _ => ?_, hK _ ?_⟩
          · go_at_call 34; refine Calls.grown_of (FA1 _)
          clear hK K
          refine wq_on (by kernel_rfl) (fun K hK => ?_)
          go_simp
          refine hK _ ?_
          clear hK K
          refine wq_on (by kernel_rfl) (fun K hK => ?_)
          go_simp
          refine hK _ ?_
          clear hK K
          refine wq_off (by kernel_rfl) (fun K hK => ?_)
          go_simp
          refine hK _ ?_
          clear hK K
          refine wq_off (by kernel_rfl) (fun K hK => ?_)
          go_simp
          refine hK _ ?_
          clear hK K
          refine wq_off (by kernel_rfl) (fun K hK => ?_)
          go_simp
          refine hK _ ?_
          clear hK K
          refine wq_on (by kernel_rfl) (fun K hK => ?_)
          go_simp
          refine hK _ ?_
          clear hK K
          refine wq_on (by kernel_rfl) (fun K hK => ?_)
          go_simp
          refine hK _ ?_
          clear hK K
          refine wq_off (by kernel_rfl) (fun K hK => ?_)
          go_simp
          refine hK _ ?_
          clear hK K
          refine wq_off (by kernel_rfl) (fun K hK => ?_)
          go_simp
          refine hK _ ?_
          clear hK K
          refine wq_off (by kernel_rfl) (fun K hK => ?_)
          go_simp
          refine hK _ ?_
          clear hK K
          refine wq_off (by kernel_rfl) (fun K hK => ?_)
          go_simp
          refine hK _ ?_
          clear hK K
          refine wq_off (by kernel_rfl) (fun K hK => ?_)
          go_simp
          refine hK _ ?_
          clear hK K
          refine wq_off (by kernel_rfl) (fun K hK => ?_)
          go_simp
          refine hK _ ?_
          clear hK K
          refine wq_off (by kernel_rfl) (fun K hK => ?_)
          go_simp
          refine hK _ ?_
          clear hK K
          refine wq_off (by kernel_rfl) (fun K hK => ?_)
          go_simp
          refine hK _ ?_
          clear hK K
          refine wq_off (by kernel_rfl) (fun K hK => ?_)
          go_simp
          refine hK _ ?_
          clear hK K
          refine wq_off (by kernel_rfl) (fun K hK => ?_)
          go_simp
          refine hK _ ?_
          clear hK K
          refine wq_off (by kernel_rfl) (fun K hK => ?_)
          go_simp
          refine hK _ ?_
          clear hK K
          refine wq_off (by kernel_rfl) (fun K hK => ?_)
          go_simp
          refine hK _ ?_
          clear hK K
          refine wq_off (by kernel_rfl) (fun K hK => ?_)
          go_simp
          refine hK _ ?_
          clear hK K
          refine wq_off (by kernel_rfl) (fun K hK => ?_)
          go_simp
          refine hK _ ?_
          clear hK K
          refine wq_on (by kernel_rfl) (fun K hK => ?_)
          go_simp
          refine hK _ ?_
          clear hK K
          refine wq_nil ?_
          intro _ hw'
          obtain ⟨⟨nq, osq⟩, hw''⟩ := hw'
          subst hw''
          have gN := HG2.out nq osq
          obtain ⟨wn, hwn⟩ : ∃ W, grow (wA.drewN nq) osq = W := ⟨_, rfl⟩
          rw [hwn] at gN ⊢
          have HGN := Lib.hid gN
          clear hwn gN y0 y1 y2 y3 y4 y5 y6
          go_wp2
          refine bodyPost_ret (v := .bool false) (by simp [results, Try.results14, go_sem]) rfl ?_
          exact ⟨by rw [HT.out (by rw [HB.out]; simp [])], HGN.out⟩
        | false =>
          cases f2 with
          | true =>
            refine wp_region_quiet_grown (by assumption) (by kernel_rfl) (Wq.out ?_)
            refine wq_on (by kernel_rfl) (fun K hK => ?_)
            go_simp
            refine hK _ ?_
            clear hK K
            refine wq_on (by kernel_rfl) (fun K hK => ?_)
            go_simp
            refine hK _ ?_
            clear hK K
            refine wq_on (by kernel_rfl) (fun K hK => ?_)
            go_simp
            refine hK _ ?_
            clear hK K
            refine wq_on (by kernel_rfl) (fun K hK => ?_)
            go_simp
            refine hK _ ?_
            clear hK K
            refine wq_off (by kernel_rfl) (fun K hK => ?_)
            go_simp
            refine hK _ ?_
            clear hK K
            refine wq_off (by kernel_rfl) (fun K hK => ?_)
            go_simp
            refine hK _ ?_
            clear hK K
            refine wq_off (by kernel_rfl) (fun K hK => ?_)
            go_simp
            refine hK _ ?_
            clear hK K
            refine wq_on (by kernel_rfl) (fun K hK => ?_)
            go_simp
            refine hK _ ?_
            clear hK K
            refine wq_on (by kernel_rfl) (fun K hK => ?_)
            go_simp
            refine hK _ ?_
            clear hK K
            refine wq_on (by kernel_rfl) (fun K hK => ?_)
            go_simp
            refine hK _ ?_
            clear hK K
            refine wq_on (by kernel_rfl) (fun K hK => ?_)
            go_simp
            refine hK _ ?_
            clear hK K
            refine wq_on (by kernel_rfl) (fun K hK => ?_)
            go_simp
            apply Exists.intro
            refine ⟨fun _ => ?_, hK _ ?_⟩
            · go_at_call 34; refine Calls.grown_of (FA1 _)
            clear hK K
            refine wq_on (by kernel_rfl) (fun K hK => ?_)
            go_simp
            refine hK _ ?_
            clear hK K
            refine wq_on (by kernel_rfl) (fun K hK => ?_)
            go_simp
            refine hK _ ?_
            clear hK K
            refine wq_on (by kernel_rfl) (fun K hK => ?_)
            go_simp
            refine hK _ ?_
            clear hK K
            refine wq_on (by kernel_rfl) (fun K hK => ?_)
            go_simp
            refine hK _ ?_
            clear hK K
            refine wq_on (by kernel_rfl) (fun K hK => ?_)
            go_simp
            apply Exists.intro
            refine ⟨fun _ => ?_, hK _ ?_⟩
            · go_at_call 34; refine Calls.grown_of (FA2 _)
            clear hK K
            refine wq_on (by kernel_rfl) (fun K hK => ?_)
            go_simp
            refine hK _ ?_
            clear hK K
            refine wq_on (by kernel_rfl) (fun K hK => ?_)
            go_simp
            refine hK _ ?_
            clear hK K
            refine wq_off (by kernel_rfl) (fun K hK => ?_)
            go_simp
            refine hK _ ?_
            clear hK K
            refine wq_off (by kernel_rfl) (fun K hK => ?_)
            go_simp
            refine hK _ ?_
            clear hK K
            refine wq_off (by kernel_rfl) (fun K hK => ?_)
            go_simp
            refine hK _ ?_
            clear hK K
            refine wq_off (by kernel_rfl) (fun K hK => ?_)
            go_simp
            refine hK _ ?_
            clear hK K
            refine wq_off (by kernel_rfl) (fun K hK => ?_)
            go_simp
            refine hK _ ?_
            clear hK K
            refine wq_off (by kernel_rfl) (fun K hK => ?_)
            go_simp
            refine hK _ ?_
            clear hK K
            refine wq_off (by kernel_rfl) (fun K hK => ?_)
            go_simp
            refine hK _ ?_
            clear hK K
            refine wq_off (by kernel_rfl) (fun K hK => ?_)
            go_simp
            refine hK _ ?_
            clear hK K
            refine wq_off (by kernel_rfl) (fun K hK => ?_)
            go_simp
            refine hK _ ?_
            clear hK K
            refine wq_off (by kernel_rfl) (fun K hK => ?_)
            go_simp
            refine hK _ ?_
            clear hK K
            refine wq_off (by kernel_rfl) (fun K hK => ?_)
            go_simp
            refine hK _ ?_
            clear hK K
            refine wq_off (by kernel_rfl) (fun K hK => ?_)
            go_simp
            refine hK _ ?_
            clear hK K
            refine wq_off (by kernel_rfl) (fun K hK => ?_)
            go_simp
            refine hK _ ?_
            clear hK K
            refine wq_off (by kernel_rfl) (fun K hK => ?_)
            go_simp
            refine hK _ ?_
            clear hK K
            refine wq_on (by kernel_rfl) (fun K hK => ?_)
            go_simp
            refine hK _ ?_
            clear hK K
            refine wq_nil ?_
            intro _ hw'
            obtain ⟨⟨nq, osq⟩, hw''⟩ := hw'
            subst hw''
            have gN := HG2.out nq osq
            obtain ⟨wn, hwn⟩ : ∃ W, grow (wA.drewN nq) osq = W := ⟨_, rfl⟩
            rw [hwn] at gN ⊢
            have HGN := Lib.hid gN
            clear hwn gN y0 y1 y2 y3 y4 y5 y6
            go_wp2
            refine bodyPost_ret (v := .bool false) (by simp [results, Try.results14, go_sem]) rfl ?_
            exact ⟨by rw [HT.out (by rw [HB.out]; simp [])], HGN.out⟩
          | false =>
            by_cases hk0 : k = 0
            · subst hk0
              have B4 : decide (0 < (0 : Nat)) = false := rfl
              have B5 : True := trivial
              refine wp_region_quiet_grown (by assumption) (by kernel_rfl) (Wq.out ?_)
              refine wq_on (by kernel_rfl) (fun K hK => ?_)
              go_simp
              refine hK _ ?_
              clear hK K
              refine wq_on (by kernel_rfl) (fun K hK => ?_)
              go_simp
              refine hK _ ?_
              clear hK K
              refine wq_on (by kernel_rfl) (fun K hK => ?_)
              go_simp
              refine hK _ ?_
              clear hK K
              refine wq_on (by kernel_rfl) (fun K hK => ?_)
              go_simp
              refine hK _ ?_
              clear hK K
              refine wq_off (by kernel_rfl) (fun K hK => ?_)
              go_simp
              refine hK _ ?_
              clear hK K
              refine wq_off (by kernel_rfl) (fun K hK => ?_)
              go_simp
              refine hK _ ?_
              clear hK K
              refine wq_off (by kernel_rfl) (fun K hK => ?_)
              go_simp
              refine hK _ ?_
              clear hK K
              refine wq_on (by kernel_rfl) (fun K hK => ?_)
              go_simp
              refine hK _ ?_
              clear hK K
              refine wq_on (by kernel_rfl) (fun K hK => ?_)
              go_simp
              refine hK _ ?_
              clear hK K
              refine wq_on (by kernel_rfl) (fun K hK => ?_)
              go_simp
              refine hK _ ?_
              clear hK K
              refine wq_on (by kernel_rfl) (fun K hK => ?_)
              go_simp
              refine hK _ ?_
              clear hK K
              refine wq_on (by kernel_rfl) (fun K hK => ?_)
              go_simp
              apply Exists.intro
              refine ⟨fun _ => ?_, hK _ ?_⟩
              · go_at_call 34; refine Calls.grown_of (FA1 _)
              clear hK K
              refine wq_on (by kernel_rfl) (fun K hK => ?_)
              go_simp
              refine hK _ ?_
              clear hK K
              refine wq_on (by kernel_rfl) (fun K hK => ?_)
              go_simp
              refine hK _ ?_
              clear hK K
              refine wq_on (by kernel_rfl) (fun K hK => ?_)
              go_simp
              refine hK _ ?_
              clear hK K
              refine wq_on (by kernel_rfl) (fun K hK => ?_)
              go_simp
              refine hK _ ?_
              clear hK K
              refine wq_on (by kernel_rfl) (fun K hK => ?_)
              go_simp
              apply Exists.intro
              refine ⟨fun _ => ?_, hK _ ?_⟩
              · go_at_call 34; refine Calls.grown_of (FA2 _)
              clear hK K
              refine wq_on (by kernel_rfl) (fun K hK => ?_)
              go_simp
              refine hK _ ?_
              clear hK K
              refine wq_on (by kernel_rfl) (fun K hK => ?_)
              go_simp
              refine hK _ ?_
              clear hK K
              refine wq_on (by kernel_rfl) (fun K hK => ?_)
              go_simp
              refine hK _ ?_
              clear hK K
              refine wq_on (by kernel_rfl) (fun K hK => ?_)
              go_simp
              refine hK _ ?_
              clear hK K
              refine wq_on (by kernel_rfl) (fun K hK => ?_)
              go_simp
              refine hK _ ?_
              clear hK K
              refine wq_off (by kernel_rfl) (fun K hK => ?_)
              go_simp
              refine hK _ ?_
              clear hK K
              refine wq_off (by kernel_rfl) (fun K hK => ?_)
              go_simp
              refine hK _ ?_
              clear hK K
              refine wq_off (by kernel_rfl) (fun K hK => ?_)
              go_simp
              refine hK _ ?_
              clear hK K
              refine wq_off (by kernel_rfl) (fun K hK => ?_)
              go_simp
              refine hK _ ?_
              clear hK K
              refine wq_off (by kernel_rfl) (fun K hK => ?_)
              go_simp
              refine hK _ ?_
              clear hK K
              refine wq_off (by kernel_rfl) (fun K hK => ?_)
              go_simp
              refine hK _ ?_
              clear hK K
              refine wq_off (by kernel_rfl) (fun K hK => ?_)
              go_simp
              refine hK _ ?_
              clear hK K
              refine wq_off (by kernel_rfl) (fun K hK => ?_)
              go_simp
              refine hK _ ?_
              clear hK K
              refine wq_off (by kernel_rfl) (fun K hK => ?_)
              go_simp
              refine hK _ ?_
              clear hK K
              refine wq_off (by kernel_rfl) (fun K hK => ?_)
              go_simp
              refine hK _ ?_
              clear hK K
              refine wq_on (by kernel_rfl) (fun K hK => ?_)
              go_simp
              refine hK _ ?_
              clear hK K
              refine wq_on (by kernel_rfl) (fun K hK => ?_)
              go_simp
              refine hK _ ?_
              clear hK K
              refine wq_nil ?_
              intro _ hw'
              obtain ⟨⟨nq, osq⟩, hw''⟩ := hw'
              subst hw''
              have gN := HG2.out nq osq
              obtain ⟨wn, hwn⟩ : ∃ W, grow (wA.drewN nq) osq = W := ⟨_, rfl⟩
              rw [hwn] at gN ⊢
              have HGN := Lib.hid gN
              clear hwn gN y0 y1 y2 y3 y4 y5 y6
              go_wp2_with fail
              go_roundg (n - (0 + 1))
              case measure => omega
              case rel => exact ⟨0 + 1, rfl, by omega, by go_num, HGN.out, Lib.hid (HF.out (by rw [HB.out]; simp []))⟩
            · have hk1 : 0 < (k : Int) := by omega
              have B4 : decide (0 < k) = true := decide_eq_true (by omega)
              obtain ⟨ad2, had2, hcf2⟩ := HCT.out (k - 1) (by rw [HLN.out]; omega)
              obtain rfl := Option.some.inj had2
              have hzz := fun n os => hcf2 _ (HG2.out n os)
              obtain ⟨y, hy⟩ : ∃ y, l[k - 1]! = y := ⟨_, rfl⟩
              rw [hy] at HB hzz
              have ek : (k : Int) - 1 = ((k - 1 : Nat) : Int) := by omega
              have wk : IntKind.i64.wrap ((k : Int) - 1) = ((k - 1 : Nat) : Int) := by rw [IntKind.wrap_i64]; omega
              obtain ⟨j, hj⟩ : ∃ j, k - 1 = j := ⟨_, rfl⟩
              rw [hj] at hzz wk
              have hjn : (j : Int) < (n : Int) := by omega
              have p0 := fun n os => (hzz n os).1
              have p1 := fun n os => (hzz n os).2.1
              have p2 := fun n os => (hzz n os).2.2.1
              have p3 := fun n os => (hzz n os).2.2.2.1
              have p4 := fun n os => (hzz n os).2.2.2.2.1
              obtain ⟨kc, hkc⟩ : ∃ q, keyCmp y.f0 x.f0 = q := ⟨_, rfl⟩
              rw [hkc] at HB
              have CMP : ∀ W, Calls Try.prog 35 #[.agg #[.string y.f0.f0, .string y.f0.f1, .string y.f0.f2, .string y.f0.f3, .string y.f0.f4], .agg #[.string x.f0.f0, .string x.f0.f1, .string x.f0.f2, .string x.f0.f3, .string x.f0.f4]] W fun e w' => e = .returned (.int .i64 kc) ∧ ∃ q os, w' = grow (W.drewN q) os := fun W => hkc ▸ go_keyCmpG y.f0 x.f0 W
              clear hzz hcf2 had2 hy hkc hj ek
              by_cases hge : kc ≥ 0
              · have B5 : decide (kc ≥ 0) = true := decide_eq_true hge
                refine wp_region_quiet_grown (by assumption) (by kernel_rfl) (Wq.out ?_)
                refine wq_on (by kernel_rfl) (fun K hK => ?_)
                go_simp
                refine hK _ ?_
                clear hK K
                refine wq_on (by kernel_rfl) (fun K hK => ?_)
                go_simp
                refine hK _ ?_
                clear hK K
                refine wq_on (by kernel_rfl) (fun K hK => ?_)
                go_simp
                refine hK _ ?_
                clear hK K
                refine wq_on (by kernel_rfl) (fun K hK => ?_)
                go_simp
                refine hK _ ?_
                clear hK K
                refine wq_off (by kernel_rfl) (fun K hK => ?_)
                go_simp
                refine hK _ ?_
                clear hK K
                refine wq_off (by kernel_rfl) (fun K hK => ?_)
                go_simp
                refine hK _ ?_
                clear hK K
                refine wq_off (by kernel_rfl) (fun K hK => ?_)
                go_simp
                refine hK _ ?_
                clear hK K
                refine wq_on (by kernel_rfl) (fun K hK => ?_)
                go_simp
                refine hK _ ?_
                clear hK K
                refine wq_on (by kernel_rfl) (fun K hK => ?_)
                go_simp
                refine hK _ ?_
                clear hK K
                refine wq_on (by kernel_rfl) (fun K hK => ?_)
                go_simp
                refine hK _ ?_
                clear hK K
                refine wq_on (by kernel_rfl) (fun K hK => ?_)
                go_simp
                refine hK _ ?_
                clear hK K
                refine wq_on (by kernel_rfl) (fun K hK => ?_)
                go_simp
                apply Exists.intro
                refine ⟨fun _ => ?_, hK _ ?_⟩
                · go_at_call 34; refine Calls.grown_of (FA1 _)
                clear hK K
                refine wq_on (by kernel_rfl) (fun K hK => ?_)
                go_simp
                refine hK _ ?_
                clear hK K
                refine wq_on (by kernel_rfl) (fun K hK => ?_)
                go_simp
                refine hK _ ?_
                clear hK K
                refine wq_on (by kernel_rfl) (fun K hK => ?_)
                go_simp
                refine hK _ ?_
                clear hK K
                refine wq_on (by kernel_rfl) (fun K hK => ?_)
                go_simp
                refine hK _ ?_
                clear hK K
                refine wq_on (by kernel_rfl) (fun K hK => ?_)
                go_simp
                apply Exists.intro
                refine ⟨fun _ => ?_, hK _ ?_⟩
                · go_at_call 34; refine Calls.grown_of (FA2 _)
                clear hK K
                refine wq_on (by kernel_rfl) (fun K hK => ?_)
                go_simp
                refine hK _ ?_
                clear hK K
                refine wq_on (by kernel_rfl) (fun K hK => ?_)
                go_simp
                refine hK _ ?_
                clear hK K
                refine wq_on (by kernel_rfl) (fun K hK => ?_)
                go_simp
                refine hK _ ?_
                clear hK K
                refine wq_on (by kernel_rfl) (fun K hK => ?_)
                go_simp
                refine hK _ ?_
                clear hK K
                refine wq_on (by kernel_rfl) (fun K hK => ?_)
                go_simp
                refine hK _ ?_
                clear hK K
                refine wq_on (by kernel_rfl) (fun K hK => ?_)
                go_simp
                refine hK _ ?_
                clear hK K
                refine wq_on (by kernel_rfl) (fun K hK => ?_)
                go_simp
                refine hK _ ?_
                clear hK K
                refine wq_on (by kernel_rfl) (fun K hK => ?_)
                go_simp
                refine hK _ ?_
                clear hK K
                refine wq_on (by kernel_rfl) (fun K hK => ?_)
                go_simp
                refine hK _ ?_
                clear hK K
                refine wq_on (by kernel_rfl) (fun K hK => ?_)
                go_simp
                refine hK _ ?_
                clear hK K
                refine wq_on (by kernel_rfl) (fun K hK => ?_)
                go_simp
                refine hK _ ?_
                clear hK K
                refine wq_on (by kernel_rfl) (fun K hK => ?_)
                go_simp
                refine hK _ ?_
                clear hK K
                refine wq_on (by kernel_rfl) (fun K hK => ?_)
                go_simp
                refine hK _ ?_
                clear hK K
                refine wq_on (by kernel_rfl) (fun K hK => ?_)
                go_simp
                apply Exists.intro
                refine ⟨fun _ => ?_, hK _ ?_⟩
                · go_at_call 35; refine Calls.grown_of (CMP _)
                clear hK K
                refine wq_on (by kernel_rfl) (fun K hK => ?_)
                go_simp
                refine hK _ ?_
                clear hK K
                refine wq_on (by kernel_rfl) (fun K hK => ?_)
                go_simp
                refine hK _ ?_
                clear hK K
                refine wq_on (by kernel_rfl) (fun K hK => ?_)
                go_simp
                refine hK _ ?_
                clear hK K
                refine wq_nil ?_
                intro _ hw'
                obtain ⟨⟨nq, osq⟩, hw''⟩ := hw'
                subst hw''
                have gN := HG2.out nq osq
                obtain ⟨wn, hwn⟩ : ∃ W, grow (wA.drewN nq) osq = W := ⟨_, rfl⟩
                rw [hwn] at gN ⊢
                have HGN := Lib.hid gN
                clear hwn gN y0 y1 y2 y3 y4 y5 y6
                go_wp2
                refine bodyPost_ret (v := .bool false) (by simp [results, Try.results14, go_sem]) rfl ?_
                exact ⟨by rw [HT.out (by rw [HB.out]; simp [B4, B5])], HGN.out⟩
              · have B5 : decide (kc ≥ 0) = false := decide_eq_false hge
                refine wp_region_quiet_grown (by assumption) (by kernel_rfl) (Wq.out ?_)
                refine wq_on (by kernel_rfl) (fun K hK => ?_)
                go_simp
                refine hK _ ?_
                clear hK K
                refine wq_on (by kernel_rfl) (fun K hK => ?_)
                go_simp
                refine hK _ ?_
                clear hK K
                refine wq_on (by kernel_rfl) (fun K hK => ?_)
                go_simp
                refine hK _ ?_
                clear hK K
                refine wq_on (by kernel_rfl) (fun K hK => ?_)
                go_simp
                refine hK _ ?_
                clear hK K
                refine wq_off (by kernel_rfl) (fun K hK => ?_)
                go_simp
                refine hK _ ?_
                clear hK K
                refine wq_off (by kernel_rfl) (fun K hK => ?_)
                go_simp
                refine hK _ ?_
                clear hK K
                refine wq_off (by kernel_rfl) (fun K hK => ?_)
                go_simp
                refine hK _ ?_
                clear hK K
                refine wq_on (by kernel_rfl) (fun K hK => ?_)
                go_simp
                refine hK _ ?_
                clear hK K
                refine wq_on (by kernel_rfl) (fun K hK => ?_)
                go_simp
                refine hK _ ?_
                clear hK K
                refine wq_on (by kernel_rfl) (fun K hK => ?_)
                go_simp
                refine hK _ ?_
                clear hK K
                refine wq_on (by kernel_rfl) (fun K hK => ?_)
                go_simp
                refine hK _ ?_
                clear hK K
                refine wq_on (by kernel_rfl) (fun K hK => ?_)
                go_simp
                apply Exists.intro
                refine ⟨fun _ => ?_, hK _ ?_⟩
                · go_at_call 34; refine Calls.grown_of (FA1 _)
                clear hK K
                refine wq_on (by kernel_rfl) (fun K hK => ?_)
                go_simp
                refine hK _ ?_
                clear hK K
                refine wq_on (by kernel_rfl) (fun K hK => ?_)
                go_simp
                refine hK _ ?_
                clear hK K
                refine wq_on (by kernel_rfl) (fun K hK => ?_)
                go_simp
                refine hK _ ?_
                clear hK K
                refine wq_on (by kernel_rfl) (fun K hK => ?_)
                go_simp
                refine hK _ ?_
                clear hK K
                refine wq_on (by kernel_rfl) (fun K hK => ?_)
                go_simp
                apply Exists.intro
                refine ⟨fun _ => ?_, hK _ ?_⟩
                · go_at_call 34; refine Calls.grown_of (FA2 _)
                clear hK K
                refine wq_on (by kernel_rfl) (fun K hK => ?_)
                go_simp
                refine hK _ ?_
                clear hK K
                refine wq_on (by kernel_rfl) (fun K hK => ?_)
                go_simp
                refine hK _ ?_
                clear hK K
                refine wq_on (by kernel_rfl) (fun K hK => ?_)
                go_simp
                refine hK _ ?_
                clear hK K
                refine wq_on (by kernel_rfl) (fun K hK => ?_)
                go_simp
                refine hK _ ?_
                clear hK K
                refine wq_on (by kernel_rfl) (fun K hK => ?_)
                go_simp
                refine hK _ ?_
                clear hK K
                refine wq_on (by kernel_rfl) (fun K hK => ?_)
                go_simp
                refine hK _ ?_
                clear hK K
                refine wq_on (by kernel_rfl) (fun K hK => ?_)
                go_simp
                refine hK _ ?_
                clear hK K
                refine wq_on (by kernel_rfl) (fun K hK => ?_)
                go_simp
                refine hK _ ?_
                clear hK K
                refine wq_on (by kernel_rfl) (fun K hK => ?_)
                go_simp
                refine hK _ ?_
                clear hK K
                refine wq_on (by kernel_rfl) (fun K hK => ?_)
                go_simp
                refine hK _ ?_
                clear hK K
                refine wq_on (by kernel_rfl) (fun K hK => ?_)
                go_simp
                refine hK _ ?_
                clear hK K
                refine wq_on (by kernel_rfl) (fun K hK => ?_)
                go_simp
                refine hK _ ?_
                clear hK K
                refine wq_on (by kernel_rfl) (fun K hK => ?_)
                go_simp
                refine hK _ ?_
                clear hK K
                refine wq_on (by kernel_rfl) (fun K hK => ?_)
                go_simp
                apply Exists.intro
                refine ⟨fun _ => ?_, hK _ ?_⟩
                · go_at_call 35; refine Calls.grown_of (CMP _)
                clear hK K
                refine wq_on (by kernel_rfl) (fun K hK => ?_)
                go_simp
                refine hK _ ?_
                clear hK K
                refine wq_on (by kernel_rfl) (fun K hK => ?_)
                go_simp
                refine hK _ ?_
                clear hK K
                refine wq_on (by kernel_rfl) (fun K hK => ?_)
                go_simp
                refine hK _ ?_
                clear hK K
                refine wq_nil ?_
                intro _ hw'
                obtain ⟨⟨nq, osq⟩, hw''⟩ := hw'
                subst hw''
                have gN := HG2.out nq osq
                obtain ⟨wn, hwn⟩ : ∃ W, grow (wA.drewN nq) osq = W := ⟨_, rfl⟩
                rw [hwn] at gN ⊢
                have HGN := Lib.hid gN
                clear hwn gN y0 y1 y2 y3 y4 y5 y6
                go_wp2_with fail
                go_roundg (n - (k + 1))
                case measure => omega
                case rel => exact ⟨k + 1, rfl, by omega, by go_num, HGN.out, Lib.hid (HF.out (by rw [HB.out]; simp [B4, B5]))⟩
    · have hkn : k = n := by omega
      subst hkn
      have HF : Hid (r = true) := Lib.hid (by rw [← HK.out, Nat.sub_self]; rfl)
      have HGR := Lib.hid hgr
      clear hgr
      go_wp2
      refine bodyPost_ret (v := .bool true) (by simp [results, Try.results14, go_sem]) rfl ?_
      exact ⟨by rw [HF.out], HGR.out⟩
def noEnt (child : ByteArray) (x : Cell) : Bool := !(x.f0.f0.toList == child.toList)
def noEq (M : ByteArray → Option Acct) (x : Cell) : Bool := !(M x.f0.f1).isSome || !(((M x.f0.f1).getD za).f2 == 3)
def equityE (M : ByteArray → Option Acct) (t : Tk) : Int := if rightB t.ats = false then 2 else if t.ats.any (noEnt t.child) = true then 2 else if t.ats.any (noEq M) = true then 12 else 0
def tkV (t : Tk) (A : Option Addr) (c : Nat) : Value := .agg #[.string t.parent, .string t.child, .int .i64 t.price, .int .i64 t.fn, .int .i64 t.fd, .string t.invest, .string t.goodwill, .string t.gain, .string t.minor, .slice A t.ats.length c]
theorem any_step {p : Cell → Bool} {l : List Cell} {k : Nat} (hk : k < l.length) : (l.drop k).any p = (p l[k]! || (l.drop (k + 1)).any p) := by
  rw [List.drop_eq_getElem_cons hk, List.any_cons, getElem!_pos l k hk]
set_option maxHeartbeats 2000000 in
set_option maxRecDepth 100000 in
theorem go_checkEquity (t : Tk) (A : Option Addr) (c : Nat) (g L : Nat) (M : ByteArray → Option Acct) (w : World) (hCh : ChartAt w g L M) (hC : Kd.C k52 w A t.ats.length t.ats) (hl : t.ats.length ≤ 100000) (hs : ∀ x ∈ t.ats, x.f0.f1.size ≤ maxLen) :
    Calls Try.prog 28 #[.pointer (some ⟨g, 0, none⟩), tkV t A c] w fun e w' => e = .returned (.int .i64 (equityE M t)) ∧ Below w.heap.size w w' := by
  unfold tkV
  obtain ⟨n, hn⟩ : ∃ n, t.ats.length = n := ⟨_, rfl⟩
  have HN := Lib.hid hn
  obtain ⟨r, hr⟩ : ∃ r, equityE M t = r := ⟨_, rfl⟩
  have HR := Lib.hid hr
  have HCT := Lib.hid (cells_at hC)
  have HSZ := Lib.hid (show ∀ k, k < n → (t.ats[k]!).f0.f1.size ≤ maxLen from fun k hk => hs _ (by rw [← hn] at hk; rw [getElem!_pos t.ats k hk]; exact List.getElem_mem hk))
  rw [hn] at hC hl HCT
  rw [hr, hn]
  have HC := Lib.hid hC
  have HCH := Lib.hid hCh
  clear hr hn hC hs hCh
  have gr1 : Below w.heap.size w (w.alloc (.cells #[.string t.parent, .string t.child, .int .i64 t.price, .int .i64 t.fn, .int .i64 t.fd, .string t.invest, .string t.goodwill, .string t.gain, .string t.minor, .slice A n c] 36)) := (Below.refl _ _).alloc (Nat.le_refl _) _
  have hz := (Go.MapKept.heap_alloc w (.cells #[.string t.parent, .string t.child, .int .i64 t.price, .int .i64 t.fn, .int .i64 t.fd, .string t.invest, .string t.goodwill, .string t.gain, .string t.minor, .slice A n c] 36)).1
  go_enter Try.func28, Try.ntmps28
  go_wp2_with fail
  obtain ⟨w1, hw1⟩ : ∃ W, w.alloc (.cells #[.string t.parent, .string t.child, .int .i64 t.price, .int .i64 t.fn, .int .i64 t.fd, .string t.invest, .string t.goodwill, .string t.gain, .string t.minor, .slice A n c] 36) = W := ⟨_, rfl⟩
  obtain ⟨z, ez⟩ : ∃ z, w.heap.size = z := ⟨_, rfl⟩
  rw [hw1] at gr1 hz ⊢
  rw [ez] at hz ⊢
  refine (go_right t.ats A c n w1 (Kd.C_below HC.out gr1) hl).mono ?_
  rintro e w2 ⟨rfl, hb2⟩
  have hz2 := (hb2.block z (Array.getElem?_eq_some_iff.mp hz).1).trans hz
  have HG := Lib.hid (gr1.trans (hb2.mono gr1.size))
  have HZ := Lib.hid hz2
  have x1 : w2.cell? ⟨z, 1, none⟩ = some (.string t.child) := blk_cell hz2 1
  have x8 : w2.cell? ⟨z, 9, none⟩ = some (.slice A n c) := blk_cell hz2 9
  clear hw1 ez hz gr1 hb2 hz2
  obtain ⟨rb, hrb⟩ : ∃ b, rightB t.ats = b := ⟨_, rfl⟩
  rw [hrb]
  have HR0 := Lib.hid (show equityE M t = (if rb = false then 2 else if t.ats.any (noEnt t.child) = true then 2 else if t.ats.any (noEq M) = true then 12 else 0) by rw [equityE, hrb])
  clear hrb
  cases rb with
  | false =>
    have HF : Hid (r = 2) := Lib.hid (by rw [← HR.out, HR0.out]; rfl)
    go_wp2_with fail
    go_ret
    exact ⟨by rw [HF.out]; rfl, HG.out⟩
  | true =>
    have HR1 : Hid (r = if t.ats.any (noEnt t.child) = true then 2 else if t.ats.any (noEq M) = true then 12 else 0) := Lib.hid (by rw [← HR.out, HR0.out]; rfl)
    clear HR0
    go_wp2_with fail
    go_loopg [18] n (fun gk v18 wr => ∃ k : Nat, gk = n - k ∧ k ≤ n ∧ v18 = .int .i64 k ∧ Below w2.heap.size w2 wr ∧ Hid (t.ats.any (noEnt t.child) = (t.ats.drop k).any (noEnt t.child)))
    case atStart => exact ⟨0, rfl, by omega, rfl, Below.refl _ _, Lib.hid (by rw [List.drop_zero])⟩
    case round =>
      obtain ⟨k, rfl, hk, rfl, hgr, HA⟩ := hrel
      have y1 := (hgr.cell (World.block_lt_of_cell? w2 _ x1)).trans x1
      have y8 := (hgr.cell (World.block_lt_of_cell? w2 _ x8)).trans x8
      by_cases hlt : k < n
      · have hltz : (k : Int) < (n : Int) := by omega
        obtain ⟨ad, had, hcf⟩ := HCT.out k hlt
        subst had
        obtain ⟨c0, c1, c2, c3, c4, c5, c6⟩ := hcf wr (HG.out.trans (hgr.mono HG.out.size))
        have hst := any_step (p := noEnt t.child) (l := t.ats) (k := k) (by rw [HN.out]; exact hlt)
        have hne : noEnt t.child t.ats[k]! = !((t.ats[k]!).f0.f0.toList == t.child.toList) := rfl
        rw [hne] at hst
        obtain ⟨x, hx⟩ : ∃ x, t.ats[k]! = x := ⟨_, rfl⟩
        rw [hx] at c0 c1 c2 c3 c4 c5 c6 hst
        have gA : Below w2.heap.size w2 (wr.alloc (.cells #[.string x.f0.f0, .string x.f0.f1, .string x.f0.f2, .string x.f0.f3, .string x.f0.f4, .int .i64 x.f1, .int .i64 x.f2] 52)) := hgr.alloc hgr.size _
        have y1A := (gA.cell (World.block_lt_of_cell? w2 _ x1)).trans x1
        have HGA := Lib.hid gA
        have HST := Lib.hid hst
        clear gA hst hcf hx hne
        obtain ⟨b, hb⟩ : ∃ b, (x.f0.f0.toList == t.child.toList) = b := ⟨_, rfl⟩
        rw [hb] at HST
        cases b with
        | false =>
          have HF : Hid (r = 2) := Lib.hid (by rw [HR1.out, HA.out, HST.out]; rfl)
          go_wp2_with fail
          go_ret
          exact ⟨by rw [HF.out]; rfl, HG.out.trans (HGA.out.mono HG.out.size)⟩
        | true =>
          have HA2 : Hid (t.ats.any (noEnt t.child) = (t.ats.drop (k + 1)).any (noEnt t.child)) := Lib.hid (by rw [HA.out, HST.out]; rfl)
          go_wp2_with fail
          go_roundg (n - (k + 1))
          case measure => omega
          case rel => exact ⟨k + 1, rfl, by omega, by go_num, HGA.out, HA2⟩
      · have hkn : k = n := by omega
        subst hkn
        have HR2 : Hid (r = if t.ats.any (noEq M) = true then 12 else 0) := Lib.hid (by
          have h := HA.out
          rw [List.drop_eq_nil_of_le (by rw [HN.out]; exact Nat.le_refl _)] at h
          rw [HR1.out, if_neg (by rw [h]; simp)])
        have HG2 := Lib.hid (HG.out.trans (hgr.mono HG.out.size))
        clear x1 x8 y1 hgr HA hlt HR1 hk HR HG
        go_wp2_with fail
        rename_i gk0 wr0
        obtain ⟨w3, hw3⟩ : ∃ W, wr = W := ⟨_, rfl⟩
        rw [hw3] at HG2 y8 ⊢
        clear hw3
        go_loopg [32] k (fun gk v32 wr => ∃ i : Nat, gk = k - i ∧ i ≤ k ∧ v32 = .int .i64 i ∧ Below w3.heap.size w3 wr ∧ Hid (t.ats.any (noEq M) = (t.ats.drop i).any (noEq M)))
        case atStart => exact ⟨0, rfl, by omega, rfl, Below.refl _ _, Lib.hid (by rw [List.drop_zero])⟩
        case round =>
          obtain ⟨i, rfl, hi, rfl, hgr, HA⟩ := hrel
          have z8 := (hgr.cell (World.block_lt_of_cell? w3 _ y8)).trans y8
          have hgw := HG2.out.trans (hgr.mono HG2.out.size)
          by_cases hlt : i < k
          · have hltz : (i : Int) < (k : Int) := by omega
            obtain ⟨ad, had, hcf⟩ := HCT.out i hlt
            subst had
            obtain ⟨c0, c1, c2, c3, c4, c5, c6⟩ := hcf wr hgw
            have hst := any_step (p := noEq M) (l := t.ats) (k := i) (by rw [HN.out]; exact hlt)
            have hne : noEq M t.ats[i]! = (!(M (t.ats[i]!).f0.f1).isSome || !(((M (t.ats[i]!).f0.f1).getD za).f2 == 3)) := rfl
            rw [hne] at hst
            have hsz := HSZ.out i hlt
            obtain ⟨x, hx⟩ : ∃ x, t.ats[i]! = x := ⟨_, rfl⟩
            rw [hx] at c0 c1 c2 c3 c4 c5 c6 hst hsz
            have gA : Below w3.heap.size w3 (wr.alloc (.cells #[.string x.f0.f0, .string x.f0.f1, .string x.f0.f2, .string x.f0.f3, .string x.f0.f4, .int .i64 x.f1, .int .i64 x.f2] 52)) := hgr.alloc hgr.size _
            have hA := (Go.MapKept.heap_alloc wr (.cells #[.string x.f0.f0, .string x.f0.f1, .string x.f0.f2, .string x.f0.f3, .string x.f0.f4, .int .i64 x.f1, .int .i64 x.f2] 52)).1
            have HST := Lib.hid hst
            have HSX := Lib.hid hsz
            clear hst hcf hx hne hsz hgr
            go_upto_region 12 with fail
            clear c0 c1 c2 c3 c4 c5 c6 z8
            obtain ⟨zx, hzx⟩ : ∃ z, wr.heap.size = z := ⟨_, rfl⟩
            obtain ⟨wA, hwA⟩ : ∃ W, wr.alloc (.cells #[.string x.f0.f0, .string x.f0.f1, .string x.f0.f2, .string x.f0.f3, .string x.f0.f4, .int .i64 x.f1, .int .i64 x.f2] 52) = W := ⟨_, rfl⟩
            rw [hwA] at gA hA ⊢
            rw [hzx] at hA ⊢
            have q1 : wA.cell? ⟨zx, 1, none⟩ = some (.string x.f0.f1) := blk_cell hA 1
            clear hwA hzx hgw
            go_wp2_with fail
            refine (go_get x.f0.f1 HSX.out g L M wA (HCH.out.below (HG2.out.trans (gA.mono HG2.out.size)))).mono ?_
            rintro e w4 ⟨A2, n2, c2, rfl, hb4⟩
            unfold acctV
            obtain ⟨ok, hok⟩ : ∃ b, (M x.f0.f1).isSome = b := ⟨_, rfl⟩
            obtain ⟨a, ha⟩ : ∃ a, (M x.f0.f1).getD za = a := ⟨_, rfl⟩
            rw [hok, ha]
            have HST2 : Hid ((t.ats.drop i).any (noEq M) = ((!ok || !(a.f2 == 3)) || (t.ats.drop (i + 1)).any (noEq M))) := Lib.hid (by rw [HST.out, hok, ha])
            have gA4 := gA.trans (hb4.mono gA.size)
            have HGA := Lib.hid (fun O => gA4.alloc gA4.size O)
            clear gA4
            clear hok ha HST hb4 gA hA q1
            cases ok with
            | false =>
              have HF : Hid (r = 12) := Lib.hid (by rw [HR2.out, HA.out, HST2.out]; rfl)
              go_wp2_with fail
              go_ret
              exact ⟨by rw [HF.out]; rfl, HG2.out.trans ((HGA.out _).mono HG2.out.size)⟩
            | true =>
              obtain ⟨b, hb⟩ : ∃ b, (a.f2 == 3) = b := ⟨_, rfl⟩
              rw [hb] at HST2
              cases b with
              | false =>
                have HF : Hid (r = 12) := Lib.hid (by rw [HR2.out, HA.out, HST2.out]; rfl)
                go_wp2_with fail
                go_ret
                exact ⟨by rw [HF.out]; rfl, HG2.out.trans ((HGA.out _).mono HG2.out.size)⟩
              | true =>
                have HA2 : Hid (t.ats.any (noEq M) = (t.ats.drop (i + 1)).any (noEq M)) := Lib.hid (by rw [HA.out, HST2.out]; rfl)
                go_wp2_with fail
                go_roundg (k - (i + 1))
                case measure => omega
                case rel => exact ⟨i + 1, rfl, by omega, by go_num, HGA.out _, HA2⟩
          · have hik : i = k := by omega
            subst hik
            have HF : Hid (r = 0) := Lib.hid (by
              have h := HA.out
              rw [List.drop_eq_nil_of_le (by rw [HN.out]; exact Nat.le_refl _)] at h
              rw [HR2.out, h]; rfl)
            have HG4 := Lib.hid hgw
            go_wp2_with fail
            go_ret
            exact ⟨by rw [HF.out]; rfl, HG4.out⟩
theorem own_lo {w : World} {B e sz n : Nat} {v : Value} {xs : List Value} (h : w.ownsRow B e sz v n xs) : ∀ k, v.ownBlock = some k → B ≤ k := fun k hk => (h.lt k hk).1
def negC (x : Cell) : Cell := ⟨x.f0, -x.f1, -x.f2⟩
def mid (n : Int) : Prop := -4611686018427387904 ≤ n ∧ n ≤ 4611686018427387904
theorem flatC_take_succ {l : List Cell} {k : Nat} (hk : k < l.length) : flatC (l.take (k + 1)) = flatC (l.take k) ++ cellL l[k]! := by
  rw [List.take_add_one, List.getElem?_eq_getElem hk, getElem!_pos l k hk, flatC, flatC, List.flatMap_append]
  simp [cellL]
set_option maxHeartbeats 2000000 in
set_option maxRecDepth 100000 in
theorem go_negated (l : List Cell) (A : Option Addr) (c : Nat) (w : World) (hC : Kd.C k52 w A l.length l) (hl : l.length ≤ 100000) (hr : ∀ x ∈ l, mid x.f1 ∧ mid x.f2) :
    Calls Try.prog 30 #[.slice A l.length c] w fun e w' => ∃ v, e = .returned v ∧ w'.ownsRow w.heap.size 52 7 v (l.map negC).length (flatC (l.map negC)) ∧ Below w.heap.size w w' := by
  obtain ⟨n, hn⟩ : ∃ n, l.length = n := ⟨_, rfl⟩
  have HN := Lib.hid hn
  have HCT := Lib.hid (cells_at hC)
  have HM := Lib.hid (show ∀ k, k < n → mid (l[k]!).f1 ∧ mid (l[k]!).f2 from fun k hk => hr _ (by rw [← hn] at hk; rw [getElem!_pos l k hk]; exact List.getElem_mem hk))
  have HNG := Lib.hid (show (l.map negC).length = n from by rw [List.length_map, hn])
  have HNK := Lib.hid (show ∀ k, k < n → (l.map negC)[k]! = negC l[k]! from fun k hk => by
    rw [getElem!_pos _ k (by rw [List.length_map, hn]; exact hk), List.getElem_map, getElem!_pos l k (by rw [hn]; exact hk)])
  rw [hn] at hl HCT
  rw [hn]
  clear hn hC hr
  obtain ⟨i0, hi0, hi1, hi2, hi3⟩ := info_parts_ info52
  obtain ⟨cs, hcs, hmk⟩ : ∃ cs : Array Value, cs.size = (n + 3) * 7 ∧ ∀ W : World, (Instr.makeSlice 34 (.int .i64 0) (.int .i64 ((n : Int) + 3))).run Try.prog W = .ok (.slice (some ⟨W.heap.size, 0, none⟩) 0 (n + 3)) (W.alloc (.cells cs 52)) := by
    obtain ⟨zz, hzz⟩ : ∃ z, i0.zero = some z := ⟨_, hi1⟩
    refine ⟨madeCells zz.cells ((n + 3) * 7), size_madeCells _ _, fun W => ?_⟩
    have h := run_make (P := Try.prog) W 34 52 i0 zz Try.underlying34 hi0 hzz .i64 .i64 0 ((n : Int) + 3) (Int.le_refl _) (by omega) (by rw [hi3]; omega) (by omega)
    rw [hi2, show ((n : Int) + 3).toNat = n + 3 by omega] at h
    exact h
  have gr0 : Below w.heap.size w (w.alloc (.cells cs 52)) := (Below.refl _ _).alloc (Nat.le_refl _) _
  have own0 : (w.alloc (.cells cs 52)).ownsRow w.heap.size 52 7 (.slice (some ⟨w.heap.size, 0, none⟩) 0 (n + 3)) 0 [] := World.ownsRow_made w cs (n + 3) (Nat.le_refl _) (by unfold maxLen; omega) hcs
  go_enter Try.func30, Try.ntmps30
  go_wp2_with fail
  obtain ⟨w1, hw1⟩ : ∃ W, w.alloc (.cells cs 52) = W := ⟨_, rfl⟩
  obtain ⟨B, hB⟩ : ∃ z, w.heap.size = z := ⟨_, rfl⟩
  rw [hw1] at gr0 own0 ⊢
  rw [hB] at gr0 own0 ⊢
  have HC1 := Lib.hid gr0
  have HBZ := Lib.hid hB
  clear hmk hw1 hcs hB gr0
  go_loopg [12, 3] n (fun gk v12 v3 wr => ∃ (k : Nat) (v : Value), gk = n - k ∧ k ≤ n ∧ v12 = .int .i64 k ∧ v3 = v ∧ wr.ownsRow B 52 7 v k (flatC ((l.map negC).take k)) ∧ Below B w wr)
  case atStart => exact ⟨0, _, rfl, by omega, rfl, rfl, by rw [List.take_zero]; exact own0, HC1.out⟩
  case round =>
    obtain ⟨k, v, rfl, hk, rfl, rfl, hown, hgr⟩ := hrel
    obtain ⟨Av, cv, hv, _⟩ := own_form hown
    subst hv
    by_cases hlt : k < n
    · have hltz : (k : Int) < (n : Int) := by omega
      obtain ⟨ad, had, hcf⟩ := HCT.out k hlt
      subst had
      obtain ⟨c0, c1, c2, c3, c4, c5, c6⟩ := hcf wr (by rw [HBZ.out]; exact hgr)
      have hm := HM.out k hlt
      have HF := Lib.hid (show flatC ((l.map negC).take (k + 1)) = flatC ((l.map negC).take k) ++ cellL (negC l[k]!) from by
        rw [flatC_take_succ (by rw [HNG.out]; exact hlt), HNK.out k hlt])
      obtain ⟨x, hx⟩ : ∃ x, l[k]! = x := ⟨_, rfl⟩
      rw [hx] at c0 c1 c2 c3 c4 c5 c6 hm HF
      obtain ⟨⟨m1, m2⟩, m3, m4⟩ := hm
      have wn1 : IntKind.i64.wrap (-x.f1) = -x.f1 := by rw [IntKind.wrap_i64]; omega
      have wn2 : IntKind.i64.wrap (-x.f2) = -x.f2 := by rw [IntKind.wrap_i64]; omega
      have hbz : B ≤ wr.heap.size := by rw [← HBZ.out]; exact hgr.size
      have HBS := Lib.hid hbz
      have gA : Below B w (wr.alloc (.cells #[.string x.f0.f0, .string x.f0.f1, .string x.f0.f2, .string x.f0.f3, .string x.f0.f4, .int .i64 x.f1, .int .i64 x.f2] 52)) := hgr.alloc hbz _
      have hA := (Go.MapKept.heap_alloc wr (.cells #[.string x.f0.f0, .string x.f0.f1, .string x.f0.f2, .string x.f0.f3, .string x.f0.f4, .int .i64 x.f1, .int .i64 x.f2] 52)).1
      have ownA := hown.alloc (.cells #[.string x.f0.f0, .string x.f0.f1, .string x.f0.f2, .string x.f0.f3, .string x.f0.f4, .int .i64 x.f1, .int .i64 x.f2] 52)
      clear hcf hx hown hgr hbz
      go_upto_region 5 with fail
      clear c0 c1 c2 c3 c4 c5 c6
      obtain ⟨zx, hzx⟩ : ∃ z, wr.heap.size = z := ⟨_, rfl⟩
      have HBX : Hid (B ≤ zx) := Lib.hid (by rw [← hzx]; exact HBS.out)
      have hsA := World.size_alloc wr (.cells #[.string x.f0.f0, .string x.f0.f1, .string x.f0.f2, .string x.f0.f3, .string x.f0.f4, .int .i64 x.f1, .int .i64 x.f2] 52)
      obtain ⟨wA, hwA⟩ : ∃ W, wr.alloc (.cells #[.string x.f0.f0, .string x.f0.f1, .string x.f0.f2, .string x.f0.f3, .string x.f0.f4, .int .i64 x.f1, .int .i64 x.f2] 52) = W := ⟨_, rfl⟩
      rw [hwA] at gA hA ownA hsA ⊢
      rw [hzx] at hA hsA ⊢
      have HSA := Lib.hid hsA
      have q0 : wA.cell? ⟨zx, 0, none⟩ = some (.string x.f0.f0) := blk_cell hA 0
      have q1 : wA.cell? ⟨zx, 1, none⟩ = some (.string x.f0.f1) := blk_cell hA 1
      have q2 : wA.cell? ⟨zx, 2, none⟩ = some (.string x.f0.f2) := blk_cell hA 2
      have q3 : wA.cell? ⟨zx, 3, none⟩ = some (.string x.f0.f3) := blk_cell hA 3
      have q4 : wA.cell? ⟨zx, 4, none⟩ = some (.string x.f0.f4) := blk_cell hA 4
      have q5 : wA.cell? ⟨zx, 5, none⟩ = some (.int .i64 x.f1) := blk_cell hA 5
      have q6 : wA.cell? ⟨zx, 6, none⟩ = some (.int .i64 x.f2) := blk_cell hA 6
      have gN := (Go.MapKept.heap_alloc wA (.cells #[.string x.f0.f0, .string x.f0.f1, .string x.f0.f2, .string x.f0.f3, .string x.f0.f4, .int .i64 (-x.f1), .int .i64 (-x.f2)] 52)).1
      clear hwA hzx hA hsA
      have ownN := ownA.alloc (.cells #[.string x.f0.f0, .string x.f0.f1, .string x.f0.f2, .string x.f0.f3, .string x.f0.f4, .int .i64 (-x.f1), .int .i64 (-x.f2)] 52)
      have gNN := gA.alloc (show B ≤ wA.heap.size by rw [HSA.out]; have := HBX.out; omega) (.cells #[.string x.f0.f0, .string x.f0.f1, .string x.f0.f2, .string x.f0.f3, .string x.f0.f4, .int .i64 (-x.f1), .int .i64 (-x.f2)] 52)
      have hbN : B ≤ (wA.alloc (.cells #[.string x.f0.f0, .string x.f0.f1, .string x.f0.f2, .string x.f0.f3, .string x.f0.f4, .int .i64 (-x.f1), .int .i64 (-x.f2)] 52)).heap.size := by rw [World.size_alloc, HSA.out]; have := HBX.out; omega
      go_wp2_with (at_builtin; refine wpList_append_own _ rfl (.tmp 16) (.tmp 26) 34 rfl B 52 i0 _ 7 96 Try.underlying34 hi0 hi1 hi2 hi3 rfl (by decide) _ k _ rfl ownN ⟨wA.heap.size, 0, none⟩ 1 1 (cellL (negC x)) rfl rfl ?c1 (cellL_one _) ?c3 ?c4 ?c5 ?_; (case c1 => exact fun j u hu => World.news_of_block gN j u hu); (case c3 => unfold maxLen; omega); (case c4 => omega); (case c5 => exact hbN); intro v1 w2 own1 gr1 nil1)
      have hb1 : Below B w w2 := gNN.grown gr1 hbN (own_lo ownN)
      go_roundg (n - (k + 1))
      case measure => omega
      case rel => exact ⟨k + 1, v1, rfl, by omega, by go_num, rfl, by rw [HF.out]; exact own1, hb1⟩
    · have hkn : k = n := by omega
      subst hkn
      have HG := Lib.hid hgr
      have HO : Hid (wr.ownsRow B 52 7 (.slice Av k cv) k (flatC (l.map negC))) := Lib.hid (by
        have h := hown
        rw [List.take_of_length_le (by rw [HNG.out]; exact Nat.le_refl _)] at h
        exact h)
      clear hown hgr
      go_wp2_with fail
      go_ret
      exact ⟨_, rfl, by rw [HBZ.out, HNG.out]; exact HO.out, by rw [HBZ.out]; exact HG.out⟩
def putC (ent acc cur : ByteArray) (m : Int) : Cell := ⟨⟨ent, acc, cur, ⟨#[]⟩, ⟨#[]⟩⟩, m, m⟩
structure PutPost (w : World) (B z : Nat) (l : List Cell) (v : Value) (w' : World) : Prop where
  box : w'.heap[z]? = some (.cells #[v] 34 (0, 0))
  own : w'.ownsRow B 52 7 v l.length (flatC l)
  kept : ∀ (k : Nat) (cs : Array Value) (t : TypeId), w.heap[k]? = some (.cells cs t (0, 0)) → t ≠ 34 → t ≠ 52 → w'.heap[k]? = some (.cells cs t (0, 0))
  bel : ∀ b, b ≤ B → b ≤ z → Below b w w'
set_option maxHeartbeats 2000000 in
set_option maxRecDepth 100000 in
theorem go_put (ent acc cur : ByteArray) (m : Int) (z zc B : Nat) (l : List Cell) (v : Value) (w : World) (hz : w.heap[z]? = some (.cells #[v] 34 (0, 0))) (hcur : w.cell? ⟨zc, 0, none⟩ = some (.string cur))
    (hown : w.ownsRow B 52 7 v l.length (flatC l)) (hB : B ≤ w.heap.size) (hl : l.length ≤ 200000) :
    Calls Try.prog 31 #[.string ent, .string acc, .int .i64 m, .pointer (some ⟨z, 0, none⟩), .pointer (some ⟨zc, 0, none⟩)] w fun e w' => e = .returned (.tuple #[]) ∧ ∃ v', PutPost w B z (l ++ [putC ent acc cur m]) v' w' := by
  obtain ⟨i0, hi0, hi1, hi2, hi3⟩ := info_parts_ info52
  obtain ⟨Av, cv, hv, _⟩ := own_form hown
  subst hv
  have c0 := blk_cell hz 0
  have gN := (Go.MapKept.heap_alloc w (.cells #[.string ent, .string acc, .string cur, .string ⟨#[]⟩, .string ⟨#[]⟩, .int .i64 m, .int .i64 m] 52)).1
  have ownN := hown.alloc (.cells #[.string ent, .string acc, .string cur, .string ⟨#[]⟩, .string ⟨#[]⟩, .int .i64 m, .int .i64 m] 52)
  have hbN : B ≤ (w.alloc (.cells #[.string ent, .string acc, .string cur, .string ⟨#[]⟩, .string ⟨#[]⟩, .int .i64 m, .int .i64 m] 52)).heap.size := by rw [World.size_alloc]; omega
  have gr0 : Below w.heap.size w (w.alloc (.cells #[.string ent, .string acc, .string cur, .string ⟨#[]⟩, .string ⟨#[]⟩, .int .i64 m, .int .i64 m] 52)) := (Below.refl _ _).alloc (Nat.le_refl _) _
  have HO := Lib.hid hown
  have HZ := Lib.hid hz
  have HB := Lib.hid hB
  have HNE := Lib.hid (own_ne_of hown hz (by decide))
  have HZA := Lib.hid (show (w.alloc (.cells #[.string ent, .string acc, .string cur, .string ⟨#[]⟩, .string ⟨#[]⟩, .int .i64 m, .int .i64 m] 52)).heap[z]? = some (.cells #[.slice Av l.length cv] 34 (0, 0)) from (gr0.block z (blk_lt hz)).trans hz)
  have HLT := Lib.hid (blk_lt hz)
  clear hz hown hB
  go_enter Try.func31, Try.ntmps31
  go_wp2_with (at_builtin; refine wpList_append_own _ rfl (.tmp 8) (.tmp 16) 34 rfl B 52 i0 _ 7 96 Try.underlying34 hi0 hi1 hi2 hi3 rfl (by decide) _ l.length _ rfl ownN ⟨w.heap.size, 0, none⟩ 1 1 (cellL (putC ent acc cur m)) rfl rfl ?c1 (cellL_one _) ?c3 ?c4 ?c5 ?_; (case c1 => exact fun j u hu => World.news_of_block gN j u hu); (case c3 => unfold maxLen; omega); (case c4 => omega); (case c5 => exact hbN); intro v1 w2 own1 gr1 nil1; obtain ⟨A9, c9, hv9, _⟩ := own_form own1; subst hv9; have h10 := blk_grown (HZA.out) gr1 (fun e => HNE.out e.symm); have e10 := blk_cell h10 0; have f10 := blk_frozen h10 0)
  have hset := blk_set h10 0 (.slice A9 (l.length + 1) c9)
  have gT := grown_below (show w.grownBy w (Value.slice Av l.length cv).ownBlock from ⟨rfl, rfl, rfl, Nat.le_refl _, fun _ _ _ => rfl⟩) gr0
  have gF := grown_then gT gr1 (.inl rfl)
  have HP := Lib.hid (show PutPost w B z (l ++ [putC ent acc cur m]) (.slice A9 (l.length + 1) c9) (w2.setCell ⟨z, 0, none⟩ (.slice A9 (l.length + 1) c9)) from by
    refine ⟨hset, ?_, ?_, ?_⟩
    · have h := own_move (w1 := w2.setCell ⟨z, 0, none⟩ (.slice A9 (l.length + 1) c9)) own1 (fun b hb => Below.heap_setCell _ _ _ _ (fun e => own_ne_of own1 h10 (by decide) (by rw [hb, e])))
      rw [List.length_append, flatC, List.flatMap_append]
      simpa [flatC] using h
    · intro k cs t hk h1 h2
      have hkz : k ≠ z := fun e => by
        rw [e, HZ.out] at hk
        injection hk with hk
        injection hk with _ hk
        exact h1 hk.symm
      rw [Below.heap_setCell _ _ _ _ hkz, gF.block k (blk_lt hk) (fun e => own_ne_of HO.out hk h2.symm e.symm)]
      exact hk
    · intro b hb1 hb2
      have hbw : b ≤ w.heap.size := Nat.le_trans hb1 HB.out
      exact (((Below.refl _ _).grown gF hbw (fun k hk => Nat.le_trans hb1 (own_lo HO.out k hk)))).setCell (p := ⟨z, 0, none⟩) hb2 _)
  obtain ⟨wf, hwf⟩ : ∃ W, w2.setCell ⟨z, 0, none⟩ (.slice A9 (l.length + 1) c9) = W := ⟨_, rfl⟩
  rw [hwf] at HP ⊢
  clear hwf hset gT gF own1 h10 gr1
  go_end0
  exact ⟨rfl, _, HP.out⟩
theorem far_f (n : Int) : sheet_far.f n = some (farB n) := by
  unfold sheet_far.f farB
  split
  · rename_i h; rw [decide_eq_true h]; rfl
  · rename_i h; rw [decide_eq_false h]; rfl
theorem total_f (l : List Int) (hr : ∀ x ∈ l, in64 x) (hl : l.length ≤ 4611686018427387904) : sheet_total.f l = some (tot l) := by
  unfold sheet_total.f num_Sum.f tot
  rw [if_pos ⟨hl, hr⟩, Option.bind_some]
  cases h : (told (sumI l)).2 with
  | false => simp
  | true => simp [far_f]
def baseE (l : List Cell) : Int × Int := if (tot (bass l)).2 = true then ((tot (bass l)).1, 0) else (0, 4)
theorem base_l0 (l : List Cell) (hl : l.length ≤ 1000000) (hr : ∀ x ∈ l, in64 x.f2) : ∀ (k i : Nat) (xs : List Int), xs.length = l.length → i ≤ l.length → xs.take i = (bass l).take i → l.length - i < k → sheet_Base.l0 k xs l (l.length : Int) (i : Int) = some (baseE l)
  | 0, _, _, _, _, _, h => by omega
  | k + 1, i, xs, hx, hi, ht, hk => by
    have hb : (bass l).length = l.length := by simp [bass]
    rw [sheet_Base.l0]
    by_cases c : i < l.length
    · rw [if_pos (by omega), if_pos (by omega), if_pos (by omega), if_pos (by omega)]
      have hw : wrap64 ((i : Int) + 1) = ((i + 1 : Nat) : Int) := by rw [wrap64_id (by omega) (by omega)]; omega
      rw [hw, Int.toNat_natCast]
      refine base_l0 l hl hr k (i + 1) _ (by rw [List.length_set]; exact hx) c ?_ (by omega)
      have hv : (rd_T52 l (i : Int)).f2 = (bass l)[i]'(by omega) := by
        show (l.getD (i : Int).toNat _).f2 = _
        rw [Int.toNat_natCast, List.getD_eq_getElem?_getD, List.getElem?_eq_getElem c, Option.getD_some]
        simp [bass]
      rw [hv, List.take_add_one, List.take_add_one, List.getElem?_set_self (by omega), List.take_set_of_le (Nat.le_refl _), ht, List.getElem?_eq_getElem (by omega)]
    · have hil : i = l.length := by omega
      subst hil
      rw [if_neg (by omega)]
      have he : xs = bass l := by
        rw [List.take_of_length_le (by omega), List.take_of_length_le (by omega)] at ht
        exact ht
      rw [he, total_f (bass l) (fun x hx => by
        obtain ⟨y, hy, rfl⟩ := List.mem_map.mp hx
        exact hr y hy) (by omega), Option.bind_some]
      unfold baseE
      split <;> rfl
theorem base_f (k : Nat) (l : List Cell) (hl : l.length ≤ 1000000) (hr : ∀ x ∈ l, in64 x.f2) (hk : l.length < k) : sheet_Base.f k l = some (baseE l) := by
  unfold sheet_Base.f
  rw [if_pos (by omega), if_pos (by omega), Int.toNat_natCast]
  exact base_l0 l hl hr k 0 _ (by simp) (by omega) (by simp) (by omega)
def netE (l : List Cell) : Int := if (tot (bass l)).2 = true then -(tot (bass l)).1 else 1000000000000001
theorem tot_small {l : List Int} (h : (tot l).2 = true) : -1000000000000000 ≤ (tot l).1 ∧ (tot l).1 ≤ 1000000000000000 := by
  unfold tot at h ⊢
  simp at h
  exact farB_false h.2
theorem netE_in (l : List Cell) : in64 (netE l) := by
  unfold netE
  split
  · rename_i h
    have := tot_small h
    exact ⟨by omega, by omega⟩
  · exact ⟨by omega, by omega⟩
theorem net_f (k : Nat) (l : List Cell) (hl : l.length ≤ 1000000) (hr : ∀ x ∈ l, in64 x.f2) (hk : l.length < k) : acquire_net.f k l = some (netE l) := by
  unfold acquire_net.f
  rw [base_f k l hl hr hk, Option.bind_some]
  unfold baseE netE
  cases h : (tot (bass l)).2 with
  | false => rfl
  | true =>
    have := tot_small h
    rw [if_pos rfl, if_pos rfl, if_pos rfl, wrap64_id (by omega) (by omega)]
theorem go_net (l : List Cell) (A : Option Addr) (c : Nat) (w : World) (hC : Kd.C k52 w A l.length l) (hc : l.length ≤ c) (hl : l.length ≤ 1000000) (hr : ∀ x ∈ l, in64 x.f2) :
    Calls Try.prog 29 #[.slice A l.length c] w fun e w' => e = .returned (.int .i64 (netE l)) ∧ Below w.heap.size w w' :=
  acquire_net.calls (l.length + 1) A c l (netE l) w hC hc (net_f _ l hl hr (by omega))
theorem go_split (p x n d m : Int) (hp : in64 p) (hx : in64 x) (hn : in64 n) (hd : in64 d) (w : World) :
    Calls Try.prog 8 #[.int .i64 p, .int .i64 x, .agg #[.int .i64 n, .int .i64 d], .int .i64 m] w fun e w' => e = .returned (.tuple #[.int .i64 (splitE p x n d m).1, .int .i64 (splitE p x n d m).2.1, .int .i64 (splitE p x n d m).2.2.1, .int .i64 (splitE p x n d m).2.2.2]) ∧ Below w.heap.size w w' :=
  acquire_Split.calls 1000020 p x n d m _ _ _ _ w (split_f _ p x n d m (Nat.le_refl _) hp hx hn hd)
def putsL (t : Tk) (cur : ByteArray) (g m : Int) : List Cell := ((t.ats.map negC ++ [putC t.parent t.invest cur (-t.price)]) ++ [putC t.child (if g < 0 then t.gain else t.goodwill) cur g]) ++ [putC t.child t.minor cur (-m)]
def cellsErr (M : ByteArray → Option Acct) (t : Tk) (cur : ByteArray) (mode : Int) : Int := if namesE t cur ≠ 0 then namesE t cur else if equityE M t ≠ 0 then equityE M t else (splitE t.price (netE t.ats) t.fn t.fd mode).2.2.2
def CellsPost (M : ByteArray → Option Acct) (t : Tk) (cur : ByteArray) (mode : Int) (w : World) (e : Ending) (w' : World) : Prop :=
  (cellsErr M t cur mode ≠ 0 ∧ e = .returned (.tuple #[.slice none 0 0, .int .i64 (cellsErr M t cur mode)]) ∧ Below w.heap.size w w') ∨
  (cellsErr M t cur mode = 0 ∧ OfPost (putsL t cur (splitE t.price (netE t.ats) t.fn t.fd mode).2.1 (splitE t.price (netE t.ats) t.fn t.fd mode).2.2.1) w e w')
theorem OfPost.back {l : List Cell} {w w1 w2 : World} {e : Ending} (h : OfPost l w1 e w2) (hb : Below w.heap.size w w1) : OfPost l w e w2 := by
  obtain ⟨ks, v, h1, h2, h3, h4, h5⟩ := h
  exact ⟨ks, v, h1, h2, h3, ⟨h4.1, h4.2.imp id (fun ⟨g, cap, cur, a, b, c⟩ => ⟨g, cap, cur, a, Nat.le_trans hb.size b, c⟩)⟩, hb.trans (h5.mono hb.size)⟩
theorem names_price {t : Tk} {cur : ByteArray} (h : namesE t cur = 0) : 0 ≤ t.price ∧ t.price ≤ 1000000000000 := by
  unfold namesE at h
  split at h
  · omega
  · split at h
    · omega
    · split at h
      · omega
      · omega
theorem rightK_far (l : List Cell) : ∀ (f k : Nat), rightK l f k = true → l.length ≤ k + f → ∀ j, k ≤ j → j < l.length → badAt l j = false
  | 0, k, _, hl, j, h1, h2 => by omega
  | f + 1, k, h, hl, j, h1, h2 => by
    rw [rightK, if_pos (by omega)] at h
    cases hb : badAt l k with
    | true => rw [hb] at h; cases h
    | false =>
      rw [hb] at h
      rcases Nat.lt_or_eq_of_le h1 with h3 | h3
      · exact rightK_far l f (k + 1) h (by omega) j h3 h2
      · rw [← h3]; exact hb
theorem right_at {l : List Cell} (h : rightB l = true) : ∀ j, j < l.length → badAt l j = false := fun j hj => rightK_far l l.length 0 h (by omega) j (by omega) hj
theorem right_far {l : List Cell} (h : rightB l = true) : ∀ x ∈ l, farB x.f1 = false ∧ farB x.f2 = false := fun x hx => by
  obtain ⟨j, hj, rfl⟩ := List.getElem_of_mem hx
  have hb := right_at h j hj
  rw [badAt, getElem!_pos l j hj] at hb
  simp only [Bool.or_eq_false_iff] at hb
  exact ⟨hb.1.1.2, hb.1.2⟩
theorem right_mid {l : List Cell} (h : rightB l = true) : ∀ x ∈ l, mid x.f1 ∧ mid x.f2 := fun x hx => by
  obtain ⟨h1, h2⟩ := right_far h x hx
  have := farB_false h1
  have := farB_false h2
  exact ⟨⟨by omega, by omega⟩, by omega, by omega⟩
theorem equity_right {M : ByteArray → Option Acct} {t : Tk} (h : equityE M t = 0) : rightB t.ats = true := by
  unfold equityE at h
  split at h
  · omega
  · rename_i hc; simpa using hc
theorem splitE_in {p x n d m : Int} (h : (splitE p x n d m).2.2.2 = 0) : -2000000000000000 ≤ (splitE p x n d m).2.1 ∧ (splitE p x n d m).2.1 ≤ 2000000000000000 ∧ -1000000000000000 ≤ (splitE p x n d m).2.2.1 ∧ (splitE p x n d m).2.2.1 ≤ 1000000000000000 := by
  unfold splitE at h ⊢
  split at h
  · exact absurd h (by decide)
  · rename_i h1
    rw [if_neg h1]
    split at h
    · exact absurd h (by decide)
    · rename_i h2
      rw [if_neg h2]
      split at h
      · exact absurd h (by decide)
      · rename_i h3
        rw [if_neg h3]
        simp only [Bool.or_eq_true, not_or, Bool.not_eq_true] at h3
        have hb := farB_false h3.1
        have hbx := farB_false h3.2
        have hsh : fracB n d = true ∧ 0 < n ∧ n ≤ d := by simpa [shareB, and_assoc] using h2
        obtain ⟨o, ho, h4, h5, _⟩ := md_share n d x m (by omega) hsh.2.1 hsh.2.2 hbx
        rw [ho]
        show -2000000000000000 ≤ p - o ∧ p - o ≤ 2000000000000000 ∧ -1000000000000000 ≤ x - o ∧ x - o ≤ 1000000000000000
        by_cases c : 0 ≤ x
        · have := h4 c; exact ⟨by omega, by omega, by omega, by omega⟩
        · have := h5 (by omega); exact ⟨by omega, by omega, by omega, by omega⟩
theorem ownC_C {w : World} {B n c : Nat} {A : Option Addr} {l : List Cell} (h : w.ownsRow B 52 7 (.slice A n c) n (flatC l)) (hn : l.length = n) (hl : l.length ≤ 1000000) :
    Kd.C k52 w A l.length l ∧ l.length ≤ c ∧ ((A = none ∧ l = [] ∧ c = 0) ∨ ∃ b off, A = some ⟨b, off, none⟩) := by
  subst hn
  rcases h.2 with ⟨hv, h0⟩ | ⟨g, cap, cur, hv, hg, hh, hnc, hcm, hcs, htk⟩
  · injection hv with h1 _ h2
    subst h1 h2
    have : l = [] := List.eq_nil_of_length_eq_zero h0
    subst this
    exact ⟨⟨rfl, by simp, fun h => absurd h (Nat.lt_irrefl 0)⟩, Nat.le_refl _, .inl ⟨rfl, rfl, rfl⟩⟩
  · injection hv with h1 _ h2
    subst h1 h2
    have c2 := C_of_cells (cap := c) hh htk 0 l.length (by omega) (by omega)
    rw [List.drop_zero, List.take_of_length_le (Nat.le_refl _), Nat.zero_mul] at c2
    exact ⟨c2, hnc, .inr ⟨_, _, rfl⟩⟩
theorem puts_in {t : Tk} {cur : ByteArray} {g m : Int} (hr : ∀ x ∈ t.ats, mid x.f1 ∧ mid x.f2) (hp : mid t.price) (hg : mid g) (hm : mid m) : ∀ x ∈ putsL t cur g m, in64 x.f1 ∧ in64 x.f2 := by
  intro x hx
  unfold mid at *
  simp only [putsL, List.mem_append, List.mem_map, List.mem_singleton] at hx
  rcases hx with ((⟨y, hy, rfl⟩ | rfl) | rfl) | rfl
  · have := hr y hy; exact ⟨⟨by show _ ≤ -y.f1; omega, by show -y.f1 ≤ _; omega⟩, by show _ ≤ -y.f2; omega, by show -y.f2 ≤ _; omega⟩
  · exact ⟨⟨by show _ ≤ -t.price; omega, by show -t.price ≤ _; omega⟩, by show _ ≤ -t.price; omega, by show -t.price ≤ _; omega⟩
  · exact ⟨⟨by show _ ≤ g; omega, by show g ≤ _; omega⟩, by show _ ≤ g; omega, by show g ≤ _; omega⟩
  · exact ⟨⟨by show _ ≤ -m; omega, by show -m ≤ _; omega⟩, by show _ ≤ -m; omega, by show -m ≤ _; omega⟩
set_option maxHeartbeats 4000000 in
set_option maxRecDepth 100000 in
theorem go_cells (t : Tk) (hs : TkSized t) (cur : ByteArray) (hcur : cur.size ≤ 140737488351232) (mode : Int) (A : Option Addr) (c g L : Nat) (M : ByteArray → Option Acct) (w : World)
    (hCh : ChartAt w g L M) (hC : Kd.C k52 w A t.ats.length t.ats) (hc : t.ats.length ≤ c) (hl : t.ats.length ≤ 10000) (hka : ∀ x ∈ t.ats, x.f0.f1.size ≤ maxLen) (hin : ∀ x ∈ t.ats, in64 x.f2) (hp : in64 t.price) (hn : in64 t.fn) (hd : in64 t.fd) :
    Calls Try.prog 12 #[.pointer (some ⟨g, 0, none⟩), tkV t A c, .string cur, .int .i64 mode] w fun e w' => CellsPost M t cur mode w e w' := by
  have HS := Lib.hid hs; have HCH := Lib.hid hCh; have HC := Lib.hid hC; have HKA := Lib.hid hka; have HIN := Lib.hid hin
  clear hs hCh hC hka hin
  unfold tkV
  have gr1 : Below w.heap.size w (w.alloc (.cells #[.string t.parent, .string t.child, .int .i64 t.price, .int .i64 t.fn, .int .i64 t.fd, .string t.invest, .string t.goodwill, .string t.gain, .string t.minor, .slice A t.ats.length c] 36)) := (Below.refl _ _).alloc (Nat.le_refl _) _
  have hz1 := (Go.MapKept.heap_alloc w (.cells #[.string t.parent, .string t.child, .int .i64 t.price, .int .i64 t.fn, .int .i64 t.fd, .string t.invest, .string t.goodwill, .string t.gain, .string t.minor, .slice A t.ats.length c] 36)).1
  have hs1 := World.size_alloc w (.cells #[.string t.parent, .string t.child, .int .i64 t.price, .int .i64 t.fn, .int .i64 t.fd, .string t.invest, .string t.goodwill, .string t.gain, .string t.minor, .slice A t.ats.length c] 36)
  obtain ⟨w1, hw1⟩ : ∃ W, w.alloc (.cells #[.string t.parent, .string t.child, .int .i64 t.price, .int .i64 t.fn, .int .i64 t.fd, .string t.invest, .string t.goodwill, .string t.gain, .string t.minor, .slice A t.ats.length c] 36) = W := ⟨_, rfl⟩
  rw [hw1] at gr1 hz1 hs1
  have gr2 : Below w.heap.size w (w1.alloc (.cells #[.string cur] 9)) := gr1.alloc gr1.size _
  have hz2 := (Go.MapKept.heap_alloc w1 (.cells #[.string cur] 9)).1
  have hz5 : (w1.alloc (.cells #[.string cur] 9)).heap[w.heap.size]? = some (.cells #[.string t.parent, .string t.child, .int .i64 t.price, .int .i64 t.fn, .int .i64 t.fd, .string t.invest, .string t.goodwill, .string t.gain, .string t.minor, .slice A t.ats.length c] 36 (0, 0)) := (((Below.refl _ _).alloc (Nat.le_refl _) _).block _ (blk_lt hz1)).trans hz1
  go_enter Try.func12, Try.ntmps12
  go_upto_region 3 with fail
  rw [hs1] at hz2
  obtain ⟨z6, hz6e⟩ : ∃ z, w.heap.size + 1 = z := ⟨_, rfl⟩
  obtain ⟨z5, hz5e⟩ : ∃ z, w.heap.size = z := ⟨_, rfl⟩
  have HZ5 := Lib.hid hz5e
  obtain ⟨w2, hw2⟩ : ∃ W, w1.alloc (.cells #[.string cur] 9) = W := ⟨_, rfl⟩
  rw [hw2] at gr2 hz2 hz5 ⊢
  rw [hz6e] at hz2 ⊢
  rw [hz5e] at hz5 ⊢
  have hz66 : w.heap.size ≤ z6 := by omega
  clear hw1 hw2 hs1 hz1 gr1 hz6e hz5e
  have x0 : w2.cell? ⟨z5, 0, none⟩ = some (.string t.parent) := blk_cell hz5 0
  have x1 : w2.cell? ⟨z5, 1, none⟩ = some (.string t.child) := blk_cell hz5 1
  have x2 : w2.cell? ⟨z5, 2, none⟩ = some (.int .i64 t.price) := blk_cell hz5 2
  have x3 : w2.cell? ⟨z5, 3, none⟩ = some (.int .i64 t.fn) := blk_cell hz5 3
  have x4 : w2.cell? ⟨z5, 4, none⟩ = some (.int .i64 t.fd) := blk_cell hz5 4
  have x5 : w2.cell? ⟨z5, 5, none⟩ = some (.string t.invest) := blk_cell hz5 5
  have x6 : w2.cell? ⟨z5, 6, none⟩ = some (.string t.goodwill) := blk_cell hz5 6
  have x7 : w2.cell? ⟨z5, 7, none⟩ = some (.string t.gain) := blk_cell hz5 7
  have x8 : w2.cell? ⟨z5, 8, none⟩ = some (.string t.minor) := blk_cell hz5 8
  have x9 : w2.cell? ⟨z5, 9, none⟩ = some (.slice A t.ats.length c) := blk_cell hz5 9
  have x11 : w2.cell? ⟨z6, 0, none⟩ = some (.string cur) := blk_cell hz2 0
  go_wp2_with fail
  refine (go_checkNames t HS.out cur hcur (.slice A t.ats.length c) ⟨_, _, _, rfl⟩ w2).mono ?_
  rintro e w3 ⟨rfl, hb3⟩
  have hg3 := gr2.trans (hb3.mono gr2.size)
  have hz53 := (hb3.block z5 (blk_lt hz5)).trans hz5
  have hz63 := (hb3.block z6 (blk_lt hz2)).trans hz2
  clear x0 x1 x2 x3 x4 x5 x6 x7 x8 x9 x11 hz5 hz2 gr2 hb3
  obtain ⟨ne, hne⟩ : ∃ q, namesE t cur = q := ⟨_, rfl⟩
  have HNE := Lib.hid hne
  rw [hne]
  clear hne
  by_cases h0 : ne = 0
  · subst h0
    have HPR := Lib.hid (names_price HNE.out)
    have x0 : w3.cell? ⟨z5, 0, none⟩ = some (.string t.parent) := blk_cell hz53 0
    have x1 : w3.cell? ⟨z5, 1, none⟩ = some (.string t.child) := blk_cell hz53 1
    have x2 : w3.cell? ⟨z5, 2, none⟩ = some (.int .i64 t.price) := blk_cell hz53 2
    have x3 : w3.cell? ⟨z5, 3, none⟩ = some (.int .i64 t.fn) := blk_cell hz53 3
    have x4 : w3.cell? ⟨z5, 4, none⟩ = some (.int .i64 t.fd) := blk_cell hz53 4
    have x5 : w3.cell? ⟨z5, 5, none⟩ = some (.string t.invest) := blk_cell hz53 5
    have x6 : w3.cell? ⟨z5, 6, none⟩ = some (.string t.goodwill) := blk_cell hz53 6
    have x7 : w3.cell? ⟨z5, 7, none⟩ = some (.string t.gain) := blk_cell hz53 7
    have x8 : w3.cell? ⟨z5, 8, none⟩ = some (.string t.minor) := blk_cell hz53 8
    have x9 : w3.cell? ⟨z5, 9, none⟩ = some (.slice A t.ats.length c) := blk_cell hz53 9
    go_wp2_with fail
    refine (go_checkEquity t A c g L M w3 (HCH.out.below hg3) (Kd.C_below HC.out hg3) (by omega) HKA.out).mono ?_
    rintro e w4 ⟨rfl, hb4⟩
    have hg4 := hg3.trans (hb4.mono hg3.size)
    have hz54 := (hb4.block z5 (blk_lt hz53)).trans hz53
    have hz64 := (hb4.block z6 (blk_lt hz63)).trans hz63
    clear x0 x1 x2 x3 x4 x5 x6 x7 x8 x9 hz53 hz63 hg3 hb4
    obtain ⟨eq, heq⟩ : ∃ q, equityE M t = q := ⟨_, rfl⟩
    have HEQ := Lib.hid heq
    rw [heq]
    clear heq
    by_cases h1 : eq = 0
    · subst h1
      have hrt := equity_right HEQ.out
      have HMID := Lib.hid (right_mid hrt)
      clear hrt
      have x0 : w4.cell? ⟨z5, 0, none⟩ = some (.string t.parent) := blk_cell hz54 0
      have x1 : w4.cell? ⟨z5, 1, none⟩ = some (.string t.child) := blk_cell hz54 1
      have x2 : w4.cell? ⟨z5, 2, none⟩ = some (.int .i64 t.price) := blk_cell hz54 2
      have x3 : w4.cell? ⟨z5, 3, none⟩ = some (.int .i64 t.fn) := blk_cell hz54 3
      have x4 : w4.cell? ⟨z5, 4, none⟩ = some (.int .i64 t.fd) := blk_cell hz54 4
      have x5 : w4.cell? ⟨z5, 5, none⟩ = some (.string t.invest) := blk_cell hz54 5
      have x6 : w4.cell? ⟨z5, 6, none⟩ = some (.string t.goodwill) := blk_cell hz54 6
      have x7 : w4.cell? ⟨z5, 7, none⟩ = some (.string t.gain) := blk_cell hz54 7
      have x8 : w4.cell? ⟨z5, 8, none⟩ = some (.string t.minor) := blk_cell hz54 8
      have x9 : w4.cell? ⟨z5, 9, none⟩ = some (.slice A t.ats.length c) := blk_cell hz54 9
      go_upto_region 9 with fail
      obtain ⟨net, hne5⟩ : ∃ q, netE t.ats = q := ⟨_, rfl⟩
      have HNI := Lib.hid (show in64 net from hne5 ▸ netE_in t.ats)
      obtain ⟨⟨so, sg, sm, se⟩, hsp⟩ : ∃ q, splitE t.price net t.fn t.fd mode = q := ⟨_, rfl⟩
      have hB4 : Below w4.heap.size w4 w4.drew := (Below.refl _ w4).drew
      refine start_ (n := 18) (S := fun w' => w'.cell? ⟨z5, 2, none⟩ = some (.int .i64 t.price) ∧ w'.cell? ⟨z5, 9, none⟩ = some (.slice A t.ats.length c) ∧ w'.cell? ⟨z5, 3, none⟩ = some (.int .i64 t.fn) ∧ w'.cell? ⟨z5, 4, none⟩ = some (.int .i64 t.fd)) (ds := []) #[false, false, false, false, false, false, false, false, false, false, false, false, false, false, false, false, false, false] (by kernel_rfl) rfl rfl ⟨x2, x9, x3, x4⟩ (fun hHeld => ?_)
      refine pure_ (i := 0) (N := some 32) (v := ?_) (a' := ?_) #[true, false, false, false, false, false, false, false, false, false, false, false, false, false, false, false, false, false] rfl rfl (by kernel_rfl) (fun _ _ _ h => h) (Or.inl ⟨by rfl, ?_⟩) ?_ ?_
      rotate_left
      · intro w'
        go_simp
        with_reducible rfl
      rotate_left
      · simp only [Act.put, pkA, pkZ, pkS, i64_w, i32_w]
        rfl
      refine pure_ (i := 2) (N := some 34) (v := ?_) (a' := ?_) #[true, false, true, false, false, false, false, false, false, false, false, false, false, false, false, false, false, false] rfl rfl (by kernel_rfl) (fun _ _ _ h => h) (Or.inl ⟨by rfl, ?_⟩) ?_ ?_
      rotate_left
      · intro w'
        go_simp
        with_reducible rfl
      rotate_left
      · simp only [Act.put, pkA, pkZ, pkS, i64_w, i32_w]
        rfl
      refine pure_ (i := 5) (N := some 37) (v := ?_) (a' := ?_) #[true, false, true, false, false, true, false, false, false, false, false, false, false, false, false, false, false, false] rfl rfl (by kernel_rfl) (fun _ _ _ h => h) (Or.inl ⟨by rfl, ?_⟩) ?_ ?_
      rotate_left
      · intro w'
        go_simp
        with_reducible rfl
      rotate_left
      · simp only [Act.put, pkA, pkZ, pkS, i64_w, i32_w]
        rfl
      refine pure_ (i := 7) (N := some 39) (v := ?_) (a' := ?_) #[true, false, true, false, false, true, false, true, false, false, false, false, false, false, false, false, false, false] rfl rfl (by kernel_rfl) (fun _ _ _ h => h) (Or.inl ⟨by rfl, ?_⟩) ?_ ?_
      rotate_left
      · intro w'
        go_simp
        with_reducible rfl
      rotate_left
      · simp only [Act.put, pkA, pkZ, pkS, i64_w, i32_w]
        rfl
      refine take_ (i := 1) (N := some 33) (v := ?_) (a' := ?_) #[true, true, true, false, false, true, false, true, false, false, false, false, false, false, false, false, false, false] rfl rfl (by kernel_rfl) (fun _ _ _ h => h) (Or.inl ⟨by rfl, ?_⟩) hHeld ?_ ?_
      rotate_left
      · rintro w' ⟨s0, s1, s2, s3⟩
        go_simp
        with_reducible rfl
      rotate_left
      · simp only [Act.put, pkA, pkZ, pkS, i64_w, i32_w]
        rfl
      refine take_ (i := 3) (N := some 35) (v := ?_) (a' := ?_) #[true, true, true, true, false, true, false, true, false, false, false, false, false, false, false, false, false, false] rfl rfl (by kernel_rfl) (fun _ _ _ h => h) (Or.inl ⟨by rfl, ?_⟩) hHeld ?_ ?_
      rotate_left
      · rintro w' ⟨s0, s1, s2, s3⟩
        go_simp
        with_reducible rfl
      rotate_left
      · simp only [Act.put, pkA, pkZ, pkS, i64_w, i32_w]
        rfl
      refine take_ (i := 6) (N := some 38) (v := ?_) (a' := ?_) #[true, true, true, true, false, true, true, true, false, false, false, false, false, false, false, false, false, false] rfl rfl (by kernel_rfl) (fun _ _ _ h => h) (Or.inl ⟨by rfl, ?_⟩) hHeld ?_ ?_
      rotate_left
      · rintro w' ⟨s0, s1, s2, s3⟩
        go_simp
        with_reducible rfl
      rotate_left
      · simp only [Act.put, pkA, pkZ, pkS, i64_w, i32_w]
        rfl
      refine one_ (i := 4) (N := some 36) #[true, true, true, true, true, true, true, true, false, false, false, false, false, false, false, false, false, false] rfl rfl (by kernel_rfl) (by decide) (fun K hK => ?_)
      refine goes_ Try.func29 (by kernel_rfl) rfl #[.slice A t.ats.length c] (by rfl) rfl rfl (by simp only [List.map_toArray, List.map_cons, List.map_nil]; rfl) ?_
      refine (go_net t.ats A c _ (Kd.C_below HC.out (hg4.trans (hB4.mono hg4.size))) hc (by omega) HIN.out).mono ?_
      rintro e w5 ⟨rfl, hb5⟩
      rw [hne5]
      refine ⟨_, rfl, ?_⟩
      have hB5 := hB4.trans (hb5.mono hB4.size)
      refine hK.out _ _ ⟨(hB5.cell (World.block_lt_of_cell? w4 _ x2)).trans x2, (hB5.cell (World.block_lt_of_cell? w4 _ x9)).trans x9, (hB5.cell (World.block_lt_of_cell? w4 _ x3)).trans x3, (hB5.cell (World.block_lt_of_cell? w4 _ x4)).trans x4⟩ (fun hHeld => ?_)
      clear hK K
      refine norm_ (a' := ?_) ?_ ?_
      rotate_left
      · show Act.put _ (some 36) _ = _
        simp only [Act.put, pkA, pkZ, pkS, i64_w, i32_w]
        rfl
      refine one_ (i := 8) (N := some 40) #[true, true, true, true, true, true, true, true, true, false, false, false, false, false, false, false, false, false] rfl rfl (by kernel_rfl) (by decide) (fun K hK => ?_)
      refine goes_ Try.func8 (by kernel_rfl) rfl #[.int .i64 t.price, .int .i64 net, .agg #[.int .i64 t.fn, .int .i64 t.fd], .int .i64 mode] (by rfl) rfl rfl (by simp only [List.map_toArray, List.map_cons, List.map_nil]; rfl) ?_
      refine (go_split t.price net t.fn t.fd mode hp HNI.out hn hd _).mono ?_
      rintro e w6 ⟨rfl, hb6⟩
      rw [hsp]
      refine ⟨_, rfl, ?_⟩
      have hB6 := hB5.trans (hb6.mono hB5.size)
      refine hK.out _ _ ⟨(hB6.cell (World.block_lt_of_cell? w4 _ x2)).trans x2, (hB6.cell (World.block_lt_of_cell? w4 _ x9)).trans x9, (hB6.cell (World.block_lt_of_cell? w4 _ x3)).trans x3, (hB6.cell (World.block_lt_of_cell? w4 _ x4)).trans x4⟩ (fun hHeld => ?_)
      clear hK K
      refine norm_ (a' := ?_) ?_ ?_
      rotate_left
      · show Act.put _ (some 40) _ = _
        simp only [Act.put, pkA, pkZ, pkS, i64_w, i32_w]
        rfl
      refine pure_ (i := 9) (N := some 31) (v := ?_) (a' := ?_) #[true, true, true, true, true, true, true, true, true, true, false, false, false, false, false, false, false, false] rfl rfl (by kernel_rfl) (fun _ _ _ h => h) (Or.inl ⟨by rfl, ?_⟩) ?_ ?_
      rotate_left
      · intro w'
        go_simp
        with_reducible rfl
      rotate_left
      · simp only [Act.put, pkA, pkZ, pkS, i64_w, i32_w]
        rfl
      refine pure_ (i := 10) (N := some 41) (v := ?_) (a' := ?_) #[true, true, true, true, true, true, true, true, true, true, true, false, false, false, false, false, false, false] rfl rfl (by kernel_rfl) (fun _ _ _ h => h) (Or.inl ⟨by rfl, ?_⟩) ?_ ?_
      rotate_left
      · intro w'
        go_simp
        with_reducible rfl
      rotate_left
      · simp only [Act.put, pkA, pkZ, pkS, i64_w, i32_w]
        rfl
      refine pure_ (i := 11) (N := some 42) (v := ?_) (a' := ?_) #[true, true, true, true, true, true, true, true, true, true, true, true, false, false, false, false, false, false] rfl rfl (by kernel_rfl) (fun _ _ _ h => h) (Or.inl ⟨by rfl, ?_⟩) ?_ ?_
      rotate_left
      · intro w'
        go_simp
        with_reducible rfl
      rotate_left
      · simp only [Act.put, pkA, pkZ, pkS, i64_w, i32_w]
        rfl
      refine pure_ (i := 12) (N := some 43) (v := ?_) (a' := ?_) #[true, true, true, true, true, true, true, true, true, true, true, true, true, false, false, false, false, false] rfl rfl (by kernel_rfl) (fun _ _ _ h => h) (Or.inl ⟨by rfl, ?_⟩) ?_ ?_
      rotate_left
      · intro w'
        go_simp
        with_reducible rfl
      rotate_left
      · simp only [Act.put, pkA, pkZ, pkS, i64_w, i32_w]
        rfl
      refine pure_ (i := 13) (N := some 44) (v := ?_) (a' := ?_) #[true, true, true, true, true, true, true, true, true, true, true, true, true, true, false, false, false, false] rfl rfl (by kernel_rfl) (fun _ _ _ h => h) (Or.inl ⟨by rfl, ?_⟩) ?_ ?_
      rotate_left
      · intro w'
        go_simp
        with_reducible rfl
      rotate_left
      · simp only [Act.put, pkA, pkZ, pkS, i64_w, i32_w]
        rfl
      refine pure_ (i := 14) (N := some 12) (v := ?_) (a' := ?_) #[true, true, true, true, true, true, true, true, true, true, true, true, true, true, true, false, false, false] rfl rfl (by kernel_rfl) (fun _ _ _ h => h) (Or.inl ⟨by rfl, ?_⟩) ?_ ?_
      rotate_left
      · intro w'
        go_simp
        with_reducible rfl
      rotate_left
      · simp only [Act.put, pkA, pkZ, pkS, i64_w, i32_w]
        rfl
      refine pure_ (i := 15) (N := some 13) (v := ?_) (a' := ?_) #[true, true, true, true, true, true, true, true, true, true, true, true, true, true, true, true, false, false] rfl rfl (by kernel_rfl) (fun _ _ _ h => h) (Or.inl ⟨by rfl, ?_⟩) ?_ ?_
      rotate_left
      · intro w'
        go_simp
        with_reducible rfl
      rotate_left
      · simp only [Act.put, pkA, pkZ, pkS, i64_w, i32_w]
        rfl
      refine pure_ (i := 16) (N := some 14) (v := ?_) (a' := ?_) #[true, true, true, true, true, true, true, true, true, true, true, true, true, true, true, true, true, false] rfl rfl (by kernel_rfl) (fun _ _ _ h => h) (Or.inl ⟨by rfl, ?_⟩) ?_ ?_
      rotate_left
      · intro w'
        go_simp
        with_reducible rfl
      rotate_left
      · simp only [Act.put, pkA, pkZ, pkS, i64_w, i32_w]
        rfl
      refine pure_ (i := 17) (N := some 9) (v := ?_) (a' := ?_) #[true, true, true, true, true, true, true, true, true, true, true, true, true, true, true, true, true, true] rfl rfl (by kernel_rfl) (fun _ _ _ h => h) (Or.inl ⟨by rfl, ?_⟩) ?_ ?_
      rotate_left
      · intro w'
        go_simp
        with_reducible rfl
      rotate_left
      · simp only [Act.put, pkA, pkZ, pkS, i64_w, i32_w]
        rfl
      refine done_ (by kernel_rfl) ?_
      have HSP := Lib.hid (show splitE t.price (netE t.ats) t.fn t.fd mode = (so, sg, sm, se) by rw [hne5, hsp])
      clear hsp hne5 hHeld
      have hg6 := hg4.trans (hB6.mono hg4.size)
      have hz56 := (hB6.block z5 (blk_lt hz54)).trans hz54
      have hz66b := (hB6.block z6 (blk_lt hz64)).trans hz64
      clear x0 x1 x2 x3 x4 x5 x6 x7 x8 x9 hz54 hz64 hg4 hb5 hb6 hB4 hB5 hB6
      by_cases h2 : se = 0
      · subst h2
        have x0 : w6.cell? ⟨z5, 0, none⟩ = some (.string t.parent) := blk_cell hz56 0
        have x1 : w6.cell? ⟨z5, 1, none⟩ = some (.string t.child) := blk_cell hz56 1
        have x2 : w6.cell? ⟨z5, 2, none⟩ = some (.int .i64 t.price) := blk_cell hz56 2
        have x3 : w6.cell? ⟨z5, 3, none⟩ = some (.int .i64 t.fn) := blk_cell hz56 3
        have x4 : w6.cell? ⟨z5, 4, none⟩ = some (.int .i64 t.fd) := blk_cell hz56 4
        have x5 : w6.cell? ⟨z5, 5, none⟩ = some (.string t.invest) := blk_cell hz56 5
        have x6 : w6.cell? ⟨z5, 6, none⟩ = some (.string t.goodwill) := blk_cell hz56 6
        have x7 : w6.cell? ⟨z5, 7, none⟩ = some (.string t.gain) := blk_cell hz56 7
        have x8 : w6.cell? ⟨z5, 8, none⟩ = some (.string t.minor) := blk_cell hz56 8
        have x9 : w6.cell? ⟨z5, 9, none⟩ = some (.slice A t.ats.length c) := blk_cell hz56 9
        have hin := splitE_in (show (splitE t.price (netE t.ats) t.fn t.fd mode).2.2.2 = 0 by rw [HSP.out])
        rw [HSP.out] at hin
        have hin : -2000000000000000 ≤ sg ∧ sg ≤ 2000000000000000 ∧ -1000000000000000 ≤ sm ∧ sm ≤ 1000000000000000 := hin
        have HINB := Lib.hid hin
        clear hin
        go_wp2_with fail
        refine (go_negated t.ats A c w6 (Kd.C_below HC.out hg6) (by omega) HMID.out).mono ?_
        rintro e w7 ⟨v7, rfl, own7, hb7⟩
        obtain ⟨l7, hl7⟩ : ∃ l, t.ats.map negC = l := ⟨_, rfl⟩
        rw [hl7] at own7
        have hlen7 : l7.length = t.ats.length := by rw [← hl7, List.length_map]
        obtain ⟨A7, c7, hv7, _⟩ := own_form own7
        subst hv7
        have HL7 := Lib.hid (And.intro hl7 hlen7)
        have hz57 := (hb7.block z5 (blk_lt hz56)).trans hz56
        have hz67 := (hb7.block z6 (blk_lt hz66b)).trans hz66b
        have hg7 := hg6.trans (hb7.mono hg6.size)
        clear x0 x1 x2 x3 x4 x5 x6 x7 x8 x9 hl7 hlen7
        go_upto_region 14 with fail
        have hbx : (w7.alloc (.cells #[.slice A7 l7.length c7] 34)).heap[w7.heap.size]? = some (.cells #[.slice A7 l7.length c7] 34 (0, 0)) := (Go.MapKept.heap_alloc w7 _).1
        have grb : Below w7.heap.size w7 (w7.alloc (.cells #[.slice A7 l7.length c7] 34)) := (Below.refl _ _).alloc (Nat.le_refl _) _
        have ownb := pw_own_below own7 grb
        have hz5b := (grb.block z5 (blk_lt hz57)).trans hz57
        have hz6b := (grb.block z6 (blk_lt hz67)).trans hz67
        have hgb := hg7.trans (grb.mono hg7.size)
        have hsz6 : w6.heap.size ≤ (w7.alloc (.cells #[.slice A7 l7.length c7] 34)).heap.size := Nat.le_trans hb7.size grb.size
        have hz15 : w.heap.size ≤ w7.heap.size := Nat.le_trans hg6.size hb7.size
        have HW6 := Lib.hid hg6.size
        obtain ⟨B, hB⟩ : ∃ z, w6.heap.size = z := ⟨_, rfl⟩
        obtain ⟨z15, hz15e⟩ : ∃ z, w7.heap.size = z := ⟨_, rfl⟩
        obtain ⟨wb, hwb⟩ : ∃ W, w7.alloc (.cells #[.slice A7 l7.length c7] 34) = W := ⟨_, rfl⟩
        rw [hB] at ownb hsz6 HW6
        rw [hz15e] at hbx hz15
        rw [hwb] at hbx ownb hz5b hz6b hgb hsz6
        rw [hwb, hz15e]
        have HZ15 := Lib.hid hz15
        have HOB := Lib.hid ownb; have HBX := Lib.hid hbx; have HSB := Lib.hid hsz6; have HGB := Lib.hid hgb
        clear hwb hz15e hB hz57 hz67 hg7 hg6 hb7 own7 grb hz56 hz66b hz15 ownb hbx hsz6 hgb
        have e21 : ∀ args w, (callFunc 31 args).run Try.prog w = .ok (.enter 31 args) w := enters_of Try.func31 (by kernel_rfl) rfl
        have hpr := HPR.out
        have hwp : IntKind.i64.wrap (-t.price) = -t.price := by rw [IntKind.wrap_i64]; omega
        have hwm : IntKind.i64.wrap (-sm) = -sm := by have := HINB.out; rw [IntKind.wrap_i64]; omega
        clear hpr
        have y0 : wb.cell? ⟨z5, 0, none⟩ = some (.string t.parent) := blk_cell hz5b 0
        have y5 : wb.cell? ⟨z5, 5, none⟩ = some (.string t.invest) := blk_cell hz5b 5
        have y2 : wb.cell? ⟨z5, 2, none⟩ = some (.int .i64 t.price) := blk_cell hz5b 2
        have hcb : wb.cell? ⟨z6, 0, none⟩ = some (.string cur) := blk_cell hz6b 0
        have hll := HL7.out.2
        go_upto_region 15 with (go_at_fn 31; refine (go_put t.parent t.invest cur (-t.price) z15 z6 B l7 _ wb HBX.out hcb HOB.out HSB.out (by omega)).mono ?_; rintro e w8 ⟨rfl, v8, HP8⟩)
        have hz58 := HP8.kept z5 _ _ hz5b (by decide) (by decide)
        have hz68 := HP8.kept z6 _ _ hz6b (by decide) (by decide)
        have hg8 := HGB.out.trans (HP8.bel w.heap.size HW6.out HZ15.out)
        have hs8 : B ≤ w8.heap.size := Nat.le_trans HSB.out (HP8.bel w.heap.size HW6.out HZ15.out).size
        obtain ⟨l8, hl8⟩ : ∃ l, l7 ++ [putC t.parent t.invest cur (-t.price)] = l := ⟨_, rfl⟩
        have hll8 : l8.length = t.ats.length + 1 := by rw [← hl8, List.length_append, hll]; rfl
        rw [hl8] at HP8
        have HQ8 := Lib.hid (And.intro HP8.box HP8.own); have HL8 := Lib.hid hl8; have HG8 := Lib.hid hg8; have HS8 := Lib.hid hs8
        clear HP8 hl8 hg8 hs8 y0 y5 y2 hcb hz5b hz6b HBX HOB HSB HGB
        have y1 : w8.cell? ⟨z5, 1, none⟩ = some (.string t.child) := blk_cell hz58 1
        have y6 : w8.cell? ⟨z5, 6, none⟩ = some (.string t.goodwill) := blk_cell hz58 6
        have y7 : w8.cell? ⟨z5, 7, none⟩ = some (.string t.gain) := blk_cell hz58 7
        have hc8 : w8.cell? ⟨z6, 0, none⟩ = some (.string cur) := blk_cell hz68 0
        by_cases hsg : sg < 0
        · have hgn : (if sg < 0 then t.gain else t.goodwill) = t.gain := if_pos hsg
          go_upto_region 18 with (go_at_fn 31; refine (go_put t.child t.gain cur sg z15 z6 B l8 _ w8 HQ8.out.1 hc8 HQ8.out.2 HS8.out (by omega)).mono ?_; rintro e w9 ⟨rfl, v9, HP9⟩)
          have hz59 := HP9.kept z5 _ _ hz58 (by decide) (by decide)
          have hz69 := HP9.kept z6 _ _ hz68 (by decide) (by decide)
          have hg9 := HG8.out.trans (HP9.bel w.heap.size HW6.out HZ15.out)
          have hs9 : B ≤ w9.heap.size := Nat.le_trans HS8.out (HP9.bel w.heap.size HW6.out HZ15.out).size
          obtain ⟨l9, hl9⟩ : ∃ l, l8 ++ [putC t.child t.gain cur sg] = l := ⟨_, rfl⟩
          have hll9 : l9.length = t.ats.length + 2 := by rw [← hl9, List.length_append, hll8]; rfl
          rw [hl9] at HP9
          have HQ9 := Lib.hid (And.intro HP9.box HP9.own); have HL9 := Lib.hid hl9; have HG9 := Lib.hid hg9; have HS9 := Lib.hid hs9
          clear HP9 hl9 hg9 hs9 y1 y6 y7 hc8 hz58 hz68
          have y1 : w9.cell? ⟨z5, 1, none⟩ = some (.string t.child) := blk_cell hz59 1
          have y8 : w9.cell? ⟨z5, 8, none⟩ = some (.string t.minor) := blk_cell hz59 8
          have hc9 : w9.cell? ⟨z6, 0, none⟩ = some (.string cur) := blk_cell hz69 0
          go_upto_region 19 with (go_at_fn 31; refine (go_put t.child t.minor cur (-sm) z15 z6 B l9 _ w9 HQ9.out.1 hc9 HQ9.out.2 HS9.out (by omega)).mono ?_; rintro e w10 ⟨rfl, v10, HP10⟩)
          have hg10 := HG9.out.trans (HP10.bel w.heap.size HW6.out HZ15.out)
          obtain ⟨l10, hl10⟩ : ∃ l, l9 ++ [putC t.child t.minor cur (-sm)] = l := ⟨_, rfl⟩
          have hll10 : l10.length = t.ats.length + 3 := by rw [← hl10, List.length_append, hll9]; rfl
          rw [hl10] at HP10
          have hpl : l10 = putsL t cur sg sm := by rw [← hl10, ← HL9.out, ← HL8.out, ← HL7.out.1, putsL, hgn]
          obtain ⟨A10, c10, hv10, _⟩ := own_form HP10.own
          subst hv10
          have hbx := HP10.box
          have hC10 := ownC_C HP10.own rfl (by omega)
          have b10 : w10.cell? ⟨z15, 0, none⟩ = some (.slice A10 l10.length c10) := blk_cell hbx 0
          have hin10 : ∀ x ∈ l10, in64 x.f1 ∧ in64 x.f2 := by rw [hpl]; have := HINB.out; have := HPR.out; exact puts_in HMID.out ⟨by omega, by omega⟩ ⟨by omega, by omega⟩ ⟨by omega, by omega⟩
          have HLL10 := Lib.hid hll10; have HPL := Lib.hid hpl; have HC10 := Lib.hid hC10; have HI10 := Lib.hid hin10; have HG10 := Lib.hid hg10
          clear hll10 HP10 hl10 hg10 hpl hC10 hin10 hbx y1 y8 hc9 hz59 hz69 hgn
          go_wp2_with fail
          refine (go_of l10 A10 c10 w10 HC10.out.1 HC10.out.2.1 HC10.out.2.2 (by have := HLL10.out; omega) HI10.out).mono ?_
          rintro e w11 hof
          have HFIN := Lib.hid (hof.back HG10.out)
          obtain ⟨ks, v, _, _, rfl, _, _⟩ := hof
          have HF : Hid (cellsErr M t cur mode = 0) := Lib.hid (by unfold cellsErr; rw [HNE.out, HEQ.out, HSP.out]; rfl)
          go_wp2_with fail
          refine bodyPost_ret (v := .tuple #[v, .int .i64 (ofErr (grpI ks (ks.length + 1) 0 []))]) (by simp [results, Try.results12, go_sem]) rfl ?_
          refine .inr ⟨HF.out, ?_⟩
          rw [HSP.out]
          rw [HPL.out] at HFIN
          exact HFIN.out
        · have hgn : (if sg < 0 then t.gain else t.goodwill) = t.goodwill := if_neg hsg
          go_upto_region 18 with (go_at_fn 31; refine (go_put t.child t.goodwill cur sg z15 z6 B l8 _ w8 HQ8.out.1 hc8 HQ8.out.2 HS8.out (by omega)).mono ?_; rintro e w9 ⟨rfl, v9, HP9⟩)
          have hz59 := HP9.kept z5 _ _ hz58 (by decide) (by decide)
          have hz69 := HP9.kept z6 _ _ hz68 (by decide) (by decide)
          have hg9 := HG8.out.trans (HP9.bel w.heap.size HW6.out HZ15.out)
          have hs9 : B ≤ w9.heap.size := Nat.le_trans HS8.out (HP9.bel w.heap.size HW6.out HZ15.out).size
          obtain ⟨l9, hl9⟩ : ∃ l, l8 ++ [putC t.child t.goodwill cur sg] = l := ⟨_, rfl⟩
          have hll9 : l9.length = t.ats.length + 2 := by rw [← hl9, List.length_append, hll8]; rfl
          rw [hl9] at HP9
          have HQ9 := Lib.hid (And.intro HP9.box HP9.own); have HL9 := Lib.hid hl9; have HG9 := Lib.hid hg9; have HS9 := Lib.hid hs9
          clear HP9 hl9 hg9 hs9 y1 y6 y7 hc8 hz58 hz68
          have y1 : w9.cell? ⟨z5, 1, none⟩ = some (.string t.child) := blk_cell hz59 1
          have y8 : w9.cell? ⟨z5, 8, none⟩ = some (.string t.minor) := blk_cell hz59 8
          have hc9 : w9.cell? ⟨z6, 0, none⟩ = some (.string cur) := blk_cell hz69 0
          go_upto_region 19 with (go_at_fn 31; refine (go_put t.child t.minor cur (-sm) z15 z6 B l9 _ w9 HQ9.out.1 hc9 HQ9.out.2 HS9.out (by omega)).mono ?_; rintro e w10 ⟨rfl, v10, HP10⟩)
          have hg10 := HG9.out.trans (HP10.bel w.heap.size HW6.out HZ15.out)
          obtain ⟨l10, hl10⟩ : ∃ l, l9 ++ [putC t.child t.minor cur (-sm)] = l := ⟨_, rfl⟩
          have hll10 : l10.length = t.ats.length + 3 := by rw [← hl10, List.length_append, hll9]; rfl
          rw [hl10] at HP10
          have hpl : l10 = putsL t cur sg sm := by rw [← hl10, ← HL9.out, ← HL8.out, ← HL7.out.1, putsL, hgn]
          obtain ⟨A10, c10, hv10, _⟩ := own_form HP10.own
          subst hv10
          have hbx := HP10.box
          have hC10 := ownC_C HP10.own rfl (by omega)
          have b10 : w10.cell? ⟨z15, 0, none⟩ = some (.slice A10 l10.length c10) := blk_cell hbx 0
          have hin10 : ∀ x ∈ l10, in64 x.f1 ∧ in64 x.f2 := by rw [hpl]; have := HINB.out; have := HPR.out; exact puts_in HMID.out ⟨by omega, by omega⟩ ⟨by omega, by omega⟩ ⟨by omega, by omega⟩
          have HLL10 := Lib.hid hll10; have HPL := Lib.hid hpl; have HC10 := Lib.hid hC10; have HI10 := Lib.hid hin10; have HG10 := Lib.hid hg10
          clear hll10 HP10 hl10 hg10 hpl hC10 hin10 hbx y1 y8 hc9 hz59 hz69 hgn
          go_wp2_with fail
          refine (go_of l10 A10 c10 w10 HC10.out.1 HC10.out.2.1 HC10.out.2.2 (by have := HLL10.out; omega) HI10.out).mono ?_
          rintro e w11 hof
          have HFIN := Lib.hid (hof.back HG10.out)
          obtain ⟨ks, v, _, _, rfl, _, _⟩ := hof
          have HF : Hid (cellsErr M t cur mode = 0) := Lib.hid (by unfold cellsErr; rw [HNE.out, HEQ.out, HSP.out]; rfl)
          go_wp2_with fail
          refine bodyPost_ret (v := .tuple #[v, .int .i64 (ofErr (grpI ks (ks.length + 1) 0 []))]) (by simp [results, Try.results12, go_sem]) rfl ?_
          refine .inr ⟨HF.out, ?_⟩
          rw [HSP.out]
          rw [HPL.out] at HFIN
          exact HFIN.out
      · have hF : cellsErr M t cur mode = se := by unfold cellsErr; rw [HNE.out, HEQ.out, HSP.out]; rfl
        have HF := Lib.hid hF
        have hzz : (se == 0) = false := beq_eq_false_iff_ne.mpr h2
        have HG := Lib.hid hg6
        clear hF hg6
        go_wp2_with fail
        refine bodyPost_ret (v := .tuple #[.slice none 0 0, .int .i64 se]) (by simp [results, Try.results12, go_sem]) rfl ?_
        exact .inl ⟨by rw [HF.out]; exact h2, by rw [HF.out], HG.out⟩
    · have hF : cellsErr M t cur mode = eq := by unfold cellsErr; rw [HNE.out, HEQ.out, if_neg (by omega), if_pos h1]
      have HF := Lib.hid hF
      have hzz : (eq == 0) = false := beq_eq_false_iff_ne.mpr h1
      have HG := Lib.hid hg4
      clear hF hg4
      go_wp2_with fail
      refine bodyPost_ret (v := .tuple #[.slice none 0 0, .int .i64 eq]) (by simp [results, Try.results12, go_sem]) rfl ?_
      exact .inl ⟨by rw [HF.out]; exact h1, by rw [HF.out], HG.out⟩
  · have hF : cellsErr M t cur mode = ne := by unfold cellsErr; rw [HNE.out, if_pos h0]
    have HF := Lib.hid hF
    have hzz : (ne == 0) = false := beq_eq_false_iff_ne.mpr h0
    have HG := Lib.hid hg3
    clear hF hg3
    go_wp2_with fail
    refine bodyPost_ret (v := .tuple #[.slice none 0 0, .int .i64 ne]) (by simp [results, Try.results12, go_sem]) rfl ?_
    exact .inl ⟨by rw [HF.out]; exact h0, by rw [HF.out], HG.out⟩
def insK (k : Key) : List Key → List Key
  | [] => [k]
  | x :: l => if keyCmp k x < 0 then k :: x :: l else if keyCmp k x = 0 then x :: l else x :: insK k l
def keysL : List Cell → List Key
  | [] => []
  | c :: l => insK c.f0 (keysL l)
theorem mem_insK (k : Key) : ∀ (l : List Key) (y : Key), y ∈ insK k l ↔ y = k ∨ y ∈ l
  | [], y => by simp [insK]
  | x :: l, y => by
    unfold insK
    split
    · simp
    · split
      · rename_i h
        have := kc_eq h
        subst this
        simp
      · simp only [List.mem_cons, mem_insK k l y]
        constructor
        · rintro (h | h | h)
          · exact .inr (.inl h)
          · exact .inl h
          · exact .inr (.inr h)
        · rintro (h | h | h)
          · exact .inr (.inl h)
          · exact .inl h
          · exact .inr (.inr h)
theorem sorted_insK (k : Key) : ∀ (l : List Key), l.Pairwise (fun a b => keyCmp a b < 0) → (insK k l).Pairwise (fun a b => keyCmp a b < 0)
  | [], _ => by simp [insK]
  | x :: l, h => by
    unfold insK
    rw [List.pairwise_cons] at h
    split
    · rename_i hk
      rw [List.pairwise_cons, List.pairwise_cons]
      refine ⟨fun y hy => ?_, h⟩
      rcases List.mem_cons.mp hy with rfl | hy
      · exact hk
      · exact kc_lt_le hk (by have := h.1 y hy; omega)
    · split
      · rw [List.pairwise_cons]; exact h
      · rw [List.pairwise_cons]
        refine ⟨fun y hy => ?_, sorted_insK k l h.2⟩
        rcases (mem_insK k l y).mp hy with rfl | hy
        · have := kc_anti y x; omega
        · exact h.1 y hy
theorem keysL_sorted : ∀ l : List Cell, (keysL l).Pairwise (fun a b => keyCmp a b < 0)
  | [] => List.Pairwise.nil
  | c :: l => sorted_insK _ _ (keysL_sorted l)
theorem mem_keysL : ∀ (l : List Cell) (k : Key), k ∈ keysL l ↔ ∃ x ∈ l, x.f0 = k
  | [], k => by simp [keysL]
  | c :: l, k => by
    rw [keysL, mem_insK, mem_keysL l k]
    constructor
    · rintro (rfl | ⟨x, h1, h2⟩)
      · exact ⟨c, List.mem_cons_self .., rfl⟩
      · exact ⟨x, List.mem_cons_of_mem _ h1, h2⟩
    · rintro ⟨x, h1, h2⟩
      rcases List.mem_cons.mp h1 with rfl | h1
      · exact .inl h2.symm
      · exact .inr ⟨x, h1, h2⟩
def sheetOf (l : List Cell) : Option (List Cell) := sheetK l (keysL l) []
theorem OfPost.sheet {l : List Cell} {w w' : World} {e : Ending} (h : OfPost l w e w') : ∃ v, e = .returned (.tuple #[v, .int .i64 (ofErr (sheetOf l))]) ∧ w'.ownsRow w.heap.size 52 7 v ((sheetOf l).getD []).length (flatC ((sheetOf l).getD [])) ∧ Below w.heap.size w w' := by
  obtain ⟨ks, v, h1, h2, h3, h4, h5⟩ := h
  have hg := grp_sheet h1 h2 (keysL_sorted l) (mem_keysL l)
  rw [hg] at h3 h4
  exact ⟨v, h3, h4, h5⟩
def exAccts : List Acct := [⟨⟨#[51, 48]⟩, ⟨#[]⟩, 3, true, ⟨#[]⟩, false, false, []⟩, ⟨⟨#[51, 49]⟩, ⟨#[]⟩, 3, true, ⟨#[]⟩, false, false, []⟩, ⟨⟨#[49, 48]⟩, ⟨#[]⟩, 1, true, ⟨#[]⟩, false, false, []⟩]
def exM : ByteArray → Option Acct := mapI exAccts 3
def exTk (p : Int) (l : List Cell) : Tk := ⟨⟨#[97]⟩, ⟨#[98]⟩, p, 3, 4, ⟨#[49, 53]⟩, ⟨#[49, 57]⟩, ⟨#[52, 57]⟩, ⟨#[51, 57]⟩, l⟩
def exAt : List Cell := [⟨⟨⟨#[98]⟩, ⟨#[51, 48]⟩, ⟨#[69, 85, 82]⟩, ⟨#[]⟩, ⟨#[]⟩⟩, -100, -100⟩, ⟨⟨⟨#[98]⟩, ⟨#[51, 49]⟩, ⟨#[69, 85, 82]⟩, ⟨#[]⟩, ⟨#[]⟩⟩, -22, -22⟩]
def exBad : List Cell := [⟨⟨⟨#[98]⟩, ⟨#[49, 48]⟩, ⟨#[69, 85, 82]⟩, ⟨#[]⟩, ⟨#[]⟩⟩, -1, -1⟩]
def exEur : ByteArray := ⟨#[69, 85, 82]⟩
theorem exSplit1 : splitE 120 122 3 4 1 = (91, 29, 31, 0) := by decide
theorem exSplit2 : splitE 120 122 5 4 1 = (0, 0, 0, 2) := by decide
theorem exNames (p : Int) (hp : 0 ≤ p ∧ p ≤ 1000) (l : List Cell) : namesE (exTk p l) exEur = 0 := by
  unfold namesE
  rw [if_neg (by show ¬ ((tkNames (exTk 0 [])).all wcodeB = false); decide), if_neg (by decide), if_neg (by show ¬ (p < 0 ∨ p > 1000000000000); omega)]
theorem exRight : rightB exAt = true := by decide
theorem exRight2 : rightB exBad = true := by decide
theorem exEnt (p : Int) : (exTk p exAt).ats.any (noEnt (exTk p exAt).child) = false := by
  simp [exTk, exAt, noEnt]
theorem exEnt2 (p : Int) : (exTk p exBad).ats.any (noEnt (exTk p exBad).child) = false := by
  simp [exTk, exBad, noEnt]
theorem exEq : exAt.any (noEq exM) = false := by decide
theorem exEq2 : exBad.any (noEq exM) = true := by decide
theorem exErr1 : cellsErr exM (exTk 120 exAt) exEur 1 = 0 := by
  unfold cellsErr
  rw [if_neg (by rw [exNames 120 (by omega)]; simp), if_neg (by
    unfold equityE
    rw [if_neg (by show ¬ rightB exAt = false; rw [exRight]; simp), if_neg (by rw [exEnt]; simp), if_neg (by show ¬ exAt.any (noEq exM) = true; rw [exEq]; simp)]; simp)]
  decide
theorem exErr2 : cellsErr exM (exTk 50 exAt) exEur 1 = 0 := by
  unfold cellsErr
  rw [if_neg (by rw [exNames 50 (by omega)]; simp), if_neg (by
    unfold equityE
    rw [if_neg (by show ¬ rightB exAt = false; rw [exRight]; simp), if_neg (by rw [exEnt]; simp), if_neg (by show ¬ exAt.any (noEq exM) = true; rw [exEq]; simp)]; simp)]
  decide
theorem exErr3 : cellsErr exM (exTk 120 exBad) exEur 1 = 12 := by
  have h : equityE exM (exTk 120 exBad) = 12 := by
    unfold equityE
    rw [if_neg (by show ¬ rightB exBad = false; rw [exRight2]; simp), if_neg (by rw [exEnt2]; simp), if_pos (by show exBad.any (noEq exM) = true; exact exEq2)]
  unfold cellsErr
  rw [if_neg (by rw [exNames 120 (by omega)]; simp), if_pos (by rw [h]; decide), h]
theorem exSheet1 : ∃ x0 x1 x2 x3 x4 : Cell, sheetOf (putsL (exTk 120 exAt) exEur (splitE 120 (netE exAt) 3 4 1).2.1 (splitE 120 (netE exAt) 3 4 1).2.2.1) = some [x0, x1, x2, x3, x4] ∧ x0.f0.f1 = ⟨#[49, 53]⟩ ∧ x0.f2 = -120 ∧ x1.f0.f1 = ⟨#[49, 57]⟩ ∧ x1.f2 = 29 ∧ x2.f2 = 100 ∧ x4.f0.f1 = ⟨#[51, 57]⟩ ∧ x4.f2 = -31 :=
  ⟨_, _, _, _, _, by rfl, rfl, rfl, rfl, rfl, rfl, rfl, rfl⟩
theorem exSheet2 : ∃ x0 x1 x2 x3 x4 : Cell, sheetOf (putsL (exTk 50 exAt) exEur (splitE 50 (netE exAt) 3 4 1).2.1 (splitE 50 (netE exAt) 3 4 1).2.2.1) = some [x0, x1, x2, x3, x4] ∧ x4.f0.f1 = ⟨#[52, 57]⟩ ∧ x4.f2 = -41 :=
  ⟨_, _, _, _, _, by rfl, rfl, rfl⟩
theorem nil_list : (⟨#[]⟩ : ByteArray).toList = [] := by
  rw [ByteArray.toList_eq]
theorem exAlone (c : ByteArray) (k : Int) (hc : wcodeB c = true) (hk : 1 ≤ k ∧ k ≤ 5) : aloneE ⟨c, ⟨#[]⟩, k, true, ⟨#[]⟩, false, false, []⟩ false = 0 := by
  have h1 : ¬ k < 1 := by omega
  have h2 : ¬ k > 5 := by omega
  simp [aloneE, firstE, namesB, risingB, nil_list, hc, h1, h2]
theorem exChart : ¬ Bad exAccts := by
  have h0 : ∀ i, i < 3 → aloneE exAccts[i]! (mapI exAccts i exAccts[i]!.f0).isSome = 0 := by
    intro i hi
    rcases (by omega : i = 0 ∨ i = 1 ∨ i = 2) with rfl | rfl | rfl
    · rw [show (mapI exAccts 0 exAccts[0]!.f0).isSome = false by decide]
      exact exAlone _ _ (by decide) (by decide)
    · rw [show (mapI exAccts 1 exAccts[1]!.f0).isSome = false by decide]
      exact exAlone _ _ (by decide) (by decide)
    · rw [show (mapI exAccts 2 exAccts[2]!.f0).isSome = false by decide]
      exact exAlone _ _ (by decide) (by decide)
  have h1 : ∀ i n, i < 3 → belowE (mapI exAccts 3) exAccts[i]! n = 0 := by
    intro i n hi
    rcases (by omega : i = 0 ∨ i = 1 ∨ i = 2) with rfl | rfl | rfl
    · exact if_pos nil_list
    · exact if_pos nil_list
    · exact if_pos nil_list
  rintro (h | ⟨i, hi, h⟩ | ⟨i, n, hi, _, h⟩)
  · exact absurd h (by decide)
  · exact h (h0 i hi)
  · exact h (h1 i n hi)
end Go.Proofs.Ytdlilbleohlmnaa.PAq
