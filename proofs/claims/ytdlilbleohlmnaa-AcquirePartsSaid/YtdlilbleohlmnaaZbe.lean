/- The walk of the program and the plain laws behind the statements of this seat, part 5. -/
import Derived.Test.YtdlilbleohlmnaaZbd
set_option linter.all false
namespace Go.Proofs.Ytdlilbleohlmnaa.PAq
open Go.RowKit Go.Lib Go.Sort Go.Proofs.YtdlilbleohlmnaaW.PrintWords Go.Proofs.YtdlilbleohlmnaaW.PrintLast
structure SC (w0 wk w : World) (g m1 m2 : Nat) (vC : Value) (cs : List ByteArray) (U : ByteArray → Value) (K : ByteArray → Option (List ByteArray)) : Prop where
  blk : w.heap[g]? = some (.cells #[.map (some m1), .map (some m2), vC] 85 (0, 0))
  cr : w.ownsRow w0.heap.size 9 1 vC cs.length (strs cs)
  crl : ∀ b, vC.ownBlock = some b → b < wk.heap.size
  kd : MapAt Try.prog 9 encS w m2 (fun x => (K x).map fun _ => U x)
  kr : ∀ x l, K x = some l → l ≠ [] ∧ w.ownsRow wk.heap.size 9 1 (U x) l.length (strs l)
  ks : ∀ x y lx ly, K x = some lx → K y = some ly → (U x).ownBlock = (U y).ownBlock → x = y
  keep : ∀ k, k < w0.heap.size → k ≠ g → k ≠ m2 → w.heap[k]? = w0.heap[k]?
  gl : g < w0.heap.size
  ml : m2 < w0.heap.size
  os : w.os = w0.os
  tape : w.tape = w0.tape
  output : w.output = w0.output
  wks : wk.heap.size ≤ w.heap.size
  w0s : w0.heap.size ≤ wk.heap.size
variable {w0 wk w w1 : World} {g m1 m2 : Nat} {vC : Value} {cs : List ByteArray} {U : ByteArray → Value} {K : ByteArray → Option (List ByteArray)}
theorem SC.below (h : SC w0 wk w g m1 m2 vC cs U K) (hb : Below w.heap.size w w1) : SC w0 wk w1 g m1 m2 vC cs U K where
  blk := (hb.block g (Array.getElem?_eq_some_iff.mp h.blk).1).trans h.blk
  cr := pw_own_below h.cr hb
  crl := h.crl
  kd := h.kd.below hb
  kr x l hx := ⟨(h.kr x l hx).1, pw_own_below (h.kr x l hx).2 hb⟩
  ks := h.ks
  keep k hk h1 h2 := (hb.block k (by have := h.w0s; have := h.wks; omega)).trans (h.keep k hk h1 h2)
  gl := h.gl
  ml := h.ml
  os := hb.os.trans h.os
  tape := hb.tape.trans h.tape
  output := hb.output.trans h.output
  wks := Nat.le_trans h.wks hb.size
  w0s := h.w0s
theorem SC.look (h : SC w0 wk w g m1 m2 vC cs U K) (y : ByteArray) (hy : y.size ≤ maxLen) : ∃ A c, w.ownsRow wk.heap.size 9 1 (.slice A ((K y).getD []).length c) ((K y).getD []).length (strs ((K y).getD [])) ∧ (∀ l, K y = some l → U y = .slice A ((K y).getD []).length c) ∧ (K y = none → A = none ∧ c = 0) ∧
    ∀ W, W.heap[m2]? = w.heap[m2]? → (Instr.lookup 83 (.map (some m2)) (.string y) false).run Try.prog W = .ok (.slice A ((K y).getD []).length c) W := by
  obtain ⟨kl, hkl⟩ := key_s hy
  have hr := fun (W : World) (hW : W.heap[m2]? = w.heap[m2]?) => (h.kd.of_block hW).lookup str_keyed encS_inj Try.underlying83 (z := .slice none 0 0) (by kernel_rfl) false y hkl
  have e1 : encS y = .string y := rfl
  simp only [e1, Bool.false_eq_true, if_false] at hr
  cases hk : K y with
  | none =>
    simp only [hk, Option.map_none, Option.getD_none] at hr
    exact ⟨none, 0, ⟨rfl, .inl ⟨rfl, rfl⟩⟩, (fun l hl => by cases hl), (fun _ => ⟨rfl, rfl⟩), hr⟩
  | some l =>
    have ho := (h.kr y l hk).2
    obtain ⟨A, c, hv, _⟩ := own_form ho
    rw [hv] at ho
    simp only [hk, Option.map_some, Option.getD_some, hv] at hr
    exact ⟨A, c, ho, (fun l' _ => hv), (fun h => by cases h), hr⟩
theorem SC.store (h : SC w0 wk w g m1 m2 vC cs U K) (y : ByteArray) (hy : y.size ≤ maxLen) {v0 v' : Value} {l' : List ByteArray} (hl' : l' ≠ []) (hv0 : v0 = .slice none 0 0 ∨ ∃ l, K y = some l ∧ U y = v0) (hv0w : ∀ b, v0.ownBlock = some b → wk.heap.size ≤ b ∧ b < w.heap.size) (hg : w.grownBy w1 v0.ownBlock) (hown : w1.ownsRow wk.heap.size 9 1 v' l'.length (strs l')) (hv' : v'.ownBlock = v0.ownBlock ∨ ∃ b, v'.ownBlock = some b ∧ w.heap.size ≤ b) :
    ∃ ob, (Instr.mapUpdate 83 (.map (some m2)) (.string y) v').run Try.prog w1 = .ok () (ChangeMaps.setBlock w1 m2 ob) ∧ SC w0 wk (ChangeMaps.setBlock w1 m2 ob) g m1 m2 vC cs (fun x => if x = y then v' else U x) (fun x => if x = y then some l' else K x) := by
  obtain ⟨kl, hkl⟩ := key_s hy
  have hml := h.ml; have hgl := h.gl; have h0 := h.w0s; have h1 := h.wks
  have lo : ∀ k, k < wk.heap.size → w1.heap[k]? = w.heap[k]? := fun k hk => hg.block k (by omega) (fun e => by have := (hv0w k e.symm).1; omega)
  have hm2 := lo m2 (by omega)
  obtain ⟨ob, hob, hm⟩ := (h.kd.of_block hm2).store str_keyed encS_inj Try.underlying83 y v' hkl
  have hoth : ∀ b, b ≠ m2 → (ChangeMaps.setBlock w1 m2 ob).heap[b]? = w1.heap[b]? := fun b hb => by
    simp [ChangeMaps.setBlock, Ne.symm hb]
  obtain ⟨es, cl, hes, _⟩ := h.kd.of_block hm2
  have hrow : ∀ {B n : Nat} {v : Value} {xs : List Value}, w1.ownsRow B 9 1 v n xs → (ChangeMaps.setBlock w1 m2 ob).ownsRow B 9 1 v n xs := fun {B n v xs} ho =>
    own_move ho (fun b hb => hoth b (fun e1 => own_not_block ho hes (fun _ e => by cases e) (by rw [hb, e1])))
  have hgm : g ≠ m2 := fun e => by
    have hb := h.blk
    rw [← lo g (by omega), e, hes] at hb
    cases hb
  refine ⟨ob, hob, ⟨(hoth g hgm).trans ((lo g (by omega)).trans h.blk), hrow (own_move h.cr (fun b hb => lo b (h.crl b hb))), h.crl, ?_, ?_, ?_, ?_, hgl, hml, ?_, ?_, ?_, ?_, h0⟩⟩
  · have e : (fun x => ((if x = y then some l' else K x).map fun _ => if x = y then v' else U x)) = putM (fun x => (K x).map fun _ => U x) y v' := by
      funext x
      unfold putM
      by_cases hx : x = y
      · simp [hx]
      · simp [hx]
    rw [e]; exact hm
  · intro x l hx
    try simp only at hx ⊢
    by_cases hxy : x = y
    · rw [if_pos hxy] at hx ⊢
      cases hx
      exact ⟨hl', hrow hown⟩
    · rw [if_neg hxy] at hx ⊢
      have ho := (h.kr x l hx).2
      refine ⟨(h.kr x l hx).1, hrow (own_move ho (fun b hb => hg.block b (own_lt ho b hb) (fun e => ?_)))⟩
      rcases hv0 with e2 | ⟨ly, hly, hUy⟩
      · rw [e2] at e; cases e
      · exact hxy (h.ks x y l ly hx hly (by rw [hb, hUy, ← e]))
  · intro x z lx lz hx hz he
    try simp only at hx hz he
    have hne : ∀ u lu, u ≠ y → K u = some lu → v'.ownBlock ≠ (U u).ownBlock := fun u lu huy hu e => by
      have ho := (h.kr u lu hu).2
      rcases hv' with e2 | ⟨b, e2, hbw⟩
      · rcases hv0 with e3 | ⟨ly, hly, hUy⟩
        · have hn := (h.kr u lu hu).1
          rcases ho.2 with ⟨_, hl0⟩ | ⟨b, cap, cur, hv, _⟩
          · exact hn (List.eq_nil_of_length_eq_zero hl0)
          · rw [e2, e3, hv] at e; cases e
        · exact huy (h.ks u y lu ly hu hly (by rw [hUy, ← e2, e]))
      · have := own_lt ho b (by rw [← e, e2])
        omega
    by_cases hxy : x = y
    · by_cases hzy : z = y
      · rw [hxy, hzy]
      · rw [if_pos hxy, if_neg hzy] at he
        rw [if_neg hzy] at hz
        exact absurd he (hne z lz hzy hz)
    · rw [if_neg hxy] at hx he
      by_cases hzy : z = y
      · rw [if_pos hzy] at he
        exact absurd he.symm (hne x lx hxy hx)
      · rw [if_neg hzy] at hz he
        exact h.ks x z lx lz hx hz he
  · intro k hk h2 h3
    rw [hoth k h3, lo k (by omega)]
    exact h.keep k hk h2 h3
  · exact hg.os.trans h.os
  · exact hg.tape.trans h.tape
  · exact hg.output.trans h.output
  · refine Nat.le_trans h1 (Nat.le_trans hg.size ?_)
    simp [ChangeMaps.setBlock]
end Go.Proofs.Ytdlilbleohlmnaa.PAq
namespace Go.Proofs.Ytdlilbleohlmnaa.PAq
open Go.RowKit Go.Lib Go.Sort Go.Proofs.YtdlilbleohlmnaaW.PrintWords Go.Proofs.YtdlilbleohlmnaaW.PrintLast
theorem SA.iter {w0 w w1 : World} {g m1 m2 rb : Nat} {vC : Value} {codes : List ByteArray} (h : SA w0 w g m1 m2 vC codes) (hg : w.grownBy w1 (some rb)) (hrb : w0.heap.size ≤ rb) (hgl : g < w0.heap.size) (hne : ∀ b, vC.ownBlock = some b → b ≠ rb) : SA w0 w1 g m1 m2 vC codes := by
  refine ⟨(hg.block g (Nat.lt_of_lt_of_le hgl h.size) (fun e => by injection e with e; omega)).trans h.blk, own_move h.cr (fun b hb => hg.block b (own_lt h.cr b hb) (fun e => by injection e with e; exact hne b hb e)), fun k hk hkg => ?_, hg.os.trans h.os, hg.tape.trans h.tape, hg.output.trans h.output, Nat.le_trans h.size hg.size⟩
  rw [hg.block k (Nat.lt_of_lt_of_le hk h.size) (fun e => by injection e with e; omega)]
  exact h.keep k hk hkg
theorem strs_app (l : List ByteArray) (x : ByteArray) : strs (l ++ [x]) = strs l ++ [.string x] := by simp [strs]
def ChsPost (g m1 m2 : Nat) (w : World) (e : Ending) (w' : World) : Prop :=
  e = .returned (.tuple #[]) ∧ ∃ vC, w'.heap[g]? = some (.cells #[.map (some m1), .map (some m2), vC] 85 (0, 0)) ∧ (∀ k, k < w.heap.size → k ≠ g → k ≠ m2 → w'.heap[k]? = w.heap[k]?) ∧ w'.os = w.os ∧ w'.tape = w.tape ∧ w'.output = w.output ∧ w.heap.size ≤ w'.heap.size
set_option maxHeartbeats 4000000 in
set_option maxRecDepth 100000 in
theorem go_chsort (g m1 m2 : Nat) (MV : ByteArray → Option Value) (xs : List ByteArray) (w : World) (hblk : w.heap[g]? = some (.cells #[.map (some m1), .map (some m2), .slice none 0 0] 85 (0, 0)))
    (hm : MapAt Try.prog 9 encS w m1 MV) (hk : MapAt Try.prog 9 encS w m2 (fun _ => none)) (hd : m1 ≠ m2) (hxs : ∀ x, (MV x).isSome = true → x ∈ xs) (hxl : xs.length ≤ 1000) (hxz : ∀ x ∈ xs, x.size ≤ maxLen) (hval : ∀ x v, MV x = some v → ∃ (a : Acct) (s : Value), v = acctV a s ∧ a.f1.size ≤ maxLen) :
    Calls Try.prog 46 #[.pointer (some ⟨g, 0, none⟩)] w fun e w' => ChsPost g m1 m2 w e w' := by
  obtain ⟨i0, hi0, hi1, hi2, hi3⟩ := info_parts_ info_str
  have hgl : g < w.heap.size := (Array.getElem?_eq_some_iff.mp hblk).1
  have hgm : g ≠ m1 := fun e => by
    obtain ⟨es, cl, hb, _⟩ := hm
    rw [← e, hblk] at hb; cases hb
  have hc0 := blk_cell hblk 0
  obtain ⟨todo0, ito, hrun0, hR0, hnd0, hmem0⟩ := MapAt.start hm encS_inj Try.underlying82
  have htl : todo0.length ≤ 1000 := Nat.le_trans (List.Nodup.length_le_of_subset hnd0 (fun x hx => hxs x ((hmem0 x).mp hx))) hxl
  have hsa : SA w (w.alloc ito) g m1 m2 (.slice none 0 0) [] := ⟨(Below.heap_alloc w ito g hgl).trans hblk, ⟨rfl, .inl ⟨rfl, rfl⟩⟩, fun k hk _ => Below.heap_alloc w ito k hk, rfl, rfl, rfl, by simp⟩
  have SA_blk0 := Lib.hid hblk
  have HSA := Lib.hid hsa; have HR0 := Lib.hid hR0; have HM := Lib.hid hm; have HK := Lib.hid hk; have HXS := Lib.hid hxs; have HXZ := Lib.hid hxz; have HV := Lib.hid hval; have HMEM := Lib.hid hmem0
  have HD := Lib.hid hd; have HGM := Lib.hid hgm; have HXL := Lib.hid hxl
  obtain ⟨rb, erb⟩ : ∃ z, w.heap.size = z := ⟨_, rfl⟩
  have HRB := Lib.hid erb
  rw [erb] at hrun0 HR0
  obtain ⟨w1, hw1⟩ : ∃ W, w.alloc ito = W := ⟨_, rfl⟩
  rw [hw1] at hrun0 HSA HR0
  clear hsa hm hk hxs hxz hval hR0 hmem0 hnd0 hblk hd hgm hxl erb
  go_enter Try.func46, Try.ntmps46
  go_wp2
  go_loopg [2] todo0.length (fun gk v2 wr => ∃ (todo codes : List ByteArray) (vC : Value), gk = todo.length ∧ Hid (SA w wr g m1 m2 vC codes) ∧ Hid (RangeAt Try.prog 9 encS wr m1 rb MV todo) ∧ Hid (codes.length + todo.length ≤ 1000) ∧ Hid (∀ x ∈ codes, x ∈ xs))
  case atStart => exact ⟨todo0, [], _, rfl, HSA, HR0, Lib.hid (by simpa using htl), Lib.hid (fun x hx => by cases hx)⟩
  case round =>
    obtain ⟨todo, codes, vC, rfl, HS, HR, HL, HX⟩ := hrel
    clear HSA HR0 hrun0 hc0 hw1 htl
    rcases HR.out.next encS_inj 0 with ⟨rfl, hrun⟩ | ⟨l1, x, l2, vx, wn, rfl, hMx, hrun, hRn, hgr, hszn, hent⟩
    · have hc2 := blk_cell HS.out.blk 2
      obtain ⟨Ac, cc, hv, _⟩ := own_form HS.out.cr
      subst hv
      have hlc : codes.length ≤ 1000 := by have := HL.out; simp at this; omega
      go_wp2_with fail
      refine (go_sortS HS.out.cr HS.out.size (by omega)).mono ?_
      rintro e wk ⟨rfl, cs, hcl, hcm, hownk, hbk, hfrk⟩
      have hblkk : wk.heap[g]? = some (.cells #[.map (some m1), .map (some m2), .slice Ac codes.length cc] 85 (0, 0)) := (hfrk g (Nat.lt_of_lt_of_le hgl HS.out.size) (fun e => own_ne_of HS.out.cr HS.out.blk (by decide) e.symm)).trans HS.out.blk
      have hm2l := HK.out.lt
      have hrowk : ∀ b, (Value.slice Ac codes.length cc).ownBlock = some b → w.heap.size ≤ b := fun b hb => by
        rcases HS.out.cr.2 with ⟨hv, _⟩ | ⟨b', cap, cur, hv, hb', _⟩
        · rw [hv] at hb; cases hb
        · rw [hv] at hb; injection hb with hb; rw [← hb]; exact hb'
      have hkeepk : ∀ k, k < w.heap.size → k ≠ g → wk.heap[k]? = w.heap[k]? := fun k hk hkg => (hfrk k (Nat.lt_of_lt_of_le hk HS.out.size) (fun e => by have := hrowk k e.symm; omega)).trans (HS.out.keep k hk hkg)
      have hgm2 : m2 ≠ g := fun e => by
        obtain ⟨es, cl, hb, _⟩ := HK.out
        have h1 := HS.out.keep
        have h2 := SA_blk0.out
        rw [← e, hb] at h2; cases h2
      have hsc : SC w wk wk g m1 m2 (.slice Ac codes.length cc) cs (fun _ => .slice none 0 0) (fun _ => none) := ⟨hblkk, by rw [← hcl] at hownk ⊢; exact hownk, fun b hb => own_lt hownk b hb, HK.out.of_block (hkeepk m2 hm2l hgm2), fun x l h => by (cases h), fun x y lx ly h => by (cases h), fun k hk h1 _ => hkeepk k hk h1, hgl, hm2l, hbk.os.trans HS.out.os, hbk.tape.trans HS.out.tape, hbk.output.trans HS.out.output, Nat.le_refl _, Nat.le_trans HS.out.size hbk.size⟩
      have HSC := Lib.hid hsc
      have HCM := Lib.hid (fun x hx => HX.out x (hcm x hx))
      have hc2k := blk_cell hblkk 2
      have HM1 := Lib.hid (show m1 < w.heap.size ∧ m1 ≠ g from ⟨HM.out.lt, fun e => HGM.out e.symm⟩)
      have HWW := Lib.hid (Nat.le_trans HS.out.size hbk.size)
      obtain ⟨nc, enc_⟩ : ∃ q, codes.length = q := ⟨_, rfl⟩
      rw [enc_] at hc2k HSC hcl hlc ⊢
      have HCL := Lib.hid hcl
      clear hsc hcl hcm hownk hbk hfrk hblkk hrowk hkeepk hgm2 HS HR HL HX hrun hc2 enc_
      go_wp2_with fail
      go_loopg [35] nc (fun gk v35 wr => ∃ (k : Nat) (U : ByteArray → Value) (K : ByteArray → Option (List ByteArray)), gk = nc - k ∧ k ≤ nc ∧ v35 = .int .i64 k ∧ Hid (SC w wk wr g m1 m2 (.slice Ac nc cc) cs U K) ∧ Hid (∀ x, ((K x).getD []).length ≤ k))
      case atStart => exact ⟨0, _, _, rfl, by omega, rfl, HSC, Lib.hid (fun x => Nat.le_refl 0)⟩
      case round =>
        obtain ⟨k, U, K, rfl, hk, rfl, HSC, HLN⟩ := hrel
        clear hc2k
        by_cases hlt : k < nc
        · have hltz : (k : Int) < (nc : Int) := by omega
          have hkc : k < cs.length := by rw [HCL.out]; exact hlt
          obtain ⟨x, hx⟩ : ∃ x, cs[k] = x := ⟨_, rfl⟩
          have hxm : x ∈ xs := HCM.out x (by rw [← hx]; exact List.getElem_mem hkc)
          obtain ⟨bq, hbq, hcq⟩ : ∃ bq, Ac = some ⟨bq, 0, none⟩ ∧ wr.cell? ⟨bq, k, none⟩ = some (.string x) := by
            rcases HSC.out.cr.2 with ⟨_, h0⟩ | ⟨b, cap, cur, hv, _, hh, _, _, _, htk⟩
            · omega
            · injection hv with ha _ _
              refine ⟨b, ha, ?_⟩
              have h1 : (strs cs)[k]? = some (.string x) := by rw [strs, List.getElem?_map, List.getElem?_eq_getElem hkc, hx]; rfl
              rw [← htk, List.getElem?_take, if_pos (by omega), Array.getElem?_toList] at h1
              rw [blk_cell hh, h1]
          subst hbq
          have hgk := HSC.out.blk
          have hm1k : MapAt Try.prog 9 encS wr m1 MV := HM.out.of_block (HSC.out.keep m1 HM1.out.1 HM1.out.2 HD.out)
          obtain ⟨kl, hkl⟩ := key_s (HXZ.out x hxm)
          have hlk := hm1k.lookup str_keyed encS_inj Try.underlying82 (z := acctV za (.slice none 0 0)) (by kernel_rfl) false x hkl
          rw [show encS x = .string x from rfl, if_neg (by decide)] at hlk
          obtain ⟨au, su, hau, hys⟩ : ∃ (a : Acct) (s : Value), (MV x).getD (acctV za (.slice none 0 0)) = acctV a s ∧ a.f1.size ≤ maxLen := by
            cases hmx : MV x with
            | none => exact ⟨za, _, rfl, (show (0 : Nat) ≤ maxLen from Nat.zero_le _)⟩
            | some v => exact HV.out x v hmx
          rw [hau] at hlk
          unfold acctV at hlk
          obtain ⟨y, hy⟩ : ∃ y, au.f1 = y := ⟨_, rfl⟩
          rw [hy] at hlk hys
          have hfld : ∀ W, (Instr.field 62 (.agg #[.string au.f0, .string y, .int .i64 au.f2, .bool au.f3, .string au.f4, .bool au.f5, .bool au.f6, su]) 1).run Try.prog W = .ok (.string y) W := fun W => by kernel_rfl
          have hc0k := blk_cell hgk 0
          have HYS := Lib.hid hys
          clear hm1k hau hys hxm hx hy
          go_upto_region 9 with fail
          obtain ⟨A0, c0, hown0, hU0, hU1, hlook0⟩ := HSC.out.look y HYS.out
          obtain ⟨l0, hl0⟩ : ∃ l, (K y).getD [] = l := ⟨_, rfl⟩
          have hln0 := HLN.out y
          rw [hl0] at hown0 hU0 hlook0 hln0
          obtain ⟨n0, hn0⟩ : ∃ q, l0.length = q := ⟨_, rfl⟩
          rw [hn0] at hown0 hU0 hlook0 hln0
          have hrow0 : ∀ b, (Value.slice A0 n0 c0).ownBlock = some b → wk.heap.size ≤ b ∧ b < wr.heap.size := fun b hb => ⟨by
            rcases hown0.2 with ⟨hv, _⟩ | ⟨b', cap, cur, hv, hb', _⟩
            · rw [hv] at hb; cases hb
            · rw [hv] at hb; injection hb with hb; rw [← hb]; exact hb', own_lt hown0 b hb⟩
          have hv0 : (Value.slice A0 n0 c0) = .slice none 0 0 ∨ ∃ l, K y = some l ∧ U y = .slice A0 n0 c0 := by
            cases hky : K y with
            | none =>
              rw [hky] at hl0
              have : n0 = 0 := by rw [← hn0, ← hl0]; rfl
              obtain ⟨e1, e2⟩ := hU1 hky
              rw [e1, e2, this]
              exact .inl rfl
            | some l => exact .inr ⟨l, rfl, hU0 l hky⟩
          have HO0 := Lib.hid hown0
          have HWK := Lib.hid HSC.out.wks
          have HST := Lib.hid (fun (v9 : Value) (w9 : World) (hg9 : wr.grownBy w9 (Value.slice A0 n0 c0).ownBlock) (ho9 : w9.ownsRow wk.heap.size 9 1 v9 (n0 + 1) (strs l0 ++ [.string x])) (hf9 : v9.ownBlock = (Value.slice A0 n0 c0).ownBlock ∨ ∃ b, v9.ownBlock = some b ∧ wr.heap.size ≤ b) => HSC.out.store y HYS.out (v0 := .slice A0 n0 c0) (v' := v9) (l' := l0 ++ [x]) (by simp) hv0 hrow0 hg9 (by rw [strs_app, List.length_append, hn0]; exact ho9) hf9)
          have HS9 := Lib.hid (show ∀ w' : World, wr.grownBy w' (Value.slice A0 n0 c0).ownBlock → w'.cell? ⟨g, 1, none⟩ = some (.map (some m2)) ∧ (Instr.lookup 83 (.map (some m2)) (.string y) false).run Try.prog w' = .ok (.slice A0 n0 c0) w' from fun w' gr => by
            have b1 := gr.block g (Nat.lt_of_lt_of_le hgl (Nat.le_trans HWW.out HSC.out.wks)) (fun e => by have := (hrow0 g e.symm).1; have := HWW.out; omega)
            have b2 := gr.block m2 (Nat.lt_of_lt_of_le HSC.out.ml (Nat.le_trans HWW.out HSC.out.wks)) (fun e => by have := (hrow0 m2 e.symm).1; have := HWW.out; have := HSC.out.ml; omega)
            exact ⟨blk_cell (b1.trans hgk) 1, hlook0 w' b2⟩)
          have HLN2 : Hid (∀ z, (((if z = y then some (l0 ++ [x]) else K z)).getD []).length ≤ k + 1) := Lib.hid (fun z => by
            by_cases hz : z = y
            · rw [if_pos hz, Option.getD_some, List.length_append, hn0]; simp; exact hln0
            · rw [if_neg hz]; have := HLN.out z; omega)
          have gr0 : wr.grownBy wr.drew (Value.slice A0 n0 c0).ownBlock := ⟨rfl, rfl, rfl, Nat.le_refl _, fun _ _ _ => rfl⟩
          clear hown0 hU0 hU1 hlook0 hl0 hrow0 hv0 hgk HSC hn0 hlk hc0k hcq hfld
          refine start_ (n := 15) (S := fun w' => w'.cell? ⟨g, 1, none⟩ = some (.map (some m2)) ∧ (Instr.lookup 83 (.map (some m2)) (.string y) false).run Try.prog w' = .ok (.slice A0 n0 c0) w') (ds := [14]) #[false, false, false, false, false, false, false, false, false, false, false, false, false, false, false] (by kernel_rfl) rfl rfl ⟨(HS9.out _ gr0).1, (HS9.out _ gr0).2⟩ (fun hHeld => ?_)
          refine pure_ (i := 0) (N := some 46) (v := ?_) (a' := ?_) #[true, false, false, false, false, false, false, false, false, false, false, false, false, false, false] rfl rfl (by kernel_rfl) (fun _ _ _ h => h) (Or.inl ⟨by rfl, ?_⟩) ?_ ?_
          rotate_left
          · intro w'
            go_simp
            with_reducible rfl
          rotate_left
          · simp only [Act.put, pkA, pkZ, pkS, i64_w, i32_w]
            rfl
          refine pure_ (i := 1) (N := some 47) (v := ?_) (a' := ?_) #[true, true, false, false, false, false, false, false, false, false, false, false, false, false, false] rfl rfl (by kernel_rfl) (fun _ _ _ h => h) (Or.inl ⟨by rfl, ?_⟩) ?_ ?_
          rotate_left
          · intro w'
            go_simp
            with_reducible rfl
          rotate_left
          · simp only [Act.put, pkA, pkZ, pkS, i64_w, i32_w]
            rfl
          refine pure_ (i := 2) (N := some 48) (v := ?_) (a' := ?_) #[true, true, true, false, false, false, false, false, false, false, false, false, false, false, false] rfl rfl (by kernel_rfl) (fun _ _ _ h => h) (Or.inl ⟨by rfl, ?_⟩) ?_ ?_
          rotate_left
          · intro w'
            go_simp
            with_reducible rfl
          rotate_left
          · simp only [Act.put, pkA, pkZ, pkS, i64_w, i32_w]
            rfl
          refine pure_ (i := 4) (N := some 50) (v := ?_) (a' := ?_) #[true, true, true, false, true, false, false, false, false, false, false, false, false, false, false] rfl rfl (by kernel_rfl) (fun _ _ _ h => h) (Or.inl ⟨by rfl, ?_⟩) ?_ ?_
          rotate_left
          · intro w'
            go_simp
            with_reducible rfl
          rotate_left
          · simp only [Act.put, pkA, pkZ, pkS, i64_w, i32_w]
            rfl
          refine pure_ (i := 5) (N := some 51) (v := ?_) (a' := ?_) #[true, true, true, false, true, true, false, false, false, false, false, false, false, false, false] rfl rfl (by kernel_rfl) (fun _ _ _ h => h) (Or.inl ⟨by rfl, ?_⟩) ?_ ?_
          rotate_left
          · intro w'
            go_simp
            with_reducible rfl
          rotate_left
          · simp only [Act.put, pkA, pkZ, pkS, i64_w, i32_w]
            rfl
          refine pure_ (i := 6) (N := some 52) (v := ?_) (a' := ?_) #[true, true, true, false, true, true, true, false, false, false, false, false, false, false, false] rfl rfl (by kernel_rfl) (fun _ _ _ h => h) (Or.inl ⟨by rfl, ?_⟩) ?_ ?_
          rotate_left
          · intro w'
            go_simp
            with_reducible rfl
          rotate_left
          · simp only [Act.put, pkA, pkZ, pkS, i64_w, i32_w]
            rfl
          refine pure_ (i := 7) (N := some 53) (v := ?_) (a' := ?_) #[true, true, true, false, true, true, true, true, false, false, false, false, false, false, false] rfl rfl (by kernel_rfl) (fun _ _ _ h => h) (Or.inl ⟨by rfl, ?_⟩) ?_ ?_
          rotate_left
          · intro w'
            go_simp
            with_reducible rfl
          rotate_left
          · simp only [Act.put, pkA, pkZ, pkS, i64_w, i32_w]
            rfl
          refine pure_ (i := 9) (N := some 55) (v := ?_) (a' := ?_) #[true, true, true, false, true, true, true, true, false, true, false, false, false, false, false] rfl rfl (by kernel_rfl) (fun _ _ _ h => h) (Or.inl ⟨by rfl, ?_⟩) ?_ ?_
          rotate_left
          · intro w'
            go_simp
            with_reducible rfl
          rotate_left
          · simp only [Act.put, pkA, pkZ, pkS, i64_w, i32_w]
            rfl
          refine pure_ (i := 11) (N := some 57) (v := ?_) (a' := ?_) #[true, true, true, false, true, true, true, true, false, true, false, true, false, false, false] rfl rfl (by kernel_rfl) (fun _ _ _ h => h) (Or.inl ⟨by rfl, ?_⟩) ?_ ?_
          rotate_left
          · intro w'
            go_simp
            with_reducible rfl
          rotate_left
          · simp only [Act.put, pkA, pkZ, pkS, i64_w, i32_w]
            rfl
          refine take_ (i := 3) (N := some 49) (v := ?_) (a' := ?_) #[true, true, true, true, true, true, true, true, false, true, false, true, false, false, false] rfl rfl (by kernel_rfl) (fun _ _ _ h => h) (Or.inl ⟨by rfl, ?_⟩) hHeld ?_ ?_
          rotate_left
          · rintro w' ⟨s0, s1⟩
            go_simp
            with_reducible rfl
          rotate_left
          · simp only [Act.put, pkA, pkZ, pkS, i64_w, i32_w]
            rfl
          refine take_ (i := 8) (N := some 54) (v := ?_) (a' := ?_) #[true, true, true, true, true, true, true, true, true, true, false, true, false, false, false] rfl rfl (by kernel_rfl) (fun _ _ _ h => h) (Or.inl ⟨by rfl, ?_⟩) hHeld ?_ ?_
          rotate_left
          · rintro w' ⟨s0, s1⟩
            go_simp
            with_reducible rfl
          rotate_left
          · simp only [Act.put, pkA, pkZ, pkS, i64_w, i32_w]
            rfl
          refine take_ (i := 10) (N := some 56) (v := ?_) (a' := ?_) #[true, true, true, true, true, true, true, true, true, true, true, true, false, false, false] rfl rfl (by kernel_rfl) (fun _ _ _ h => h) (Or.inl ⟨by rfl, ?_⟩) hHeld ?_ ?_
          rotate_left
          · rintro w' ⟨s0, s1⟩
            go_simp
            with_reducible rfl
          rotate_left
          · simp only [Act.put, pkA, pkZ, pkS, i64_w, i32_w]
            rfl
          refine one_ (i := 12) (N := some 58) #[true, true, true, true, true, true, true, true, true, true, true, true, true, false, false] rfl rfl (by kernel_rfl) (by decide) (fun K hK => ?_)
          refine value_ (w1 := ?_) (v := ?_) (by rfl) rfl ?_ ?_
          rotate_left 2
          · go_simp
            constructor
            · rfl
            · rfl
          have gr8 : wr.grownBy ((wr.alloc (.cells #[.string x] 9)).drew) (Value.slice A0 n0 c0).ownBlock := grown_below (show wr.grownBy wr (Value.slice A0 n0 c0).ownBlock from ⟨rfl, rfl, rfl, Nat.le_refl _, fun _ _ _ => rfl⟩) (((Below.refl _ _).alloc (Nat.le_refl _) _).drew)
          have own8 : ((wr.alloc (.cells #[.string x] 9)).drew).ownsRow wk.heap.size 9 1 (.slice A0 n0 c0) n0 (strs l0) := pw_own_below HO0.out (((Below.refl _ _).alloc (Nat.le_refl _) _).drew)
          have ng : ((wr.alloc (.cells #[.string x] 9)).drew).heap[wr.heap.size]? = some (.cells #[.string x] 9 (0, 0)) := (Go.MapKept.heap_alloc wr (.cells #[.string x] 9)).1
          have HB8 := Lib.hid (show wk.heap.size ≤ ((wr.alloc (.cells #[.string x] 9)).drew).heap.size ∧ wr.heap.size ≤ ((wr.alloc (.cells #[.string x] 9)).drew).heap.size from ⟨Nat.le_trans HWK.out gr8.size, gr8.size⟩)
          obtain ⟨zg, hzg⟩ : ∃ z, wr.heap.size = z := ⟨_, rfl⟩
          rw [hzg] at ng ⊢
          obtain ⟨w8, hw8⟩ : ∃ W, (wr.alloc (.cells #[.string x] 9)).drew = W := ⟨_, rfl⟩
          rw [hw8] at gr8 own8 ng HB8 ⊢
          clear hw8 hzg
          refine hK.out _ _ ⟨(HS9.out _ gr8).1, (HS9.out _ gr8).2⟩ (fun hHeld => ?_)
          clear hK K
          refine norm_ (a' := ?_) ?_ ?_
          rotate_left
          · show Act.put _ (some 58) _ = _
            simp only [Act.put, pkA, pkZ, pkS, i64_w, i32_w]
            rfl
          refine one_ (i := 13) (N := some 59) #[true, true, true, true, true, true, true, true, true, true, true, true, true, true, false] rfl rfl (by kernel_rfl) (by decide) (fun K hK => ?_)
          refine step_append_any (by rfl) (.tmp 56) (.tmp 58) 48 (by rfl) wk.heap.size 9 i0 _ 1 16 Try.underlying48 hi0 hi1 hi2 hi3 rfl (by omega) _ n0 (strs l0) (by rfl) own8 _ 1 _ [.string x] (by rfl) rfl (fun j u hu => ⟨_, rfl, World.news_of_block ng j u hu⟩) (by intro u hu; simp at hu; subst hu; rfl) (by unfold maxLen; omega) (by omega) HB8.out.1 ?_
          intro v9 w9 own9 gr9 fr9
          have gr9a := grown_then gr8 gr9 (.inl rfl)
          obtain ⟨ob, hob, hSC⟩ := HST.out v9 w9 gr9a own9 (fr9.imp id fun e => ⟨_, e, HB8.out.2⟩)
          refine hK.out _ _ ⟨(HS9.out _ gr9a).1, (HS9.out _ gr9a).2⟩ (fun hHeld => ?_)
          clear hK K
          refine norm_ (a' := ?_) ?_ ?_
          rotate_left
          · show Act.put _ (some 59) _ = _
            simp only [Act.put, pkA, pkZ, pkS, i64_w, i32_w]
            rfl
          refine last_ (i := 14) (N := none) #[true, true, true, true, true, true, true, true, true, true, true, true, true, true, true] rfl rfl (by kernel_rfl) (by decide) (fun K hK => ?_)
          refine skip_ (w1 := ?_) (by rfl) rfl ?_ ?_
          rotate_left
          · go_simp
            rfl
          refine hK.out _ _ ?_
          clear hK K
          refine done_ (by kernel_rfl) ?_
          clear hHeld
          obtain ⟨wf, hwf⟩ : ∃ W, ChangeMaps.setBlock w9 m2 ob = W := ⟨_, rfl⟩
          rw [hwf] at hSC ⊢
          have HSC2 := Lib.hid hSC
          clear hwf hSC hob gr9a gr9 own9 fr9 gr8 own8 ng HB8 HST HS9 HO0 gr0
          go_wp2_with fail
          go_roundg (nc - (k + 1))
          case measure => omega
          case rel => exact ⟨k + 1, _, _, rfl, by omega, by go_num, HSC2, HLN2⟩
        · have hltz : ¬ ((k : Int) < (nc : Int)) := by omega
          have hfin := HSC.out
          go_wp2_with fail
          go_end0
          exact ⟨rfl, _, hfin.blk, hfin.keep, hfin.os, hfin.tape, hfin.output, Nat.le_trans hfin.w0s hfin.wks⟩
    · rw [show encS x = .string x from rfl] at hrun hent
      have hrbl := HR.out.lt.2
      have hne : ∀ b, vC.ownBlock = some b → b ≠ rb := fun b hb e => by
        obtain ⟨es, cl, since, seen, c0, h1, h2, h3, h4, h5, _⟩ := HR.out
        exact own_not_block HS.out.cr h5 (fun _ e => by cases e) (by rw [hb, e])
      obtain ⟨Ac, cc, hvc, _⟩ := own_form HS.out.cr
      subst hvc
      have HSN := Lib.hid (HS.out.iter hgr (by rw [HRB.out]; exact Nat.le_refl _) hgl hne)
      have hc2 := blk_cell HSN.out.blk 2
      have hf2 := blk_frozen HSN.out.blk 2
      have HRN := Lib.hid hRn
      have HNB := Lib.hid (Go.MapKept.heap_alloc wn (.cells #[.string x] 9)).1
      have HSB := Lib.hid (HSN.out.below ((Below.refl _ _).alloc (Nat.le_refl _) (.cells #[.string x] 9)))
      have hlen : codes.length + 1 ≤ 1000 := by have := HL.out; simp at this; omega
      have HBS := Lib.hid (show w.heap.size ≤ (wn.alloc (.cells #[.string x] 9)).heap.size from Nat.le_trans HSN.out.size (by simp))
      clear hRn hgr hne hrbl hszn
      go_wp2_with (at_builtin; (refine wpList_append_any rfl (.tmp 19) (.tmp 21) 48 rfl w.heap.size 9 i0 _ 1 16 Try.underlying48 hi0 hi1 hi2 hi3 rfl (by omega) _ codes.length (strs codes) rfl HSB.out.cr _ 1 _ [.string x] rfl rfl (fun j u hu => ⟨_, rfl, World.news_of_block HNB.out j u hu⟩) (by intro u hu; simp at hu; subst hu; rfl) (by unfold maxLen; omega) (by omega) HBS.out ?_; intro v1 w3 own1 gr1 fr1; obtain ⟨A3, c3, hv3, _⟩ := own_form own1; subst hv3; have hb3 : w3.heap[g]? = some (.cells #[.map (some m1), .map (some m2), .slice Ac codes.length cc] 85 (0, 0)) := (gr1.block g (Nat.lt_of_lt_of_le hgl HSB.out.size) (fun e => own_ne_of HSB.out.cr HSB.out.blk (by decide) e.symm)).trans HSB.out.blk; have hg0 := blk_cell hb3 2; have hgf := blk_frozen hb3 2))
      have HS3 := Lib.hid (HSB.out.grown gr1 (codes' := codes ++ [x]) (by rw [strs_app, List.length_append]; exact own1) hgl)
      have hrm : ∀ b, (b = m1 ∨ b = rb) → (w3.setCell ⟨g, 2, none⟩ (.slice A3 (codes.length + 1) c3)).heap[b]? = (wn.alloc (.cells #[.string x] 9)).heap[b]? := by
        intro b hb
        have hbg : b ≠ g := by
          rcases hb with rfl | rfl
          · exact fun e => HGM.out e.symm
          · have := HRB.out; omega
        have hbl : b < (wn.alloc (.cells #[.string x] 9)).heap.size := by
          rw [World.size_alloc]
          rcases hb with rfl | rfl
          · exact Nat.lt_succ_of_lt HRN.out.lt.1
          · exact Nat.lt_succ_of_lt HRN.out.lt.2
        rw [Below.heap_setCell _ _ _ _ hbg]
        refine gr1.block b hbl (fun e => ?_)
        obtain ⟨es, cl, since, seen, c0, h1, h2, h3, h4, h5, _⟩ := (HRN.out.below ((Below.refl _ _).alloc (Nat.le_refl _) (.cells #[.string x] 9)))
        rcases hb with rfl | rfl
        · exact own_not_block HSB.out.cr h1 (fun _ e => by cases e) e.symm
        · exact own_not_block HSB.out.cr h5 (fun _ e => by cases e) e.symm
      have HR3 := Lib.hid ((HRN.out.below ((Below.refl _ _).alloc (Nat.le_refl _) (.cells #[.string x] 9))).of_blocks (hrm m1 (.inl rfl)) (hrm rb (.inr rfl)))
      have hlen2 : codes.length + 1 + (l1 ++ l2).length ≤ 1000 := by have := HL.out; simp at this ⊢; omega
      have HL3 : Hid ((codes ++ [x]).length + (l1 ++ l2).length ≤ 1000) := Lib.hid (by rw [List.length_append]; exact hlen2)
      have HX3 : Hid (∀ y ∈ codes ++ [x], y ∈ xs) := Lib.hid (fun y hy => by
        rcases List.mem_append.mp hy with hy | hy
        · exact HX.out y hy
        · rw [List.mem_singleton.mp hy]
          exact HXS.out x (by rw [hMx]; rfl))
      clear hrm own1 gr1 fr1 hb3 hlen2
      go_roundg (l1 ++ l2).length
      case measure => simp
      case rel => exact ⟨l1 ++ l2, codes ++ [x], _, rfl, HS3, HR3, HL3, HX3⟩
def aloneE (a : Acct) (kn : Bool) : Int := firstE [⟨!namesB a, 7⟩, ⟨decide (a.f2 < 1) || decide (a.f2 > 5), 10⟩, ⟨!a.f4.toList.isEmpty && !codeB a.f4, 13⟩, ⟨kn, 8⟩, ⟨decide (a.f7.length > 6) || !risingB a.f7, 14⟩]
set_option maxHeartbeats 16000000 in
set_option maxRecDepth 100000 in
theorem go_alone (a : Acct) (hs : Sized a) (A : Option Addr) (c g L : Nat) (M : ByteArray → Option Acct) (w : World) (hCh : ChartAt w g L M) (hC : Kd.C Kd.string w A a.f7.length a.f7) (hc : a.f7.length ≤ c) :
    Calls Try.prog 43 #[.pointer (some ⟨g, 0, none⟩), .agg #[.string a.f0, .string a.f1, .int .i64 a.f2, .bool a.f3, .string a.f4, .bool a.f5, .bool a.f6, .slice A a.f7.length c]] w fun e w' => e = .returned (.int .i64 (aloneE a (M a.f0).isSome)) ∧ Below w.heap.size w w' := by
  have hl := hs.2.2.2.1
  obtain ⟨n, hn⟩ : ∃ n, a.f7.length = n := ⟨_, rfl⟩
  obtain ⟨rr, hrr⟩ : ∃ q, aloneE a (M a.f0).isSome = q := ⟨_, rfl⟩
  have HE := Lib.hid (show rr = firstE [⟨!namesB a, 7⟩, ⟨decide (a.f2 < 1) || decide (a.f2 > 5), 10⟩, ⟨!a.f4.toList.isEmpty && !codeB a.f4, 13⟩, ⟨(M a.f0).isSome, 8⟩, ⟨decide (n > 6) || !risingB a.f7, 14⟩] by rw [← hrr, ← hn]; rfl)
  rw [hrr]
  clear hrr
  have HN := Lib.hid hn
  have HC := Lib.hid hC; have HSZ := Lib.hid hs; have HCH := Lib.hid hCh; have HCC := Lib.hid hc
  rw [hn] at hl ⊢
  have gr1 : Below w.heap.size w ((w.alloc (.cells #[.pointer (some ⟨g, 0, none⟩)] 39)).alloc (.cells #[.string a.f0, .string a.f1, .int .i64 a.f2, .bool a.f3, .string a.f4, .bool a.f5, .bool a.f6, .slice A n c] 62)) := ((Below.refl _ _).alloc (Nat.le_refl _) _).alloc (by simp) _
  have h2 := (Below.heap_alloc (w.alloc (.cells #[.pointer (some ⟨g, 0, none⟩)] 39)) (.cells #[.string a.f0, .string a.f1, .int .i64 a.f2, .bool a.f3, .string a.f4, .bool a.f5, .bool a.f6, .slice A n c] 62) w.heap.size (by simp)).trans (Go.MapKept.heap_alloc w (.cells #[.pointer (some ⟨g, 0, none⟩)] 39)).1
  have h3 := (Go.MapKept.heap_alloc (w.alloc (.cells #[.pointer (some ⟨g, 0, none⟩)] 39)) (.cells #[.string a.f0, .string a.f1, .int .i64 a.f2, .bool a.f3, .string a.f4, .bool a.f5, .bool a.f6, .slice A n c] 62)).1
  rw [World.size_alloc] at h3
  clear hn hC hs hCh hc
  go_enter Try.func43, Try.ntmps43
  go_upto_region 2 with fail
  obtain ⟨w1, hw1⟩ : ∃ W, (w.alloc (.cells #[.pointer (some ⟨g, 0, none⟩)] 39)).alloc (.cells #[.string a.f0, .string a.f1, .int .i64 a.f2, .bool a.f3, .string a.f4, .bool a.f5, .bool a.f6, .slice A n c] 62) = W := ⟨_, rfl⟩
  obtain ⟨z3, ez3⟩ : ∃ z, w.heap.size + 1 = z := ⟨_, rfl⟩
  obtain ⟨z2, ez2⟩ : ∃ z, w.heap.size = z := ⟨_, rfl⟩
  rw [hw1] at gr1 h2 h3 ⊢
  rw [ez3] at h3 ⊢
  rw [ez2] at h2 ⊢
  have HG := Lib.hid gr1
  have HS := Lib.hid (show ∀ w' : World, Below w1.heap.size w1 w' → w'.cell? ⟨z3, 0, none⟩ = some (.string a.f0) ∧ w'.cell? ⟨z3, 1, none⟩ = some (.string a.f1) ∧ w'.cell? ⟨z3, 2, none⟩ = some (.int .i64 a.f2) ∧ w'.cell? ⟨z3, 3, none⟩ = some (.bool a.f3) ∧ w'.cell? ⟨z3, 4, none⟩ = some (.string a.f4) ∧ w'.cell? ⟨z3, 5, none⟩ = some (.bool a.f5) ∧ w'.cell? ⟨z3, 6, none⟩ = some (.bool a.f6) ∧ w'.cell? ⟨z3, 7, none⟩ = some (.slice A n c) from fun w' gr => by
    have h := (gr.block z3 (Array.getElem?_eq_some_iff.mp h3).1).trans h3
    exact ⟨blk_cell h 0, blk_cell h 1, blk_cell h 2, blk_cell h 3, blk_cell h 4, blk_cell h 5, blk_cell h 6, blk_cell h 7⟩)
  have HNM : Hid (∀ W : World, Below w1.heap.size w1 W → Calls Try.prog 72 #[.agg #[.string a.f0, .string a.f1, .int .i64 a.f2, .bool a.f3, .string a.f4, .bool a.f5, .bool a.f6, .slice A n c]] W fun e w' => e = .returned (.bool (namesB a)) ∧ Below W.heap.size W w') := Lib.hid (fun W hW => by
    have := go_names a HSZ.out A c W (Kd.C_below (Kd.C_below HC.out HG.out) hW) HCC.out
    rw [HN.out] at this; exact this)
  have HMC : Hid (∀ W : World, Calls Try.prog 50 #[.string a.f4] W fun e w' => e = .returned (.bool (codeB a.f4)) ∧ Below W.heap.size W w') := Lib.hid (fun W => Go.Proofs.Ytdlilbleohlmnaa.money_Code.calls a.f4 W HSZ.out.2.2.1)
  have HKN : Hid (∀ W : World, Below w1.heap.size w1 W → Calls Try.prog 70 #[.string a.f0, .pointer (some ⟨z2, 0, none⟩)] W fun e w' => e = .returned (.bool (M a.f0).isSome) ∧ Below W.heap.size W w') := Lib.hid (fun W hW => go_known a.f0 (Nat.le_trans HSZ.out.1 (by unfold maxLen; omega)) g L z2 M W ((HCH.out.below HG.out).below hW) ((hW.cell (p := ⟨z2, 0, none⟩) (Array.getElem?_eq_some_iff.mp h2).1).trans (blk_cell h2 0)))
  have HRS : Hid (∀ W : World, Below w1.heap.size w1 W → Calls Try.prog 73 #[.slice A n c] W fun e w' => e = .returned (.bool (risingB a.f7)) ∧ Below W.heap.size W w') := Lib.hid (fun W hW => by
    have := go_rising a.f7 HSZ.out.2.2.2.1 A c W (Kd.C_below (Kd.C_below HC.out HG.out) hW) HCC.out
    rw [HN.out] at this; exact this)
  obtain ⟨nm, hnm⟩ : ∃ q, namesB a = q := ⟨_, rfl⟩
  obtain ⟨mc, hmc⟩ : ∃ q, codeB a.f4 = q := ⟨_, rfl⟩
  obtain ⟨kn, hkn⟩ : ∃ q, (M a.f0).isSome = q := ⟨_, rfl⟩
  obtain ⟨rs, hrs⟩ : ∃ q, risingB a.f7 = q := ⟨_, rfl⟩
  rw [hnm] at HNM HE
  rw [hmc] at HMC HE
  rw [hkn] at HKN HE
  rw [hrs] at HRS HE
  have gr1 : Below w1.heap.size w1 w1.drew := (Below.refl _ _).drew
  clear hw1 ez3 ez2 h2 h3 hnm hmc hkn hrs
  by_cases hk : a.f2 < 1
  · have HK := Lib.hid (show decide (a.f2 < 1) = true from decide_eq_true hk)
    by_cases hu : a.f4.toList = []
    · have HU := Lib.hid (show a.f4.toList.isEmpty = true from by rw [hu]; rfl)
      have hub : (a.f4.toList == []) = true := by rw [hu]; rfl
      by_cases h6 : n > 6
      · have H6 := Lib.hid (show decide (n > 6) = true from decide_eq_true h6)
        have hk6 : decide ((n : Int) > 6) = true := decide_eq_true (by omega)
        have hkd : decide (a.f2 < 1) = true := HK.out
        clear h6 hu hk
        refine start_ (n := 42) (S := fun w' => w'.cell? ⟨z3, 0, none⟩ = some (.string a.f0) ∧ w'.cell? ⟨z3, 1, none⟩ = some (.string a.f1) ∧ w'.cell? ⟨z3, 2, none⟩ = some (.int .i64 a.f2) ∧ w'.cell? ⟨z3, 3, none⟩ = some (.bool a.f3) ∧ w'.cell? ⟨z3, 4, none⟩ = some (.string a.f4) ∧ w'.cell? ⟨z3, 5, none⟩ = some (.bool a.f5) ∧ w'.cell? ⟨z3, 6, none⟩ = some (.bool a.f6) ∧ w'.cell? ⟨z3, 7, none⟩ = some (.slice A n c)) (ds := []) #[false, false, false, false, false, false, false, false, false, false, false, false, false, false, false, false, false, false, false, false, false, false, false, false, false, false, false, false, false, false, false, false, false, false, false, false, false, false, false, false, false, false] (by kernel_rfl) rfl rfl ⟨(HS.out _ gr1).1, (HS.out _ gr1).2.1, (HS.out _ gr1).2.2.1, (HS.out _ gr1).2.2.2.1, (HS.out _ gr1).2.2.2.2.1, (HS.out _ gr1).2.2.2.2.2.1, (HS.out _ gr1).2.2.2.2.2.2.1, (HS.out _ gr1).2.2.2.2.2.2.2⟩ (fun hHeld => ?_)
        refine pure_ (i := 4) (N := some 11) (v := ?_) (a' := ?_) #[false, false, false, false, true, false, false, false, false, false, false, false, false, false, false, false, false, false, false, false, false, false, false, false, false, false, false, false, false, false, false, false, false, false, false, false, false, false, false, false, false, false] rfl rfl (by kernel_rfl) (fun _ _ _ h => h) (Or.inl ⟨by rfl, ?_⟩) ?_ ?_
        rotate_left
        · intro w'
          go_simp
          with_reducible rfl
        rotate_left
        · simp only [Act.put, pkA, pkZ, pkS, i64_w, i32_w]
          rfl
        refine pure_ (i := 13) (N := some 20) (v := ?_) (a' := ?_) #[false, false, false, false, true, false, false, false, false, false, false, false, false, true, false, false, false, false, false, false, false, false, false, false, false, false, false, false, false, false, false, false, false, false, false, false, false, false, false, false, false, false] rfl rfl (by kernel_rfl) (fun _ _ _ h => h) (Or.inl ⟨by rfl, ?_⟩) ?_ ?_
        rotate_left
        · intro w'
          go_simp
          with_reducible rfl
        rotate_left
        · simp only [Act.put, pkA, pkZ, pkS, i64_w, i32_w]
          rfl
        refine pure_ (i := 23) (N := some 30) (v := ?_) (a' := ?_) #[false, false, false, false, true, false, false, false, false, false, false, false, false, true, false, false, false, false, false, false, false, false, false, true, false, false, false, false, false, false, false, false, false, false, false, false, false, false, false, false, false, false] rfl rfl (by kernel_rfl) (fun _ _ _ h => h) (Or.inl ⟨by rfl, ?_⟩) ?_ ?_
        rotate_left
        · intro w'
          go_simp
          with_reducible rfl
        rotate_left
        · simp only [Act.put, pkA, pkZ, pkS, i64_w, i32_w]
          rfl
        refine pure_ (i := 24) (N := some 31) (v := ?_) (a' := ?_) #[false, false, false, false, true, false, false, false, false, false, false, false, false, true, false, false, false, false, false, false, false, false, false, true, true, false, false, false, false, false, false, false, false, false, false, false, false, false, false, false, false, false] rfl rfl (by kernel_rfl) (fun _ _ _ h => h) (Or.inl ⟨by rfl, ?_⟩) ?_ ?_
        rotate_left
        · intro w'
          go_simp
          with_reducible rfl
        rotate_left
        · simp only [Act.put, pkA, pkZ, pkS, i64_w, i32_w]
          rfl
        refine pure_ (i := 28) (N := some 35) (v := ?_) (a' := ?_) #[false, false, false, false, true, false, false, false, false, false, false, false, false, true, false, false, false, false, false, false, false, false, false, true, true, false, false, false, true, false, false, false, false, false, false, false, false, false, false, false, false, false] rfl rfl (by kernel_rfl) (fun _ _ _ h => h) (Or.inl ⟨by rfl, ?_⟩) ?_ ?_
        rotate_left
        · intro w'
          go_simp
          with_reducible rfl
        rotate_left
        · simp only [Act.put, pkA, pkZ, pkS, i64_w, i32_w]
          rfl
        refine take_ (i := 0) (N := some 7) (v := ?_) (a' := ?_) #[true, false, false, false, true, false, false, false, false, false, false, false, false, true, false, false, false, false, false, false, false, false, false, true, true, false, false, false, true, false, false, false, false, false, false, false, false, false, false, false, false, false] rfl rfl (by kernel_rfl) (fun _ _ _ h => h) (Or.inl ⟨by rfl, ?_⟩) hHeld ?_ ?_
        rotate_left
        · rintro w' ⟨s0, s1, s2, s3, s4, s5, s6, s7⟩
          go_simp
          with_reducible rfl
        rotate_left
        · simp only [Act.put, pkA, pkZ, pkS, i64_w, i32_w]
          rfl
        refine take_ (i := 5) (N := some 12) (v := ?_) (a' := ?_) #[true, false, false, false, true, true, false, false, false, false, false, false, false, true, false, false, false, false, false, false, false, false, false, true, true, false, false, false, true, false, false, false, false, false, false, false, false, false, false, false, false, false] rfl rfl (by kernel_rfl) (fun _ _ _ h => h) (Or.inl ⟨by rfl, ?_⟩) hHeld ?_ ?_
        rotate_left
        · rintro w' ⟨s0, s1, s2, s3, s4, s5, s6, s7⟩
          go_simp
          with_reducible rfl
        rotate_left
        · simp only [Act.put, pkA, pkZ, pkS, i64_w, i32_w]
          rfl
        refine pure_ (i := 6) (N := some 13) (v := ?_) (a' := ?_) #[true, false, false, false, true, true, true, false, false, false, false, false, false, true, false, false, false, false, false, false, false, false, false, true, true, false, false, false, true, false, false, false, false, false, false, false, false, false, false, false, false, false] rfl rfl (by kernel_rfl) (fun _ _ _ h => h) (Or.inl ⟨by rfl, ?_⟩) ?_ ?_
        rotate_left
        · intro w'
          go_simp
          with_reducible rfl
        rotate_left
        · simp only [Act.put, pkA, pkZ, pkS, i64_w, i32_w]
          rfl
        refine take_ (i := 14) (N := some 21) (v := ?_) (a' := ?_) #[true, false, false, false, true, true, true, false, false, false, false, false, false, true, true, false, false, false, false, false, false, false, false, true, true, false, false, false, true, false, false, false, false, false, false, false, false, false, false, false, false, false] rfl rfl (by kernel_rfl) (fun _ _ _ h => h) (Or.inl ⟨by rfl, ?_⟩) hHeld ?_ ?_
        rotate_left
        · rintro w' ⟨s0, s1, s2, s3, s4, s5, s6, s7⟩
          go_simp
          with_reducible rfl
        rotate_left
        · simp only [Act.put, pkA, pkZ, pkS, i64_w, i32_w]
          rfl
        refine pure_ (i := 15) (N := some 22) (v := ?_) (a' := ?_) #[true, false, false, false, true, true, true, false, false, false, false, false, false, true, true, true, false, false, false, false, false, false, false, true, true, false, false, false, true, false, false, false, false, false, false, false, false, false, false, false, false, false] rfl rfl (by kernel_rfl) (fun _ _ _ h => h) (Or.inl ⟨by rfl, ?_⟩) ?_ ?_
        rotate_left
        · intro w'
          go_simp
          with_reducible rfl
        rotate_left
        · simp only [Act.put, pkA, pkZ, pkS, i64_w, i32_w]
          rfl
        refine take_ (i := 25) (N := some 32) (v := ?_) (a' := ?_) #[true, false, false, false, true, true, true, false, false, false, false, false, false, true, true, true, false, false, false, false, false, false, false, true, true, true, false, false, true, false, false, false, false, false, false, false, false, false, false, false, false, false] rfl rfl (by kernel_rfl) (fun _ _ _ h => h) (Or.inl ⟨by rfl, ?_⟩) hHeld ?_ ?_
        rotate_left
        · rintro w' ⟨s0, s1, s2, s3, s4, s5, s6, s7⟩
          go_simp
          with_reducible rfl
        rotate_left
        · simp only [Act.put, pkA, pkZ, pkS, i64_w, i32_w]
          rfl
        refine take_ (i := 29) (N := some 36) (v := ?_) (a' := ?_) #[true, false, false, false, true, true, true, false, false, false, false, false, false, true, true, true, false, false, false, false, false, false, false, true, true, true, false, false, true, true, false, false, false, false, false, false, false, false, false, false, false, false] rfl rfl (by kernel_rfl) (fun _ _ _ h => h) (Or.inl ⟨by rfl, ?_⟩) hHeld ?_ ?_
        rotate_left
        · rintro w' ⟨s0, s1, s2, s3, s4, s5, s6, s7⟩
          go_simp
          with_reducible rfl
        rotate_left
        · simp only [Act.put, pkA, pkZ, pkS, i64_w, i32_w]
          rfl
        refine pure_ (i := 30) (N := some 37) (v := ?_) (a' := ?_) #[true, false, false, false, true, true, true, false, false, false, false, false, false, true, true, true, false, false, false, false, false, false, false, true, true, true, false, false, true, true, true, false, false, false, false, false, false, false, false, false, false, false] rfl rfl (by kernel_rfl) (fun _ _ _ h => h) (Or.inl ⟨by rfl, ?_⟩) ?_ ?_
        rotate_left
        · intro w'
          go_simp
          with_reducible rfl
        rotate_left
        · simp only [Act.put, pkA, pkZ, pkS, i64_w, i32_w]
          rfl
        refine pure_ (i := 31) (N := some 38) (v := ?_) (a' := ?_) #[true, false, false, false, true, true, true, false, false, false, false, false, false, true, true, true, false, false, false, false, false, false, false, true, true, true, false, false, true, true, true, true, false, false, false, false, false, false, false, false, false, false] rfl rfl (by kernel_rfl) (fun _ _ _ h => h) (Or.inl ⟨by rfl, ?_⟩) ?_ ?_
        rotate_left
        · intro w'
          go_simp
          with_reducible rfl
        rotate_left
        · simp only [Act.put, pkA, pkZ, pkS, i64_w, i32_w]
          rfl
        refine one_ (i := 1) (N := some 8) #[true, true, false, false, true, true, true, false, false, false, false, false, false, true, true, true, false, false, false, false, false, false, false, true, true, true, false, false, true, true, true, true, false, false, false, false, false, false, false, false, false, false] rfl rfl (by kernel_rfl) (by decide) (fun K hK => ?_)
        refine goes_ Try.func72 (by kernel_rfl) rfl #[.agg #[.string a.f0, .string a.f1, .int .i64 a.f2, .bool a.f3, .string a.f4, .bool a.f5, .bool a.f6, .slice A n c]] (by rfl) rfl rfl (by simp only [List.map_toArray, List.map_cons, List.map_nil]; rfl) ?_
        refine (HNM.out _ gr1).mono ?_
        rintro e v1 ⟨rfl, hb1⟩
        refine ⟨_, rfl, ?_⟩
        have gr1_1 := gr1.trans (hb1.mono gr1.size)
        refine hK.out _ _ ⟨(HS.out _ gr1_1).1, (HS.out _ gr1_1).2.1, (HS.out _ gr1_1).2.2.1, (HS.out _ gr1_1).2.2.2.1, (HS.out _ gr1_1).2.2.2.2.1, (HS.out _ gr1_1).2.2.2.2.2.1, (HS.out _ gr1_1).2.2.2.2.2.2.1, (HS.out _ gr1_1).2.2.2.2.2.2.2⟩ (fun hHeld => ?_)
        clear hK K
        refine norm_ (a' := ?_) ?_ ?_
        rotate_left
        · show Act.put _ (some 8) _ = _
          simp only [Act.put, pkA, pkZ, pkS, i64_w, i32_w]
          rfl
        refine pure_ (i := 2) (N := some 9) (v := ?_) (a' := ?_) #[true, true, true, false, true, true, true, false, false, false, false, false, false, true, true, true, false, false, false, false, false, false, false, true, true, true, false, false, true, true, true, true, false, false, false, false, false, false, false, false, false, false] rfl rfl (by kernel_rfl) (fun _ _ _ h => h) (Or.inl ⟨by rfl, ?_⟩) ?_ ?_
        rotate_left
        · intro w'
          go_simp
          with_reducible rfl
        rotate_left
        · simp only [Act.put, pkA, pkZ, pkS, i64_w, i32_w]
          rfl
        refine pure_ (i := 3) (N := some 10) (v := ?_) (a' := ?_) #[true, true, true, true, true, true, true, false, false, false, false, false, false, true, true, true, false, false, false, false, false, false, false, true, true, true, false, false, true, true, true, true, false, false, false, false, false, false, false, false, false, false] rfl rfl (by kernel_rfl) (fun _ _ _ h => h) (Or.inl ⟨by rfl, ?_⟩) ?_ ?_
        rotate_left
        · intro w'
          go_simp
          with_reducible rfl
        rotate_left
        · simp only [Act.put, pkA, pkZ, pkS, i64_w, i32_w]
          rfl
        refine pure_ (i := 7) (N := some 14) (v := ?_) (a' := ?_) #[true, true, true, true, true, true, true, true, false, false, false, false, false, true, true, true, false, false, false, false, false, false, false, true, true, true, false, false, true, true, true, true, false, false, false, false, false, false, false, false, false, false] rfl rfl (by kernel_rfl) (fun _ _ _ h => h) (Or.inl ⟨by rfl, ?_⟩) ?_ ?_
        rotate_left
        · intro w'
          go_simp
          with_reducible rfl
        rotate_left
        · simp only [Act.put, pkA, pkZ, pkS, i64_w, i32_w]
          rfl
        refine pure_ (i := 8) (N := some 15) (v := undef) (a' := ?_) #[true, true, true, true, true, true, true, true, true, false, false, false, false, true, true, true, false, false, false, false, false, false, false, true, true, true, false, false, true, true, true, true, false, false, false, false, false, false, false, false, false, false] rfl rfl (by kernel_rfl) (fun _ _ _ h => h) (Or.inr ⟨by rfl, rfl⟩) ?_ ?_
        rotate_left
        · simp only [Act.put, pkA, pkZ, pkS, i64_w, i32_w]
          rfl
        refine pure_ (i := 9) (N := some 16) (v := undef) (a' := ?_) #[true, true, true, true, true, true, true, true, true, true, false, false, false, true, true, true, false, false, false, false, false, false, false, true, true, true, false, false, true, true, true, true, false, false, false, false, false, false, false, false, false, false] rfl rfl (by kernel_rfl) (fun _ _ _ h => h) (Or.inr ⟨by rfl, rfl⟩) ?_ ?_
        rotate_left
        · simp only [Act.put, pkA, pkZ, pkS, i64_w, i32_w]
          rfl
        refine pure_ (i := 10) (N := some 17) (v := undef) (a' := ?_) #[true, true, true, true, true, true, true, true, true, true, true, false, false, true, true, true, false, false, false, false, false, false, false, true, true, true, false, false, true, true, true, true, false, false, false, false, false, false, false, false, false, false] rfl rfl (by kernel_rfl) (fun _ _ _ h => h) (Or.inr ⟨by rfl, rfl⟩) ?_ ?_
        rotate_left
        · simp only [Act.put, pkA, pkZ, pkS, i64_w, i32_w]
          rfl
        refine pure_ (i := 11) (N := some 18) (v := ?_) (a' := ?_) #[true, true, true, true, true, true, true, true, true, true, true, true, false, true, true, true, false, false, false, false, false, false, false, true, true, true, false, false, true, true, true, true, false, false, false, false, false, false, false, false, false, false] rfl rfl (by kernel_rfl) (fun _ _ _ h => h) (Or.inl ⟨by rfl, ?_⟩) ?_ ?_
        rotate_left
        · intro w'
          go_simp
          with_reducible rfl
        rotate_left
        · simp only [Act.put, pkA, pkZ, pkS, i64_w, i32_w]
          rfl
        refine pure_ (i := 12) (N := some 19) (v := ?_) (a' := ?_) #[true, true, true, true, true, true, true, true, true, true, true, true, true, true, true, true, false, false, false, false, false, false, false, true, true, true, false, false, true, true, true, true, false, false, false, false, false, false, false, false, false, false] rfl rfl (by kernel_rfl) (fun _ _ _ h => h) (Or.inl ⟨by rfl, ?_⟩) ?_ ?_
        rotate_left
        · intro w'
          go_simp
          with_reducible rfl
        rotate_left
        · simp only [Act.put, pkA, pkZ, pkS, i64_w, i32_w]
          rfl
        refine pure_ (i := 16) (N := some 23) (v := ?_) (a' := ?_) #[true, true, true, true, true, true, true, true, true, true, true, true, true, true, true, true, true, false, false, false, false, false, false, true, true, true, false, false, true, true, true, true, false, false, false, false, false, false, false, false, false, false] rfl rfl (by kernel_rfl) (fun _ _ _ h => h) (Or.inl ⟨by rfl, ?_⟩) ?_ ?_
        rotate_left
        · intro w'
          go_simp
          with_reducible rfl
        rotate_left
        · simp only [Act.put, pkA, pkZ, pkS, i64_w, i32_w]
          rfl
        refine pure_ (i := 17) (N := some 24) (v := undef) (a' := ?_) #[true, true, true, true, true, true, true, true, true, true, true, true, true, true, true, true, true, true, false, false, false, false, false, true, true, true, false, false, true, true, true, true, false, false, false, false, false, false, false, false, false, false] rfl rfl (by kernel_rfl) (fun _ _ _ h => h) (Or.inr ⟨by rfl, rfl⟩) ?_ ?_
        rotate_left
        · simp only [Act.put, pkA, pkZ, pkS, i64_w, i32_w]
          rfl
        refine pure_ (i := 18) (N := some 25) (v := undef) (a' := ?_) #[true, true, true, true, true, true, true, true, true, true, true, true, true, true, true, true, true, true, true, false, false, false, false, true, true, true, false, false, true, true, true, true, false, false, false, false, false, false, false, false, false, false] rfl rfl (by kernel_rfl) (fun _ _ _ h => h) (Or.inr ⟨by rfl, rfl⟩) ?_ ?_
        rotate_left
        · simp only [Act.put, pkA, pkZ, pkS, i64_w, i32_w]
          rfl
        refine pure_ (i := 19) (N := some 26) (v := undef) (a' := ?_) #[true, true, true, true, true, true, true, true, true, true, true, true, true, true, true, true, true, true, true, true, false, false, false, true, true, true, false, false, true, true, true, true, false, false, false, false, false, false, false, false, false, false] rfl rfl (by kernel_rfl) (fun _ _ _ h => h) (Or.inr ⟨by rfl, rfl⟩) ?_ ?_
        rotate_left
        · simp only [Act.put, pkA, pkZ, pkS, i64_w, i32_w]
          rfl
        refine pure_ (i := 20) (N := some 27) (v := undef) (a' := ?_) #[true, true, true, true, true, true, true, true, true, true, true, true, true, true, true, true, true, true, true, true, true, false, false, true, true, true, false, false, true, true, true, true, false, false, false, false, false, false, false, false, false, false] rfl rfl (by kernel_rfl) (fun _ _ _ h => h) (Or.inr ⟨by rfl, rfl⟩) ?_ ?_
        rotate_left
        · simp only [Act.put, pkA, pkZ, pkS, i64_w, i32_w]
          rfl
        refine pure_ (i := 21) (N := some 28) (v := ?_) (a' := ?_) #[true, true, true, true, true, true, true, true, true, true, true, true, true, true, true, true, true, true, true, true, true, true, false, true, true, true, false, false, true, true, true, true, false, false, false, false, false, false, false, false, false, false] rfl rfl (by kernel_rfl) (fun _ _ _ h => h) (Or.inl ⟨by rfl, ?_⟩) ?_ ?_
        rotate_left
        · intro w'
          go_simp
          with_reducible rfl
        rotate_left
        · simp only [Act.put, pkA, pkZ, pkS, i64_w, i32_w]
          rfl
        refine pure_ (i := 22) (N := some 29) (v := ?_) (a' := ?_) #[true, true, true, true, true, true, true, true, true, true, true, true, true, true, true, true, true, true, true, true, true, true, true, true, true, true, false, false, true, true, true, true, false, false, false, false, false, false, false, false, false, false] rfl rfl (by kernel_rfl) (fun _ _ _ h => h) (Or.inl ⟨by rfl, ?_⟩) ?_ ?_
        rotate_left
        · intro w'
          go_simp
          with_reducible rfl
        rotate_left
        · simp only [Act.put, pkA, pkZ, pkS, i64_w, i32_w]
          rfl
        refine one_ (i := 26) (N := some 33) #[true, true, true, true, true, true, true, true, true, true, true, true, true, true, true, true, true, true, true, true, true, true, true, true, true, true, true, false, true, true, true, true, false, false, false, false, false, false, false, false, false, false] rfl rfl (by kernel_rfl) (by decide) (fun K hK => ?_)
        refine goesV_ Try.func70 (by kernel_rfl) rfl #[.pointer (some ⟨z2, 0, none⟩)] #[.string a.f0, .pointer (some ⟨z2, 0, none⟩)] (by rfl) rfl rfl rfl (by simp only [List.map_toArray, List.map_cons, List.map_nil]; rfl) ?_
        refine (HKN.out _ gr1_1).mono ?_
        rintro e v26 ⟨rfl, hb26⟩
        refine ⟨_, rfl, ?_⟩
        have gr1_26 := gr1_1.trans (hb26.mono gr1_1.size)
        refine hK.out _ _ ⟨(HS.out _ gr1_26).1, (HS.out _ gr1_26).2.1, (HS.out _ gr1_26).2.2.1, (HS.out _ gr1_26).2.2.2.1, (HS.out _ gr1_26).2.2.2.2.1, (HS.out _ gr1_26).2.2.2.2.2.1, (HS.out _ gr1_26).2.2.2.2.2.2.1, (HS.out _ gr1_26).2.2.2.2.2.2.2⟩ (fun hHeld => ?_)
        clear hK K
        refine norm_ (a' := ?_) ?_ ?_
        rotate_left
        · show Act.put _ (some 33) _ = _
          simp only [Act.put, pkA, pkZ, pkS, i64_w, i32_w]
          rfl
        refine pure_ (i := 27) (N := some 34) (v := ?_) (a' := ?_) #[true, true, true, true, true, true, true, true, true, true, true, true, true, true, true, true, true, true, true, true, true, true, true, true, true, true, true, true, true, true, true, true, false, false, false, false, false, false, false, false, false, false] rfl rfl (by kernel_rfl) (fun _ _ _ h => h) (Or.inl ⟨by rfl, ?_⟩) ?_ ?_
        rotate_left
        · intro w'
          go_simp
          with_reducible rfl
        rotate_left
        · simp only [Act.put, pkA, pkZ, pkS, i64_w, i32_w]
          rfl
        refine pure_ (i := 32) (N := some 39) (v := ?_) (a' := ?_) #[true, true, true, true, true, true, true, true, true, true, true, true, true, true, true, true, true, true, true, true, true, true, true, true, true, true, true, true, true, true, true, true, true, false, false, false, false, false, false, false, false, false] rfl rfl (by kernel_rfl) (fun _ _ _ h => h) (Or.inl ⟨by rfl, ?_⟩) ?_ ?_
        rotate_left
        · intro w'
          go_simp
          with_reducible rfl
        rotate_left
        · simp only [Act.put, pkA, pkZ, pkS, i64_w, i32_w]
          rfl
        refine pure_ (i := 33) (N := some 40) (v := undef) (a' := ?_) #[true, true, true, true, true, true, true, true, true, true, true, true, true, true, true, true, true, true, true, true, true, true, true, true, true, true, true, true, true, true, true, true, true, true, false, false, false, false, false, false, false, false] rfl rfl (by kernel_rfl) (fun _ _ _ h => h) (Or.inr ⟨by rfl, rfl⟩) ?_ ?_
        rotate_left
        · simp only [Act.put, pkA, pkZ, pkS, i64_w, i32_w]
          rfl
        refine pure_ (i := 34) (N := some 41) (v := undef) (a' := ?_) #[true, true, true, true, true, true, true, true, true, true, true, true, true, true, true, true, true, true, true, true, true, true, true, true, true, true, true, true, true, true, true, true, true, true, true, false, false, false, false, false, false, false] rfl rfl (by kernel_rfl) (fun _ _ _ h => h) (Or.inr ⟨by rfl, rfl⟩) ?_ ?_
        rotate_left
        · simp only [Act.put, pkA, pkZ, pkS, i64_w, i32_w]
          rfl
        refine pure_ (i := 35) (N := some 42) (v := undef) (a' := ?_) #[true, true, true, true, true, true, true, true, true, true, true, true, true, true, true, true, true, true, true, true, true, true, true, true, true, true, true, true, true, true, true, true, true, true, true, true, false, false, false, false, false, false] rfl rfl (by kernel_rfl) (fun _ _ _ h => h) (Or.inr ⟨by rfl, rfl⟩) ?_ ?_
        rotate_left
        · simp only [Act.put, pkA, pkZ, pkS, i64_w, i32_w]
          rfl
        refine pure_ (i := 36) (N := some 43) (v := undef) (a' := ?_) #[true, true, true, true, true, true, true, true, true, true, true, true, true, true, true, true, true, true, true, true, true, true, true, true, true, true, true, true, true, true, true, true, true, true, true, true, true, false, false, false, false, false] rfl rfl (by kernel_rfl) (fun _ _ _ h => h) (Or.inr ⟨by rfl, rfl⟩) ?_ ?_
        rotate_left
        · simp only [Act.put, pkA, pkZ, pkS, i64_w, i32_w]
          rfl
        refine pure_ (i := 37) (N := some 44) (v := ?_) (a' := ?_) #[true, true, true, true, true, true, true, true, true, true, true, true, true, true, true, true, true, true, true, true, true, true, true, true, true, true, true, true, true, true, true, true, true, true, true, true, true, true, false, false, false, false] rfl rfl (by kernel_rfl) (fun _ _ _ h => h) (Or.inl ⟨by rfl, ?_⟩) ?_ ?_
        rotate_left
        · intro w'
          go_simp
          with_reducible rfl
        rotate_left
        · simp only [Act.put, pkA, pkZ, pkS, i64_w, i32_w]
          rfl
        refine pure_ (i := 38) (N := some 45) (v := ?_) (a' := ?_) #[true, true, true, true, true, true, true, true, true, true, true, true, true, true, true, true, true, true, true, true, true, true, true, true, true, true, true, true, true, true, true, true, true, true, true, true, true, true, true, false, false, false] rfl rfl (by kernel_rfl) (fun _ _ _ h => h) (Or.inl ⟨by rfl, ?_⟩) ?_ ?_
        rotate_left
        · intro w'
          go_simp
          with_reducible rfl
        rotate_left
        · simp only [Act.put, pkA, pkZ, pkS, i64_w, i32_w]
          rfl
        refine one_ (i := 39) (N := some 46) #[true, true, true, true, true, true, true, true, true, true, true, true, true, true, true, true, true, true, true, true, true, true, true, true, true, true, true, true, true, true, true, true, true, true, true, true, true, true, true, true, false, false] rfl rfl (by kernel_rfl) (by decide) (fun K hK => ?_)
        refine value_ (w1 := ?_) (v := ?_) (by rfl) rfl ?_ ?_
        rotate_left 2
        · go_simp
          constructor
          · rfl
          · rfl
        have gr9 : Below w1.heap.size w1 (v26.alloc (.cells #[.bool (!nm), .int .i64 7, .bool (true), .int .i64 10, .bool (false), .int .i64 13, .bool kn, .int .i64 8, .bool (true), .int .i64 14] 114)) := gr1_26.alloc gr1_26.size _
        have h9 := (Go.MapKept.heap_alloc v26 (.cells #[.bool (!nm), .int .i64 7, .bool (true), .int .i64 10, .bool (false), .int .i64 13, .bool kn, .int .i64 8, .bool (true), .int .i64 14] 114)).1
        obtain ⟨z9, hz9⟩ : ∃ z, v26.heap.size = z := ⟨_, rfl⟩
        rw [hz9] at h9 ⊢
        obtain ⟨v39, hv39⟩ : ∃ W, v26.alloc (.cells #[.bool (!nm), .int .i64 7, .bool (true), .int .i64 10, .bool (false), .int .i64 13, .bool kn, .int .i64 8, .bool (true), .int .i64 14] 114) = W := ⟨_, rfl⟩
        rw [hv39] at gr9 h9 ⊢
        clear hv39 hz9
        refine hK.out _ _ ⟨(HS.out _ gr9).1, (HS.out _ gr9).2.1, (HS.out _ gr9).2.2.1, (HS.out _ gr9).2.2.2.1, (HS.out _ gr9).2.2.2.2.1, (HS.out _ gr9).2.2.2.2.2.1, (HS.out _ gr9).2.2.2.2.2.2.1, (HS.out _ gr9).2.2.2.2.2.2.2⟩ (fun hHeld => ?_)
        clear hK K
        refine norm_ (a' := ?_) ?_ ?_
        rotate_left
        · show Act.put _ (some 46) _ = _
          simp only [Act.put, pkA, pkZ, pkS, i64_w, i32_w]
          rfl
        refine one_ (i := 40) (N := some 47) #[true, true, true, true, true, true, true, true, true, true, true, true, true, true, true, true, true, true, true, true, true, true, true, true, true, true, true, true, true, true, true, true, true, true, true, true, true, true, true, true, true, false] rfl rfl (by kernel_rfl) (by decide) (fun K hK => ?_)
        refine goes_ Try.func71 (by kernel_rfl) rfl #[.slice (some ⟨z9, 0, none⟩) 5 5] (by rfl) rfl rfl (by simp only [List.map_toArray, List.map_cons, List.map_nil]; rfl) ?_
        refine (go_first [⟨!nm, 7⟩, ⟨true, 10⟩, ⟨false, 13⟩, ⟨kn, 8⟩, ⟨true, 14⟩] (by simp) z9 5 (Nat.le_refl _) _ _ h9).mono ?_
        rintro e v40 ⟨rfl, hb40⟩
        refine ⟨_, rfl, ?_⟩
        have gr10 := gr9.trans (hb40.mono gr9.size)
        refine hK.out _ _ ⟨(HS.out _ gr10).1, (HS.out _ gr10).2.1, (HS.out _ gr10).2.2.1, (HS.out _ gr10).2.2.2.1, (HS.out _ gr10).2.2.2.2.1, (HS.out _ gr10).2.2.2.2.2.1, (HS.out _ gr10).2.2.2.2.2.2.1, (HS.out _ gr10).2.2.2.2.2.2.2⟩ (fun hHeld => ?_)
        clear hK K
        refine norm_ (a' := ?_) ?_ ?_
        rotate_left
        · show Act.put _ (some 47) _ = _
          simp only [Act.put, pkA, pkZ, pkS, i64_w, i32_w]
          rfl
        refine pure_ (i := 41) (N := some 4) (v := ?_) (a' := ?_) #[true, true, true, true, true, true, true, true, true, true, true, true, true, true, true, true, true, true, true, true, true, true, true, true, true, true, true, true, true, true, true, true, true, true, true, true, true, true, true, true, true, true] rfl rfl (by kernel_rfl) (fun _ _ _ h => h) (Or.inl ⟨by rfl, ?_⟩) ?_ ?_
        rotate_left
        · intro w'
          go_simp
          with_reducible rfl
        rotate_left
        · simp only [Act.put, pkA, pkZ, pkS, i64_w, i32_w]
          rfl
        refine done_ (by kernel_rfl) ?_
        have HF : Hid (rr = firstE [⟨!nm, 7⟩, ⟨true, 10⟩, ⟨false, 13⟩, ⟨kn, 8⟩, ⟨true, 14⟩]) := Lib.hid (by rw [HE.out]; simp [HK.out, HU.out, H6.out])
        clear hHeld
        obtain ⟨wf, hwf⟩ : ∃ W, v40 = W := ⟨_, rfl⟩
        rw [hwf] at gr10 ⊢
        go_wp2
        go_ret
        exact ⟨by rw [HF.out]; rfl, HG.out.trans (gr10.mono HG.out.size)⟩
      · have H6 := Lib.hid (show decide (n > 6) = false from decide_eq_false h6)
        have hk6 : decide ((n : Int) > 6) = false := decide_eq_false (by omega)
        have hkd : decide (a.f2 < 1) = true := HK.out
        clear h6 hu hk
        refine start_ (n := 42) (S := fun w' => w'.cell? ⟨z3, 0, none⟩ = some (.string a.f0) ∧ w'.cell? ⟨z3, 1, none⟩ = some (.string a.f1) ∧ w'.cell? ⟨z3, 2, none⟩ = some (.int .i64 a.f2) ∧ w'.cell? ⟨z3, 3, none⟩ = some (.bool a.f3) ∧ w'.cell? ⟨z3, 4, none⟩ = some (.string a.f4) ∧ w'.cell? ⟨z3, 5, none⟩ = some (.bool a.f5) ∧ w'.cell? ⟨z3, 6, none⟩ = some (.bool a.f6) ∧ w'.cell? ⟨z3, 7, none⟩ = some (.slice A n c)) (ds := []) #[false, false, false, false, false, false, false, false, false, false, false, false, false, false, false, false, false, false, false, false, false, false, false, false, false, false, false, false, false, false, false, false, false, false, false, false, false, false, false, false, false, false] (by kernel_rfl) rfl rfl ⟨(HS.out _ gr1).1, (HS.out _ gr1).2.1, (HS.out _ gr1).2.2.1, (HS.out _ gr1).2.2.2.1, (HS.out _ gr1).2.2.2.2.1, (HS.out _ gr1).2.2.2.2.2.1, (HS.out _ gr1).2.2.2.2.2.2.1, (HS.out _ gr1).2.2.2.2.2.2.2⟩ (fun hHeld => ?_)
        refine pure_ (i := 4) (N := some 11) (v := ?_) (a' := ?_) #[false, false, false, false, true, false, false, false, false, false, false, false, false, false, false, false, false, false, false, false, false, false, false, false, false, false, false, false, false, false, false, false, false, false, false, false, false, false, false, false, false, false] rfl rfl (by kernel_rfl) (fun _ _ _ h => h) (Or.inl ⟨by rfl, ?_⟩) ?_ ?_
        rotate_left
        · intro w'
          go_simp
          with_reducible rfl
        rotate_left
        · simp only [Act.put, pkA, pkZ, pkS, i64_w, i32_w]
          rfl
        refine pure_ (i := 13) (N := some 20) (v := ?_) (a' := ?_) #[false, false, false, false, true, false, false, false, false, false, false, false, false, true, false, false, false, false, false, false, false, false, false, false, false, false, false, false, false, false, false, false, false, false, false, false, false, false, false, false, false, false] rfl rfl (by kernel_rfl) (fun _ _ _ h => h) (Or.inl ⟨by rfl, ?_⟩) ?_ ?_
        rotate_left
        · intro w'
          go_simp
          with_reducible rfl
        rotate_left
        · simp only [Act.put, pkA, pkZ, pkS, i64_w, i32_w]
          rfl
        refine pure_ (i := 23) (N := some 30) (v := ?_) (a' := ?_) #[false, false, false, false, true, false, false, false, false, false, false, false, false, true, false, false, false, false, false, false, false, false, false, true, false, false, false, false, false, false, false, false, false, false, false, false, false, false, false, false, false, false] rfl rfl (by kernel_rfl) (fun _ _ _ h => h) (Or.inl ⟨by rfl, ?_⟩) ?_ ?_
        rotate_left
        · intro w'
          go_simp
          with_reducible rfl
        rotate_left
        · simp only [Act.put, pkA, pkZ, pkS, i64_w, i32_w]
          rfl
        refine pure_ (i := 24) (N := some 31) (v := ?_) (a' := ?_) #[false, false, false, false, true, false, false, false, false, false, false, false, false, true, false, false, false, false, false, false, false, false, false, true, true, false, false, false, false, false, false, false, false, false, false, false, false, false, false, false, false, false] rfl rfl (by kernel_rfl) (fun _ _ _ h => h) (Or.inl ⟨by rfl, ?_⟩) ?_ ?_
        rotate_left
        · intro w'
          go_simp
          with_reducible rfl
        rotate_left
        · simp only [Act.put, pkA, pkZ, pkS, i64_w, i32_w]
          rfl
        refine pure_ (i := 28) (N := some 35) (v := ?_) (a' := ?_) #[false, false, false, false, true, false, false, false, false, false, false, false, false, true, false, false, false, false, false, false, false, false, false, true, true, false, false, false, true, false, false, false, false, false, false, false, false, false, false, false, false, false] rfl rfl (by kernel_rfl) (fun _ _ _ h => h) (Or.inl ⟨by rfl, ?_⟩) ?_ ?_
        rotate_left
        · intro w'
          go_simp
          with_reducible rfl
        rotate_left
        · simp only [Act.put, pkA, pkZ, pkS, i64_w, i32_w]
          rfl
        refine take_ (i := 0) (N := some 7) (v := ?_) (a' := ?_) #[true, false, false, false, true, false, false, false, false, false, false, false, false, true, false, false, false, false, false, false, false, false, false, true, true, false, false, false, true, false, false, false, false, false, false, false, false, false, false, false, false, false] rfl rfl (by kernel_rfl) (fun _ _ _ h => h) (Or.inl ⟨by rfl, ?_⟩) hHeld ?_ ?_
        rotate_left
        · rintro w' ⟨s0, s1, s2, s3, s4, s5, s6, s7⟩
          go_simp
          with_reducible rfl
        rotate_left
        · simp only [Act.put, pkA, pkZ, pkS, i64_w, i32_w]
          rfl
        refine take_ (i := 5) (N := some 12) (v := ?_) (a' := ?_) #[true, false, false, false, true, true, false, false, false, false, false, false, false, true, false, false, false, false, false, false, false, false, false, true, true, false, false, false, true, false, false, false, false, false, false, false, false, false, false, false, false, false] rfl rfl (by kernel_rfl) (fun _ _ _ h => h) (Or.inl ⟨by rfl, ?_⟩) hHeld ?_ ?_
        rotate_left
        · rintro w' ⟨s0, s1, s2, s3, s4, s5, s6, s7⟩
          go_simp
          with_reducible rfl
        rotate_left
        · simp only [Act.put, pkA, pkZ, pkS, i64_w, i32_w]
          rfl
        refine pure_ (i := 6) (N := some 13) (v := ?_) (a' := ?_) #[true, false, false, false, true, true, true, false, false, false, false, false, false, true, false, false, false, false, false, false, false, false, false, true, true, false, false, false, true, false, false, false, false, false, false, false, false, false, false, false, false, false] rfl rfl (by kernel_rfl) (fun _ _ _ h => h) (Or.inl ⟨by rfl, ?_⟩) ?_ ?_
        rotate_left
        · intro w'
          go_simp
          with_reducible rfl
        rotate_left
        · simp only [Act.put, pkA, pkZ, pkS, i64_w, i32_w]
          rfl
        refine take_ (i := 14) (N := some 21) (v := ?_) (a' := ?_) #[true, false, false, false, true, true, true, false, false, false, false, false, false, true, true, false, false, false, false, false, false, false, false, true, true, false, false, false, true, false, false, false, false, false, false, false, false, false, false, false, false, false] rfl rfl (by kernel_rfl) (fun _ _ _ h => h) (Or.inl ⟨by rfl, ?_⟩) hHeld ?_ ?_
        rotate_left
        · rintro w' ⟨s0, s1, s2, s3, s4, s5, s6, s7⟩
          go_simp
          with_reducible rfl
        rotate_left
        · simp only [Act.put, pkA, pkZ, pkS, i64_w, i32_w]
          rfl
        refine pure_ (i := 15) (N := some 22) (v := ?_) (a' := ?_) #[true, false, false, false, true, true, true, false, false, false, false, false, false, true, true, true, false, false, false, false, false, false, false, true, true, false, false, false, true, false, false, false, false, false, false, false, false, false, false, false, false, false] rfl rfl (by kernel_rfl) (fun _ _ _ h => h) (Or.inl ⟨by rfl, ?_⟩) ?_ ?_
        rotate_left
        · intro w'
          go_simp
          with_reducible rfl
        rotate_left
        · simp only [Act.put, pkA, pkZ, pkS, i64_w, i32_w]
          rfl
        refine take_ (i := 25) (N := some 32) (v := ?_) (a' := ?_) #[true, false, false, false, true, true, true, false, false, false, false, false, false, true, true, true, false, false, false, false, false, false, false, true, true, true, false, false, true, false, false, false, false, false, false, false, false, false, false, false, false, false] rfl rfl (by kernel_rfl) (fun _ _ _ h => h) (Or.inl ⟨by rfl, ?_⟩) hHeld ?_ ?_
        rotate_left
        · rintro w' ⟨s0, s1, s2, s3, s4, s5, s6, s7⟩
          go_simp
          with_reducible rfl
        rotate_left
        · simp only [Act.put, pkA, pkZ, pkS, i64_w, i32_w]
          rfl
        refine take_ (i := 29) (N := some 36) (v := ?_) (a' := ?_) #[true, false, false, false, true, true, true, false, false, false, false, false, false, true, true, true, false, false, false, false, false, false, false, true, true, true, false, false, true, true, false, false, false, false, false, false, false, false, false, false, false, false] rfl rfl (by kernel_rfl) (fun _ _ _ h => h) (Or.inl ⟨by rfl, ?_⟩) hHeld ?_ ?_
        rotate_left
        · rintro w' ⟨s0, s1, s2, s3, s4, s5, s6, s7⟩
          go_simp
          with_reducible rfl
        rotate_left
        · simp only [Act.put, pkA, pkZ, pkS, i64_w, i32_w]
          rfl
        refine pure_ (i := 30) (N := some 37) (v := ?_) (a' := ?_) #[true, false, false, false, true, true, true, false, false, false, false, false, false, true, true, true, false, false, false, false, false, false, false, true, true, true, false, false, true, true, true, false, false, false, false, false, false, false, false, false, false, false] rfl rfl (by kernel_rfl) (fun _ _ _ h => h) (Or.inl ⟨by rfl, ?_⟩) ?_ ?_
        rotate_left
        · intro w'
          go_simp
          with_reducible rfl
        rotate_left
        · simp only [Act.put, pkA, pkZ, pkS, i64_w, i32_w]
          rfl
        refine pure_ (i := 31) (N := some 38) (v := ?_) (a' := ?_) #[true, false, false, false, true, true, true, false, false, false, false, false, false, true, true, true, false, false, false, false, false, false, false, true, true, true, false, false, true, true, true, true, false, false, false, false, false, false, false, false, false, false] rfl rfl (by kernel_rfl) (fun _ _ _ h => h) (Or.inl ⟨by rfl, ?_⟩) ?_ ?_
        rotate_left
        · intro w'
          go_simp
          with_reducible rfl
        rotate_left
        · simp only [Act.put, pkA, pkZ, pkS, i64_w, i32_w]
          rfl
        refine one_ (i := 1) (N := some 8) #[true, true, false, false, true, true, true, false, false, false, false, false, false, true, true, true, false, false, false, false, false, false, false, true, true, true, false, false, true, true, true, true, false, false, false, false, false, false, false, false, false, false] rfl rfl (by kernel_rfl) (by decide) (fun K hK => ?_)
        refine goes_ Try.func72 (by kernel_rfl) rfl #[.agg #[.string a.f0, .string a.f1, .int .i64 a.f2, .bool a.f3, .string a.f4, .bool a.f5, .bool a.f6, .slice A n c]] (by rfl) rfl rfl (by simp only [List.map_toArray, List.map_cons, List.map_nil]; rfl) ?_
        refine (HNM.out _ gr1).mono ?_
        rintro e v1 ⟨rfl, hb1⟩
        refine ⟨_, rfl, ?_⟩
        have gr1_1 := gr1.trans (hb1.mono gr1.size)
        refine hK.out _ _ ⟨(HS.out _ gr1_1).1, (HS.out _ gr1_1).2.1, (HS.out _ gr1_1).2.2.1, (HS.out _ gr1_1).2.2.2.1, (HS.out _ gr1_1).2.2.2.2.1, (HS.out _ gr1_1).2.2.2.2.2.1, (HS.out _ gr1_1).2.2.2.2.2.2.1, (HS.out _ gr1_1).2.2.2.2.2.2.2⟩ (fun hHeld => ?_)
        clear hK K
        refine norm_ (a' := ?_) ?_ ?_
        rotate_left
        · show Act.put _ (some 8) _ = _
          simp only [Act.put, pkA, pkZ, pkS, i64_w, i32_w]
          rfl
        refine pure_ (i := 2) (N := some 9) (v := ?_) (a' := ?_) #[true, true, true, false, true, true, true, false, false, false, false, false, false, true, true, true, false, false, false, false, false, false, false, true, true, true, false, false, true, true, true, true, false, false, false, false, false, false, false, false, false, false] rfl rfl (by kernel_rfl) (fun _ _ _ h => h) (Or.inl ⟨by rfl, ?_⟩) ?_ ?_
        rotate_left
        · intro w'
          go_simp
          with_reducible rfl
        rotate_left
        · simp only [Act.put, pkA, pkZ, pkS, i64_w, i32_w]
          rfl
        refine pure_ (i := 3) (N := some 10) (v := ?_) (a' := ?_) #[true, true, true, true, true, true, true, false, false, false, false, false, false, true, true, true, false, false, false, false, false, false, false, true, true, true, false, false, true, true, true, true, false, false, false, false, false, false, false, false, false, false] rfl rfl (by kernel_rfl) (fun _ _ _ h => h) (Or.inl ⟨by rfl, ?_⟩) ?_ ?_
        rotate_left
        · intro w'
          go_simp
          with_reducible rfl
        rotate_left
        · simp only [Act.put, pkA, pkZ, pkS, i64_w, i32_w]
          rfl
        refine pure_ (i := 7) (N := some 14) (v := ?_) (a' := ?_) #[true, true, true, true, true, true, true, true, false, false, false, false, false, true, true, true, false, false, false, false, false, false, false, true, true, true, false, false, true, true, true, true, false, false, false, false, false, false, false, false, false, false] rfl rfl (by kernel_rfl) (fun _ _ _ h => h) (Or.inl ⟨by rfl, ?_⟩) ?_ ?_
        rotate_left
        · intro w'
          go_simp
          with_reducible rfl
        rotate_left
        · simp only [Act.put, pkA, pkZ, pkS, i64_w, i32_w]
          rfl
        refine pure_ (i := 8) (N := some 15) (v := undef) (a' := ?_) #[true, true, true, true, true, true, true, true, true, false, false, false, false, true, true, true, false, false, false, false, false, false, false, true, true, true, false, false, true, true, true, true, false, false, false, false, false, false, false, false, false, false] rfl rfl (by kernel_rfl) (fun _ _ _ h => h) (Or.inr ⟨by rfl, rfl⟩) ?_ ?_
        rotate_left
        · simp only [Act.put, pkA, pkZ, pkS, i64_w, i32_w]
          rfl
        refine pure_ (i := 9) (N := some 16) (v := undef) (a' := ?_) #[true, true, true, true, true, true, true, true, true, true, false, false, false, true, true, true, false, false, false, false, false, false, false, true, true, true, false, false, true, true, true, true, false, false, false, false, false, false, false, false, false, false] rfl rfl (by kernel_rfl) (fun _ _ _ h => h) (Or.inr ⟨by rfl, rfl⟩) ?_ ?_
        rotate_left
        · simp only [Act.put, pkA, pkZ, pkS, i64_w, i32_w]
          rfl
        refine pure_ (i := 10) (N := some 17) (v := undef) (a' := ?_) #[true, true, true, true, true, true, true, true, true, true, true, false, false, true, true, true, false, false, false, false, false, false, false, true, true, true, false, false, true, true, true, true, false, false, false, false, false, false, false, false, false, false] rfl rfl (by kernel_rfl) (fun _ _ _ h => h) (Or.inr ⟨by rfl, rfl⟩) ?_ ?_
        rotate_left
        · simp only [Act.put, pkA, pkZ, pkS, i64_w, i32_w]
          rfl
        refine pure_ (i := 11) (N := some 18) (v := ?_) (a' := ?_) #[true, true, true, true, true, true, true, true, true, true, true, true, false, true, true, true, false, false, false, false, false, false, false, true, true, true, false, false, true, true, true, true, false, false, false, false, false, false, false, false, false, false] rfl rfl (by kernel_rfl) (fun _ _ _ h => h) (Or.inl ⟨by rfl, ?_⟩) ?_ ?_
        rotate_left
        · intro w'
          go_simp
          with_reducible rfl
        rotate_left
        · simp only [Act.put, pkA, pkZ, pkS, i64_w, i32_w]
          rfl
        refine pure_ (i := 12) (N := some 19) (v := ?_) (a' := ?_) #[true, true, true, true, true, true, true, true, true, true, true, true, true, true, true, true, false, false, false, false, false, false, false, true, true, true, false, false, true, true, true, true, false, false, false, false, false, false, false, false, false, false] rfl rfl (by kernel_rfl) (fun _ _ _ h => h) (Or.inl ⟨by rfl, ?_⟩) ?_ ?_
        rotate_left
        · intro w'
          go_simp
          with_reducible rfl
        rotate_left
        · simp only [Act.put, pkA, pkZ, pkS, i64_w, i32_w]
          rfl
        refine pure_ (i := 16) (N := some 23) (v := ?_) (a' := ?_) #[true, true, true, true, true, true, true, true, true, true, true, true, true, true, true, true, true, false, false, false, false, false, false, true, true, true, false, false, true, true, true, true, false, false, false, false, false, false, false, false, false, false] rfl rfl (by kernel_rfl) (fun _ _ _ h => h) (Or.inl ⟨by rfl, ?_⟩) ?_ ?_
        rotate_left
        · intro w'
          go_simp
          with_reducible rfl
        rotate_left
        · simp only [Act.put, pkA, pkZ, pkS, i64_w, i32_w]
          rfl
        refine pure_ (i := 17) (N := some 24) (v := undef) (a' := ?_) #[true, true, true, true, true, true, true, true, true, true, true, true, true, true, true, true, true, true, false, false, false, false, false, true, true, true, false, false, true, true, true, true, false, false, false, false, false, false, false, false, false, false] rfl rfl (by kernel_rfl) (fun _ _ _ h => h) (Or.inr ⟨by rfl, rfl⟩) ?_ ?_
        rotate_left
        · simp only [Act.put, pkA, pkZ, pkS, i64_w, i32_w]
          rfl
        refine pure_ (i := 18) (N := some 25) (v := undef) (a' := ?_) #[true, true, true, true, true, true, true, true, true, true, true, true, true, true, true, true, true, true, true, false, false, false, false, true, true, true, false, false, true, true, true, true, false, false, false, false, false, false, false, false, false, false] rfl rfl (by kernel_rfl) (fun _ _ _ h => h) (Or.inr ⟨by rfl, rfl⟩) ?_ ?_
        rotate_left
        · simp only [Act.put, pkA, pkZ, pkS, i64_w, i32_w]
          rfl
        refine pure_ (i := 19) (N := some 26) (v := undef) (a' := ?_) #[true, true, true, true, true, true, true, true, true, true, true, true, true, true, true, true, true, true, true, true, false, false, false, true, true, true, false, false, true, true, true, true, false, false, false, false, false, false, false, false, false, false] rfl rfl (by kernel_rfl) (fun _ _ _ h => h) (Or.inr ⟨by rfl, rfl⟩) ?_ ?_
        rotate_left
        · simp only [Act.put, pkA, pkZ, pkS, i64_w, i32_w]
          rfl
        refine pure_ (i := 20) (N := some 27) (v := undef) (a' := ?_) #[true, true, true, true, true, true, true, true, true, true, true, true, true, true, true, true, true, true, true, true, true, false, false, true, true, true, false, false, true, true, true, true, false, false, false, false, false, false, false, false, false, false] rfl rfl (by kernel_rfl) (fun _ _ _ h => h) (Or.inr ⟨by rfl, rfl⟩) ?_ ?_
        rotate_left
        · simp only [Act.put, pkA, pkZ, pkS, i64_w, i32_w]
          rfl
        refine pure_ (i := 21) (N := some 28) (v := ?_) (a' := ?_) #[true, true, true, true, true, true, true, true, true, true, true, true, true, true, true, true, true, true, true, true, true, true, false, true, true, true, false, false, true, true, true, true, false, false, false, false, false, false, false, false, false, false] rfl rfl (by kernel_rfl) (fun _ _ _ h => h) (Or.inl ⟨by rfl, ?_⟩) ?_ ?_
        rotate_left
        · intro w'
          go_simp
          with_reducible rfl
        rotate_left
        · simp only [Act.put, pkA, pkZ, pkS, i64_w, i32_w]
          rfl
        refine pure_ (i := 22) (N := some 29) (v := ?_) (a' := ?_) #[true, true, true, true, true, true, true, true, true, true, true, true, true, true, true, true, true, true, true, true, true, true, true, true, true, true, false, false, true, true, true, true, false, false, false, false, false, false, false, false, false, false] rfl rfl (by kernel_rfl) (fun _ _ _ h => h) (Or.inl ⟨by rfl, ?_⟩) ?_ ?_
        rotate_left
        · intro w'
          go_simp
          with_reducible rfl
        rotate_left
        · simp only [Act.put, pkA, pkZ, pkS, i64_w, i32_w]
          rfl
        refine one_ (i := 26) (N := some 33) #[true, true, true, true, true, true, true, true, true, true, true, true, true, true, true, true, true, true, true, true, true, true, true, true, true, true, true, false, true, true, true, true, false, false, false, false, false, false, false, false, false, false] rfl rfl (by kernel_rfl) (by decide) (fun K hK => ?_)
        refine goesV_ Try.func70 (by kernel_rfl) rfl #[.pointer (some ⟨z2, 0, none⟩)] #[.string a.f0, .pointer (some ⟨z2, 0, none⟩)] (by rfl) rfl rfl rfl (by simp only [List.map_toArray, List.map_cons, List.map_nil]; rfl) ?_
        refine (HKN.out _ gr1_1).mono ?_
        rintro e v26 ⟨rfl, hb26⟩
        refine ⟨_, rfl, ?_⟩
        have gr1_26 := gr1_1.trans (hb26.mono gr1_1.size)
        refine hK.out _ _ ⟨(HS.out _ gr1_26).1, (HS.out _ gr1_26).2.1, (HS.out _ gr1_26).2.2.1, (HS.out _ gr1_26).2.2.2.1, (HS.out _ gr1_26).2.2.2.2.1, (HS.out _ gr1_26).2.2.2.2.2.1, (HS.out _ gr1_26).2.2.2.2.2.2.1, (HS.out _ gr1_26).2.2.2.2.2.2.2⟩ (fun hHeld => ?_)
        clear hK K
        refine norm_ (a' := ?_) ?_ ?_
        rotate_left
        · show Act.put _ (some 33) _ = _
          simp only [Act.put, pkA, pkZ, pkS, i64_w, i32_w]
          rfl
        refine pure_ (i := 27) (N := some 34) (v := ?_) (a' := ?_) #[true, true, true, true, true, true, true, true, true, true, true, true, true, true, true, true, true, true, true, true, true, true, true, true, true, true, true, true, true, true, true, true, false, false, false, false, false, false, false, false, false, false] rfl rfl (by kernel_rfl) (fun _ _ _ h => h) (Or.inl ⟨by rfl, ?_⟩) ?_ ?_
        rotate_left
        · intro w'
          go_simp
          with_reducible rfl
        rotate_left
        · simp only [Act.put, pkA, pkZ, pkS, i64_w, i32_w]
          rfl
        refine pure_ (i := 32) (N := some 39) (v := ?_) (a' := ?_) #[true, true, true, true, true, true, true, true, true, true, true, true, true, true, true, true, true, true, true, true, true, true, true, true, true, true, true, true, true, true, true, true, true, false, false, false, false, false, false, false, false, false] rfl rfl (by kernel_rfl) (fun _ _ _ h => h) (Or.inl ⟨by rfl, ?_⟩) ?_ ?_
        rotate_left
        · intro w'
          go_simp
          with_reducible rfl
        rotate_left
        · simp only [Act.put, pkA, pkZ, pkS, i64_w, i32_w]
          rfl
        refine pure_ (i := 33) (N := some 40) (v := ?_) (a' := ?_) #[true, true, true, true, true, true, true, true, true, true, true, true, true, true, true, true, true, true, true, true, true, true, true, true, true, true, true, true, true, true, true, true, true, true, false, false, false, false, false, false, false, false] rfl rfl (by kernel_rfl) (fun _ _ _ h => h) (Or.inl ⟨by rfl, ?_⟩) ?_ ?_
        rotate_left
        · intro w'
          go_simp
          with_reducible rfl
        rotate_left
        · simp only [Act.put, pkA, pkZ, pkS, i64_w, i32_w]
          rfl
        refine take_ (i := 34) (N := some 41) (v := ?_) (a' := ?_) #[true, true, true, true, true, true, true, true, true, true, true, true, true, true, true, true, true, true, true, true, true, true, true, true, true, true, true, true, true, true, true, true, true, true, true, false, false, false, false, false, false, false] rfl rfl (by kernel_rfl) (fun _ _ _ h => h) (Or.inl ⟨by rfl, ?_⟩) hHeld ?_ ?_
        rotate_left
        · rintro w' ⟨s0, s1, s2, s3, s4, s5, s6, s7⟩
          go_simp
          with_reducible rfl
        rotate_left
        · simp only [Act.put, pkA, pkZ, pkS, i64_w, i32_w]
          rfl
        refine one_ (i := 35) (N := some 42) #[true, true, true, true, true, true, true, true, true, true, true, true, true, true, true, true, true, true, true, true, true, true, true, true, true, true, true, true, true, true, true, true, true, true, true, true, false, false, false, false, false, false] rfl rfl (by kernel_rfl) (by decide) (fun K hK => ?_)
        refine goes_ Try.func73 (by kernel_rfl) rfl #[.slice A n c] (by rfl) rfl rfl (by simp only [List.map_toArray, List.map_cons, List.map_nil]; rfl) ?_
        refine (HRS.out _ gr1_26).mono ?_
        rintro e v35 ⟨rfl, hb35⟩
        refine ⟨_, rfl, ?_⟩
        have gr1_35 := gr1_26.trans (hb35.mono gr1_26.size)
        refine hK.out _ _ ⟨(HS.out _ gr1_35).1, (HS.out _ gr1_35).2.1, (HS.out _ gr1_35).2.2.1, (HS.out _ gr1_35).2.2.2.1, (HS.out _ gr1_35).2.2.2.2.1, (HS.out _ gr1_35).2.2.2.2.2.1, (HS.out _ gr1_35).2.2.2.2.2.2.1, (HS.out _ gr1_35).2.2.2.2.2.2.2⟩ (fun hHeld => ?_)
        clear hK K
        refine norm_ (a' := ?_) ?_ ?_
        rotate_left
        · show Act.put _ (some 42) _ = _
          simp only [Act.put, pkA, pkZ, pkS, i64_w, i32_w]
          rfl
        refine pure_ (i := 36) (N := some 43) (v := ?_) (a' := ?_) #[true, true, true, true, true, true, true, true, true, true, true, true, true, true, true, true, true, true, true, true, true, true, true, true, true, true, true, true, true, true, true, true, true, true, true, true, true, false, false, false, false, false] rfl rfl (by kernel_rfl) (fun _ _ _ h => h) (Or.inl ⟨by rfl, ?_⟩) ?_ ?_
        rotate_left
        · intro w'
          go_simp
          with_reducible rfl
        rotate_left
        · simp only [Act.put, pkA, pkZ, pkS, i64_w, i32_w]
          rfl
        refine pure_ (i := 37) (N := some 44) (v := ?_) (a' := ?_) #[true, true, true, true, true, true, true, true, true, true, true, true, true, true, true, true, true, true, true, true, true, true, true, true, true, true, true, true, true, true, true, true, true, true, true, true, true, true, false, false, false, false] rfl rfl (by kernel_rfl) (fun _ _ _ h => h) (Or.inl ⟨by rfl, ?_⟩) ?_ ?_
        rotate_left
        · intro w'
          go_simp
          with_reducible rfl
        rotate_left
        · simp only [Act.put, pkA, pkZ, pkS, i64_w, i32_w]
          rfl
        refine pure_ (i := 38) (N := some 45) (v := ?_) (a' := ?_) #[true, true, true, true, true, true, true, true, true, true, true, true, true, true, true, true, true, true, true, true, true, true, true, true, true, true, true, true, true, true, true, true, true, true, true, true, true, true, true, false, false, false] rfl rfl (by kernel_rfl) (fun _ _ _ h => h) (Or.inl ⟨by rfl, ?_⟩) ?_ ?_
        rotate_left
        · intro w'
          go_simp
          with_reducible rfl
        rotate_left
        · simp only [Act.put, pkA, pkZ, pkS, i64_w, i32_w]
          rfl
        refine one_ (i := 39) (N := some 46) #[true, true, true, true, true, true, true, true, true, true, true, true, true, true, true, true, true, true, true, true, true, true, true, true, true, true, true, true, true, true, true, true, true, true, true, true, true, true, true, true, false, false] rfl rfl (by kernel_rfl) (by decide) (fun K hK => ?_)
        refine value_ (w1 := ?_) (v := ?_) (by rfl) rfl ?_ ?_
        rotate_left 2
        · go_simp
          constructor
          · rfl
          · rfl
        have gr9 : Below w1.heap.size w1 (v35.alloc (.cells #[.bool (!nm), .int .i64 7, .bool (true), .int .i64 10, .bool (false), .int .i64 13, .bool kn, .int .i64 8, .bool (!rs), .int .i64 14] 114)) := gr1_35.alloc gr1_35.size _
        have h9 := (Go.MapKept.heap_alloc v35 (.cells #[.bool (!nm), .int .i64 7, .bool (true), .int .i64 10, .bool (false), .int .i64 13, .bool kn, .int .i64 8, .bool (!rs), .int .i64 14] 114)).1
        obtain ⟨z9, hz9⟩ : ∃ z, v35.heap.size = z := ⟨_, rfl⟩
        rw [hz9] at h9 ⊢
        obtain ⟨v39, hv39⟩ : ∃ W, v35.alloc (.cells #[.bool (!nm), .int .i64 7, .bool (true), .int .i64 10, .bool (false), .int .i64 13, .bool kn, .int .i64 8, .bool (!rs), .int .i64 14] 114) = W := ⟨_, rfl⟩
        rw [hv39] at gr9 h9 ⊢
        clear hv39 hz9
        refine hK.out _ _ ⟨(HS.out _ gr9).1, (HS.out _ gr9).2.1, (HS.out _ gr9).2.2.1, (HS.out _ gr9).2.2.2.1, (HS.out _ gr9).2.2.2.2.1, (HS.out _ gr9).2.2.2.2.2.1, (HS.out _ gr9).2.2.2.2.2.2.1, (HS.out _ gr9).2.2.2.2.2.2.2⟩ (fun hHeld => ?_)
        clear hK K
        refine norm_ (a' := ?_) ?_ ?_
        rotate_left
        · show Act.put _ (some 46) _ = _
          simp only [Act.put, pkA, pkZ, pkS, i64_w, i32_w]
          rfl
        refine one_ (i := 40) (N := some 47) #[true, true, true, true, true, true, true, true, true, true, true, true, true, true, true, true, true, true, true, true, true, true, true, true, true, true, true, true, true, true, true, true, true, true, true, true, true, true, true, true, true, false] rfl rfl (by kernel_rfl) (by decide) (fun K hK => ?_)
        refine goes_ Try.func71 (by kernel_rfl) rfl #[.slice (some ⟨z9, 0, none⟩) 5 5] (by rfl) rfl rfl (by simp only [List.map_toArray, List.map_cons, List.map_nil]; rfl) ?_
        refine (go_first [⟨!nm, 7⟩, ⟨true, 10⟩, ⟨false, 13⟩, ⟨kn, 8⟩, ⟨!rs, 14⟩] (by simp) z9 5 (Nat.le_refl _) _ _ h9).mono ?_
        rintro e v40 ⟨rfl, hb40⟩
        refine ⟨_, rfl, ?_⟩
        have gr10 := gr9.trans (hb40.mono gr9.size)
        refine hK.out _ _ ⟨(HS.out _ gr10).1, (HS.out _ gr10).2.1, (HS.out _ gr10).2.2.1, (HS.out _ gr10).2.2.2.1, (HS.out _ gr10).2.2.2.2.1, (HS.out _ gr10).2.2.2.2.2.1, (HS.out _ gr10).2.2.2.2.2.2.1, (HS.out _ gr10).2.2.2.2.2.2.2⟩ (fun hHeld => ?_)
        clear hK K
        refine norm_ (a' := ?_) ?_ ?_
        rotate_left
        · show Act.put _ (some 47) _ = _
          simp only [Act.put, pkA, pkZ, pkS, i64_w, i32_w]
          rfl
        refine pure_ (i := 41) (N := some 4) (v := ?_) (a' := ?_) #[true, true, true, true, true, true, true, true, true, true, true, true, true, true, true, true, true, true, true, true, true, true, true, true, true, true, true, true, true, true, true, true, true, true, true, true, true, true, true, true, true, true] rfl rfl (by kernel_rfl) (fun _ _ _ h => h) (Or.inl ⟨by rfl, ?_⟩) ?_ ?_
        rotate_left
        · intro w'
          go_simp
          with_reducible rfl
        rotate_left
        · simp only [Act.put, pkA, pkZ, pkS, i64_w, i32_w]
          rfl
        refine done_ (by kernel_rfl) ?_
        have HF : Hid (rr = firstE [⟨!nm, 7⟩, ⟨true, 10⟩, ⟨false, 13⟩, ⟨kn, 8⟩, ⟨!rs, 14⟩]) := Lib.hid (by rw [HE.out]; simp [HK.out, HU.out, H6.out])
        clear hHeld
        obtain ⟨wf, hwf⟩ : ∃ W, v40 = W := ⟨_, rfl⟩
        rw [hwf] at gr10 ⊢
        go_wp2
        go_ret
        exact ⟨by rw [HF.out]; rfl, HG.out.trans (gr10.mono HG.out.size)⟩
    · have HU := Lib.hid (show a.f4.toList.isEmpty = false from by cases hq : a.f4.toList with | nil => exact absurd hq hu | cons _ _ => rfl)
      have hub : (a.f4.toList == []) = false := beq_eq_false_iff_ne.mpr hu
      by_cases h6 : n > 6
      · have H6 := Lib.hid (show decide (n > 6) = true from decide_eq_true h6)
        have hk6 : decide ((n : Int) > 6) = true := decide_eq_true (by omega)
        have hkd : decide (a.f2 < 1) = true := HK.out
        clear h6 hu hk
        refine start_ (n := 42) (S := fun w' => w'.cell? ⟨z3, 0, none⟩ = some (.string a.f0) ∧ w'.cell? ⟨z3, 1, none⟩ = some (.string a.f1) ∧ w'.cell? ⟨z3, 2, none⟩ = some (.int .i64 a.f2) ∧ w'.cell? ⟨z3, 3, none⟩ = some (.bool a.f3) ∧ w'.cell? ⟨z3, 4, none⟩ = some (.string a.f4) ∧ w'.cell? ⟨z3, 5, none⟩ = some (.bool a.f5) ∧ w'.cell? ⟨z3, 6, none⟩ = some (.bool a.f6) ∧ w'.cell? ⟨z3, 7, none⟩ = some (.slice A n c)) (ds := []) #[false, false, false, false, false, false, false, false, false, false, false, false, false, false, false, false, false, false, false, false, false, false, false, false, false, false, false, false, false, false, false, false, false, false, false, false, false, false, false, false, false, false] (by kernel_rfl) rfl rfl ⟨(HS.out _ gr1).1, (HS.out _ gr1).2.1, (HS.out _ gr1).2.2.1, (HS.out _ gr1).2.2.2.1, (HS.out _ gr1).2.2.2.2.1, (HS.out _ gr1).2.2.2.2.2.1, (HS.out _ gr1).2.2.2.2.2.2.1, (HS.out _ gr1).2.2.2.2.2.2.2⟩ (fun hHeld => ?_)
        refine pure_ (i := 4) (N := some 11) (v := ?_) (a' := ?_) #[false, false, false, false, true, false, false, false, false, false, false, false, false, false, false, false, false, false, false, false, false, false, false, false, false, false, false, false, false, false, false, false, false, false, false, false, false, false, false, false, false, false] rfl rfl (by kernel_rfl) (fun _ _ _ h => h) (Or.inl ⟨by rfl, ?_⟩) ?_ ?_
        rotate_left
        · intro w'
          go_simp
          with_reducible rfl
        rotate_left
        · simp only [Act.put, pkA, pkZ, pkS, i64_w, i32_w]
          rfl
        refine pure_ (i := 13) (N := some 20) (v := ?_) (a' := ?_) #[false, false, false, false, true, false, false, false, false, false, false, false, false, true, false, false, false, false, false, false, false, false, false, false, false, false, false, false, false, false, false, false, false, false, false, false, false, false, false, false, false, false] rfl rfl (by kernel_rfl) (fun _ _ _ h => h) (Or.inl ⟨by rfl, ?_⟩) ?_ ?_
        rotate_left
        · intro w'
          go_simp
          with_reducible rfl
        rotate_left
        · simp only [Act.put, pkA, pkZ, pkS, i64_w, i32_w]
          rfl
        refine pure_ (i := 23) (N := some 30) (v := ?_) (a' := ?_) #[false, false, false, false, true, false, false, false, false, false, false, false, false, true, false, false, false, false, false, false, false, false, false, true, false, false, false, false, false, false, false, false, false, false, false, false, false, false, false, false, false, false] rfl rfl (by kernel_rfl) (fun _ _ _ h => h) (Or.inl ⟨by rfl, ?_⟩) ?_ ?_
        rotate_left
        · intro w'
          go_simp
          with_reducible rfl
        rotate_left
        · simp only [Act.put, pkA, pkZ, pkS, i64_w, i32_w]
          rfl
        refine pure_ (i := 24) (N := some 31) (v := ?_) (a' := ?_) #[false, false, false, false, true, false, false, false, false, false, false, false, false, true, false, false, false, false, false, false, false, false, false, true, true, false, false, false, false, false, false, false, false, false, false, false, false, false, false, false, false, false] rfl rfl (by kernel_rfl) (fun _ _ _ h => h) (Or.inl ⟨by rfl, ?_⟩) ?_ ?_
        rotate_left
        · intro w'
          go_simp
          with_reducible rfl
        rotate_left
        · simp only [Act.put, pkA, pkZ, pkS, i64_w, i32_w]
          rfl
        refine pure_ (i := 28) (N := some 35) (v := ?_) (a' := ?_) #[false, false, false, false, true, false, false, false, false, false, false, false, false, true, false, false, false, false, false, false, false, false, false, true, true, false, false, false, true, false, false, false, false, false, false, false, false, false, false, false, false, false] rfl rfl (by kernel_rfl) (fun _ _ _ h => h) (Or.inl ⟨by rfl, ?_⟩) ?_ ?_
        rotate_left
        · intro w'
          go_simp
          with_reducible rfl
        rotate_left
        · simp only [Act.put, pkA, pkZ, pkS, i64_w, i32_w]
          rfl
        refine take_ (i := 0) (N := some 7) (v := ?_) (a' := ?_) #[true, false, false, false, true, false, false, false, false, false, false, false, false, true, false, false, false, false, false, false, false, false, false, true, true, false, false, false, true, false, false, false, false, false, false, false, false, false, false, false, false, false] rfl rfl (by kernel_rfl) (fun _ _ _ h => h) (Or.inl ⟨by rfl, ?_⟩) hHeld ?_ ?_
        rotate_left
        · rintro w' ⟨s0, s1, s2, s3, s4, s5, s6, s7⟩
          go_simp
          with_reducible rfl
        rotate_left
        · simp only [Act.put, pkA, pkZ, pkS, i64_w, i32_w]
          rfl
        refine take_ (i := 5) (N := some 12) (v := ?_) (a' := ?_) #[true, false, false, false, true, true, false, false, false, false, false, false, false, true, false, false, false, false, false, false, false, false, false, true, true, false, false, false, true, false, false, false, false, false, false, false, false, false, false, false, false, false] rfl rfl (by kernel_rfl) (fun _ _ _ h => h) (Or.inl ⟨by rfl, ?_⟩) hHeld ?_ ?_
        rotate_left
        · rintro w' ⟨s0, s1, s2, s3, s4, s5, s6, s7⟩
          go_simp
          with_reducible rfl
        rotate_left
        · simp only [Act.put, pkA, pkZ, pkS, i64_w, i32_w]
          rfl
        refine pure_ (i := 6) (N := some 13) (v := ?_) (a' := ?_) #[true, false, false, false, true, true, true, false, false, false, false, false, false, true, false, false, false, false, false, false, false, false, false, true, true, false, false, false, true, false, false, false, false, false, false, false, false, false, false, false, false, false] rfl rfl (by kernel_rfl) (fun _ _ _ h => h) (Or.inl ⟨by rfl, ?_⟩) ?_ ?_
        rotate_left
        · intro w'
          go_simp
          with_reducible rfl
        rotate_left
        · simp only [Act.put, pkA, pkZ, pkS, i64_w, i32_w]
          rfl
        refine take_ (i := 14) (N := some 21) (v := ?_) (a' := ?_) #[true, false, false, false, true, true, true, false, false, false, false, false, false, true, true, false, false, false, false, false, false, false, false, true, true, false, false, false, true, false, false, false, false, false, false, false, false, false, false, false, false, false] rfl rfl (by kernel_rfl) (fun _ _ _ h => h) (Or.inl ⟨by rfl, ?_⟩) hHeld ?_ ?_
        rotate_left
        · rintro w' ⟨s0, s1, s2, s3, s4, s5, s6, s7⟩
          go_simp
          with_reducible rfl
        rotate_left
        · simp only [Act.put, pkA, pkZ, pkS, i64_w, i32_w]
          rfl
        refine pure_ (i := 15) (N := some 22) (v := ?_) (a' := ?_) #[true, false, false, false, true, true, true, false, false, false, false, false, false, true, true, true, false, false, false, false, false, false, false, true, true, false, false, false, true, false, false, false, false, false, false, false, false, false, false, false, false, false] rfl rfl (by kernel_rfl) (fun _ _ _ h => h) (Or.inl ⟨by rfl, ?_⟩) ?_ ?_
        rotate_left
        · intro w'
          go_simp
          with_reducible rfl
        rotate_left
        · simp only [Act.put, pkA, pkZ, pkS, i64_w, i32_w]
          rfl
        refine take_ (i := 25) (N := some 32) (v := ?_) (a' := ?_) #[true, false, false, false, true, true, true, false, false, false, false, false, false, true, true, true, false, false, false, false, false, false, false, true, true, true, false, false, true, false, false, false, false, false, false, false, false, false, false, false, false, false] rfl rfl (by kernel_rfl) (fun _ _ _ h => h) (Or.inl ⟨by rfl, ?_⟩) hHeld ?_ ?_
        rotate_left
        · rintro w' ⟨s0, s1, s2, s3, s4, s5, s6, s7⟩
          go_simp
          with_reducible rfl
        rotate_left
        · simp only [Act.put, pkA, pkZ, pkS, i64_w, i32_w]
          rfl
        refine take_ (i := 29) (N := some 36) (v := ?_) (a' := ?_) #[true, false, false, false, true, true, true, false, false, false, false, false, false, true, true, true, false, false, false, false, false, false, false, true, true, true, false, false, true, true, false, false, false, false, false, false, false, false, false, false, false, false] rfl rfl (by kernel_rfl) (fun _ _ _ h => h) (Or.inl ⟨by rfl, ?_⟩) hHeld ?_ ?_
        rotate_left
        · rintro w' ⟨s0, s1, s2, s3, s4, s5, s6, s7⟩
          go_simp
          with_reducible rfl
        rotate_left
        · simp only [Act.put, pkA, pkZ, pkS, i64_w, i32_w]
          rfl
        refine pure_ (i := 30) (N := some 37) (v := ?_) (a' := ?_) #[true, false, false, false, true, true, true, false, false, false, false, false, false, true, true, true, false, false, false, false, false, false, false, true, true, true, false, false, true, true, true, false, false, false, false, false, false, false, false, false, false, false] rfl rfl (by kernel_rfl) (fun _ _ _ h => h) (Or.inl ⟨by rfl, ?_⟩) ?_ ?_
        rotate_left
        · intro w'
          go_simp
          with_reducible rfl
        rotate_left
        · simp only [Act.put, pkA, pkZ, pkS, i64_w, i32_w]
          rfl
        refine pure_ (i := 31) (N := some 38) (v := ?_) (a' := ?_) #[true, false, false, false, true, true, true, false, false, false, false, false, false, true, true, true, false, false, false, false, false, false, false, true, true, true, false, false, true, true, true, true, false, false, false, false, false, false, false, false, false, false] rfl rfl (by kernel_rfl) (fun _ _ _ h => h) (Or.inl ⟨by rfl, ?_⟩) ?_ ?_
        rotate_left
        · intro w'
          go_simp
          with_reducible rfl
        rotate_left
        · simp only [Act.put, pkA, pkZ, pkS, i64_w, i32_w]
          rfl
        refine one_ (i := 1) (N := some 8) #[true, true, false, false, true, true, true, false, false, false, false, false, false, true, true, true, false, false, false, false, false, false, false, true, true, true, false, false, true, true, true, true, false, false, false, false, false, false, false, false, false, false] rfl rfl (by kernel_rfl) (by decide) (fun K hK => ?_)
        refine goes_ Try.func72 (by kernel_rfl) rfl #[.agg #[.string a.f0, .string a.f1, .int .i64 a.f2, .bool a.f3, .string a.f4, .bool a.f5, .bool a.f6, .slice A n c]] (by rfl) rfl rfl (by simp only [List.map_toArray, List.map_cons, List.map_nil]; rfl) ?_
        refine (HNM.out _ gr1).mono ?_
        rintro e v1 ⟨rfl, hb1⟩
        refine ⟨_, rfl, ?_⟩
        have gr1_1 := gr1.trans (hb1.mono gr1.size)
        refine hK.out _ _ ⟨(HS.out _ gr1_1).1, (HS.out _ gr1_1).2.1, (HS.out _ gr1_1).2.2.1, (HS.out _ gr1_1).2.2.2.1, (HS.out _ gr1_1).2.2.2.2.1, (HS.out _ gr1_1).2.2.2.2.2.1, (HS.out _ gr1_1).2.2.2.2.2.2.1, (HS.out _ gr1_1).2.2.2.2.2.2.2⟩ (fun hHeld => ?_)
        clear hK K
        refine norm_ (a' := ?_) ?_ ?_
        rotate_left
        · show Act.put _ (some 8) _ = _
          simp only [Act.put, pkA, pkZ, pkS, i64_w, i32_w]
          rfl
        refine pure_ (i := 2) (N := some 9) (v := ?_) (a' := ?_) #[true, true, true, false, true, true, true, false, false, false, false, false, false, true, true, true, false, false, false, false, false, false, false, true, true, true, false, false, true, true, true, true, false, false, false, false, false, false, false, false, false, false] rfl rfl (by kernel_rfl) (fun _ _ _ h => h) (Or.inl ⟨by rfl, ?_⟩) ?_ ?_
        rotate_left
        · intro w'
          go_simp
          with_reducible rfl
        rotate_left
        · simp only [Act.put, pkA, pkZ, pkS, i64_w, i32_w]
          rfl
        refine pure_ (i := 3) (N := some 10) (v := ?_) (a' := ?_) #[true, true, true, true, true, true, true, false, false, false, false, false, false, true, true, true, false, false, false, false, false, false, false, true, true, true, false, false, true, true, true, true, false, false, false, false, false, false, false, false, false, false] rfl rfl (by kernel_rfl) (fun _ _ _ h => h) (Or.inl ⟨by rfl, ?_⟩) ?_ ?_
        rotate_left
        · intro w'
          go_simp
          with_reducible rfl
        rotate_left
        · simp only [Act.put, pkA, pkZ, pkS, i64_w, i32_w]
          rfl
        refine pure_ (i := 7) (N := some 14) (v := ?_) (a' := ?_) #[true, true, true, true, true, true, true, true, false, false, false, false, false, true, true, true, false, false, false, false, false, false, false, true, true, true, false, false, true, true, true, true, false, false, false, false, false, false, false, false, false, false] rfl rfl (by kernel_rfl) (fun _ _ _ h => h) (Or.inl ⟨by rfl, ?_⟩) ?_ ?_
        rotate_left
        · intro w'
          go_simp
          with_reducible rfl
        rotate_left
        · simp only [Act.put, pkA, pkZ, pkS, i64_w, i32_w]
          rfl
        refine pure_ (i := 8) (N := some 15) (v := undef) (a' := ?_) #[true, true, true, true, true, true, true, true, true, false, false, false, false, true, true, true, false, false, false, false, false, false, false, true, true, true, false, false, true, true, true, true, false, false, false, false, false, false, false, false, false, false] rfl rfl (by kernel_rfl) (fun _ _ _ h => h) (Or.inr ⟨by rfl, rfl⟩) ?_ ?_
        rotate_left
        · simp only [Act.put, pkA, pkZ, pkS, i64_w, i32_w]
          rfl
        refine pure_ (i := 9) (N := some 16) (v := undef) (a' := ?_) #[true, true, true, true, true, true, true, true, true, true, false, false, false, true, true, true, false, false, false, false, false, false, false, true, true, true, false, false, true, true, true, true, false, false, false, false, false, false, false, false, false, false] rfl rfl (by kernel_rfl) (fun _ _ _ h => h) (Or.inr ⟨by rfl, rfl⟩) ?_ ?_
        rotate_left
        · simp only [Act.put, pkA, pkZ, pkS, i64_w, i32_w]
          rfl
        refine pure_ (i := 10) (N := some 17) (v := undef) (a' := ?_) #[true, true, true, true, true, true, true, true, true, true, true, false, false, true, true, true, false, false, false, false, false, false, false, true, true, true, false, false, true, true, true, true, false, false, false, false, false, false, false, false, false, false] rfl rfl (by kernel_rfl) (fun _ _ _ h => h) (Or.inr ⟨by rfl, rfl⟩) ?_ ?_
        rotate_left
        · simp only [Act.put, pkA, pkZ, pkS, i64_w, i32_w]
          rfl
        refine pure_ (i := 11) (N := some 18) (v := ?_) (a' := ?_) #[true, true, true, true, true, true, true, true, true, true, true, true, false, true, true, true, false, false, false, false, false, false, false, true, true, true, false, false, true, true, true, true, false, false, false, false, false, false, false, false, false, false] rfl rfl (by kernel_rfl) (fun _ _ _ h => h) (Or.inl ⟨by rfl, ?_⟩) ?_ ?_
        rotate_left
        · intro w'
          go_simp
          with_reducible rfl
        rotate_left
        · simp only [Act.put, pkA, pkZ, pkS, i64_w, i32_w]
          rfl
        refine pure_ (i := 12) (N := some 19) (v := ?_) (a' := ?_) #[true, true, true, true, true, true, true, true, true, true, true, true, true, true, true, true, false, false, false, false, false, false, false, true, true, true, false, false, true, true, true, true, false, false, false, false, false, false, false, false, false, false] rfl rfl (by kernel_rfl) (fun _ _ _ h => h) (Or.inl ⟨by rfl, ?_⟩) ?_ ?_
        rotate_left
        · intro w'
          go_simp
          with_reducible rfl
        rotate_left
        · simp only [Act.put, pkA, pkZ, pkS, i64_w, i32_w]
          rfl
        refine pure_ (i := 16) (N := some 23) (v := ?_) (a' := ?_) #[true, true, true, true, true, true, true, true, true, true, true, true, true, true, true, true, true, false, false, false, false, false, false, true, true, true, false, false, true, true, true, true, false, false, false, false, false, false, false, false, false, false] rfl rfl (by kernel_rfl) (fun _ _ _ h => h) (Or.inl ⟨by rfl, ?_⟩) ?_ ?_
        rotate_left
        · intro w'
          go_simp
          with_reducible rfl
        rotate_left
        · simp only [Act.put, pkA, pkZ, pkS, i64_w, i32_w]
          rfl
        refine pure_ (i := 17) (N := some 24) (v := ?_) (a' := ?_) #[true, true, true, true, true, true, true, true, true, true, true, true, true, true, true, true, true, true, false, false, false, false, false, true, true, true, false, false, true, true, true, true, false, false, false, false, false, false, false, false, false, false] rfl rfl (by kernel_rfl) (fun _ _ _ h => h) (Or.inl ⟨by rfl, ?_⟩) ?_ ?_
        rotate_left
        · intro w'
          go_simp
          with_reducible rfl
        rotate_left
        · simp only [Act.put, pkA, pkZ, pkS, i64_w, i32_w]
          rfl
        refine take_ (i := 18) (N := some 25) (v := ?_) (a' := ?_) #[true, true, true, true, true, true, true, true, true, true, true, true, true, true, true, true, true, true, true, false, false, false, false, true, true, true, false, false, true, true, true, true, false, false, false, false, false, false, false, false, false, false] rfl rfl (by kernel_rfl) (fun _ _ _ h => h) (Or.inl ⟨by rfl, ?_⟩) hHeld ?_ ?_
        rotate_left
        · rintro w' ⟨s0, s1, s2, s3, s4, s5, s6, s7⟩
          go_simp
          with_reducible rfl
        rotate_left
        · simp only [Act.put, pkA, pkZ, pkS, i64_w, i32_w]
          rfl
        refine one_ (i := 19) (N := some 26) #[true, true, true, true, true, true, true, true, true, true, true, true, true, true, true, true, true, true, true, true, false, false, false, true, true, true, false, false, true, true, true, true, false, false, false, false, false, false, false, false, false, false] rfl rfl (by kernel_rfl) (by decide) (fun K hK => ?_)
        refine goes_ Try.func50 (by kernel_rfl) rfl #[.string a.f4] (by rfl) rfl rfl (by simp only [List.map_toArray, List.map_cons, List.map_nil]; rfl) ?_
        refine (HMC.out _).mono ?_
        rintro e v19 ⟨rfl, hb19⟩
        refine ⟨_, rfl, ?_⟩
        have gr1_19 := gr1_1.trans (hb19.mono gr1_1.size)
        refine hK.out _ _ ⟨(HS.out _ gr1_19).1, (HS.out _ gr1_19).2.1, (HS.out _ gr1_19).2.2.1, (HS.out _ gr1_19).2.2.2.1, (HS.out _ gr1_19).2.2.2.2.1, (HS.out _ gr1_19).2.2.2.2.2.1, (HS.out _ gr1_19).2.2.2.2.2.2.1, (HS.out _ gr1_19).2.2.2.2.2.2.2⟩ (fun hHeld => ?_)
        clear hK K
        refine norm_ (a' := ?_) ?_ ?_
        rotate_left
        · show Act.put _ (some 26) _ = _
          simp only [Act.put, pkA, pkZ, pkS, i64_w, i32_w]
          rfl
        refine pure_ (i := 20) (N := some 27) (v := ?_) (a' := ?_) #[true, true, true, true, true, true, true, true, true, true, true, true, true, true, true, true, true, true, true, true, true, false, false, true, true, true, false, false, true, true, true, true, false, false, false, false, false, false, false, false, false, false] rfl rfl (by kernel_rfl) (fun _ _ _ h => h) (Or.inl ⟨by rfl, ?_⟩) ?_ ?_
        rotate_left
        · intro w'
          go_simp
          with_reducible rfl
        rotate_left
        · simp only [Act.put, pkA, pkZ, pkS, i64_w, i32_w]
          rfl
        refine pure_ (i := 21) (N := some 28) (v := ?_) (a' := ?_) #[true, true, true, true, true, true, true, true, true, true, true, true, true, true, true, true, true, true, true, true, true, true, false, true, true, true, false, false, true, true, true, true, false, false, false, false, false, false, false, false, false, false] rfl rfl (by kernel_rfl) (fun _ _ _ h => h) (Or.inl ⟨by rfl, ?_⟩) ?_ ?_
        rotate_left
        · intro w'
          go_simp
          with_reducible rfl
        rotate_left
        · simp only [Act.put, pkA, pkZ, pkS, i64_w, i32_w]
          rfl
        refine pure_ (i := 22) (N := some 29) (v := ?_) (a' := ?_) #[true, true, true, true, true, true, true, true, true, true, true, true, true, true, true, true, true, true, true, true, true, true, true, true, true, true, false, false, true, true, true, true, false, false, false, false, false, false, false, false, false, false] rfl rfl (by kernel_rfl) (fun _ _ _ h => h) (Or.inl ⟨by rfl, ?_⟩) ?_ ?_
        rotate_left
        · intro w'
          go_simp
          with_reducible rfl
        rotate_left
        · simp only [Act.put, pkA, pkZ, pkS, i64_w, i32_w]
          rfl
        refine one_ (i := 26) (N := some 33) #[true, true, true, true, true, true, true, true, true, true, true, true, true, true, true, true, true, true, true, true, true, true, true, true, true, true, true, false, true, true, true, true, false, false, false, false, false, false, false, false, false, false] rfl rfl (by kernel_rfl) (by decide) (fun K hK => ?_)
        refine goesV_ Try.func70 (by kernel_rfl) rfl #[.pointer (some ⟨z2, 0, none⟩)] #[.string a.f0, .pointer (some ⟨z2, 0, none⟩)] (by rfl) rfl rfl rfl (by simp only [List.map_toArray, List.map_cons, List.map_nil]; rfl) ?_
        refine (HKN.out _ gr1_19).mono ?_
        rintro e v26 ⟨rfl, hb26⟩
        refine ⟨_, rfl, ?_⟩
        have gr1_26 := gr1_19.trans (hb26.mono gr1_19.size)
        refine hK.out _ _ ⟨(HS.out _ gr1_26).1, (HS.out _ gr1_26).2.1, (HS.out _ gr1_26).2.2.1, (HS.out _ gr1_26).2.2.2.1, (HS.out _ gr1_26).2.2.2.2.1, (HS.out _ gr1_26).2.2.2.2.2.1, (HS.out _ gr1_26).2.2.2.2.2.2.1, (HS.out _ gr1_26).2.2.2.2.2.2.2⟩ (fun hHeld => ?_)
        clear hK K
        refine norm_ (a' := ?_) ?_ ?_
        rotate_left
        · show Act.put _ (some 33) _ = _
          simp only [Act.put, pkA, pkZ, pkS, i64_w, i32_w]
          rfl
        refine pure_ (i := 27) (N := some 34) (v := ?_) (a' := ?_) #[true, true, true, true, true, true, true, true, true, true, true, true, true, true, true, true, true, true, true, true, true, true, true, true, true, true, true, true, true, true, true, true, false, false, false, false, false, false, false, false, false, false] rfl rfl (by kernel_rfl) (fun _ _ _ h => h) (Or.inl ⟨by rfl, ?_⟩) ?_ ?_
        rotate_left
        · intro w'
          go_simp
          with_reducible rfl
        rotate_left
        · simp only [Act.put, pkA, pkZ, pkS, i64_w, i32_w]
          rfl
        refine pure_ (i := 32) (N := some 39) (v := ?_) (a' := ?_) #[true, true, true, true, true, true, true, true, true, true, true, true, true, true, true, true, true, true, true, true, true, true, true, true, true, true, true, true, true, true, true, true, true, false, false, false, false, false, false, false, false, false] rfl rfl (by kernel_rfl) (fun _ _ _ h => h) (Or.inl ⟨by rfl, ?_⟩) ?_ ?_
        rotate_left
        · intro w'
          go_simp
          with_reducible rfl
        rotate_left
        · simp only [Act.put, pkA, pkZ, pkS, i64_w, i32_w]
          rfl
        refine pure_ (i := 33) (N := some 40) (v := undef) (a' := ?_) #[true, true, true, true, true, true, true, true, true, true, true, true, true, true, true, true, true, true, true, true, true, true, true, true, true, true, true, true, true, true, true, true, true, true, false, false, false, false, false, false, false, false] rfl rfl (by kernel_rfl) (fun _ _ _ h => h) (Or.inr ⟨by rfl, rfl⟩) ?_ ?_
        rotate_left
        · simp only [Act.put, pkA, pkZ, pkS, i64_w, i32_w]
          rfl
        refine pure_ (i := 34) (N := some 41) (v := undef) (a' := ?_) #[true, true, true, true, true, true, true, true, true, true, true, true, true, true, true, true, true, true, true, true, true, true, true, true, true, true, true, true, true, true, true, true, true, true, true, false, false, false, false, false, false, false] rfl rfl (by kernel_rfl) (fun _ _ _ h => h) (Or.inr ⟨by rfl, rfl⟩) ?_ ?_
        rotate_left
        · simp only [Act.put, pkA, pkZ, pkS, i64_w, i32_w]
          rfl
        refine pure_ (i := 35) (N := some 42) (v := undef) (a' := ?_) #[true, true, true, true, true, true, true, true, true, true, true, true, true, true, true, true, true, true, true, true, true, true, true, true, true, true, true, true, true, true, true, true, true, true, true, true, false, false, false, false, false, false] rfl rfl (by kernel_rfl) (fun _ _ _ h => h) (Or.inr ⟨by rfl, rfl⟩) ?_ ?_
        rotate_left
        · simp only [Act.put, pkA, pkZ, pkS, i64_w, i32_w]
          rfl
        refine pure_ (i := 36) (N := some 43) (v := undef) (a' := ?_) #[true, true, true, true, true, true, true, true, true, true, true, true, true, true, true, true, true, true, true, true, true, true, true, true, true, true, true, true, true, true, true, true, true, true, true, true, true, false, false, false, false, false] rfl rfl (by kernel_rfl) (fun _ _ _ h => h) (Or.inr ⟨by rfl, rfl⟩) ?_ ?_
        rotate_left
        · simp only [Act.put, pkA, pkZ, pkS, i64_w, i32_w]
          rfl
        refine pure_ (i := 37) (N := some 44) (v := ?_) (a' := ?_) #[true, true, true, true, true, true, true, true, true, true, true, true, true, true, true, true, true, true, true, true, true, true, true, true, true, true, true, true, true, true, true, true, true, true, true, true, true, true, false, false, false, false] rfl rfl (by kernel_rfl) (fun _ _ _ h => h) (Or.inl ⟨by rfl, ?_⟩) ?_ ?_
        rotate_left
        · intro w'
          go_simp
          with_reducible rfl
        rotate_left
        · simp only [Act.put, pkA, pkZ, pkS, i64_w, i32_w]
          rfl
        refine pure_ (i := 38) (N := some 45) (v := ?_) (a' := ?_) #[true, true, true, true, true, true, true, true, true, true, true, true, true, true, true, true, true, true, true, true, true, true, true, true, true, true, true, true, true, true, true, true, true, true, true, true, true, true, true, false, false, false] rfl rfl (by kernel_rfl) (fun _ _ _ h => h) (Or.inl ⟨by rfl, ?_⟩) ?_ ?_
        rotate_left
        · intro w'
          go_simp
          with_reducible rfl
        rotate_left
        · simp only [Act.put, pkA, pkZ, pkS, i64_w, i32_w]
          rfl
        refine one_ (i := 39) (N := some 46) #[true, true, true, true, true, true, true, true, true, true, true, true, true, true, true, true, true, true, true, true, true, true, true, true, true, true, true, true, true, true, true, true, true, true, true, true, true, true, true, true, false, false] rfl rfl (by kernel_rfl) (by decide) (fun K hK => ?_)
        refine value_ (w1 := ?_) (v := ?_) (by rfl) rfl ?_ ?_
        rotate_left 2
        · go_simp
          constructor
          · rfl
          · rfl
        have gr9 : Below w1.heap.size w1 (v26.alloc (.cells #[.bool (!nm), .int .i64 7, .bool (true), .int .i64 10, .bool (!mc), .int .i64 13, .bool kn, .int .i64 8, .bool (true), .int .i64 14] 114)) := gr1_26.alloc gr1_26.size _
        have h9 := (Go.MapKept.heap_alloc v26 (.cells #[.bool (!nm), .int .i64 7, .bool (true), .int .i64 10, .bool (!mc), .int .i64 13, .bool kn, .int .i64 8, .bool (true), .int .i64 14] 114)).1
        obtain ⟨z9, hz9⟩ : ∃ z, v26.heap.size = z := ⟨_, rfl⟩
        rw [hz9] at h9 ⊢
        obtain ⟨v39, hv39⟩ : ∃ W, v26.alloc (.cells #[.bool (!nm), .int .i64 7, .bool (true), .int .i64 10, .bool (!mc), .int .i64 13, .bool kn, .int .i64 8, .bool (true), .int .i64 14] 114) = W := ⟨_, rfl⟩
        rw [hv39] at gr9 h9 ⊢
        clear hv39 hz9
        refine hK.out _ _ ⟨(HS.out _ gr9).1, (HS.out _ gr9).2.1, (HS.out _ gr9).2.2.1, (HS.out _ gr9).2.2.2.1, (HS.out _ gr9).2.2.2.2.1, (HS.out _ gr9).2.2.2.2.2.1, (HS.out _ gr9).2.2.2.2.2.2.1, (HS.out _ gr9).2.2.2.2.2.2.2⟩ (fun hHeld => ?_)
        clear hK K
        refine norm_ (a' := ?_) ?_ ?_
        rotate_left
        · show Act.put _ (some 46) _ = _
          simp only [Act.put, pkA, pkZ, pkS, i64_w, i32_w]
          rfl
        refine one_ (i := 40) (N := some 47) #[true, true, true, true, true, true, true, true, true, true, true, true, true, true, true, true, true, true, true, true, true, true, true, true, true, true, true, true, true, true, true, true, true, true, true, true, true, true, true, true, true, false] rfl rfl (by kernel_rfl) (by decide) (fun K hK => ?_)
        refine goes_ Try.func71 (by kernel_rfl) rfl #[.slice (some ⟨z9, 0, none⟩) 5 5] (by rfl) rfl rfl (by simp only [List.map_toArray, List.map_cons, List.map_nil]; rfl) ?_
        refine (go_first [⟨!nm, 7⟩, ⟨true, 10⟩, ⟨!mc, 13⟩, ⟨kn, 8⟩, ⟨true, 14⟩] (by simp) z9 5 (Nat.le_refl _) _ _ h9).mono ?_
        rintro e v40 ⟨rfl, hb40⟩
        refine ⟨_, rfl, ?_⟩
        have gr10 := gr9.trans (hb40.mono gr9.size)
        refine hK.out _ _ ⟨(HS.out _ gr10).1, (HS.out _ gr10).2.1, (HS.out _ gr10).2.2.1, (HS.out _ gr10).2.2.2.1, (HS.out _ gr10).2.2.2.2.1, (HS.out _ gr10).2.2.2.2.2.1, (HS.out _ gr10).2.2.2.2.2.2.1, (HS.out _ gr10).2.2.2.2.2.2.2⟩ (fun hHeld => ?_)
        clear hK K
        refine norm_ (a' := ?_) ?_ ?_
        rotate_left
        · show Act.put _ (some 47) _ = _
          simp only [Act.put, pkA, pkZ, pkS, i64_w, i32_w]
          rfl
        refine pure_ (i := 41) (N := some 4) (v := ?_) (a' := ?_) #[true, true, true, true, true, true, true, true, true, true, true, true, true, true, true, true, true, true, true, true, true, true, true, true, true, true, true, true, true, true, true, true, true, true, true, true, true, true, true, true, true, true] rfl rfl (by kernel_rfl) (fun _ _ _ h => h) (Or.inl ⟨by rfl, ?_⟩) ?_ ?_
        rotate_left
        · intro w'
          go_simp
          with_reducible rfl
        rotate_left
        · simp only [Act.put, pkA, pkZ, pkS, i64_w, i32_w]
          rfl
        refine done_ (by kernel_rfl) ?_
        have HF : Hid (rr = firstE [⟨!nm, 7⟩, ⟨true, 10⟩, ⟨!mc, 13⟩, ⟨kn, 8⟩, ⟨true, 14⟩]) := Lib.hid (by rw [HE.out]; simp [HK.out, HU.out, H6.out])
        clear hHeld
        obtain ⟨wf, hwf⟩ : ∃ W, v40 = W := ⟨_, rfl⟩
        rw [hwf] at gr10 ⊢
        go_wp2
        go_ret
        exact ⟨by rw [HF.out]; rfl, HG.out.trans (gr10.mono HG.out.size)⟩
      · have H6 := Lib.hid (show decide (n > 6) = false from decide_eq_false h6)
        have hk6 : decide ((n : Int) > 6) = false := decide_eq_false (by omega)
        have hkd : decide (a.f2 < 1) = true := HK.out
        clear h6 hu hk
        refine start_ (n := 42) (S := fun w' => w'.cell? ⟨z3, 0, none⟩ = some (.string a.f0) ∧ w'.cell? ⟨z3, 1, none⟩ = some (.string a.f1) ∧ w'.cell? ⟨z3, 2, none⟩ = some (.int .i64 a.f2) ∧ w'.cell? ⟨z3, 3, none⟩ = some (.bool a.f3) ∧ w'.cell? ⟨z3, 4, none⟩ = some (.string a.f4) ∧ w'.cell? ⟨z3, 5, none⟩ = some (.bool a.f5) ∧ w'.cell? ⟨z3, 6, none⟩ = some (.bool a.f6) ∧ w'.cell? ⟨z3, 7, none⟩ = some (.slice A n c)) (ds := []) #[false, false, false, false, false, false, false, false, false, false, false, false, false, false, false, false, false, false, false, false, false, false, false, false, false, false, false, false, false, false, false, false, false, false, false, false, false, false, false, false, false, false] (by kernel_rfl) rfl rfl ⟨(HS.out _ gr1).1, (HS.out _ gr1).2.1, (HS.out _ gr1).2.2.1, (HS.out _ gr1).2.2.2.1, (HS.out _ gr1).2.2.2.2.1, (HS.out _ gr1).2.2.2.2.2.1, (HS.out _ gr1).2.2.2.2.2.2.1, (HS.out _ gr1).2.2.2.2.2.2.2⟩ (fun hHeld => ?_)
        refine pure_ (i := 4) (N := some 11) (v := ?_) (a' := ?_) #[false, false, false, false, true, false, false, false, false, false, false, false, false, false, false, false, false, false, false, false, false, false, false, false, false, false, false, false, false, false, false, false, false, false, false, false, false, false, false, false, false, false] rfl rfl (by kernel_rfl) (fun _ _ _ h => h) (Or.inl ⟨by rfl, ?_⟩) ?_ ?_
        rotate_left
        · intro w'
          go_simp
          with_reducible rfl
        rotate_left
        · simp only [Act.put, pkA, pkZ, pkS, i64_w, i32_w]
          rfl
        refine pure_ (i := 13) (N := some 20) (v := ?_) (a' := ?_) #[false, false, false, false, true, false, false, false, false, false, false, false, false, true, false, false, false, false, false, false, false, false, false, false, false, false, false, false, false, false, false, false, false, false, false, false, false, false, false, false, false, false] rfl rfl (by kernel_rfl) (fun _ _ _ h => h) (Or.inl ⟨by rfl, ?_⟩) ?_ ?_
        rotate_left
        · intro w'
          go_simp
          with_reducible rfl
        rotate_left
        · simp only [Act.put, pkA, pkZ, pkS, i64_w, i32_w]
          rfl
        refine pure_ (i := 23) (N := some 30) (v := ?_) (a' := ?_) #[false, false, false, false, true, false, false, false, false, false, false, false, false, true, false, false, false, false, false, false, false, false, false, true, false, false, false, false, false, false, false, false, false, false, false, false, false, false, false, false, false, false] rfl rfl (by kernel_rfl) (fun _ _ _ h => h) (Or.inl ⟨by rfl, ?_⟩) ?_ ?_
        rotate_left
        · intro w'
          go_simp
          with_reducible rfl
        rotate_left
        · simp only [Act.put, pkA, pkZ, pkS, i64_w, i32_w]
          rfl
        refine pure_ (i := 24) (N := some 31) (v := ?_) (a' := ?_) #[false, false, false, false, true, false, false, false, false, false, false, false, false, true, false, false, false, false, false, false, false, false, false, true, true, false, false, false, false, false, false, false, false, false, false, false, false, false, false, false, false, false] rfl rfl (by kernel_rfl) (fun _ _ _ h => h) (Or.inl ⟨by rfl, ?_⟩) ?_ ?_
        rotate_left
        · intro w'
          go_simp
          with_reducible rfl
        rotate_left
        · simp only [Act.put, pkA, pkZ, pkS, i64_w, i32_w]
          rfl
        refine pure_ (i := 28) (N := some 35) (v := ?_) (a' := ?_) #[false, false, false, false, true, false, false, false, false, false, false, false, false, true, false, false, false, false, false, false, false, false, false, true, true, false, false, false, true, false, false, false, false, false, false, false, false, false, false, false, false, false] rfl rfl (by kernel_rfl) (fun _ _ _ h => h) (Or.inl ⟨by rfl, ?_⟩) ?_ ?_
        rotate_left
        · intro w'
          go_simp
          with_reducible rfl
        rotate_left
        · simp only [Act.put, pkA, pkZ, pkS, i64_w, i32_w]
          rfl
        refine take_ (i := 0) (N := some 7) (v := ?_) (a' := ?_) #[true, false, false, false, true, false, false, false, false, false, false, false, false, true, false, false, false, false, false, false, false, false, false, true, true, false, false, false, true, false, false, false, false, false, false, false, false, false, false, false, false, false] rfl rfl (by kernel_rfl) (fun _ _ _ h => h) (Or.inl ⟨by rfl, ?_⟩) hHeld ?_ ?_
        rotate_left
        · rintro w' ⟨s0, s1, s2, s3, s4, s5, s6, s7⟩
          go_simp
          with_reducible rfl
        rotate_left
        · simp only [Act.put, pkA, pkZ, pkS, i64_w, i32_w]
          rfl
        refine take_ (i := 5) (N := some 12) (v := ?_) (a' := ?_) #[true, false, false, false, true, true, false, false, false, false, false, false, false, true, false, false, false, false, false, false, false, false, false, true, true, false, false, false, true, false, false, false, false, false, false, false, false, false, false, false, false, false] rfl rfl (by kernel_rfl) (fun _ _ _ h => h) (Or.inl ⟨by rfl, ?_⟩) hHeld ?_ ?_
        rotate_left
        · rintro w' ⟨s0, s1, s2, s3, s4, s5, s6, s7⟩
          go_simp
          with_reducible rfl
        rotate_left
        · simp only [Act.put, pkA, pkZ, pkS, i64_w, i32_w]
          rfl
        refine pure_ (i := 6) (N := some 13) (v := ?_) (a' := ?_) #[true, false, false, false, true, true, true, false, false, false, false, false, false, true, false, false, false, false, false, false, false, false, false, true, true, false, false, false, true, false, false, false, false, false, false, false, false, false, false, false, false, false] rfl rfl (by kernel_rfl) (fun _ _ _ h => h) (Or.inl ⟨by rfl, ?_⟩) ?_ ?_
        rotate_left
        · intro w'
          go_simp
          with_reducible rfl
        rotate_left
        · simp only [Act.put, pkA, pkZ, pkS, i64_w, i32_w]
          rfl
        refine take_ (i := 14) (N := some 21) (v := ?_) (a' := ?_) #[true, false, false, false, true, true, true, false, false, false, false, false, false, true, true, false, false, false, false, false, false, false, false, true, true, false, false, false, true, false, false, false, false, false, false, false, false, false, false, false, false, false] rfl rfl (by kernel_rfl) (fun _ _ _ h => h) (Or.inl ⟨by rfl, ?_⟩) hHeld ?_ ?_
        rotate_left
        · rintro w' ⟨s0, s1, s2, s3, s4, s5, s6, s7⟩
          go_simp
          with_reducible rfl
        rotate_left
        · simp only [Act.put, pkA, pkZ, pkS, i64_w, i32_w]
          rfl
        refine pure_ (i := 15) (N := some 22) (v := ?_) (a' := ?_) #[true, false, false, false, true, true, true, false, false, false, false, false, false, true, true, true, false, false, false, false, false, false, false, true, true, false, false, false, true, false, false, false, false, false, false, false, false, false, false, false, false, false] rfl rfl (by kernel_rfl) (fun _ _ _ h => h) (Or.inl ⟨by rfl, ?_⟩) ?_ ?_
        rotate_left
        · intro w'
          go_simp
          with_reducible rfl
        rotate_left
        · simp only [Act.put, pkA, pkZ, pkS, i64_w, i32_w]
          rfl
        refine take_ (i := 25) (N := some 32) (v := ?_) (a' := ?_) #[true, false, false, false, true, true, true, false, false, false, false, false, false, true, true, true, false, false, false, false, false, false, false, true, true, true, false, false, true, false, false, false, false, false, false, false, false, false, false, false, false, false] rfl rfl (by kernel_rfl) (fun _ _ _ h => h) (Or.inl ⟨by rfl, ?_⟩) hHeld ?_ ?_
        rotate_left
        · rintro w' ⟨s0, s1, s2, s3, s4, s5, s6, s7⟩
          go_simp
          with_reducible rfl
        rotate_left
        · simp only [Act.put, pkA, pkZ, pkS, i64_w, i32_w]
          rfl
        refine take_ (i := 29) (N := some 36) (v := ?_) (a' := ?_) #[true, false, false, false, true, true, true, false, false, false, false, false, false, true, true, true, false, false, false, false, false, false, false, true, true, true, false, false, true, true, false, false, false, false, false, false, false, false, false, false, false, false] rfl rfl (by kernel_rfl) (fun _ _ _ h => h) (Or.inl ⟨by rfl, ?_⟩) hHeld ?_ ?_
        rotate_left
        · rintro w' ⟨s0, s1, s2, s3, s4, s5, s6, s7⟩
          go_simp
          with_reducible rfl
        rotate_left
        · simp only [Act.put, pkA, pkZ, pkS, i64_w, i32_w]
          rfl
        refine pure_ (i := 30) (N := some 37) (v := ?_) (a' := ?_) #[true, false, false, false, true, true, true, false, false, false, false, false, false, true, true, true, false, false, false, false, false, false, false, true, true, true, false, false, true, true, true, false, false, false, false, false, false, false, false, false, false, false] rfl rfl (by kernel_rfl) (fun _ _ _ h => h) (Or.inl ⟨by rfl, ?_⟩) ?_ ?_
        rotate_left
        · intro w'
          go_simp
          with_reducible rfl
        rotate_left
        · simp only [Act.put, pkA, pkZ, pkS, i64_w, i32_w]
          rfl
        refine pure_ (i := 31) (N := some 38) (v := ?_) (a' := ?_) #[true, false, false, false, true, true, true, false, false, false, false, false, false, true, true, true, false, false, false, false, false, false, false, true, true, true, false, false, true, true, true, true, false, false, false, false, false, false, false, false, false, false] rfl rfl (by kernel_rfl) (fun _ _ _ h => h) (Or.inl ⟨by rfl, ?_⟩) ?_ ?_
        rotate_left
        · intro w'
          go_simp
          with_reducible rfl
        rotate_left
        · simp only [Act.put, pkA, pkZ, pkS, i64_w, i32_w]
          rfl
        refine one_ (i := 1) (N := some 8) #[true, true, false, false, true, true, true, false, false, false, false, false, false, true, true, true, false, false, false, false, false, false, false, true, true, true, false, false, true, true, true, true, false, false, false, false, false, false, false, false, false, false] rfl rfl (by kernel_rfl) (by decide) (fun K hK => ?_)
        refine goes_ Try.func72 (by kernel_rfl) rfl #[.agg #[.string a.f0, .string a.f1, .int .i64 a.f2, .bool a.f3, .string a.f4, .bool a.f5, .bool a.f6, .slice A n c]] (by rfl) rfl rfl (by simp only [List.map_toArray, List.map_cons, List.map_nil]; rfl) ?_
        refine (HNM.out _ gr1).mono ?_
        rintro e v1 ⟨rfl, hb1⟩
        refine ⟨_, rfl, ?_⟩
        have gr1_1 := gr1.trans (hb1.mono gr1.size)
        refine hK.out _ _ ⟨(HS.out _ gr1_1).1, (HS.out _ gr1_1).2.1, (HS.out _ gr1_1).2.2.1, (HS.out _ gr1_1).2.2.2.1, (HS.out _ gr1_1).2.2.2.2.1, (HS.out _ gr1_1).2.2.2.2.2.1, (HS.out _ gr1_1).2.2.2.2.2.2.1, (HS.out _ gr1_1).2.2.2.2.2.2.2⟩ (fun hHeld => ?_)
        clear hK K
        refine norm_ (a' := ?_) ?_ ?_
        rotate_left
        · show Act.put _ (some 8) _ = _
          simp only [Act.put, pkA, pkZ, pkS, i64_w, i32_w]
          rfl
        refine pure_ (i := 2) (N := some 9) (v := ?_) (a' := ?_) #[true, true, true, false, true, true, true, false, false, false, false, false, false, true, true, true, false, false, false, false, false, false, false, true, true, true, false, false, true, true, true, true, false, false, false, false, false, false, false, false, false, false] rfl rfl (by kernel_rfl) (fun _ _ _ h => h) (Or.inl ⟨by rfl, ?_⟩) ?_ ?_
        rotate_left
        · intro w'
          go_simp
          with_reducible rfl
        rotate_left
        · simp only [Act.put, pkA, pkZ, pkS, i64_w, i32_w]
          rfl
        refine pure_ (i := 3) (N := some 10) (v := ?_) (a' := ?_) #[true, true, true, true, true, true, true, false, false, false, false, false, false, true, true, true, false, false, false, false, false, false, false, true, true, true, false, false, true, true, true, true, false, false, false, false, false, false, false, false, false, false] rfl rfl (by kernel_rfl) (fun _ _ _ h => h) (Or.inl ⟨by rfl, ?_⟩) ?_ ?_
        rotate_left
        · intro w'
          go_simp
          with_reducible rfl
        rotate_left
        · simp only [Act.put, pkA, pkZ, pkS, i64_w, i32_w]
          rfl
        refine pure_ (i := 7) (N := some 14) (v := ?_) (a' := ?_) #[true, true, true, true, true, true, true, true, false, false, false, false, false, true, true, true, false, false, false, false, false, false, false, true, true, true, false, false, true, true, true, true, false, false, false, false, false, false, false, false, false, false] rfl rfl (by kernel_rfl) (fun _ _ _ h => h) (Or.inl ⟨by rfl, ?_⟩) ?_ ?_
        rotate_left
        · intro w'
          go_simp
          with_reducible rfl
        rotate_left
        · simp only [Act.put, pkA, pkZ, pkS, i64_w, i32_w]
          rfl
        refine pure_ (i := 8) (N := some 15) (v := undef) (a' := ?_) #[true, true, true, true, true, true, true, true, true, false, false, false, false, true, true, true, false, false, false, false, false, false, false, true, true, true, false, false, true, true, true, true, false, false, false, false, false, false, false, false, false, false] rfl rfl (by kernel_rfl) (fun _ _ _ h => h) (Or.inr ⟨by rfl, rfl⟩) ?_ ?_
        rotate_left
        · simp only [Act.put, pkA, pkZ, pkS, i64_w, i32_w]
          rfl
        refine pure_ (i := 9) (N := some 16) (v := undef) (a' := ?_) #[true, true, true, true, true, true, true, true, true, true, false, false, false, true, true, true, false, false, false, false, false, false, false, true, true, true, false, false, true, true, true, true, false, false, false, false, false, false, false, false, false, false] rfl rfl (by kernel_rfl) (fun _ _ _ h => h) (Or.inr ⟨by rfl, rfl⟩) ?_ ?_
        rotate_left
        · simp only [Act.put, pkA, pkZ, pkS, i64_w, i32_w]
          rfl
        refine pure_ (i := 10) (N := some 17) (v := undef) (a' := ?_) #[true, true, true, true, true, true, true, true, true, true, true, false, false, true, true, true, false, false, false, false, false, false, false, true, true, true, false, false, true, true, true, true, false, false, false, false, false, false, false, false, false, false] rfl rfl (by kernel_rfl) (fun _ _ _ h => h) (Or.inr ⟨by rfl, rfl⟩) ?_ ?_
        rotate_left
        · simp only [Act.put, pkA, pkZ, pkS, i64_w, i32_w]
          rfl
        refine pure_ (i := 11) (N := some 18) (v := ?_) (a' := ?_) #[true, true, true, true, true, true, true, true, true, true, true, true, false, true, true, true, false, false, false, false, false, false, false, true, true, true, false, false, true, true, true, true, false, false, false, false, false, false, false, false, false, false] rfl rfl (by kernel_rfl) (fun _ _ _ h => h) (Or.inl ⟨by rfl, ?_⟩) ?_ ?_
        rotate_left
        · intro w'
          go_simp
          with_reducible rfl
        rotate_left
        · simp only [Act.put, pkA, pkZ, pkS, i64_w, i32_w]
          rfl
        refine pure_ (i := 12) (N := some 19) (v := ?_) (a' := ?_) #[true, true, true, true, true, true, true, true, true, true, true, true, true, true, true, true, false, false, false, false, false, false, false, true, true, true, false, false, true, true, true, true, false, false, false, false, false, false, false, false, false, false] rfl rfl (by kernel_rfl) (fun _ _ _ h => h) (Or.inl ⟨by rfl, ?_⟩) ?_ ?_
        rotate_left
        · intro w'
          go_simp
          with_reducible rfl
        rotate_left
        · simp only [Act.put, pkA, pkZ, pkS, i64_w, i32_w]
          rfl
        refine pure_ (i := 16) (N := some 23) (v := ?_) (a' := ?_) #[true, true, true, true, true, true, true, true, true, true, true, true, true, true, true, true, true, false, false, false, false, false, false, true, true, true, false, false, true, true, true, true, false, false, false, false, false, false, false, false, false, false] rfl rfl (by kernel_rfl) (fun _ _ _ h => h) (Or.inl ⟨by rfl, ?_⟩) ?_ ?_
        rotate_left
        · intro w'
          go_simp
          with_reducible rfl
        rotate_left
        · simp only [Act.put, pkA, pkZ, pkS, i64_w, i32_w]
          rfl
        refine pure_ (i := 17) (N := some 24) (v := ?_) (a' := ?_) #[true, true, true, true, true, true, true, true, true, true, true, true, true, true, true, true, true, true, false, false, false, false, false, true, true, true, false, false, true, true, true, true, false, false, false, false, false, false, false, false, false, false] rfl rfl (by kernel_rfl) (fun _ _ _ h => h) (Or.inl ⟨by rfl, ?_⟩) ?_ ?_
        rotate_left
        · intro w'
          go_simp
          with_reducible rfl
        rotate_left
        · simp only [Act.put, pkA, pkZ, pkS, i64_w, i32_w]
          rfl
        refine take_ (i := 18) (N := some 25) (v := ?_) (a' := ?_) #[true, true, true, true, true, true, true, true, true, true, true, true, true, true, true, true, true, true, true, false, false, false, false, true, true, true, false, false, true, true, true, true, false, false, false, false, false, false, false, false, false, false] rfl rfl (by kernel_rfl) (fun _ _ _ h => h) (Or.inl ⟨by rfl, ?_⟩) hHeld ?_ ?_
        rotate_left
        · rintro w' ⟨s0, s1, s2, s3, s4, s5, s6, s7⟩
          go_simp
          with_reducible rfl
        rotate_left
        · simp only [Act.put, pkA, pkZ, pkS, i64_w, i32_w]
          rfl
        refine one_ (i := 19) (N := some 26) #[true, true, true, true, true, true, true, true, true, true, true, true, true, true, true, true, true, true, true, true, false, false, false, true, true, true, false, false, true, true, true, true, false, false, false, false, false, false, false, false, false, false] rfl rfl (by kernel_rfl) (by decide) (fun K hK => ?_)
        refine goes_ Try.func50 (by kernel_rfl) rfl #[.string a.f4] (by rfl) rfl rfl (by simp only [List.map_toArray, List.map_cons, List.map_nil]; rfl) ?_
        refine (HMC.out _).mono ?_
        rintro e v19 ⟨rfl, hb19⟩
        refine ⟨_, rfl, ?_⟩
        have gr1_19 := gr1_1.trans (hb19.mono gr1_1.size)
        refine hK.out _ _ ⟨(HS.out _ gr1_19).1, (HS.out _ gr1_19).2.1, (HS.out _ gr1_19).2.2.1, (HS.out _ gr1_19).2.2.2.1, (HS.out _ gr1_19).2.2.2.2.1, (HS.out _ gr1_19).2.2.2.2.2.1, (HS.out _ gr1_19).2.2.2.2.2.2.1, (HS.out _ gr1_19).2.2.2.2.2.2.2⟩ (fun hHeld => ?_)
        clear hK K
        refine norm_ (a' := ?_) ?_ ?_
        rotate_left
        · show Act.put _ (some 26) _ = _
          simp only [Act.put, pkA, pkZ, pkS, i64_w, i32_w]
          rfl
        refine pure_ (i := 20) (N := some 27) (v := ?_) (a' := ?_) #[true, true, true, true, true, true, true, true, true, true, true, true, true, true, true, true, true, true, true, true, true, false, false, true, true, true, false, false, true, true, true, true, false, false, false, false, false, false, false, false, false, false] rfl rfl (by kernel_rfl) (fun _ _ _ h => h) (Or.inl ⟨by rfl, ?_⟩) ?_ ?_
        rotate_left
        · intro w'
          go_simp
          with_reducible rfl
        rotate_left
        · simp only [Act.put, pkA, pkZ, pkS, i64_w, i32_w]
          rfl
        refine pure_ (i := 21) (N := some 28) (v := ?_) (a' := ?_) #[true, true, true, true, true, true, true, true, true, true, true, true, true, true, true, true, true, true, true, true, true, true, false, true, true, true, false, false, true, true, true, true, false, false, false, false, false, false, false, false, false, false] rfl rfl (by kernel_rfl) (fun _ _ _ h => h) (Or.inl ⟨by rfl, ?_⟩) ?_ ?_
        rotate_left
        · intro w'
          go_simp
          with_reducible rfl
        rotate_left
        · simp only [Act.put, pkA, pkZ, pkS, i64_w, i32_w]
          rfl
        refine pure_ (i := 22) (N := some 29) (v := ?_) (a' := ?_) #[true, true, true, true, true, true, true, true, true, true, true, true, true, true, true, true, true, true, true, true, true, true, true, true, true, true, false, false, true, true, true, true, false, false, false, false, false, false, false, false, false, false] rfl rfl (by kernel_rfl) (fun _ _ _ h => h) (Or.inl ⟨by rfl, ?_⟩) ?_ ?_
        rotate_left
        · intro w'
          go_simp
          with_reducible rfl
        rotate_left
        · simp only [Act.put, pkA, pkZ, pkS, i64_w, i32_w]
          rfl
        refine one_ (i := 26) (N := some 33) #[true, true, true, true, true, true, true, true, true, true, true, true, true, true, true, true, true, true, true, true, true, true, true, true, true, true, true, false, true, true, true, true, false, false, false, false, false, false, false, false, false, false] rfl rfl (by kernel_rfl) (by decide) (fun K hK => ?_)
        refine goesV_ Try.func70 (by kernel_rfl) rfl #[.pointer (some ⟨z2, 0, none⟩)] #[.string a.f0, .pointer (some ⟨z2, 0, none⟩)] (by rfl) rfl rfl rfl (by simp only [List.map_toArray, List.map_cons, List.map_nil]; rfl) ?_
        refine (HKN.out _ gr1_19).mono ?_
        rintro e v26 ⟨rfl, hb26⟩
        refine ⟨_, rfl, ?_⟩
        have gr1_26 := gr1_19.trans (hb26.mono gr1_19.size)
        refine hK.out _ _ ⟨(HS.out _ gr1_26).1, (HS.out _ gr1_26).2.1, (HS.out _ gr1_26).2.2.1, (HS.out _ gr1_26).2.2.2.1, (HS.out _ gr1_26).2.2.2.2.1, (HS.out _ gr1_26).2.2.2.2.2.1, (HS.out _ gr1_26).2.2.2.2.2.2.1, (HS.out _ gr1_26).2.2.2.2.2.2.2⟩ (fun hHeld => ?_)
        clear hK K
        refine norm_ (a' := ?_) ?_ ?_
        rotate_left
        · show Act.put _ (some 33) _ = _
          simp only [Act.put, pkA, pkZ, pkS, i64_w, i32_w]
          rfl
        refine pure_ (i := 27) (N := some 34) (v := ?_) (a' := ?_) #[true, true, true, true, true, true, true, true, true, true, true, true, true, true, true, true, true, true, true, true, true, true, true, true, true, true, true, true, true, true, true, true, false, false, false, false, false, false, false, false, false, false] rfl rfl (by kernel_rfl) (fun _ _ _ h => h) (Or.inl ⟨by rfl, ?_⟩) ?_ ?_
        rotate_left
        · intro w'
          go_simp
          with_reducible rfl
        rotate_left
        · simp only [Act.put, pkA, pkZ, pkS, i64_w, i32_w]
          rfl
        refine pure_ (i := 32) (N := some 39) (v := ?_) (a' := ?_) #[true, true, true, true, true, true, true, true, true, true, true, true, true, true, true, true, true, true, true, true, true, true, true, true, true, true, true, true, true, true, true, true, true, false, false, false, false, false, false, false, false, false] rfl rfl (by kernel_rfl) (fun _ _ _ h => h) (Or.inl ⟨by rfl, ?_⟩) ?_ ?_
        rotate_left
        · intro w'
          go_simp
          with_reducible rfl
        rotate_left
        · simp only [Act.put, pkA, pkZ, pkS, i64_w, i32_w]
          rfl
        refine pure_ (i := 33) (N := some 40) (v := ?_) (a' := ?_) #[true, true, true, true, true, true, true, true, true, true, true, true, true, true, true, true, true, true, true, true, true, true, true, true, true, true, true, true, true, true, true, true, true, true, false, false, false, false, false, false, false, false] rfl rfl (by kernel_rfl) (fun _ _ _ h => h) (Or.inl ⟨by rfl, ?_⟩) ?_ ?_
        rotate_left
        · intro w'
          go_simp
          with_reducible rfl
        rotate_left
        · simp only [Act.put, pkA, pkZ, pkS, i64_w, i32_w]
          rfl
        refine take_ (i := 34) (N := some 41) (v := ?_) (a' := ?_) #[true, true, true, true, true, true, true, true, true, true, true, true, true, true, true, true, true, true, true, true, true, true, true, true, true, true, true, true, true, true, true, true, true, true, true, false, false, false, false, false, false, false] rfl rfl (by kernel_rfl) (fun _ _ _ h => h) (Or.inl ⟨by rfl, ?_⟩) hHeld ?_ ?_
        rotate_left
        · rintro w' ⟨s0, s1, s2, s3, s4, s5, s6, s7⟩
          go_simp
          with_reducible rfl
        rotate_left
        · simp only [Act.put, pkA, pkZ, pkS, i64_w, i32_w]
          rfl
        refine one_ (i := 35) (N := some 42) #[true, true, true, true, true, true, true, true, true, true, true, true, true, true, true, true, true, true, true, true, true, true, true, true, true, true, true, true, true, true, true, true, true, true, true, true, false, false, false, false, false, false] rfl rfl (by kernel_rfl) (by decide) (fun K hK => ?_)
        refine goes_ Try.func73 (by kernel_rfl) rfl #[.slice A n c] (by rfl) rfl rfl (by simp only [List.map_toArray, List.map_cons, List.map_nil]; rfl) ?_
        refine (HRS.out _ gr1_26).mono ?_
        rintro e v35 ⟨rfl, hb35⟩
        refine ⟨_, rfl, ?_⟩
        have gr1_35 := gr1_26.trans (hb35.mono gr1_26.size)
        refine hK.out _ _ ⟨(HS.out _ gr1_35).1, (HS.out _ gr1_35).2.1, (HS.out _ gr1_35).2.2.1, (HS.out _ gr1_35).2.2.2.1, (HS.out _ gr1_35).2.2.2.2.1, (HS.out _ gr1_35).2.2.2.2.2.1, (HS.out _ gr1_35).2.2.2.2.2.2.1, (HS.out _ gr1_35).2.2.2.2.2.2.2⟩ (fun hHeld => ?_)
        clear hK K
        refine norm_ (a' := ?_) ?_ ?_
        rotate_left
        · show Act.put _ (some 42) _ = _
          simp only [Act.put, pkA, pkZ, pkS, i64_w, i32_w]
          rfl
        refine pure_ (i := 36) (N := some 43) (v := ?_) (a' := ?_) #[true, true, true, true, true, true, true, true, true, true, true, true, true, true, true, true, true, true, true, true, true, true, true, true, true, true, true, true, true, true, true, true, true, true, true, true, true, false, false, false, false, false] rfl rfl (by kernel_rfl) (fun _ _ _ h => h) (Or.inl ⟨by rfl, ?_⟩) ?_ ?_
        rotate_left
        · intro w'
          go_simp
          with_reducible rfl
        rotate_left
        · simp only [Act.put, pkA, pkZ, pkS, i64_w, i32_w]
          rfl
        refine pure_ (i := 37) (N := some 44) (v := ?_) (a' := ?_) #[true, true, true, true, true, true, true, true, true, true, true, true, true, true, true, true, true, true, true, true, true, true, true, true, true, true, true, true, true, true, true, true, true, true, true, true, true, true, false, false, false, false] rfl rfl (by kernel_rfl) (fun _ _ _ h => h) (Or.inl ⟨by rfl, ?_⟩) ?_ ?_
        rotate_left
        · intro w'
          go_simp
          with_reducible rfl
        rotate_left
        · simp only [Act.put, pkA, pkZ, pkS, i64_w, i32_w]
          rfl
        refine pure_ (i := 38) (N := some 45) (v := ?_) (a' := ?_) #[true, true, true, true, true, true, true, true, true, true, true, true, true, true, true, true, true, true, true, true, true, true, true, true, true, true, true, true, true, true, true, true, true, true, true, true, true, true, true, false, false, false] rfl rfl (by kernel_rfl) (fun _ _ _ h => h) (Or.inl ⟨by rfl, ?_⟩) ?_ ?_
        rotate_left
        · intro w'
          go_simp
          with_reducible rfl
        rotate_left
        · simp only [Act.put, pkA, pkZ, pkS, i64_w, i32_w]
          rfl
        refine one_ (i := 39) (N := some 46) #[true, true, true, true, true, true, true, true, true, true, true, true, true, true, true, true, true, true, true, true, true, true, true, true, true, true, true, true, true, true, true, true, true, true, true, true, true, true, true, true, false, false] rfl rfl (by kernel_rfl) (by decide) (fun K hK => ?_)
        refine value_ (w1 := ?_) (v := ?_) (by rfl) rfl ?_ ?_
        rotate_left 2
        · go_simp
          constructor
          · rfl
          · rfl
        have gr9 : Below w1.heap.size w1 (v35.alloc (.cells #[.bool (!nm), .int .i64 7, .bool (true), .int .i64 10, .bool (!mc), .int .i64 13, .bool kn, .int .i64 8, .bool (!rs), .int .i64 14] 114)) := gr1_35.alloc gr1_35.size _
        have h9 := (Go.MapKept.heap_alloc v35 (.cells #[.bool (!nm), .int .i64 7, .bool (true), .int .i64 10, .bool (!mc), .int .i64 13, .bool kn, .int .i64 8, .bool (!rs), .int .i64 14] 114)).1
        obtain ⟨z9, hz9⟩ : ∃ z, v35.heap.size = z := ⟨_, rfl⟩
        rw [hz9] at h9 ⊢
        obtain ⟨v39, hv39⟩ : ∃ W, v35.alloc (.cells #[.bool (!nm), .int .i64 7, .bool (true), .int .i64 10, .bool (!mc), .int .i64 13, .bool kn, .int .i64 8, .bool (!rs), .int .i64 14] 114) = W := ⟨_, rfl⟩
        rw [hv39] at gr9 h9 ⊢
        clear hv39 hz9
        refine hK.out _ _ ⟨(HS.out _ gr9).1, (HS.out _ gr9).2.1, (HS.out _ gr9).2.2.1, (HS.out _ gr9).2.2.2.1, (HS.out _ gr9).2.2.2.2.1, (HS.out _ gr9).2.2.2.2.2.1, (HS.out _ gr9).2.2.2.2.2.2.1, (HS.out _ gr9).2.2.2.2.2.2.2⟩ (fun hHeld => ?_)
        clear hK K
        refine norm_ (a' := ?_) ?_ ?_
        rotate_left
        · show Act.put _ (some 46) _ = _
          simp only [Act.put, pkA, pkZ, pkS, i64_w, i32_w]
          rfl
        refine one_ (i := 40) (N := some 47) #[true, true, true, true, true, true, true, true, true, true, true, true, true, true, true, true, true, true, true, true, true, true, true, true, true, true, true, true, true, true, true, true, true, true, true, true, true, true, true, true, true, false] rfl rfl (by kernel_rfl) (by decide) (fun K hK => ?_)
        refine goes_ Try.func71 (by kernel_rfl) rfl #[.slice (some ⟨z9, 0, none⟩) 5 5] (by rfl) rfl rfl (by simp only [List.map_toArray, List.map_cons, List.map_nil]; rfl) ?_
        refine (go_first [⟨!nm, 7⟩, ⟨true, 10⟩, ⟨!mc, 13⟩, ⟨kn, 8⟩, ⟨!rs, 14⟩] (by simp) z9 5 (Nat.le_refl _) _ _ h9).mono ?_
        rintro e v40 ⟨rfl, hb40⟩
        refine ⟨_, rfl, ?_⟩
        have gr10 := gr9.trans (hb40.mono gr9.size)
        refine hK.out _ _ ⟨(HS.out _ gr10).1, (HS.out _ gr10).2.1, (HS.out _ gr10).2.2.1, (HS.out _ gr10).2.2.2.1, (HS.out _ gr10).2.2.2.2.1, (HS.out _ gr10).2.2.2.2.2.1, (HS.out _ gr10).2.2.2.2.2.2.1, (HS.out _ gr10).2.2.2.2.2.2.2⟩ (fun hHeld => ?_)
        clear hK K
        refine norm_ (a' := ?_) ?_ ?_
        rotate_left
        · show Act.put _ (some 47) _ = _
          simp only [Act.put, pkA, pkZ, pkS, i64_w, i32_w]
          rfl
        refine pure_ (i := 41) (N := some 4) (v := ?_) (a' := ?_) #[true, true, true, true, true, true, true, true, true, true, true, true, true, true, true, true, true, true, true, true, true, true, true, true, true, true, true, true, true, true, true, true, true, true, true, true, true, true, true, true, true, true] rfl rfl (by kernel_rfl) (fun _ _ _ h => h) (Or.inl ⟨by rfl, ?_⟩) ?_ ?_
        rotate_left
        · intro w'
          go_simp
          with_reducible rfl
        rotate_left
        · simp only [Act.put, pkA, pkZ, pkS, i64_w, i32_w]
          rfl
        refine done_ (by kernel_rfl) ?_
        have HF : Hid (rr = firstE [⟨!nm, 7⟩, ⟨true, 10⟩, ⟨!mc, 13⟩, ⟨kn, 8⟩, ⟨!rs, 14⟩]) := Lib.hid (by rw [HE.out]; simp [HK.out, HU.out, H6.out])
        clear hHeld
        obtain ⟨wf, hwf⟩ : ∃ W, v40 = W := ⟨_, rfl⟩
        rw [hwf] at gr10 ⊢
        go_wp2
        go_ret
        exact ⟨by rw [HF.out]; rfl, HG.out.trans (gr10.mono HG.out.size)⟩
  · have HK := Lib.hid (show decide (a.f2 < 1) = false from decide_eq_false hk)
    by_cases hu : a.f4.toList = []
    · have HU := Lib.hid (show a.f4.toList.isEmpty = true from by rw [hu]; rfl)
      have hub : (a.f4.toList == []) = true := by rw [hu]; rfl
      by_cases h6 : n > 6
      · have H6 := Lib.hid (show decide (n > 6) = true from decide_eq_true h6)
        have hk6 : decide ((n : Int) > 6) = true := decide_eq_true (by omega)
        have hkd : decide (a.f2 < 1) = false := HK.out
        clear h6 hu hk
        refine start_ (n := 42) (S := fun w' => w'.cell? ⟨z3, 0, none⟩ = some (.string a.f0) ∧ w'.cell? ⟨z3, 1, none⟩ = some (.string a.f1) ∧ w'.cell? ⟨z3, 2, none⟩ = some (.int .i64 a.f2) ∧ w'.cell? ⟨z3, 3, none⟩ = some (.bool a.f3) ∧ w'.cell? ⟨z3, 4, none⟩ = some (.string a.f4) ∧ w'.cell? ⟨z3, 5, none⟩ = some (.bool a.f5) ∧ w'.cell? ⟨z3, 6, none⟩ = some (.bool a.f6) ∧ w'.cell? ⟨z3, 7, none⟩ = some (.slice A n c)) (ds := []) #[false, false, false, false, false, false, false, false, false, false, false, false, false, false, false, false, false, false, false, false, false, false, false, false, false, false, false, false, false, false, false, false, false, false, false, false, false, false, false, false, false, false] (by kernel_rfl) rfl rfl ⟨(HS.out _ gr1).1, (HS.out _ gr1).2.1, (HS.out _ gr1).2.2.1, (HS.out _ gr1).2.2.2.1, (HS.out _ gr1).2.2.2.2.1, (HS.out _ gr1).2.2.2.2.2.1, (HS.out _ gr1).2.2.2.2.2.2.1, (HS.out _ gr1).2.2.2.2.2.2.2⟩ (fun hHeld => ?_)
        refine pure_ (i := 4) (N := some 11) (v := ?_) (a' := ?_) #[false, false, false, false, true, false, false, false, false, false, false, false, false, false, false, false, false, false, false, false, false, false, false, false, false, false, false, false, false, false, false, false, false, false, false, false, false, false, false, false, false, false] rfl rfl (by kernel_rfl) (fun _ _ _ h => h) (Or.inl ⟨by rfl, ?_⟩) ?_ ?_
        rotate_left
        · intro w'
          go_simp
          with_reducible rfl
        rotate_left
        · simp only [Act.put, pkA, pkZ, pkS, i64_w, i32_w]
          rfl
        refine pure_ (i := 13) (N := some 20) (v := ?_) (a' := ?_) #[false, false, false, false, true, false, false, false, false, false, false, false, false, true, false, false, false, false, false, false, false, false, false, false, false, false, false, false, false, false, false, false, false, false, false, false, false, false, false, false, false, false] rfl rfl (by kernel_rfl) (fun _ _ _ h => h) (Or.inl ⟨by rfl, ?_⟩) ?_ ?_
        rotate_left
        · intro w'
          go_simp
          with_reducible rfl
        rotate_left
        · simp only [Act.put, pkA, pkZ, pkS, i64_w, i32_w]
          rfl
        refine pure_ (i := 23) (N := some 30) (v := ?_) (a' := ?_) #[false, false, false, false, true, false, false, false, false, false, false, false, false, true, false, false, false, false, false, false, false, false, false, true, false, false, false, false, false, false, false, false, false, false, false, false, false, false, false, false, false, false] rfl rfl (by kernel_rfl) (fun _ _ _ h => h) (Or.inl ⟨by rfl, ?_⟩) ?_ ?_
        rotate_left
        · intro w'
          go_simp
          with_reducible rfl
        rotate_left
        · simp only [Act.put, pkA, pkZ, pkS, i64_w, i32_w]
          rfl
        refine pure_ (i := 24) (N := some 31) (v := ?_) (a' := ?_) #[false, false, false, false, true, false, false, false, false, false, false, false, false, true, false, false, false, false, false, false, false, false, false, true, true, false, false, false, false, false, false, false, false, false, false, false, false, false, false, false, false, false] rfl rfl (by kernel_rfl) (fun _ _ _ h => h) (Or.inl ⟨by rfl, ?_⟩) ?_ ?_
        rotate_left
        · intro w'
          go_simp
          with_reducible rfl
        rotate_left
        · simp only [Act.put, pkA, pkZ, pkS, i64_w, i32_w]
          rfl
        refine pure_ (i := 28) (N := some 35) (v := ?_) (a' := ?_) #[false, false, false, false, true, false, false, false, false, false, false, false, false, true, false, false, false, false, false, false, false, false, false, true, true, false, false, false, true, false, false, false, false, false, false, false, false, false, false, false, false, false] rfl rfl (by kernel_rfl) (fun _ _ _ h => h) (Or.inl ⟨by rfl, ?_⟩) ?_ ?_
        rotate_left
        · intro w'
          go_simp
          with_reducible rfl
        rotate_left
        · simp only [Act.put, pkA, pkZ, pkS, i64_w, i32_w]
          rfl
        refine take_ (i := 0) (N := some 7) (v := ?_) (a' := ?_) #[true, false, false, false, true, false, false, false, false, false, false, false, false, true, false, false, false, false, false, false, false, false, false, true, true, false, false, false, true, false, false, false, false, false, false, false, false, false, false, false, false, false] rfl rfl (by kernel_rfl) (fun _ _ _ h => h) (Or.inl ⟨by rfl, ?_⟩) hHeld ?_ ?_
        rotate_left
        · rintro w' ⟨s0, s1, s2, s3, s4, s5, s6, s7⟩
          go_simp
          with_reducible rfl
        rotate_left
        · simp only [Act.put, pkA, pkZ, pkS, i64_w, i32_w]
          rfl
        refine take_ (i := 5) (N := some 12) (v := ?_) (a' := ?_) #[true, false, false, false, true, true, false, false, false, false, false, false, false, true, false, false, false, false, false, false, false, false, false, true, true, false, false, false, true, false, false, false, false, false, false, false, false, false, false, false, false, false] rfl rfl (by kernel_rfl) (fun _ _ _ h => h) (Or.inl ⟨by rfl, ?_⟩) hHeld ?_ ?_
        rotate_left
        · rintro w' ⟨s0, s1, s2, s3, s4, s5, s6, s7⟩
          go_simp
          with_reducible rfl
        rotate_left
        · simp only [Act.put, pkA, pkZ, pkS, i64_w, i32_w]
          rfl
        refine pure_ (i := 6) (N := some 13) (v := ?_) (a' := ?_) #[true, false, false, false, true, true, true, false, false, false, false, false, false, true, false, false, false, false, false, false, false, false, false, true, true, false, false, false, true, false, false, false, false, false, false, false, false, false, false, false, false, false] rfl rfl (by kernel_rfl) (fun _ _ _ h => h) (Or.inl ⟨by rfl, ?_⟩) ?_ ?_
        rotate_left
        · intro w'
          go_simp
          with_reducible rfl
        rotate_left
        · simp only [Act.put, pkA, pkZ, pkS, i64_w, i32_w]
          rfl
        refine take_ (i := 14) (N := some 21) (v := ?_) (a' := ?_) #[true, false, false, false, true, true, true, false, false, false, false, false, false, true, true, false, false, false, false, false, false, false, false, true, true, false, false, false, true, false, false, false, false, false, false, false, false, false, false, false, false, false] rfl rfl (by kernel_rfl) (fun _ _ _ h => h) (Or.inl ⟨by rfl, ?_⟩) hHeld ?_ ?_
        rotate_left
        · rintro w' ⟨s0, s1, s2, s3, s4, s5, s6, s7⟩
          go_simp
          with_reducible rfl
        rotate_left
        · simp only [Act.put, pkA, pkZ, pkS, i64_w, i32_w]
          rfl
        refine pure_ (i := 15) (N := some 22) (v := ?_) (a' := ?_) #[true, false, false, false, true, true, true, false, false, false, false, false, false, true, true, true, false, false, false, false, false, false, false, true, true, false, false, false, true, false, false, false, false, false, false, false, false, false, false, false, false, false] rfl rfl (by kernel_rfl) (fun _ _ _ h => h) (Or.inl ⟨by rfl, ?_⟩) ?_ ?_
        rotate_left
        · intro w'
          go_simp
          with_reducible rfl
        rotate_left
        · simp only [Act.put, pkA, pkZ, pkS, i64_w, i32_w]
          rfl
        refine take_ (i := 25) (N := some 32) (v := ?_) (a' := ?_) #[true, false, false, false, true, true, true, false, false, false, false, false, false, true, true, true, false, false, false, false, false, false, false, true, true, true, false, false, true, false, false, false, false, false, false, false, false, false, false, false, false, false] rfl rfl (by kernel_rfl) (fun _ _ _ h => h) (Or.inl ⟨by rfl, ?_⟩) hHeld ?_ ?_
        rotate_left
        · rintro w' ⟨s0, s1, s2, s3, s4, s5, s6, s7⟩
          go_simp
          with_reducible rfl
        rotate_left
        · simp only [Act.put, pkA, pkZ, pkS, i64_w, i32_w]
          rfl
        refine take_ (i := 29) (N := some 36) (v := ?_) (a' := ?_) #[true, false, false, false, true, true, true, false, false, false, false, false, false, true, true, true, false, false, false, false, false, false, false, true, true, true, false, false, true, true, false, false, false, false, false, false, false, false, false, false, false, false] rfl rfl (by kernel_rfl) (fun _ _ _ h => h) (Or.inl ⟨by rfl, ?_⟩) hHeld ?_ ?_
        rotate_left
        · rintro w' ⟨s0, s1, s2, s3, s4, s5, s6, s7⟩
          go_simp
          with_reducible rfl
        rotate_left
        · simp only [Act.put, pkA, pkZ, pkS, i64_w, i32_w]
          rfl
        refine pure_ (i := 30) (N := some 37) (v := ?_) (a' := ?_) #[true, false, false, false, true, true, true, false, false, false, false, false, false, true, true, true, false, false, false, false, false, false, false, true, true, true, false, false, true, true, true, false, false, false, false, false, false, false, false, false, false, false] rfl rfl (by kernel_rfl) (fun _ _ _ h => h) (Or.inl ⟨by rfl, ?_⟩) ?_ ?_
        rotate_left
        · intro w'
          go_simp
          with_reducible rfl
        rotate_left
        · simp only [Act.put, pkA, pkZ, pkS, i64_w, i32_w]
          rfl
        refine pure_ (i := 31) (N := some 38) (v := ?_) (a' := ?_) #[true, false, false, false, true, true, true, false, false, false, false, false, false, true, true, true, false, false, false, false, false, false, false, true, true, true, false, false, true, true, true, true, false, false, false, false, false, false, false, false, false, false] rfl rfl (by kernel_rfl) (fun _ _ _ h => h) (Or.inl ⟨by rfl, ?_⟩) ?_ ?_
        rotate_left
        · intro w'
          go_simp
          with_reducible rfl
        rotate_left
        · simp only [Act.put, pkA, pkZ, pkS, i64_w, i32_w]
          rfl
        refine one_ (i := 1) (N := some 8) #[true, true, false, false, true, true, true, false, false, false, false, false, false, true, true, true, false, false, false, false, false, false, false, true, true, true, false, false, true, true, true, true, false, false, false, false, false, false, false, false, false, false] rfl rfl (by kernel_rfl) (by decide) (fun K hK => ?_)
        refine goes_ Try.func72 (by kernel_rfl) rfl #[.agg #[.string a.f0, .string a.f1, .int .i64 a.f2, .bool a.f3, .string a.f4, .bool a.f5, .bool a.f6, .slice A n c]] (by rfl) rfl rfl (by simp only [List.map_toArray, List.map_cons, List.map_nil]; rfl) ?_
        refine (HNM.out _ gr1).mono ?_
        rintro e v1 ⟨rfl, hb1⟩
        refine ⟨_, rfl, ?_⟩
        have gr1_1 := gr1.trans (hb1.mono gr1.size)
        refine hK.out _ _ ⟨(HS.out _ gr1_1).1, (HS.out _ gr1_1).2.1, (HS.out _ gr1_1).2.2.1, (HS.out _ gr1_1).2.2.2.1, (HS.out _ gr1_1).2.2.2.2.1, (HS.out _ gr1_1).2.2.2.2.2.1, (HS.out _ gr1_1).2.2.2.2.2.2.1, (HS.out _ gr1_1).2.2.2.2.2.2.2⟩ (fun hHeld => ?_)
        clear hK K
        refine norm_ (a' := ?_) ?_ ?_
        rotate_left
        · show Act.put _ (some 8) _ = _
          simp only [Act.put, pkA, pkZ, pkS, i64_w, i32_w]
          rfl
        refine pure_ (i := 2) (N := some 9) (v := ?_) (a' := ?_) #[true, true, true, false, true, true, true, false, false, false, false, false, false, true, true, true, false, false, false, false, false, false, false, true, true, true, false, false, true, true, true, true, false, false, false, false, false, false, false, false, false, false] rfl rfl (by kernel_rfl) (fun _ _ _ h => h) (Or.inl ⟨by rfl, ?_⟩) ?_ ?_
        rotate_left
        · intro w'
          go_simp
          with_reducible rfl
        rotate_left
        · simp only [Act.put, pkA, pkZ, pkS, i64_w, i32_w]
          rfl
        refine pure_ (i := 3) (N := some 10) (v := ?_) (a' := ?_) #[true, true, true, true, true, true, true, false, false, false, false, false, false, true, true, true, false, false, false, false, false, false, false, true, true, true, false, false, true, true, true, true, false, false, false, false, false, false, false, false, false, false] rfl rfl (by kernel_rfl) (fun _ _ _ h => h) (Or.inl ⟨by rfl, ?_⟩) ?_ ?_
        rotate_left
        · intro w'
          go_simp
          with_reducible rfl
        rotate_left
        · simp only [Act.put, pkA, pkZ, pkS, i64_w, i32_w]
          rfl
        refine pure_ (i := 7) (N := some 14) (v := ?_) (a' := ?_) #[true, true, true, true, true, true, true, true, false, false, false, false, false, true, true, true, false, false, false, false, false, false, false, true, true, true, false, false, true, true, true, true, false, false, false, false, false, false, false, false, false, false] rfl rfl (by kernel_rfl) (fun _ _ _ h => h) (Or.inl ⟨by rfl, ?_⟩) ?_ ?_
        rotate_left
        · intro w'
          go_simp
          with_reducible rfl
        rotate_left
        · simp only [Act.put, pkA, pkZ, pkS, i64_w, i32_w]
          rfl
        refine pure_ (i := 8) (N := some 15) (v := ?_) (a' := ?_) #[true, true, true, true, true, true, true, true, true, false, false, false, false, true, true, true, false, false, false, false, false, false, false, true, true, true, false, false, true, true, true, true, false, false, false, false, false, false, false, false, false, false] rfl rfl (by kernel_rfl) (fun _ _ _ h => h) (Or.inl ⟨by rfl, ?_⟩) ?_ ?_
        rotate_left
        · intro w'
          go_simp
          with_reducible rfl
        rotate_left
        · simp only [Act.put, pkA, pkZ, pkS, i64_w, i32_w]
          rfl
        refine pure_ (i := 16) (N := some 23) (v := ?_) (a' := ?_) #[true, true, true, true, true, true, true, true, true, false, false, false, false, true, true, true, true, false, false, false, false, false, false, true, true, true, false, false, true, true, true, true, false, false, false, false, false, false, false, false, false, false] rfl rfl (by kernel_rfl) (fun _ _ _ h => h) (Or.inl ⟨by rfl, ?_⟩) ?_ ?_
        rotate_left
        · intro w'
          go_simp
          with_reducible rfl
        rotate_left
        · simp only [Act.put, pkA, pkZ, pkS, i64_w, i32_w]
          rfl
        refine pure_ (i := 17) (N := some 24) (v := undef) (a' := ?_) #[true, true, true, true, true, true, true, true, true, false, false, false, false, true, true, true, true, true, false, false, false, false, false, true, true, true, false, false, true, true, true, true, false, false, false, false, false, false, false, false, false, false] rfl rfl (by kernel_rfl) (fun _ _ _ h => h) (Or.inr ⟨by rfl, rfl⟩) ?_ ?_
        rotate_left
        · simp only [Act.put, pkA, pkZ, pkS, i64_w, i32_w]
          rfl
        refine pure_ (i := 18) (N := some 25) (v := undef) (a' := ?_) #[true, true, true, true, true, true, true, true, true, false, false, false, false, true, true, true, true, true, true, false, false, false, false, true, true, true, false, false, true, true, true, true, false, false, false, false, false, false, false, false, false, false] rfl rfl (by kernel_rfl) (fun _ _ _ h => h) (Or.inr ⟨by rfl, rfl⟩) ?_ ?_
        rotate_left
        · simp only [Act.put, pkA, pkZ, pkS, i64_w, i32_w]
          rfl
        refine pure_ (i := 19) (N := some 26) (v := undef) (a' := ?_) #[true, true, true, true, true, true, true, true, true, false, false, false, false, true, true, true, true, true, true, true, false, false, false, true, true, true, false, false, true, true, true, true, false, false, false, false, false, false, false, false, false, false] rfl rfl (by kernel_rfl) (fun _ _ _ h => h) (Or.inr ⟨by rfl, rfl⟩) ?_ ?_
        rotate_left
        · simp only [Act.put, pkA, pkZ, pkS, i64_w, i32_w]
          rfl
        refine pure_ (i := 20) (N := some 27) (v := undef) (a' := ?_) #[true, true, true, true, true, true, true, true, true, false, false, false, false, true, true, true, true, true, true, true, true, false, false, true, true, true, false, false, true, true, true, true, false, false, false, false, false, false, false, false, false, false] rfl rfl (by kernel_rfl) (fun _ _ _ h => h) (Or.inr ⟨by rfl, rfl⟩) ?_ ?_
        rotate_left
        · simp only [Act.put, pkA, pkZ, pkS, i64_w, i32_w]
          rfl
        refine pure_ (i := 21) (N := some 28) (v := ?_) (a' := ?_) #[true, true, true, true, true, true, true, true, true, false, false, false, false, true, true, true, true, true, true, true, true, true, false, true, true, true, false, false, true, true, true, true, false, false, false, false, false, false, false, false, false, false] rfl rfl (by kernel_rfl) (fun _ _ _ h => h) (Or.inl ⟨by rfl, ?_⟩) ?_ ?_
        rotate_left
        · intro w'
          go_simp
          with_reducible rfl
        rotate_left
        · simp only [Act.put, pkA, pkZ, pkS, i64_w, i32_w]
          rfl
        refine pure_ (i := 22) (N := some 29) (v := ?_) (a' := ?_) #[true, true, true, true, true, true, true, true, true, false, false, false, false, true, true, true, true, true, true, true, true, true, true, true, true, true, false, false, true, true, true, true, false, false, false, false, false, false, false, false, false, false] rfl rfl (by kernel_rfl) (fun _ _ _ h => h) (Or.inl ⟨by rfl, ?_⟩) ?_ ?_
        rotate_left
        · intro w'
          go_simp
          with_reducible rfl
        rotate_left
        · simp only [Act.put, pkA, pkZ, pkS, i64_w, i32_w]
          rfl
        refine take_ (i := 9) (N := some 16) (v := ?_) (a' := ?_) #[true, true, true, true, true, true, true, true, true, true, false, false, false, true, true, true, true, true, true, true, true, true, true, true, true, true, false, false, true, true, true, true, false, false, false, false, false, false, false, false, false, false] rfl rfl (by kernel_rfl) (fun _ _ _ h => h) (Or.inl ⟨by rfl, ?_⟩) hHeld ?_ ?_
        rotate_left
        · rintro w' ⟨s0, s1, s2, s3, s4, s5, s6, s7⟩
          go_simp
          with_reducible rfl
        rotate_left
        · simp only [Act.put, pkA, pkZ, pkS, i64_w, i32_w]
          rfl
        refine pure_ (i := 10) (N := some 17) (v := ?_) (a' := ?_) #[true, true, true, true, true, true, true, true, true, true, true, false, false, true, true, true, true, true, true, true, true, true, true, true, true, true, false, false, true, true, true, true, false, false, false, false, false, false, false, false, false, false] rfl rfl (by kernel_rfl) (fun _ _ _ h => h) (Or.inl ⟨by rfl, ?_⟩) ?_ ?_
        rotate_left
        · intro w'
          go_simp
          with_reducible rfl
        rotate_left
        · simp only [Act.put, pkA, pkZ, pkS, i64_w, i32_w]
          rfl
        refine pure_ (i := 11) (N := some 18) (v := ?_) (a' := ?_) #[true, true, true, true, true, true, true, true, true, true, true, true, false, true, true, true, true, true, true, true, true, true, true, true, true, true, false, false, true, true, true, true, false, false, false, false, false, false, false, false, false, false] rfl rfl (by kernel_rfl) (fun _ _ _ h => h) (Or.inl ⟨by rfl, ?_⟩) ?_ ?_
        rotate_left
        · intro w'
          go_simp
          with_reducible rfl
        rotate_left
        · simp only [Act.put, pkA, pkZ, pkS, i64_w, i32_w]
          rfl
        refine pure_ (i := 12) (N := some 19) (v := ?_) (a' := ?_) #[true, true, true, true, true, true, true, true, true, true, true, true, true, true, true, true, true, true, true, true, true, true, true, true, true, true, false, false, true, true, true, true, false, false, false, false, false, false, false, false, false, false] rfl rfl (by kernel_rfl) (fun _ _ _ h => h) (Or.inl ⟨by rfl, ?_⟩) ?_ ?_
        rotate_left
        · intro w'
          go_simp
          with_reducible rfl
        rotate_left
        · simp only [Act.put, pkA, pkZ, pkS, i64_w, i32_w]
          rfl
        refine one_ (i := 26) (N := some 33) #[true, true, true, true, true, true, true, true, true, true, true, true, true, true, true, true, true, true, true, true, true, true, true, true, true, true, true, false, true, true, true, true, false, false, false, false, false, false, false, false, false, false] rfl rfl (by kernel_rfl) (by decide) (fun K hK => ?_)
        refine goesV_ Try.func70 (by kernel_rfl) rfl #[.pointer (some ⟨z2, 0, none⟩)] #[.string a.f0, .pointer (some ⟨z2, 0, none⟩)] (by rfl) rfl rfl rfl (by simp only [List.map_toArray, List.map_cons, List.map_nil]; rfl) ?_
        refine (HKN.out _ gr1_1).mono ?_
        rintro e v26 ⟨rfl, hb26⟩
        refine ⟨_, rfl, ?_⟩
        have gr1_26 := gr1_1.trans (hb26.mono gr1_1.size)
        refine hK.out _ _ ⟨(HS.out _ gr1_26).1, (HS.out _ gr1_26).2.1, (HS.out _ gr1_26).2.2.1, (HS.out _ gr1_26).2.2.2.1, (HS.out _ gr1_26).2.2.2.2.1, (HS.out _ gr1_26).2.2.2.2.2.1, (HS.out _ gr1_26).2.2.2.2.2.2.1, (HS.out _ gr1_26).2.2.2.2.2.2.2⟩ (fun hHeld => ?_)
        clear hK K
        refine norm_ (a' := ?_) ?_ ?_
        rotate_left
        · show Act.put _ (some 33) _ = _
          simp only [Act.put, pkA, pkZ, pkS, i64_w, i32_w]
          rfl
        refine pure_ (i := 27) (N := some 34) (v := ?_) (a' := ?_) #[true, true, true, true, true, true, true, true, true, true, true, true, true, true, true, true, true, true, true, true, true, true, true, true, true, true, true, true, true, true, true, true, false, false, false, false, false, false, false, false, false, false] rfl rfl (by kernel_rfl) (fun _ _ _ h => h) (Or.inl ⟨by rfl, ?_⟩) ?_ ?_
        rotate_left
        · intro w'
          go_simp
          with_reducible rfl
        rotate_left
        · simp only [Act.put, pkA, pkZ, pkS, i64_w, i32_w]
          rfl
        refine pure_ (i := 32) (N := some 39) (v := ?_) (a' := ?_) #[true, true, true, true, true, true, true, true, true, true, true, true, true, true, true, true, true, true, true, true, true, true, true, true, true, true, true, true, true, true, true, true, true, false, false, false, false, false, false, false, false, false] rfl rfl (by kernel_rfl) (fun _ _ _ h => h) (Or.inl ⟨by rfl, ?_⟩) ?_ ?_
        rotate_left
        · intro w'
          go_simp
          with_reducible rfl
        rotate_left
        · simp only [Act.put, pkA, pkZ, pkS, i64_w, i32_w]
          rfl
        refine pure_ (i := 33) (N := some 40) (v := undef) (a' := ?_) #[true, true, true, true, true, true, true, true, true, true, true, true, true, true, true, true, true, true, true, true, true, true, true, true, true, true, true, true, true, true, true, true, true, true, false, false, false, false, false, false, false, false] rfl rfl (by kernel_rfl) (fun _ _ _ h => h) (Or.inr ⟨by rfl, rfl⟩) ?_ ?_
        rotate_left
        · simp only [Act.put, pkA, pkZ, pkS, i64_w, i32_w]
          rfl
        refine pure_ (i := 34) (N := some 41) (v := undef) (a' := ?_) #[true, true, true, true, true, true, true, true, true, true, true, true, true, true, true, true, true, true, true, true, true, true, true, true, true, true, true, true, true, true, true, true, true, true, true, false, false, false, false, false, false, false] rfl rfl (by kernel_rfl) (fun _ _ _ h => h) (Or.inr ⟨by rfl, rfl⟩) ?_ ?_
        rotate_left
        · simp only [Act.put, pkA, pkZ, pkS, i64_w, i32_w]
          rfl
        refine pure_ (i := 35) (N := some 42) (v := undef) (a' := ?_) #[true, true, true, true, true, true, true, true, true, true, true, true, true, true, true, true, true, true, true, true, true, true, true, true, true, true, true, true, true, true, true, true, true, true, true, true, false, false, false, false, false, false] rfl rfl (by kernel_rfl) (fun _ _ _ h => h) (Or.inr ⟨by rfl, rfl⟩) ?_ ?_
        rotate_left
        · simp only [Act.put, pkA, pkZ, pkS, i64_w, i32_w]
          rfl
        refine pure_ (i := 36) (N := some 43) (v := undef) (a' := ?_) #[true, true, true, true, true, true, true, true, true, true, true, true, true, true, true, true, true, true, true, true, true, true, true, true, true, true, true, true, true, true, true, true, true, true, true, true, true, false, false, false, false, false] rfl rfl (by kernel_rfl) (fun _ _ _ h => h) (Or.inr ⟨by rfl, rfl⟩) ?_ ?_
        rotate_left
        · simp only [Act.put, pkA, pkZ, pkS, i64_w, i32_w]
          rfl
        refine pure_ (i := 37) (N := some 44) (v := ?_) (a' := ?_) #[true, true, true, true, true, true, true, true, true, true, true, true, true, true, true, true, true, true, true, true, true, true, true, true, true, true, true, true, true, true, true, true, true, true, true, true, true, true, false, false, false, false] rfl rfl (by kernel_rfl) (fun _ _ _ h => h) (Or.inl ⟨by rfl, ?_⟩) ?_ ?_
        rotate_left
        · intro w'
          go_simp
          with_reducible rfl
        rotate_left
        · simp only [Act.put, pkA, pkZ, pkS, i64_w, i32_w]
          rfl
        refine pure_ (i := 38) (N := some 45) (v := ?_) (a' := ?_) #[true, true, true, true, true, true, true, true, true, true, true, true, true, true, true, true, true, true, true, true, true, true, true, true, true, true, true, true, true, true, true, true, true, true, true, true, true, true, true, false, false, false] rfl rfl (by kernel_rfl) (fun _ _ _ h => h) (Or.inl ⟨by rfl, ?_⟩) ?_ ?_
        rotate_left
        · intro w'
          go_simp
          with_reducible rfl
        rotate_left
        · simp only [Act.put, pkA, pkZ, pkS, i64_w, i32_w]
          rfl
        refine one_ (i := 39) (N := some 46) #[true, true, true, true, true, true, true, true, true, true, true, true, true, true, true, true, true, true, true, true, true, true, true, true, true, true, true, true, true, true, true, true, true, true, true, true, true, true, true, true, false, false] rfl rfl (by kernel_rfl) (by decide) (fun K hK => ?_)
        refine value_ (w1 := ?_) (v := ?_) (by rfl) rfl ?_ ?_
        rotate_left 2
        · go_simp
          constructor
          · rfl
          · rfl
        have gr9 : Below w1.heap.size w1 (v26.alloc (.cells #[.bool (!nm), .int .i64 7, .bool (decide (a.f2 > 5)), .int .i64 10, .bool (false), .int .i64 13, .bool kn, .int .i64 8, .bool (true), .int .i64 14] 114)) := gr1_26.alloc gr1_26.size _
        have h9 := (Go.MapKept.heap_alloc v26 (.cells #[.bool (!nm), .int .i64 7, .bool (decide (a.f2 > 5)), .int .i64 10, .bool (false), .int .i64 13, .bool kn, .int .i64 8, .bool (true), .int .i64 14] 114)).1
        obtain ⟨z9, hz9⟩ : ∃ z, v26.heap.size = z := ⟨_, rfl⟩
        rw [hz9] at h9 ⊢
        obtain ⟨v39, hv39⟩ : ∃ W, v26.alloc (.cells #[.bool (!nm), .int .i64 7, .bool (decide (a.f2 > 5)), .int .i64 10, .bool (false), .int .i64 13, .bool kn, .int .i64 8, .bool (true), .int .i64 14] 114) = W := ⟨_, rfl⟩
        rw [hv39] at gr9 h9 ⊢
        clear hv39 hz9
        refine hK.out _ _ ⟨(HS.out _ gr9).1, (HS.out _ gr9).2.1, (HS.out _ gr9).2.2.1, (HS.out _ gr9).2.2.2.1, (HS.out _ gr9).2.2.2.2.1, (HS.out _ gr9).2.2.2.2.2.1, (HS.out _ gr9).2.2.2.2.2.2.1, (HS.out _ gr9).2.2.2.2.2.2.2⟩ (fun hHeld => ?_)
        clear hK K
        refine norm_ (a' := ?_) ?_ ?_
        rotate_left
        · show Act.put _ (some 46) _ = _
          simp only [Act.put, pkA, pkZ, pkS, i64_w, i32_w]
          rfl
        refine one_ (i := 40) (N := some 47) #[true, true, true, true, true, true, true, true, true, true, true, true, true, true, true, true, true, true, true, true, true, true, true, true, true, true, true, true, true, true, true, true, true, true, true, true, true, true, true, true, true, false] rfl rfl (by kernel_rfl) (by decide) (fun K hK => ?_)
        refine goes_ Try.func71 (by kernel_rfl) rfl #[.slice (some ⟨z9, 0, none⟩) 5 5] (by rfl) rfl rfl (by simp only [List.map_toArray, List.map_cons, List.map_nil]; rfl) ?_
        refine (go_first [⟨!nm, 7⟩, ⟨decide (a.f2 > 5), 10⟩, ⟨false, 13⟩, ⟨kn, 8⟩, ⟨true, 14⟩] (by simp) z9 5 (Nat.le_refl _) _ _ h9).mono ?_
        rintro e v40 ⟨rfl, hb40⟩
        refine ⟨_, rfl, ?_⟩
        have gr10 := gr9.trans (hb40.mono gr9.size)
        refine hK.out _ _ ⟨(HS.out _ gr10).1, (HS.out _ gr10).2.1, (HS.out _ gr10).2.2.1, (HS.out _ gr10).2.2.2.1, (HS.out _ gr10).2.2.2.2.1, (HS.out _ gr10).2.2.2.2.2.1, (HS.out _ gr10).2.2.2.2.2.2.1, (HS.out _ gr10).2.2.2.2.2.2.2⟩ (fun hHeld => ?_)
        clear hK K
        refine norm_ (a' := ?_) ?_ ?_
        rotate_left
        · show Act.put _ (some 47) _ = _
          simp only [Act.put, pkA, pkZ, pkS, i64_w, i32_w]
          rfl
        refine pure_ (i := 41) (N := some 4) (v := ?_) (a' := ?_) #[true, true, true, true, true, true, true, true, true, true, true, true, true, true, true, true, true, true, true, true, true, true, true, true, true, true, true, true, true, true, true, true, true, true, true, true, true, true, true, true, true, true] rfl rfl (by kernel_rfl) (fun _ _ _ h => h) (Or.inl ⟨by rfl, ?_⟩) ?_ ?_
        rotate_left
        · intro w'
          go_simp
          with_reducible rfl
        rotate_left
        · simp only [Act.put, pkA, pkZ, pkS, i64_w, i32_w]
          rfl
        refine done_ (by kernel_rfl) ?_
        have HF : Hid (rr = firstE [⟨!nm, 7⟩, ⟨decide (a.f2 > 5), 10⟩, ⟨false, 13⟩, ⟨kn, 8⟩, ⟨true, 14⟩]) := Lib.hid (by rw [HE.out]; simp [HK.out, HU.out, H6.out])
        clear hHeld
        obtain ⟨wf, hwf⟩ : ∃ W, v40 = W := ⟨_, rfl⟩
        rw [hwf] at gr10 ⊢
        go_wp2
        go_ret
        exact ⟨by rw [HF.out]; rfl, HG.out.trans (gr10.mono HG.out.size)⟩
      · have H6 := Lib.hid (show decide (n > 6) = false from decide_eq_false h6)
        have hk6 : decide ((n : Int) > 6) = false := decide_eq_false (by omega)
        have hkd : decide (a.f2 < 1) = false := HK.out
        clear h6 hu hk
        refine start_ (n := 42) (S := fun w' => w'.cell? ⟨z3, 0, none⟩ = some (.string a.f0) ∧ w'.cell? ⟨z3, 1, none⟩ = some (.string a.f1) ∧ w'.cell? ⟨z3, 2, none⟩ = some (.int .i64 a.f2) ∧ w'.cell? ⟨z3, 3, none⟩ = some (.bool a.f3) ∧ w'.cell? ⟨z3, 4, none⟩ = some (.string a.f4) ∧ w'.cell? ⟨z3, 5, none⟩ = some (.bool a.f5) ∧ w'.cell? ⟨z3, 6, none⟩ = some (.bool a.f6) ∧ w'.cell? ⟨z3, 7, none⟩ = some (.slice A n c)) (ds := []) #[false, false, false, false, false, false, false, false, false, false, false, false, false, false, false, false, false, false, false, false, false, false, false, false, false, false, false, false, false, false, false, false, false, false, false, false, false, false, false, false, false, false] (by kernel_rfl) rfl rfl ⟨(HS.out _ gr1).1, (HS.out _ gr1).2.1, (HS.out _ gr1).2.2.1, (HS.out _ gr1).2.2.2.1, (HS.out _ gr1).2.2.2.2.1, (HS.out _ gr1).2.2.2.2.2.1, (HS.out _ gr1).2.2.2.2.2.2.1, (HS.out _ gr1).2.2.2.2.2.2.2⟩ (fun hHeld => ?_)
        refine pure_ (i := 4) (N := some 11) (v := ?_) (a' := ?_) #[false, false, false, false, true, false, false, false, false, false, false, false, false, false, false, false, false, false, false, false, false, false, false, false, false, false, false, false, false, false, false, false, false, false, false, false, false, false, false, false, false, false] rfl rfl (by kernel_rfl) (fun _ _ _ h => h) (Or.inl ⟨by rfl, ?_⟩) ?_ ?_
        rotate_left
        · intro w'
          go_simp
          with_reducible rfl
        rotate_left
        · simp only [Act.put, pkA, pkZ, pkS, i64_w, i32_w]
          rfl
        refine pure_ (i := 13) (N := some 20) (v := ?_) (a' := ?_) #[false, false, false, false, true, false, false, false, false, false, false, false, false, true, false, false, false, false, false, false, false, false, false, false, false, false, false, false, false, false, false, false, false, false, false, false, false, false, false, false, false, false] rfl rfl (by kernel_rfl) (fun _ _ _ h => h) (Or.inl ⟨by rfl, ?_⟩) ?_ ?_
        rotate_left
        · intro w'
          go_simp
          with_reducible rfl
        rotate_left
        · simp only [Act.put, pkA, pkZ, pkS, i64_w, i32_w]
          rfl
        refine pure_ (i := 23) (N := some 30) (v := ?_) (a' := ?_) #[false, false, false, false, true, false, false, false, false, false, false, false, false, true, false, false, false, false, false, false, false, false, false, true, false, false, false, false, false, false, false, false, false, false, false, false, false, false, false, false, false, false] rfl rfl (by kernel_rfl) (fun _ _ _ h => h) (Or.inl ⟨by rfl, ?_⟩) ?_ ?_
        rotate_left
        · intro w'
          go_simp
          with_reducible rfl
        rotate_left
        · simp only [Act.put, pkA, pkZ, pkS, i64_w, i32_w]
          rfl
        refine pure_ (i := 24) (N := some 31) (v := ?_) (a' := ?_) #[false, false, false, false, true, false, false, false, false, false, false, false, false, true, false, false, false, false, false, false, false, false, false, true, true, false, false, false, false, false, false, false, false, false, false, false, false, false, false, false, false, false] rfl rfl (by kernel_rfl) (fun _ _ _ h => h) (Or.inl ⟨by rfl, ?_⟩) ?_ ?_
        rotate_left
        · intro w'
          go_simp
          with_reducible rfl
        rotate_left
        · simp only [Act.put, pkA, pkZ, pkS, i64_w, i32_w]
          rfl
        refine pure_ (i := 28) (N := some 35) (v := ?_) (a' := ?_) #[false, false, false, false, true, false, false, false, false, false, false, false, false, true, false, false, false, false, false, false, false, false, false, true, true, false, false, false, true, false, false, false, false, false, false, false, false, false, false, false, false, false] rfl rfl (by kernel_rfl) (fun _ _ _ h => h) (Or.inl ⟨by rfl, ?_⟩) ?_ ?_
        rotate_left
        · intro w'
          go_simp
          with_reducible rfl
        rotate_left
        · simp only [Act.put, pkA, pkZ, pkS, i64_w, i32_w]
          rfl
        refine take_ (i := 0) (N := some 7) (v := ?_) (a' := ?_) #[true, false, false, false, true, false, false, false, false, false, false, false, false, true, false, false, false, false, false, false, false, false, false, true, true, false, false, false, true, false, false, false, false, false, false, false, false, false, false, false, false, false] rfl rfl (by kernel_rfl) (fun _ _ _ h => h) (Or.inl ⟨by rfl, ?_⟩) hHeld ?_ ?_
        rotate_left
        · rintro w' ⟨s0, s1, s2, s3, s4, s5, s6, s7⟩
          go_simp
          with_reducible rfl
        rotate_left
        · simp only [Act.put, pkA, pkZ, pkS, i64_w, i32_w]
          rfl
        refine take_ (i := 5) (N := some 12) (v := ?_) (a' := ?_) #[true, false, false, false, true, true, false, false, false, false, false, false, false, true, false, false, false, false, false, false, false, false, false, true, true, false, false, false, true, false, false, false, false, false, false, false, false, false, false, false, false, false] rfl rfl (by kernel_rfl) (fun _ _ _ h => h) (Or.inl ⟨by rfl, ?_⟩) hHeld ?_ ?_
        rotate_left
        · rintro w' ⟨s0, s1, s2, s3, s4, s5, s6, s7⟩
          go_simp
          with_reducible rfl
        rotate_left
        · simp only [Act.put, pkA, pkZ, pkS, i64_w, i32_w]
          rfl
        refine pure_ (i := 6) (N := some 13) (v := ?_) (a' := ?_) #[true, false, false, false, true, true, true, false, false, false, false, false, false, true, false, false, false, false, false, false, false, false, false, true, true, false, false, false, true, false, false, false, false, false, false, false, false, false, false, false, false, false] rfl rfl (by kernel_rfl) (fun _ _ _ h => h) (Or.inl ⟨by rfl, ?_⟩) ?_ ?_
        rotate_left
        · intro w'
          go_simp
          with_reducible rfl
        rotate_left
        · simp only [Act.put, pkA, pkZ, pkS, i64_w, i32_w]
          rfl
        refine take_ (i := 14) (N := some 21) (v := ?_) (a' := ?_) #[true, false, false, false, true, true, true, false, false, false, false, false, false, true, true, false, false, false, false, false, false, false, false, true, true, false, false, false, true, false, false, false, false, false, false, false, false, false, false, false, false, false] rfl rfl (by kernel_rfl) (fun _ _ _ h => h) (Or.inl ⟨by rfl, ?_⟩) hHeld ?_ ?_
        rotate_left
        · rintro w' ⟨s0, s1, s2, s3, s4, s5, s6, s7⟩
          go_simp
          with_reducible rfl
        rotate_left
        · simp only [Act.put, pkA, pkZ, pkS, i64_w, i32_w]
          rfl
        refine pure_ (i := 15) (N := some 22) (v := ?_) (a' := ?_) #[true, false, false, false, true, true, true, false, false, false, false, false, false, true, true, true, false, false, false, false, false, false, false, true, true, false, false, false, true, false, false, false, false, false, false, false, false, false, false, false, false, false] rfl rfl (by kernel_rfl) (fun _ _ _ h => h) (Or.inl ⟨by rfl, ?_⟩) ?_ ?_
        rotate_left
        · intro w'
          go_simp
          with_reducible rfl
        rotate_left
        · simp only [Act.put, pkA, pkZ, pkS, i64_w, i32_w]
          rfl
        refine take_ (i := 25) (N := some 32) (v := ?_) (a' := ?_) #[true, false, false, false, true, true, true, false, false, false, false, false, false, true, true, true, false, false, false, false, false, false, false, true, true, true, false, false, true, false, false, false, false, false, false, false, false, false, false, false, false, false] rfl rfl (by kernel_rfl) (fun _ _ _ h => h) (Or.inl ⟨by rfl, ?_⟩) hHeld ?_ ?_
        rotate_left
        · rintro w' ⟨s0, s1, s2, s3, s4, s5, s6, s7⟩
          go_simp
          with_reducible rfl
        rotate_left
        · simp only [Act.put, pkA, pkZ, pkS, i64_w, i32_w]
          rfl
        refine take_ (i := 29) (N := some 36) (v := ?_) (a' := ?_) #[true, false, false, false, true, true, true, false, false, false, false, false, false, true, true, true, false, false, false, false, false, false, false, true, true, true, false, false, true, true, false, false, false, false, false, false, false, false, false, false, false, false] rfl rfl (by kernel_rfl) (fun _ _ _ h => h) (Or.inl ⟨by rfl, ?_⟩) hHeld ?_ ?_
        rotate_left
        · rintro w' ⟨s0, s1, s2, s3, s4, s5, s6, s7⟩
          go_simp
          with_reducible rfl
        rotate_left
        · simp only [Act.put, pkA, pkZ, pkS, i64_w, i32_w]
          rfl
        refine pure_ (i := 30) (N := some 37) (v := ?_) (a' := ?_) #[true, false, false, false, true, true, true, false, false, false, false, false, false, true, true, true, false, false, false, false, false, false, false, true, true, true, false, false, true, true, true, false, false, false, false, false, false, false, false, false, false, false] rfl rfl (by kernel_rfl) (fun _ _ _ h => h) (Or.inl ⟨by rfl, ?_⟩) ?_ ?_
        rotate_left
        · intro w'
          go_simp
          with_reducible rfl
        rotate_left
        · simp only [Act.put, pkA, pkZ, pkS, i64_w, i32_w]
          rfl
        refine pure_ (i := 31) (N := some 38) (v := ?_) (a' := ?_) #[true, false, false, false, true, true, true, false, false, false, false, false, false, true, true, true, false, false, false, false, false, false, false, true, true, true, false, false, true, true, true, true, false, false, false, false, false, false, false, false, false, false] rfl rfl (by kernel_rfl) (fun _ _ _ h => h) (Or.inl ⟨by rfl, ?_⟩) ?_ ?_
        rotate_left
        · intro w'
          go_simp
          with_reducible rfl
        rotate_left
        · simp only [Act.put, pkA, pkZ, pkS, i64_w, i32_w]
          rfl
        refine one_ (i := 1) (N := some 8) #[true, true, false, false, true, true, true, false, false, false, false, false, false, true, true, true, false, false, false, false, false, false, false, true, true, true, false, false, true, true, true, true, false, false, false, false, false, false, false, false, false, false] rfl rfl (by kernel_rfl) (by decide) (fun K hK => ?_)
        refine goes_ Try.func72 (by kernel_rfl) rfl #[.agg #[.string a.f0, .string a.f1, .int .i64 a.f2, .bool a.f3, .string a.f4, .bool a.f5, .bool a.f6, .slice A n c]] (by rfl) rfl rfl (by simp only [List.map_toArray, List.map_cons, List.map_nil]; rfl) ?_
        refine (HNM.out _ gr1).mono ?_
        rintro e v1 ⟨rfl, hb1⟩
        refine ⟨_, rfl, ?_⟩
        have gr1_1 := gr1.trans (hb1.mono gr1.size)
        refine hK.out _ _ ⟨(HS.out _ gr1_1).1, (HS.out _ gr1_1).2.1, (HS.out _ gr1_1).2.2.1, (HS.out _ gr1_1).2.2.2.1, (HS.out _ gr1_1).2.2.2.2.1, (HS.out _ gr1_1).2.2.2.2.2.1, (HS.out _ gr1_1).2.2.2.2.2.2.1, (HS.out _ gr1_1).2.2.2.2.2.2.2⟩ (fun hHeld => ?_)
        clear hK K
        refine norm_ (a' := ?_) ?_ ?_
        rotate_left
        · show Act.put _ (some 8) _ = _
          simp only [Act.put, pkA, pkZ, pkS, i64_w, i32_w]
          rfl
        refine pure_ (i := 2) (N := some 9) (v := ?_) (a' := ?_) #[true, true, true, false, true, true, true, false, false, false, false, false, false, true, true, true, false, false, false, false, false, false, false, true, true, true, false, false, true, true, true, true, false, false, false, false, false, false, false, false, false, false] rfl rfl (by kernel_rfl) (fun _ _ _ h => h) (Or.inl ⟨by rfl, ?_⟩) ?_ ?_
        rotate_left
        · intro w'
          go_simp
          with_reducible rfl
        rotate_left
        · simp only [Act.put, pkA, pkZ, pkS, i64_w, i32_w]
          rfl
        refine pure_ (i := 3) (N := some 10) (v := ?_) (a' := ?_) #[true, true, true, true, true, true, true, false, false, false, false, false, false, true, true, true, false, false, false, false, false, false, false, true, true, true, false, false, true, true, true, true, false, false, false, false, false, false, false, false, false, false] rfl rfl (by kernel_rfl) (fun _ _ _ h => h) (Or.inl ⟨by rfl, ?_⟩) ?_ ?_
        rotate_left
        · intro w'
          go_simp
          with_reducible rfl
        rotate_left
        · simp only [Act.put, pkA, pkZ, pkS, i64_w, i32_w]
          rfl
        refine pure_ (i := 7) (N := some 14) (v := ?_) (a' := ?_) #[true, true, true, true, true, true, true, true, false, false, false, false, false, true, true, true, false, false, false, false, false, false, false, true, true, true, false, false, true, true, true, true, false, false, false, false, false, false, false, false, false, false] rfl rfl (by kernel_rfl) (fun _ _ _ h => h) (Or.inl ⟨by rfl, ?_⟩) ?_ ?_
        rotate_left
        · intro w'
          go_simp
          with_reducible rfl
        rotate_left
        · simp only [Act.put, pkA, pkZ, pkS, i64_w, i32_w]
          rfl
        refine pure_ (i := 8) (N := some 15) (v := ?_) (a' := ?_) #[true, true, true, true, true, true, true, true, true, false, false, false, false, true, true, true, false, false, false, false, false, false, false, true, true, true, false, false, true, true, true, true, false, false, false, false, false, false, false, false, false, false] rfl rfl (by kernel_rfl) (fun _ _ _ h => h) (Or.inl ⟨by rfl, ?_⟩) ?_ ?_
        rotate_left
        · intro w'
          go_simp
          with_reducible rfl
        rotate_left
        · simp only [Act.put, pkA, pkZ, pkS, i64_w, i32_w]
          rfl
        refine pure_ (i := 16) (N := some 23) (v := ?_) (a' := ?_) #[true, true, true, true, true, true, true, true, true, false, false, false, false, true, true, true, true, false, false, false, false, false, false, true, true, true, false, false, true, true, true, true, false, false, false, false, false, false, false, false, false, false] rfl rfl (by kernel_rfl) (fun _ _ _ h => h) (Or.inl ⟨by rfl, ?_⟩) ?_ ?_
        rotate_left
        · intro w'
          go_simp
          with_reducible rfl
        rotate_left
        · simp only [Act.put, pkA, pkZ, pkS, i64_w, i32_w]
          rfl
        refine pure_ (i := 17) (N := some 24) (v := undef) (a' := ?_) #[true, true, true, true, true, true, true, true, true, false, false, false, false, true, true, true, true, true, false, false, false, false, false, true, true, true, false, false, true, true, true, true, false, false, false, false, false, false, false, false, false, false] rfl rfl (by kernel_rfl) (fun _ _ _ h => h) (Or.inr ⟨by rfl, rfl⟩) ?_ ?_
        rotate_left
        · simp only [Act.put, pkA, pkZ, pkS, i64_w, i32_w]
          rfl
        refine pure_ (i := 18) (N := some 25) (v := undef) (a' := ?_) #[true, true, true, true, true, true, true, true, true, false, false, false, false, true, true, true, true, true, true, false, false, false, false, true, true, true, false, false, true, true, true, true, false, false, false, false, false, false, false, false, false, false] rfl rfl (by kernel_rfl) (fun _ _ _ h => h) (Or.inr ⟨by rfl, rfl⟩) ?_ ?_
        rotate_left
        · simp only [Act.put, pkA, pkZ, pkS, i64_w, i32_w]
          rfl
        refine pure_ (i := 19) (N := some 26) (v := undef) (a' := ?_) #[true, true, true, true, true, true, true, true, true, false, false, false, false, true, true, true, true, true, true, true, false, false, false, true, true, true, false, false, true, true, true, true, false, false, false, false, false, false, false, false, false, false] rfl rfl (by kernel_rfl) (fun _ _ _ h => h) (Or.inr ⟨by rfl, rfl⟩) ?_ ?_
        rotate_left
        · simp only [Act.put, pkA, pkZ, pkS, i64_w, i32_w]
          rfl
        refine pure_ (i := 20) (N := some 27) (v := undef) (a' := ?_) #[true, true, true, true, true, true, true, true, true, false, false, false, false, true, true, true, true, true, true, true, true, false, false, true, true, true, false, false, true, true, true, true, false, false, false, false, false, false, false, false, false, false] rfl rfl (by kernel_rfl) (fun _ _ _ h => h) (Or.inr ⟨by rfl, rfl⟩) ?_ ?_
        rotate_left
        · simp only [Act.put, pkA, pkZ, pkS, i64_w, i32_w]
          rfl
        refine pure_ (i := 21) (N := some 28) (v := ?_) (a' := ?_) #[true, true, true, true, true, true, true, true, true, false, false, false, false, true, true, true, true, true, true, true, true, true, false, true, true, true, false, false, true, true, true, true, false, false, false, false, false, false, false, false, false, false] rfl rfl (by kernel_rfl) (fun _ _ _ h => h) (Or.inl ⟨by rfl, ?_⟩) ?_ ?_
        rotate_left
        · intro w'
          go_simp
          with_reducible rfl
        rotate_left
        · simp only [Act.put, pkA, pkZ, pkS, i64_w, i32_w]
          rfl
        refine pure_ (i := 22) (N := some 29) (v := ?_) (a' := ?_) #[true, true, true, true, true, true, true, true, true, false, false, false, false, true, true, true, true, true, true, true, true, true, true, true, true, true, false, false, true, true, true, true, false, false, false, false, false, false, false, false, false, false] rfl rfl (by kernel_rfl) (fun _ _ _ h => h) (Or.inl ⟨by rfl, ?_⟩) ?_ ?_
        rotate_left
        · intro w'
          go_simp
          with_reducible rfl
        rotate_left
        · simp only [Act.put, pkA, pkZ, pkS, i64_w, i32_w]
          rfl
        refine take_ (i := 9) (N := some 16) (v := ?_) (a' := ?_) #[true, true, true, true, true, true, true, true, true, true, false, false, false, true, true, true, true, true, true, true, true, true, true, true, true, true, false, false, true, true, true, true, false, false, false, false, false, false, false, false, false, false] rfl rfl (by kernel_rfl) (fun _ _ _ h => h) (Or.inl ⟨by rfl, ?_⟩) hHeld ?_ ?_
        rotate_left
        · rintro w' ⟨s0, s1, s2, s3, s4, s5, s6, s7⟩
          go_simp
          with_reducible rfl
        rotate_left
        · simp only [Act.put, pkA, pkZ, pkS, i64_w, i32_w]
          rfl
        refine pure_ (i := 10) (N := some 17) (v := ?_) (a' := ?_) #[true, true, true, true, true, true, true, true, true, true, true, false, false, true, true, true, true, true, true, true, true, true, true, true, true, true, false, false, true, true, true, true, false, false, false, false, false, false, false, false, false, false] rfl rfl (by kernel_rfl) (fun _ _ _ h => h) (Or.inl ⟨by rfl, ?_⟩) ?_ ?_
        rotate_left
        · intro w'
          go_simp
          with_reducible rfl
        rotate_left
        · simp only [Act.put, pkA, pkZ, pkS, i64_w, i32_w]
          rfl
        refine pure_ (i := 11) (N := some 18) (v := ?_) (a' := ?_) #[true, true, true, true, true, true, true, true, true, true, true, true, false, true, true, true, true, true, true, true, true, true, true, true, true, true, false, false, true, true, true, true, false, false, false, false, false, false, false, false, false, false] rfl rfl (by kernel_rfl) (fun _ _ _ h => h) (Or.inl ⟨by rfl, ?_⟩) ?_ ?_
        rotate_left
        · intro w'
          go_simp
          with_reducible rfl
        rotate_left
        · simp only [Act.put, pkA, pkZ, pkS, i64_w, i32_w]
          rfl
        refine pure_ (i := 12) (N := some 19) (v := ?_) (a' := ?_) #[true, true, true, true, true, true, true, true, true, true, true, true, true, true, true, true, true, true, true, true, true, true, true, true, true, true, false, false, true, true, true, true, false, false, false, false, false, false, false, false, false, false] rfl rfl (by kernel_rfl) (fun _ _ _ h => h) (Or.inl ⟨by rfl, ?_⟩) ?_ ?_
        rotate_left
        · intro w'
          go_simp
          with_reducible rfl
        rotate_left
        · simp only [Act.put, pkA, pkZ, pkS, i64_w, i32_w]
          rfl
        refine one_ (i := 26) (N := some 33) #[true, true, true, true, true, true, true, true, true, true, true, true, true, true, true, true, true, true, true, true, true, true, true, true, true, true, true, false, true, true, true, true, false, false, false, false, false, false, false, false, false, false] rfl rfl (by kernel_rfl) (by decide) (fun K hK => ?_)
        refine goesV_ Try.func70 (by kernel_rfl) rfl #[.pointer (some ⟨z2, 0, none⟩)] #[.string a.f0, .pointer (some ⟨z2, 0, none⟩)] (by rfl) rfl rfl rfl (by simp only [List.map_toArray, List.map_cons, List.map_nil]; rfl) ?_
        refine (HKN.out _ gr1_1).mono ?_
        rintro e v26 ⟨rfl, hb26⟩
        refine ⟨_, rfl, ?_⟩
        have gr1_26 := gr1_1.trans (hb26.mono gr1_1.size)
        refine hK.out _ _ ⟨(HS.out _ gr1_26).1, (HS.out _ gr1_26).2.1, (HS.out _ gr1_26).2.2.1, (HS.out _ gr1_26).2.2.2.1, (HS.out _ gr1_26).2.2.2.2.1, (HS.out _ gr1_26).2.2.2.2.2.1, (HS.out _ gr1_26).2.2.2.2.2.2.1, (HS.out _ gr1_26).2.2.2.2.2.2.2⟩ (fun hHeld => ?_)
        clear hK K
        refine norm_ (a' := ?_) ?_ ?_
        rotate_left
        · show Act.put _ (some 33) _ = _
          simp only [Act.put, pkA, pkZ, pkS, i64_w, i32_w]
          rfl
        refine pure_ (i := 27) (N := some 34) (v := ?_) (a' := ?_) #[true, true, true, true, true, true, true, true, true, true, true, true, true, true, true, true, true, true, true, true, true, true, true, true, true, true, true, true, true, true, true, true, false, false, false, false, false, false, false, false, false, false] rfl rfl (by kernel_rfl) (fun _ _ _ h => h) (Or.inl ⟨by rfl, ?_⟩) ?_ ?_
        rotate_left
        · intro w'
          go_simp
          with_reducible rfl
        rotate_left
        · simp only [Act.put, pkA, pkZ, pkS, i64_w, i32_w]
          rfl
        refine pure_ (i := 32) (N := some 39) (v := ?_) (a' := ?_) #[true, true, true, true, true, true, true, true, true, true, true, true, true, true, true, true, true, true, true, true, true, true, true, true, true, true, true, true, true, true, true, true, true, false, false, false, false, false, false, false, false, false] rfl rfl (by kernel_rfl) (fun _ _ _ h => h) (Or.inl ⟨by rfl, ?_⟩) ?_ ?_
        rotate_left
        · intro w'
          go_simp
          with_reducible rfl
        rotate_left
        · simp only [Act.put, pkA, pkZ, pkS, i64_w, i32_w]
          rfl
        refine pure_ (i := 33) (N := some 40) (v := ?_) (a' := ?_) #[true, true, true, true, true, true, true, true, true, true, true, true, true, true, true, true, true, true, true, true, true, true, true, true, true, true, true, true, true, true, true, true, true, true, false, false, false, false, false, false, false, false] rfl rfl (by kernel_rfl) (fun _ _ _ h => h) (Or.inl ⟨by rfl, ?_⟩) ?_ ?_
        rotate_left
        · intro w'
          go_simp
          with_reducible rfl
        rotate_left
        · simp only [Act.put, pkA, pkZ, pkS, i64_w, i32_w]
          rfl
        refine take_ (i := 34) (N := some 41) (v := ?_) (a' := ?_) #[true, true, true, true, true, true, true, true, true, true, true, true, true, true, true, true, true, true, true, true, true, true, true, true, true, true, true, true, true, true, true, true, true, true, true, false, false, false, false, false, false, false] rfl rfl (by kernel_rfl) (fun _ _ _ h => h) (Or.inl ⟨by rfl, ?_⟩) hHeld ?_ ?_
        rotate_left
        · rintro w' ⟨s0, s1, s2, s3, s4, s5, s6, s7⟩
          go_simp
          with_reducible rfl
        rotate_left
        · simp only [Act.put, pkA, pkZ, pkS, i64_w, i32_w]
          rfl
        refine one_ (i := 35) (N := some 42) #[true, true, true, true, true, true, true, true, true, true, true, true, true, true, true, true, true, true, true, true, true, true, true, true, true, true, true, true, true, true, true, true, true, true, true, true, false, false, false, false, false, false] rfl rfl (by kernel_rfl) (by decide) (fun K hK => ?_)
        refine goes_ Try.func73 (by kernel_rfl) rfl #[.slice A n c] (by rfl) rfl rfl (by simp only [List.map_toArray, List.map_cons, List.map_nil]; rfl) ?_
        refine (HRS.out _ gr1_26).mono ?_
        rintro e v35 ⟨rfl, hb35⟩
        refine ⟨_, rfl, ?_⟩
        have gr1_35 := gr1_26.trans (hb35.mono gr1_26.size)
        refine hK.out _ _ ⟨(HS.out _ gr1_35).1, (HS.out _ gr1_35).2.1, (HS.out _ gr1_35).2.2.1, (HS.out _ gr1_35).2.2.2.1, (HS.out _ gr1_35).2.2.2.2.1, (HS.out _ gr1_35).2.2.2.2.2.1, (HS.out _ gr1_35).2.2.2.2.2.2.1, (HS.out _ gr1_35).2.2.2.2.2.2.2⟩ (fun hHeld => ?_)
        clear hK K
        refine norm_ (a' := ?_) ?_ ?_
        rotate_left
        · show Act.put _ (some 42) _ = _
          simp only [Act.put, pkA, pkZ, pkS, i64_w, i32_w]
          rfl
        refine pure_ (i := 36) (N := some 43) (v := ?_) (a' := ?_) #[true, true, true, true, true, true, true, true, true, true, true, true, true, true, true, true, true, true, true, true, true, true, true, true, true, true, true, true, true, true, true, true, true, true, true, true, true, false, false, false, false, false] rfl rfl (by kernel_rfl) (fun _ _ _ h => h) (Or.inl ⟨by rfl, ?_⟩) ?_ ?_
        rotate_left
        · intro w'
          go_simp
          with_reducible rfl
        rotate_left
        · simp only [Act.put, pkA, pkZ, pkS, i64_w, i32_w]
          rfl
        refine pure_ (i := 37) (N := some 44) (v := ?_) (a' := ?_) #[true, true, true, true, true, true, true, true, true, true, true, true, true, true, true, true, true, true, true, true, true, true, true, true, true, true, true, true, true, true, true, true, true, true, true, true, true, true, false, false, false, false] rfl rfl (by kernel_rfl) (fun _ _ _ h => h) (Or.inl ⟨by rfl, ?_⟩) ?_ ?_
        rotate_left
        · intro w'
          go_simp
          with_reducible rfl
        rotate_left
        · simp only [Act.put, pkA, pkZ, pkS, i64_w, i32_w]
          rfl
        refine pure_ (i := 38) (N := some 45) (v := ?_) (a' := ?_) #[true, true, true, true, true, true, true, true, true, true, true, true, true, true, true, true, true, true, true, true, true, true, true, true, true, true, true, true, true, true, true, true, true, true, true, true, true, true, true, false, false, false] rfl rfl (by kernel_rfl) (fun _ _ _ h => h) (Or.inl ⟨by rfl, ?_⟩) ?_ ?_
        rotate_left
        · intro w'
          go_simp
          with_reducible rfl
        rotate_left
        · simp only [Act.put, pkA, pkZ, pkS, i64_w, i32_w]
          rfl
        refine one_ (i := 39) (N := some 46) #[true, true, true, true, true, true, true, true, true, true, true, true, true, true, true, true, true, true, true, true, true, true, true, true, true, true, true, true, true, true, true, true, true, true, true, true, true, true, true, true, false, false] rfl rfl (by kernel_rfl) (by decide) (fun K hK => ?_)
        refine value_ (w1 := ?_) (v := ?_) (by rfl) rfl ?_ ?_
        rotate_left 2
        · go_simp
          constructor
          · rfl
          · rfl
        have gr9 : Below w1.heap.size w1 (v35.alloc (.cells #[.bool (!nm), .int .i64 7, .bool (decide (a.f2 > 5)), .int .i64 10, .bool (false), .int .i64 13, .bool kn, .int .i64 8, .bool (!rs), .int .i64 14] 114)) := gr1_35.alloc gr1_35.size _
        have h9 := (Go.MapKept.heap_alloc v35 (.cells #[.bool (!nm), .int .i64 7, .bool (decide (a.f2 > 5)), .int .i64 10, .bool (false), .int .i64 13, .bool kn, .int .i64 8, .bool (!rs), .int .i64 14] 114)).1
        obtain ⟨z9, hz9⟩ : ∃ z, v35.heap.size = z := ⟨_, rfl⟩
        rw [hz9] at h9 ⊢
        obtain ⟨v39, hv39⟩ : ∃ W, v35.alloc (.cells #[.bool (!nm), .int .i64 7, .bool (decide (a.f2 > 5)), .int .i64 10, .bool (false), .int .i64 13, .bool kn, .int .i64 8, .bool (!rs), .int .i64 14] 114) = W := ⟨_, rfl⟩
        rw [hv39] at gr9 h9 ⊢
        clear hv39 hz9
        refine hK.out _ _ ⟨(HS.out _ gr9).1, (HS.out _ gr9).2.1, (HS.out _ gr9).2.2.1, (HS.out _ gr9).2.2.2.1, (HS.out _ gr9).2.2.2.2.1, (HS.out _ gr9).2.2.2.2.2.1, (HS.out _ gr9).2.2.2.2.2.2.1, (HS.out _ gr9).2.2.2.2.2.2.2⟩ (fun hHeld => ?_)
        clear hK K
        refine norm_ (a' := ?_) ?_ ?_
        rotate_left
        · show Act.put _ (some 46) _ = _
          simp only [Act.put, pkA, pkZ, pkS, i64_w, i32_w]
          rfl
        refine one_ (i := 40) (N := some 47) #[true, true, true, true, true, true, true, true, true, true, true, true, true, true, true, true, true, true, true, true, true, true, true, true, true, true, true, true, true, true, true, true, true, true, true, true, true, true, true, true, true, false] rfl rfl (by kernel_rfl) (by decide) (fun K hK => ?_)
        refine goes_ Try.func71 (by kernel_rfl) rfl #[.slice (some ⟨z9, 0, none⟩) 5 5] (by rfl) rfl rfl (by simp only [List.map_toArray, List.map_cons, List.map_nil]; rfl) ?_
        refine (go_first [⟨!nm, 7⟩, ⟨decide (a.f2 > 5), 10⟩, ⟨false, 13⟩, ⟨kn, 8⟩, ⟨!rs, 14⟩] (by simp) z9 5 (Nat.le_refl _) _ _ h9).mono ?_
        rintro e v40 ⟨rfl, hb40⟩
        refine ⟨_, rfl, ?_⟩
        have gr10 := gr9.trans (hb40.mono gr9.size)
        refine hK.out _ _ ⟨(HS.out _ gr10).1, (HS.out _ gr10).2.1, (HS.out _ gr10).2.2.1, (HS.out _ gr10).2.2.2.1, (HS.out _ gr10).2.2.2.2.1, (HS.out _ gr10).2.2.2.2.2.1, (HS.out _ gr10).2.2.2.2.2.2.1, (HS.out _ gr10).2.2.2.2.2.2.2⟩ (fun hHeld => ?_)
        clear hK K
        refine norm_ (a' := ?_) ?_ ?_
        rotate_left
        · show Act.put _ (some 47) _ = _
          simp only [Act.put, pkA, pkZ, pkS, i64_w, i32_w]
          rfl
        refine pure_ (i := 41) (N := some 4) (v := ?_) (a' := ?_) #[true, true, true, true, true, true, true, true, true, true, true, true, true, true, true, true, true, true, true, true, true, true, true, true, true, true, true, true, true, true, true, true, true, true, true, true, true, true, true, true, true, true] rfl rfl (by kernel_rfl) (fun _ _ _ h => h) (Or.inl ⟨by rfl, ?_⟩) ?_ ?_
        rotate_left
        · intro w'
          go_simp
          with_reducible rfl
        rotate_left
        · simp only [Act.put, pkA, pkZ, pkS, i64_w, i32_w]
          rfl
        refine done_ (by kernel_rfl) ?_
        have HF : Hid (rr = firstE [⟨!nm, 7⟩, ⟨decide (a.f2 > 5), 10⟩, ⟨false, 13⟩, ⟨kn, 8⟩, ⟨!rs, 14⟩]) := Lib.hid (by rw [HE.out]; simp [HK.out, HU.out, H6.out])
        clear hHeld
        obtain ⟨wf, hwf⟩ : ∃ W, v40 = W := ⟨_, rfl⟩
        rw [hwf] at gr10 ⊢
        go_wp2
        go_ret
        exact ⟨by rw [HF.out]; rfl, HG.out.trans (gr10.mono HG.out.size)⟩
    · have HU := Lib.hid (show a.f4.toList.isEmpty = false from by cases hq : a.f4.toList with | nil => exact absurd hq hu | cons _ _ => rfl)
      have hub : (a.f4.toList == []) = false := beq_eq_false_iff_ne.mpr hu
      by_cases h6 : n > 6
      · have H6 := Lib.hid (show decide (n > 6) = true from decide_eq_true h6)
        have hk6 : decide ((n : Int) > 6) = true := decide_eq_true (by omega)
        have hkd : decide (a.f2 < 1) = false := HK.out
        clear h6 hu hk
        refine start_ (n := 42) (S := fun w' => w'.cell? ⟨z3, 0, none⟩ = some (.string a.f0) ∧ w'.cell? ⟨z3, 1, none⟩ = some (.string a.f1) ∧ w'.cell? ⟨z3, 2, none⟩ = some (.int .i64 a.f2) ∧ w'.cell? ⟨z3, 3, none⟩ = some (.bool a.f3) ∧ w'.cell? ⟨z3, 4, none⟩ = some (.string a.f4) ∧ w'.cell? ⟨z3, 5, none⟩ = some (.bool a.f5) ∧ w'.cell? ⟨z3, 6, none⟩ = some (.bool a.f6) ∧ w'.cell? ⟨z3, 7, none⟩ = some (.slice A n c)) (ds := []) #[false, false, false, false, false, false, false, false, false, false, false, false, false, false, false, false, false, false, false, false, false, false, false, false, false, false, false, false, false, false, false, false, false, false, false, false, false, false, false, false, false, false] (by kernel_rfl) rfl rfl ⟨(HS.out _ gr1).1, (HS.out _ gr1).2.1, (HS.out _ gr1).2.2.1, (HS.out _ gr1).2.2.2.1, (HS.out _ gr1).2.2.2.2.1, (HS.out _ gr1).2.2.2.2.2.1, (HS.out _ gr1).2.2.2.2.2.2.1, (HS.out _ gr1).2.2.2.2.2.2.2⟩ (fun hHeld => ?_)
        refine pure_ (i := 4) (N := some 11) (v := ?_) (a' := ?_) #[false, false, false, false, true, false, false, false, false, false, false, false, false, false, false, false, false, false, false, false, false, false, false, false, false, false, false, false, false, false, false, false, false, false, false, false, false, false, false, false, false, false] rfl rfl (by kernel_rfl) (fun _ _ _ h => h) (Or.inl ⟨by rfl, ?_⟩) ?_ ?_
        rotate_left
        · intro w'
          go_simp
          with_reducible rfl
        rotate_left
        · simp only [Act.put, pkA, pkZ, pkS, i64_w, i32_w]
          rfl
        refine pure_ (i := 13) (N := some 20) (v := ?_) (a' := ?_) #[false, false, false, false, true, false, false, false, false, false, false, false, false, true, false, false, false, false, false, false, false, false, false, false, false, false, false, false, false, false, false, false, false, false, false, false, false, false, false, false, false, false] rfl rfl (by kernel_rfl) (fun _ _ _ h => h) (Or.inl ⟨by rfl, ?_⟩) ?_ ?_
        rotate_left
        · intro w'
          go_simp
          with_reducible rfl
        rotate_left
        · simp only [Act.put, pkA, pkZ, pkS, i64_w, i32_w]
          rfl
        refine pure_ (i := 23) (N := some 30) (v := ?_) (a' := ?_) #[false, false, false, false, true, false, false, false, false, false, false, false, false, true, false, false, false, false, false, false, false, false, false, true, false, false, false, false, false, false, false, false, false, false, false, false, false, false, false, false, false, false] rfl rfl (by kernel_rfl) (fun _ _ _ h => h) (Or.inl ⟨by rfl, ?_⟩) ?_ ?_
        rotate_left
        · intro w'
          go_simp
          with_reducible rfl
        rotate_left
        · simp only [Act.put, pkA, pkZ, pkS, i64_w, i32_w]
          rfl
        refine pure_ (i := 24) (N := some 31) (v := ?_) (a' := ?_) #[false, false, false, false, true, false, false, false, false, false, false, false, false, true, false, false, false, false, false, false, false, false, false, true, true, false, false, false, false, false, false, false, false, false, false, false, false, false, false, false, false, false] rfl rfl (by kernel_rfl) (fun _ _ _ h => h) (Or.inl ⟨by rfl, ?_⟩) ?_ ?_
        rotate_left
        · intro w'
          go_simp
          with_reducible rfl
        rotate_left
        · simp only [Act.put, pkA, pkZ, pkS, i64_w, i32_w]
          rfl
        refine pure_ (i := 28) (N := some 35) (v := ?_) (a' := ?_) #[false, false, false, false, true, false, false, false, false, false, false, false, false, true, false, false, false, false, false, false, false, false, false, true, true, false, false, false, true, false, false, false, false, false, false, false, false, false, false, false, false, false] rfl rfl (by kernel_rfl) (fun _ _ _ h => h) (Or.inl ⟨by rfl, ?_⟩) ?_ ?_
        rotate_left
        · intro w'
          go_simp
          with_reducible rfl
        rotate_left
        · simp only [Act.put, pkA, pkZ, pkS, i64_w, i32_w]
          rfl
        refine take_ (i := 0) (N := some 7) (v := ?_) (a' := ?_) #[true, false, false, false, true, false, false, false, false, false, false, false, false, true, false, false, false, false, false, false, false, false, false, true, true, false, false, false, true, false, false, false, false, false, false, false, false, false, false, false, false, false] rfl rfl (by kernel_rfl) (fun _ _ _ h => h) (Or.inl ⟨by rfl, ?_⟩) hHeld ?_ ?_
        rotate_left
        · rintro w' ⟨s0, s1, s2, s3, s4, s5, s6, s7⟩
          go_simp
          with_reducible rfl
        rotate_left
        · simp only [Act.put, pkA, pkZ, pkS, i64_w, i32_w]
          rfl
        refine take_ (i := 5) (N := some 12) (v := ?_) (a' := ?_) #[true, false, false, false, true, true, false, false, false, false, false, false, false, true, false, false, false, false, false, false, false, false, false, true, true, false, false, false, true, false, false, false, false, false, false, false, false, false, false, false, false, false] rfl rfl (by kernel_rfl) (fun _ _ _ h => h) (Or.inl ⟨by rfl, ?_⟩) hHeld ?_ ?_
        rotate_left
        · rintro w' ⟨s0, s1, s2, s3, s4, s5, s6, s7⟩
          go_simp
          with_reducible rfl
        rotate_left
        · simp only [Act.put, pkA, pkZ, pkS, i64_w, i32_w]
          rfl
        refine pure_ (i := 6) (N := some 13) (v := ?_) (a' := ?_) #[true, false, false, false, true, true, true, false, false, false, false, false, false, true, false, false, false, false, false, false, false, false, false, true, true, false, false, false, true, false, false, false, false, false, false, false, false, false, false, false, false, false] rfl rfl (by kernel_rfl) (fun _ _ _ h => h) (Or.inl ⟨by rfl, ?_⟩) ?_ ?_
        rotate_left
        · intro w'
          go_simp
          with_reducible rfl
        rotate_left
        · simp only [Act.put, pkA, pkZ, pkS, i64_w, i32_w]
          rfl
        refine take_ (i := 14) (N := some 21) (v := ?_) (a' := ?_) #[true, false, false, false, true, true, true, false, false, false, false, false, false, true, true, false, false, false, false, false, false, false, false, true, true, false, false, false, true, false, false, false, false, false, false, false, false, false, false, false, false, false] rfl rfl (by kernel_rfl) (fun _ _ _ h => h) (Or.inl ⟨by rfl, ?_⟩) hHeld ?_ ?_
        rotate_left
        · rintro w' ⟨s0, s1, s2, s3, s4, s5, s6, s7⟩
          go_simp
          with_reducible rfl
        rotate_left
        · simp only [Act.put, pkA, pkZ, pkS, i64_w, i32_w]
          rfl
        refine pure_ (i := 15) (N := some 22) (v := ?_) (a' := ?_) #[true, false, false, false, true, true, true, false, false, false, false, false, false, true, true, true, false, false, false, false, false, false, false, true, true, false, false, false, true, false, false, false, false, false, false, false, false, false, false, false, false, false] rfl rfl (by kernel_rfl) (fun _ _ _ h => h) (Or.inl ⟨by rfl, ?_⟩) ?_ ?_
        rotate_left
        · intro w'
          go_simp
          with_reducible rfl
        rotate_left
        · simp only [Act.put, pkA, pkZ, pkS, i64_w, i32_w]
          rfl
        refine take_ (i := 25) (N := some 32) (v := ?_) (a' := ?_) #[true, false, false, false, true, true, true, false, false, false, false, false, false, true, true, true, false, false, false, false, false, false, false, true, true, true, false, false, true, false, false, false, false, false, false, false, false, false, false, false, false, false] rfl rfl (by kernel_rfl) (fun _ _ _ h => h) (Or.inl ⟨by rfl, ?_⟩) hHeld ?_ ?_
        rotate_left
        · rintro w' ⟨s0, s1, s2, s3, s4, s5, s6, s7⟩
          go_simp
          with_reducible rfl
        rotate_left
        · simp only [Act.put, pkA, pkZ, pkS, i64_w, i32_w]
          rfl
        refine take_ (i := 29) (N := some 36) (v := ?_) (a' := ?_) #[true, false, false, false, true, true, true, false, false, false, false, false, false, true, true, true, false, false, false, false, false, false, false, true, true, true, false, false, true, true, false, false, false, false, false, false, false, false, false, false, false, false] rfl rfl (by kernel_rfl) (fun _ _ _ h => h) (Or.inl ⟨by rfl, ?_⟩) hHeld ?_ ?_
        rotate_left
        · rintro w' ⟨s0, s1, s2, s3, s4, s5, s6, s7⟩
          go_simp
          with_reducible rfl
        rotate_left
        · simp only [Act.put, pkA, pkZ, pkS, i64_w, i32_w]
          rfl
        refine pure_ (i := 30) (N := some 37) (v := ?_) (a' := ?_) #[true, false, false, false, true, true, true, false, false, false, false, false, false, true, true, true, false, false, false, false, false, false, false, true, true, true, false, false, true, true, true, false, false, false, false, false, false, false, false, false, false, false] rfl rfl (by kernel_rfl) (fun _ _ _ h => h) (Or.inl ⟨by rfl, ?_⟩) ?_ ?_
        rotate_left
        · intro w'
          go_simp
          with_reducible rfl
        rotate_left
        · simp only [Act.put, pkA, pkZ, pkS, i64_w, i32_w]
          rfl
        refine pure_ (i := 31) (N := some 38) (v := ?_) (a' := ?_) #[true, false, false, false, true, true, true, false, false, false, false, false, false, true, true, true, false, false, false, false, false, false, false, true, true, true, false, false, true, true, true, true, false, false, false, false, false, false, false, false, false, false] rfl rfl (by kernel_rfl) (fun _ _ _ h => h) (Or.inl ⟨by rfl, ?_⟩) ?_ ?_
        rotate_left
        · intro w'
          go_simp
          with_reducible rfl
        rotate_left
        · simp only [Act.put, pkA, pkZ, pkS, i64_w, i32_w]
          rfl
        refine one_ (i := 1) (N := some 8) #[true, true, false, false, true, true, true, false, false, false, false, false, false, true, true, true, false, false, false, false, false, false, false, true, true, true, false, false, true, true, true, true, false, false, false, false, false, false, false, false, false, false] rfl rfl (by kernel_rfl) (by decide) (fun K hK => ?_)
        refine goes_ Try.func72 (by kernel_rfl) rfl #[.agg #[.string a.f0, .string a.f1, .int .i64 a.f2, .bool a.f3, .string a.f4, .bool a.f5, .bool a.f6, .slice A n c]] (by rfl) rfl rfl (by simp only [List.map_toArray, List.map_cons, List.map_nil]; rfl) ?_
        refine (HNM.out _ gr1).mono ?_
        rintro e v1 ⟨rfl, hb1⟩
        refine ⟨_, rfl, ?_⟩
        have gr1_1 := gr1.trans (hb1.mono gr1.size)
        refine hK.out _ _ ⟨(HS.out _ gr1_1).1, (HS.out _ gr1_1).2.1, (HS.out _ gr1_1).2.2.1, (HS.out _ gr1_1).2.2.2.1, (HS.out _ gr1_1).2.2.2.2.1, (HS.out _ gr1_1).2.2.2.2.2.1, (HS.out _ gr1_1).2.2.2.2.2.2.1, (HS.out _ gr1_1).2.2.2.2.2.2.2⟩ (fun hHeld => ?_)
        clear hK K
        refine norm_ (a' := ?_) ?_ ?_
        rotate_left
        · show Act.put _ (some 8) _ = _
          simp only [Act.put, pkA, pkZ, pkS, i64_w, i32_w]
          rfl
        refine pure_ (i := 2) (N := some 9) (v := ?_) (a' := ?_) #[true, true, true, false, true, true, true, false, false, false, false, false, false, true, true, true, false, false, false, false, false, false, false, true, true, true, false, false, true, true, true, true, false, false, false, false, false, false, false, false, false, false] rfl rfl (by kernel_rfl) (fun _ _ _ h => h) (Or.inl ⟨by rfl, ?_⟩) ?_ ?_
        rotate_left
        · intro w'
          go_simp
          with_reducible rfl
        rotate_left
        · simp only [Act.put, pkA, pkZ, pkS, i64_w, i32_w]
          rfl
        refine pure_ (i := 3) (N := some 10) (v := ?_) (a' := ?_) #[true, true, true, true, true, true, true, false, false, false, false, false, false, true, true, true, false, false, false, false, false, false, false, true, true, true, false, false, true, true, true, true, false, false, false, false, false, false, false, false, false, false] rfl rfl (by kernel_rfl) (fun _ _ _ h => h) (Or.inl ⟨by rfl, ?_⟩) ?_ ?_
        rotate_left
        · intro w'
          go_simp
          with_reducible rfl
        rotate_left
        · simp only [Act.put, pkA, pkZ, pkS, i64_w, i32_w]
          rfl
        refine pure_ (i := 7) (N := some 14) (v := ?_) (a' := ?_) #[true, true, true, true, true, true, true, true, false, false, false, false, false, true, true, true, false, false, false, false, false, false, false, true, true, true, false, false, true, true, true, true, false, false, false, false, false, false, false, false, false, false] rfl rfl (by kernel_rfl) (fun _ _ _ h => h) (Or.inl ⟨by rfl, ?_⟩) ?_ ?_
        rotate_left
        · intro w'
          go_simp
          with_reducible rfl
        rotate_left
        · simp only [Act.put, pkA, pkZ, pkS, i64_w, i32_w]
          rfl
        refine pure_ (i := 8) (N := some 15) (v := ?_) (a' := ?_) #[true, true, true, true, true, true, true, true, true, false, false, false, false, true, true, true, false, false, false, false, false, false, false, true, true, true, false, false, true, true, true, true, false, false, false, false, false, false, false, false, false, false] rfl rfl (by kernel_rfl) (fun _ _ _ h => h) (Or.inl ⟨by rfl, ?_⟩) ?_ ?_
        rotate_left
        · intro w'
          go_simp
          with_reducible rfl
        rotate_left
        · simp only [Act.put, pkA, pkZ, pkS, i64_w, i32_w]
          rfl
        refine pure_ (i := 16) (N := some 23) (v := ?_) (a' := ?_) #[true, true, true, true, true, true, true, true, true, false, false, false, false, true, true, true, true, false, false, false, false, false, false, true, true, true, false, false, true, true, true, true, false, false, false, false, false, false, false, false, false, false] rfl rfl (by kernel_rfl) (fun _ _ _ h => h) (Or.inl ⟨by rfl, ?_⟩) ?_ ?_
        rotate_left
        · intro w'
          go_simp
          with_reducible rfl
        rotate_left
        · simp only [Act.put, pkA, pkZ, pkS, i64_w, i32_w]
          rfl
        refine pure_ (i := 17) (N := some 24) (v := ?_) (a' := ?_) #[true, true, true, true, true, true, true, true, true, false, false, false, false, true, true, true, true, true, false, false, false, false, false, true, true, true, false, false, true, true, true, true, false, false, false, false, false, false, false, false, false, false] rfl rfl (by kernel_rfl) (fun _ _ _ h => h) (Or.inl ⟨by rfl, ?_⟩) ?_ ?_
        rotate_left
        · intro w'
          go_simp
          with_reducible rfl
        rotate_left
        · simp only [Act.put, pkA, pkZ, pkS, i64_w, i32_w]
          rfl
        refine take_ (i := 9) (N := some 16) (v := ?_) (a' := ?_) #[true, true, true, true, true, true, true, true, true, true, false, false, false, true, true, true, true, true, false, false, false, false, false, true, true, true, false, false, true, true, true, true, false, false, false, false, false, false, false, false, false, false] rfl rfl (by kernel_rfl) (fun _ _ _ h => h) (Or.inl ⟨by rfl, ?_⟩) hHeld ?_ ?_
        rotate_left
        · rintro w' ⟨s0, s1, s2, s3, s4, s5, s6, s7⟩
          go_simp
          with_reducible rfl
        rotate_left
        · simp only [Act.put, pkA, pkZ, pkS, i64_w, i32_w]
          rfl
        refine pure_ (i := 10) (N := some 17) (v := ?_) (a' := ?_) #[true, true, true, true, true, true, true, true, true, true, true, false, false, true, true, true, true, true, false, false, false, false, false, true, true, true, false, false, true, true, true, true, false, false, false, false, false, false, false, false, false, false] rfl rfl (by kernel_rfl) (fun _ _ _ h => h) (Or.inl ⟨by rfl, ?_⟩) ?_ ?_
        rotate_left
        · intro w'
          go_simp
          with_reducible rfl
        rotate_left
        · simp only [Act.put, pkA, pkZ, pkS, i64_w, i32_w]
          rfl
        refine pure_ (i := 11) (N := some 18) (v := ?_) (a' := ?_) #[true, true, true, true, true, true, true, true, true, true, true, true, false, true, true, true, true, true, false, false, false, false, false, true, true, true, false, false, true, true, true, true, false, false, false, false, false, false, false, false, false, false] rfl rfl (by kernel_rfl) (fun _ _ _ h => h) (Or.inl ⟨by rfl, ?_⟩) ?_ ?_
        rotate_left
        · intro w'
          go_simp
          with_reducible rfl
        rotate_left
        · simp only [Act.put, pkA, pkZ, pkS, i64_w, i32_w]
          rfl
        refine pure_ (i := 12) (N := some 19) (v := ?_) (a' := ?_) #[true, true, true, true, true, true, true, true, true, true, true, true, true, true, true, true, true, true, false, false, false, false, false, true, true, true, false, false, true, true, true, true, false, false, false, false, false, false, false, false, false, false] rfl rfl (by kernel_rfl) (fun _ _ _ h => h) (Or.inl ⟨by rfl, ?_⟩) ?_ ?_
        rotate_left
        · intro w'
          go_simp
          with_reducible rfl
        rotate_left
        · simp only [Act.put, pkA, pkZ, pkS, i64_w, i32_w]
          rfl
        refine take_ (i := 18) (N := some 25) (v := ?_) (a' := ?_) #[true, true, true, true, true, true, true, true, true, true, true, true, true, true, true, true, true, true, true, false, false, false, false, true, true, true, false, false, true, true, true, true, false, false, false, false, false, false, false, false, false, false] rfl rfl (by kernel_rfl) (fun _ _ _ h => h) (Or.inl ⟨by rfl, ?_⟩) hHeld ?_ ?_
        rotate_left
        · rintro w' ⟨s0, s1, s2, s3, s4, s5, s6, s7⟩
          go_simp
          with_reducible rfl
        rotate_left
        · simp only [Act.put, pkA, pkZ, pkS, i64_w, i32_w]
          rfl
        refine one_ (i := 19) (N := some 26) #[true, true, true, true, true, true, true, true, true, true, true, true, true, true, true, true, true, true, true, true, false, false, false, true, true, true, false, false, true, true, true, true, false, false, false, false, false, false, false, false, false, false] rfl rfl (by kernel_rfl) (by decide) (fun K hK => ?_)
        refine goes_ Try.func50 (by kernel_rfl) rfl #[.string a.f4] (by rfl) rfl rfl (by simp only [List.map_toArray, List.map_cons, List.map_nil]; rfl) ?_
        refine (HMC.out _).mono ?_
        rintro e v19 ⟨rfl, hb19⟩
        refine ⟨_, rfl, ?_⟩
        have gr1_19 := gr1_1.trans (hb19.mono gr1_1.size)
        refine hK.out _ _ ⟨(HS.out _ gr1_19).1, (HS.out _ gr1_19).2.1, (HS.out _ gr1_19).2.2.1, (HS.out _ gr1_19).2.2.2.1, (HS.out _ gr1_19).2.2.2.2.1, (HS.out _ gr1_19).2.2.2.2.2.1, (HS.out _ gr1_19).2.2.2.2.2.2.1, (HS.out _ gr1_19).2.2.2.2.2.2.2⟩ (fun hHeld => ?_)
        clear hK K
        refine norm_ (a' := ?_) ?_ ?_
        rotate_left
        · show Act.put _ (some 26) _ = _
          simp only [Act.put, pkA, pkZ, pkS, i64_w, i32_w]
          rfl
        refine pure_ (i := 20) (N := some 27) (v := ?_) (a' := ?_) #[true, true, true, true, true, true, true, true, true, true, true, true, true, true, true, true, true, true, true, true, true, false, false, true, true, true, false, false, true, true, true, true, false, false, false, false, false, false, false, false, false, false] rfl rfl (by kernel_rfl) (fun _ _ _ h => h) (Or.inl ⟨by rfl, ?_⟩) ?_ ?_
        rotate_left
        · intro w'
          go_simp
          with_reducible rfl
        rotate_left
        · simp only [Act.put, pkA, pkZ, pkS, i64_w, i32_w]
          rfl
        refine pure_ (i := 21) (N := some 28) (v := ?_) (a' := ?_) #[true, true, true, true, true, true, true, true, true, true, true, true, true, true, true, true, true, true, true, true, true, true, false, true, true, true, false, false, true, true, true, true, false, false, false, false, false, false, false, false, false, false] rfl rfl (by kernel_rfl) (fun _ _ _ h => h) (Or.inl ⟨by rfl, ?_⟩) ?_ ?_
        rotate_left
        · intro w'
          go_simp
          with_reducible rfl
        rotate_left
        · simp only [Act.put, pkA, pkZ, pkS, i64_w, i32_w]
          rfl
        refine pure_ (i := 22) (N := some 29) (v := ?_) (a' := ?_) #[true, true, true, true, true, true, true, true, true, true, true, true, true, true, true, true, true, true, true, true, true, true, true, true, true, true, false, false, true, true, true, true, false, false, false, false, false, false, false, false, false, false] rfl rfl (by kernel_rfl) (fun _ _ _ h => h) (Or.inl ⟨by rfl, ?_⟩) ?_ ?_
        rotate_left
        · intro w'
          go_simp
          with_reducible rfl
        rotate_left
        · simp only [Act.put, pkA, pkZ, pkS, i64_w, i32_w]
          rfl
        refine one_ (i := 26) (N := some 33) #[true, true, true, true, true, true, true, true, true, true, true, true, true, true, true, true, true, true, true, true, true, true, true, true, true, true, true, false, true, true, true, true, false, false, false, false, false, false, false, false, false, false] rfl rfl (by kernel_rfl) (by decide) (fun K hK => ?_)
        refine goesV_ Try.func70 (by kernel_rfl) rfl #[.pointer (some ⟨z2, 0, none⟩)] #[.string a.f0, .pointer (some ⟨z2, 0, none⟩)] (by rfl) rfl rfl rfl (by simp only [List.map_toArray, List.map_cons, List.map_nil]; rfl) ?_
        refine (HKN.out _ gr1_19).mono ?_
        rintro e v26 ⟨rfl, hb26⟩
        refine ⟨_, rfl, ?_⟩
        have gr1_26 := gr1_19.trans (hb26.mono gr1_19.size)
        refine hK.out _ _ ⟨(HS.out _ gr1_26).1, (HS.out _ gr1_26).2.1, (HS.out _ gr1_26).2.2.1, (HS.out _ gr1_26).2.2.2.1, (HS.out _ gr1_26).2.2.2.2.1, (HS.out _ gr1_26).2.2.2.2.2.1, (HS.out _ gr1_26).2.2.2.2.2.2.1, (HS.out _ gr1_26).2.2.2.2.2.2.2⟩ (fun hHeld => ?_)
        clear hK K
        refine norm_ (a' := ?_) ?_ ?_
        rotate_left
        · show Act.put _ (some 33) _ = _
          simp only [Act.put, pkA, pkZ, pkS, i64_w, i32_w]
          rfl
        refine pure_ (i := 27) (N := some 34) (v := ?_) (a' := ?_) #[true, true, true, true, true, true, true, true, true, true, true, true, true, true, true, true, true, true, true, true, true, true, true, true, true, true, true, true, true, true, true, true, false, false, false, false, false, false, false, false, false, false] rfl rfl (by kernel_rfl) (fun _ _ _ h => h) (Or.inl ⟨by rfl, ?_⟩) ?_ ?_
        rotate_left
        · intro w'
          go_simp
          with_reducible rfl
        rotate_left
        · simp only [Act.put, pkA, pkZ, pkS, i64_w, i32_w]
          rfl
        refine pure_ (i := 32) (N := some 39) (v := ?_) (a' := ?_) #[true, true, true, true, true, true, true, true, true, true, true, true, true, true, true, true, true, true, true, true, true, true, true, true, true, true, true, true, true, true, true, true, true, false, false, false, false, false, false, false, false, false] rfl rfl (by kernel_rfl) (fun _ _ _ h => h) (Or.inl ⟨by rfl, ?_⟩) ?_ ?_
        rotate_left
        · intro w'
          go_simp
          with_reducible rfl
        rotate_left
        · simp only [Act.put, pkA, pkZ, pkS, i64_w, i32_w]
          rfl
        refine pure_ (i := 33) (N := some 40) (v := undef) (a' := ?_) #[true, true, true, true, true, true, true, true, true, true, true, true, true, true, true, true, true, true, true, true, true, true, true, true, true, true, true, true, true, true, true, true, true, true, false, false, false, false, false, false, false, false] rfl rfl (by kernel_rfl) (fun _ _ _ h => h) (Or.inr ⟨by rfl, rfl⟩) ?_ ?_
        rotate_left
        · simp only [Act.put, pkA, pkZ, pkS, i64_w, i32_w]
          rfl
        refine pure_ (i := 34) (N := some 41) (v := undef) (a' := ?_) #[true, true, true, true, true, true, true, true, true, true, true, true, true, true, true, true, true, true, true, true, true, true, true, true, true, true, true, true, true, true, true, true, true, true, true, false, false, false, false, false, false, false] rfl rfl (by kernel_rfl) (fun _ _ _ h => h) (Or.inr ⟨by rfl, rfl⟩) ?_ ?_
        rotate_left
        · simp only [Act.put, pkA, pkZ, pkS, i64_w, i32_w]
          rfl
        refine pure_ (i := 35) (N := some 42) (v := undef) (a' := ?_) #[true, true, true, true, true, true, true, true, true, true, true, true, true, true, true, true, true, true, true, true, true, true, true, true, true, true, true, true, true, true, true, true, true, true, true, true, false, false, false, false, false, false] rfl rfl (by kernel_rfl) (fun _ _ _ h => h) (Or.inr ⟨by rfl, rfl⟩) ?_ ?_
        rotate_left
        · simp only [Act.put, pkA, pkZ, pkS, i64_w, i32_w]
          rfl
        refine pure_ (i := 36) (N := some 43) (v := undef) (a' := ?_) #[true, true, true, true, true, true, true, true, true, true, true, true, true, true, true, true, true, true, true, true, true, true, true, true, true, true, true, true, true, true, true, true, true, true, true, true, true, false, false, false, false, false] rfl rfl (by kernel_rfl) (fun _ _ _ h => h) (Or.inr ⟨by rfl, rfl⟩) ?_ ?_
        rotate_left
        · simp only [Act.put, pkA, pkZ, pkS, i64_w, i32_w]
          rfl
        refine pure_ (i := 37) (N := some 44) (v := ?_) (a' := ?_) #[true, true, true, true, true, true, true, true, true, true, true, true, true, true, true, true, true, true, true, true, true, true, true, true, true, true, true, true, true, true, true, true, true, true, true, true, true, true, false, false, false, false] rfl rfl (by kernel_rfl) (fun _ _ _ h => h) (Or.inl ⟨by rfl, ?_⟩) ?_ ?_
        rotate_left
        · intro w'
          go_simp
          with_reducible rfl
        rotate_left
        · simp only [Act.put, pkA, pkZ, pkS, i64_w, i32_w]
          rfl
        refine pure_ (i := 38) (N := some 45) (v := ?_) (a' := ?_) #[true, true, true, true, true, true, true, true, true, true, true, true, true, true, true, true, true, true, true, true, true, true, true, true, true, true, true, true, true, true, true, true, true, true, true, true, true, true, true, false, false, false] rfl rfl (by kernel_rfl) (fun _ _ _ h => h) (Or.inl ⟨by rfl, ?_⟩) ?_ ?_
        rotate_left
        · intro w'
          go_simp
          with_reducible rfl
        rotate_left
        · simp only [Act.put, pkA, pkZ, pkS, i64_w, i32_w]
          rfl
        refine one_ (i := 39) (N := some 46) #[true, true, true, true, true, true, true, true, true, true, true, true, true, true, true, true, true, true, true, true, true, true, true, true, true, true, true, true, true, true, true, true, true, true, true, true, true, true, true, true, false, false] rfl rfl (by kernel_rfl) (by decide) (fun K hK => ?_)
        refine value_ (w1 := ?_) (v := ?_) (by rfl) rfl ?_ ?_
        rotate_left 2
        · go_simp
          constructor
          · rfl
          · rfl
        have gr9 : Below w1.heap.size w1 (v26.alloc (.cells #[.bool (!nm), .int .i64 7, .bool (decide (a.f2 > 5)), .int .i64 10, .bool (!mc), .int .i64 13, .bool kn, .int .i64 8, .bool (true), .int .i64 14] 114)) := gr1_26.alloc gr1_26.size _
        have h9 := (Go.MapKept.heap_alloc v26 (.cells #[.bool (!nm), .int .i64 7, .bool (decide (a.f2 > 5)), .int .i64 10, .bool (!mc), .int .i64 13, .bool kn, .int .i64 8, .bool (true), .int .i64 14] 114)).1
        obtain ⟨z9, hz9⟩ : ∃ z, v26.heap.size = z := ⟨_, rfl⟩
        rw [hz9] at h9 ⊢
        obtain ⟨v39, hv39⟩ : ∃ W, v26.alloc (.cells #[.bool (!nm), .int .i64 7, .bool (decide (a.f2 > 5)), .int .i64 10, .bool (!mc), .int .i64 13, .bool kn, .int .i64 8, .bool (true), .int .i64 14] 114) = W := ⟨_, rfl⟩
        rw [hv39] at gr9 h9 ⊢
        clear hv39 hz9
        refine hK.out _ _ ⟨(HS.out _ gr9).1, (HS.out _ gr9).2.1, (HS.out _ gr9).2.2.1, (HS.out _ gr9).2.2.2.1, (HS.out _ gr9).2.2.2.2.1, (HS.out _ gr9).2.2.2.2.2.1, (HS.out _ gr9).2.2.2.2.2.2.1, (HS.out _ gr9).2.2.2.2.2.2.2⟩ (fun hHeld => ?_)
        clear hK K
        refine norm_ (a' := ?_) ?_ ?_
        rotate_left
        · show Act.put _ (some 46) _ = _
          simp only [Act.put, pkA, pkZ, pkS, i64_w, i32_w]
          rfl
        refine one_ (i := 40) (N := some 47) #[true, true, true, true, true, true, true, true, true, true, true, true, true, true, true, true, true, true, true, true, true, true, true, true, true, true, true, true, true, true, true, true, true, true, true, true, true, true, true, true, true, false] rfl rfl (by kernel_rfl) (by decide) (fun K hK => ?_)
        refine goes_ Try.func71 (by kernel_rfl) rfl #[.slice (some ⟨z9, 0, none⟩) 5 5] (by rfl) rfl rfl (by simp only [List.map_toArray, List.map_cons, List.map_nil]; rfl) ?_
        refine (go_first [⟨!nm, 7⟩, ⟨decide (a.f2 > 5), 10⟩, ⟨!mc, 13⟩, ⟨kn, 8⟩, ⟨true, 14⟩] (by simp) z9 5 (Nat.le_refl _) _ _ h9).mono ?_
        rintro e v40 ⟨rfl, hb40⟩
        refine ⟨_, rfl, ?_⟩
        have gr10 := gr9.trans (hb40.mono gr9.size)
        refine hK.out _ _ ⟨(HS.out _ gr10).1, (HS.out _ gr10).2.1, (HS.out _ gr10).2.2.1, (HS.out _ gr10).2.2.2.1, (HS.out _ gr10).2.2.2.2.1, (HS.out _ gr10).2.2.2.2.2.1, (HS.out _ gr10).2.2.2.2.2.2.1, (HS.out _ gr10).2.2.2.2.2.2.2⟩ (fun hHeld => ?_)
        clear hK K
        refine norm_ (a' := ?_) ?_ ?_
        rotate_left
        · show Act.put _ (some 47) _ = _
          simp only [Act.put, pkA, pkZ, pkS, i64_w, i32_w]
          rfl
        refine pure_ (i := 41) (N := some 4) (v := ?_) (a' := ?_) #[true, true, true, true, true, true, true, true, true, true, true, true, true, true, true, true, true, true, true, true, true, true, true, true, true, true, true, true, true, true, true, true, true, true, true, true, true, true, true, true, true, true] rfl rfl (by kernel_rfl) (fun _ _ _ h => h) (Or.inl ⟨by rfl, ?_⟩) ?_ ?_
        rotate_left
        · intro w'
          go_simp
          with_reducible rfl
        rotate_left
        · simp only [Act.put, pkA, pkZ, pkS, i64_w, i32_w]
          rfl
        refine done_ (by kernel_rfl) ?_
        have HF : Hid (rr = firstE [⟨!nm, 7⟩, ⟨decide (a.f2 > 5), 10⟩, ⟨!mc, 13⟩, ⟨kn, 8⟩, ⟨true, 14⟩]) := Lib.hid (by rw [HE.out]; simp [HK.out, HU.out, H6.out])
        clear hHeld
        obtain ⟨wf, hwf⟩ : ∃ W, v40 = W := ⟨_, rfl⟩
        rw [hwf] at gr10 ⊢
        go_wp2
        go_ret
        exact ⟨by rw [HF.out]; rfl, HG.out.trans (gr10.mono HG.out.size)⟩
      · have H6 := Lib.hid (show decide (n > 6) = false from decide_eq_false h6)
        have hk6 : decide ((n : Int) > 6) = false := decide_eq_false (by omega)
        have hkd : decide (a.f2 < 1) = false := HK.out
        clear h6 hu hk
        refine start_ (n := 42) (S := fun w' => w'.cell? ⟨z3, 0, none⟩ = some (.string a.f0) ∧ w'.cell? ⟨z3, 1, none⟩ = some (.string a.f1) ∧ w'.cell? ⟨z3, 2, none⟩ = some (.int .i64 a.f2) ∧ w'.cell? ⟨z3, 3, none⟩ = some (.bool a.f3) ∧ w'.cell? ⟨z3, 4, none⟩ = some (.string a.f4) ∧ w'.cell? ⟨z3, 5, none⟩ = some (.bool a.f5) ∧ w'.cell? ⟨z3, 6, none⟩ = some (.bool a.f6) ∧ w'.cell? ⟨z3, 7, none⟩ = some (.slice A n c)) (ds := []) #[false, false, false, false, false, false, false, false, false, false, false, false, false, false, false, false, false, false, false, false, false, false, false, false, false, false, false, false, false, false, false, false, false, false, false, false, false, false, false, false, false, false] (by kernel_rfl) rfl rfl ⟨(HS.out _ gr1).1, (HS.out _ gr1).2.1, (HS.out _ gr1).2.2.1, (HS.out _ gr1).2.2.2.1, (HS.out _ gr1).2.2.2.2.1, (HS.out _ gr1).2.2.2.2.2.1, (HS.out _ gr1).2.2.2.2.2.2.1, (HS.out _ gr1).2.2.2.2.2.2.2⟩ (fun hHeld => ?_)
        refine pure_ (i := 4) (N := some 11) (v := ?_) (a' := ?_) #[false, false, false, false, true, false, false, false, false, false, false, false, false, false, false, false, false, false, false, false, false, false, false, false, false, false, false, false, false, false, false, false, false, false, false, false, false, false, false, false, false, false] rfl rfl (by kernel_rfl) (fun _ _ _ h => h) (Or.inl ⟨by rfl, ?_⟩) ?_ ?_
        rotate_left
        · intro w'
          go_simp
          with_reducible rfl
        rotate_left
        · simp only [Act.put, pkA, pkZ, pkS, i64_w, i32_w]
          rfl
        refine pure_ (i := 13) (N := some 20) (v := ?_) (a' := ?_) #[false, false, false, false, true, false, false, false, false, false, false, false, false, true, false, false, false, false, false, false, false, false, false, false, false, false, false, false, false, false, false, false, false, false, false, false, false, false, false, false, false, false] rfl rfl (by kernel_rfl) (fun _ _ _ h => h) (Or.inl ⟨by rfl, ?_⟩) ?_ ?_
        rotate_left
        · intro w'
          go_simp
          with_reducible rfl
        rotate_left
        · simp only [Act.put, pkA, pkZ, pkS, i64_w, i32_w]
          rfl
        refine pure_ (i := 23) (N := some 30) (v := ?_) (a' := ?_) #[false, false, false, false, true, false, false, false, false, false, false, false, false, true, false, false, false, false, false, false, false, false, false, true, false, false, false, false, false, false, false, false, false, false, false, false, false, false, false, false, false, false] rfl rfl (by kernel_rfl) (fun _ _ _ h => h) (Or.inl ⟨by rfl, ?_⟩) ?_ ?_
        rotate_left
        · intro w'
          go_simp
          with_reducible rfl
        rotate_left
        · simp only [Act.put, pkA, pkZ, pkS, i64_w, i32_w]
          rfl
        refine pure_ (i := 24) (N := some 31) (v := ?_) (a' := ?_) #[false, false, false, false, true, false, false, false, false, false, false, false, false, true, false, false, false, false, false, false, false, false, false, true, true, false, false, false, false, false, false, false, false, false, false, false, false, false, false, false, false, false] rfl rfl (by kernel_rfl) (fun _ _ _ h => h) (Or.inl ⟨by rfl, ?_⟩) ?_ ?_
        rotate_left
        · intro w'
          go_simp
          with_reducible rfl
        rotate_left
        · simp only [Act.put, pkA, pkZ, pkS, i64_w, i32_w]
          rfl
        refine pure_ (i := 28) (N := some 35) (v := ?_) (a' := ?_) #[false, false, false, false, true, false, false, false, false, false, false, false, false, true, false, false, false, false, false, false, false, false, false, true, true, false, false, false, true, false, false, false, false, false, false, false, false, false, false, false, false, false] rfl rfl (by kernel_rfl) (fun _ _ _ h => h) (Or.inl ⟨by rfl, ?_⟩) ?_ ?_
        rotate_left
        · intro w'
          go_simp
          with_reducible rfl
        rotate_left
        · simp only [Act.put, pkA, pkZ, pkS, i64_w, i32_w]
          rfl
        refine take_ (i := 0) (N := some 7) (v := ?_) (a' := ?_) #[true, false, false, false, true, false, false, false, false, false, false, false, false, true, false, false, false, false, false, false, false, false, false, true, true, false, false, false, true, false, false, false, false, false, false, false, false, false, false, false, false, false] rfl rfl (by kernel_rfl) (fun _ _ _ h => h) (Or.inl ⟨by rfl, ?_⟩) hHeld ?_ ?_
        rotate_left
        · rintro w' ⟨s0, s1, s2, s3, s4, s5, s6, s7⟩
          go_simp
          with_reducible rfl
        rotate_left
        · simp only [Act.put, pkA, pkZ, pkS, i64_w, i32_w]
          rfl
        refine take_ (i := 5) (N := some 12) (v := ?_) (a' := ?_) #[true, false, false, false, true, true, false, false, false, false, false, false, false, true, false, false, false, false, false, false, false, false, false, true, true, false, false, false, true, false, false, false, false, false, false, false, false, false, false, false, false, false] rfl rfl (by kernel_rfl) (fun _ _ _ h => h) (Or.inl ⟨by rfl, ?_⟩) hHeld ?_ ?_
        rotate_left
        · rintro w' ⟨s0, s1, s2, s3, s4, s5, s6, s7⟩
          go_simp
          with_reducible rfl
        rotate_left
        · simp only [Act.put, pkA, pkZ, pkS, i64_w, i32_w]
          rfl
        refine pure_ (i := 6) (N := some 13) (v := ?_) (a' := ?_) #[true, false, false, false, true, true, true, false, false, false, false, false, false, true, false, false, false, false, false, false, false, false, false, true, true, false, false, false, true, false, false, false, false, false, false, false, false, false, false, false, false, false] rfl rfl (by kernel_rfl) (fun _ _ _ h => h) (Or.inl ⟨by rfl, ?_⟩) ?_ ?_
        rotate_left
        · intro w'
          go_simp
          with_reducible rfl
        rotate_left
        · simp only [Act.put, pkA, pkZ, pkS, i64_w, i32_w]
          rfl
        refine take_ (i := 14) (N := some 21) (v := ?_) (a' := ?_) #[true, false, false, false, true, true, true, false, false, false, false, false, false, true, true, false, false, false, false, false, false, false, false, true, true, false, false, false, true, false, false, false, false, false, false, false, false, false, false, false, false, false] rfl rfl (by kernel_rfl) (fun _ _ _ h => h) (Or.inl ⟨by rfl, ?_⟩) hHeld ?_ ?_
        rotate_left
        · rintro w' ⟨s0, s1, s2, s3, s4, s5, s6, s7⟩
          go_simp
          with_reducible rfl
        rotate_left
        · simp only [Act.put, pkA, pkZ, pkS, i64_w, i32_w]
          rfl
        refine pure_ (i := 15) (N := some 22) (v := ?_) (a' := ?_) #[true, false, false, false, true, true, true, false, false, false, false, false, false, true, true, true, false, false, false, false, false, false, false, true, true, false, false, false, true, false, false, false, false, false, false, false, false, false, false, false, false, false] rfl rfl (by kernel_rfl) (fun _ _ _ h => h) (Or.inl ⟨by rfl, ?_⟩) ?_ ?_
        rotate_left
        · intro w'
          go_simp
          with_reducible rfl
        rotate_left
        · simp only [Act.put, pkA, pkZ, pkS, i64_w, i32_w]
          rfl
        refine take_ (i := 25) (N := some 32) (v := ?_) (a' := ?_) #[true, false, false, false, true, true, true, false, false, false, false, false, false, true, true, true, false, false, false, false, false, false, false, true, true, true, false, false, true, false, false, false, false, false, false, false, false, false, false, false, false, false] rfl rfl (by kernel_rfl) (fun _ _ _ h => h) (Or.inl ⟨by rfl, ?_⟩) hHeld ?_ ?_
        rotate_left
        · rintro w' ⟨s0, s1, s2, s3, s4, s5, s6, s7⟩
          go_simp
          with_reducible rfl
        rotate_left
        · simp only [Act.put, pkA, pkZ, pkS, i64_w, i32_w]
          rfl
        refine take_ (i := 29) (N := some 36) (v := ?_) (a' := ?_) #[true, false, false, false, true, true, true, false, false, false, false, false, false, true, true, true, false, false, false, false, false, false, false, true, true, true, false, false, true, true, false, false, false, false, false, false, false, false, false, false, false, false] rfl rfl (by kernel_rfl) (fun _ _ _ h => h) (Or.inl ⟨by rfl, ?_⟩) hHeld ?_ ?_
        rotate_left
        · rintro w' ⟨s0, s1, s2, s3, s4, s5, s6, s7⟩
          go_simp
          with_reducible rfl
        rotate_left
        · simp only [Act.put, pkA, pkZ, pkS, i64_w, i32_w]
          rfl
        refine pure_ (i := 30) (N := some 37) (v := ?_) (a' := ?_) #[true, false, false, false, true, true, true, false, false, false, false, false, false, true, true, true, false, false, false, false, false, false, false, true, true, true, false, false, true, true, true, false, false, false, false, false, false, false, false, false, false, false] rfl rfl (by kernel_rfl) (fun _ _ _ h => h) (Or.inl ⟨by rfl, ?_⟩) ?_ ?_
        rotate_left
        · intro w'
          go_simp
          with_reducible rfl
        rotate_left
        · simp only [Act.put, pkA, pkZ, pkS, i64_w, i32_w]
          rfl
        refine pure_ (i := 31) (N := some 38) (v := ?_) (a' := ?_) #[true, false, false, false, true, true, true, false, false, false, false, false, false, true, true, true, false, false, false, false, false, false, false, true, true, true, false, false, true, true, true, true, false, false, false, false, false, false, false, false, false, false] rfl rfl (by kernel_rfl) (fun _ _ _ h => h) (Or.inl ⟨by rfl, ?_⟩) ?_ ?_
        rotate_left
        · intro w'
          go_simp
          with_reducible rfl
        rotate_left
        · simp only [Act.put, pkA, pkZ, pkS, i64_w, i32_w]
          rfl
        refine one_ (i := 1) (N := some 8) #[true, true, false, false, true, true, true, false, false, false, false, false, false, true, true, true, false, false, false, false, false, false, false, true, true, true, false, false, true, true, true, true, false, false, false, false, false, false, false, false, false, false] rfl rfl (by kernel_rfl) (by decide) (fun K hK => ?_)
        refine goes_ Try.func72 (by kernel_rfl) rfl #[.agg #[.string a.f0, .string a.f1, .int .i64 a.f2, .bool a.f3, .string a.f4, .bool a.f5, .bool a.f6, .slice A n c]] (by rfl) rfl rfl (by simp only [List.map_toArray, List.map_cons, List.map_nil]; rfl) ?_
        refine (HNM.out _ gr1).mono ?_
        rintro e v1 ⟨rfl, hb1⟩
        refine ⟨_, rfl, ?_⟩
        have gr1_1 := gr1.trans (hb1.mono gr1.size)
        refine hK.out _ _ ⟨(HS.out _ gr1_1).1, (HS.out _ gr1_1).2.1, (HS.out _ gr1_1).2.2.1, (HS.out _ gr1_1).2.2.2.1, (HS.out _ gr1_1).2.2.2.2.1, (HS.out _ gr1_1).2.2.2.2.2.1, (HS.out _ gr1_1).2.2.2.2.2.2.1, (HS.out _ gr1_1).2.2.2.2.2.2.2⟩ (fun hHeld => ?_)
        clear hK K
        refine norm_ (a' := ?_) ?_ ?_
        rotate_left
        · show Act.put _ (some 8) _ = _
          simp only [Act.put, pkA, pkZ, pkS, i64_w, i32_w]
          rfl
        refine pure_ (i := 2) (N := some 9) (v := ?_) (a' := ?_) #[true, true, true, false, true, true, true, false, false, false, false, false, false, true, true, true, false, false, false, false, false, false, false, true, true, true, false, false, true, true, true, true, false, false, false, false, false, false, false, false, false, false] rfl rfl (by kernel_rfl) (fun _ _ _ h => h) (Or.inl ⟨by rfl, ?_⟩) ?_ ?_
        rotate_left
        · intro w'
          go_simp
          with_reducible rfl
        rotate_left
        · simp only [Act.put, pkA, pkZ, pkS, i64_w, i32_w]
          rfl
        refine pure_ (i := 3) (N := some 10) (v := ?_) (a' := ?_) #[true, true, true, true, true, true, true, false, false, false, false, false, false, true, true, true, false, false, false, false, false, false, false, true, true, true, false, false, true, true, true, true, false, false, false, false, false, false, false, false, false, false] rfl rfl (by kernel_rfl) (fun _ _ _ h => h) (Or.inl ⟨by rfl, ?_⟩) ?_ ?_
        rotate_left
        · intro w'
          go_simp
          with_reducible rfl
        rotate_left
        · simp only [Act.put, pkA, pkZ, pkS, i64_w, i32_w]
          rfl
        refine pure_ (i := 7) (N := some 14) (v := ?_) (a' := ?_) #[true, true, true, true, true, true, true, true, false, false, false, false, false, true, true, true, false, false, false, false, false, false, false, true, true, true, false, false, true, true, true, true, false, false, false, false, false, false, false, false, false, false] rfl rfl (by kernel_rfl) (fun _ _ _ h => h) (Or.inl ⟨by rfl, ?_⟩) ?_ ?_
        rotate_left
        · intro w'
          go_simp
          with_reducible rfl
        rotate_left
        · simp only [Act.put, pkA, pkZ, pkS, i64_w, i32_w]
          rfl
        refine pure_ (i := 8) (N := some 15) (v := ?_) (a' := ?_) #[true, true, true, true, true, true, true, true, true, false, false, false, false, true, true, true, false, false, false, false, false, false, false, true, true, true, false, false, true, true, true, true, false, false, false, false, false, false, false, false, false, false] rfl rfl (by kernel_rfl) (fun _ _ _ h => h) (Or.inl ⟨by rfl, ?_⟩) ?_ ?_
        rotate_left
        · intro w'
          go_simp
          with_reducible rfl
        rotate_left
        · simp only [Act.put, pkA, pkZ, pkS, i64_w, i32_w]
          rfl
        refine pure_ (i := 16) (N := some 23) (v := ?_) (a' := ?_) #[true, true, true, true, true, true, true, true, true, false, false, false, false, true, true, true, true, false, false, false, false, false, false, true, true, true, false, false, true, true, true, true, false, false, false, false, false, false, false, false, false, false] rfl rfl (by kernel_rfl) (fun _ _ _ h => h) (Or.inl ⟨by rfl, ?_⟩) ?_ ?_
        rotate_left
        · intro w'
          go_simp
          with_reducible rfl
        rotate_left
        · simp only [Act.put, pkA, pkZ, pkS, i64_w, i32_w]
          rfl
        refine pure_ (i := 17) (N := some 24) (v := ?_) (a' := ?_) #[true, true, true, true, true, true, true, true, true, false, false, false, false, true, true, true, true, true, false, false, false, false, false, true, true, true, false, false, true, true, true, true, false, false, false, false, false, false, false, false, false, false] rfl rfl (by kernel_rfl) (fun _ _ _ h => h) (Or.inl ⟨by rfl, ?_⟩) ?_ ?_
        rotate_left
        · intro w'
          go_simp
          with_reducible rfl
        rotate_left
        · simp only [Act.put, pkA, pkZ, pkS, i64_w, i32_w]
          rfl
        refine take_ (i := 9) (N := some 16) (v := ?_) (a' := ?_) #[true, true, true, true, true, true, true, true, true, true, false, false, false, true, true, true, true, true, false, false, false, false, false, true, true, true, false, false, true, true, true, true, false, false, false, false, false, false, false, false, false, false] rfl rfl (by kernel_rfl) (fun _ _ _ h => h) (Or.inl ⟨by rfl, ?_⟩) hHeld ?_ ?_
        rotate_left
        · rintro w' ⟨s0, s1, s2, s3, s4, s5, s6, s7⟩
          go_simp
          with_reducible rfl
        rotate_left
        · simp only [Act.put, pkA, pkZ, pkS, i64_w, i32_w]
          rfl
        refine pure_ (i := 10) (N := some 17) (v := ?_) (a' := ?_) #[true, true, true, true, true, true, true, true, true, true, true, false, false, true, true, true, true, true, false, false, false, false, false, true, true, true, false, false, true, true, true, true, false, false, false, false, false, false, false, false, false, false] rfl rfl (by kernel_rfl) (fun _ _ _ h => h) (Or.inl ⟨by rfl, ?_⟩) ?_ ?_
        rotate_left
        · intro w'
          go_simp
          with_reducible rfl
        rotate_left
        · simp only [Act.put, pkA, pkZ, pkS, i64_w, i32_w]
          rfl
        refine pure_ (i := 11) (N := some 18) (v := ?_) (a' := ?_) #[true, true, true, true, true, true, true, true, true, true, true, true, false, true, true, true, true, true, false, false, false, false, false, true, true, true, false, false, true, true, true, true, false, false, false, false, false, false, false, false, false, false] rfl rfl (by kernel_rfl) (fun _ _ _ h => h) (Or.inl ⟨by rfl, ?_⟩) ?_ ?_
        rotate_left
        · intro w'
          go_simp
          with_reducible rfl
        rotate_left
        · simp only [Act.put, pkA, pkZ, pkS, i64_w, i32_w]
          rfl
        refine pure_ (i := 12) (N := some 19) (v := ?_) (a' := ?_) #[true, true, true, true, true, true, true, true, true, true, true, true, true, true, true, true, true, true, false, false, false, false, false, true, true, true, false, false, true, true, true, true, false, false, false, false, false, false, false, false, false, false] rfl rfl (by kernel_rfl) (fun _ _ _ h => h) (Or.inl ⟨by rfl, ?_⟩) ?_ ?_
        rotate_left
        · intro w'
          go_simp
          with_reducible rfl
        rotate_left
        · simp only [Act.put, pkA, pkZ, pkS, i64_w, i32_w]
          rfl
        refine take_ (i := 18) (N := some 25) (v := ?_) (a' := ?_) #[true, true, true, true, true, true, true, true, true, true, true, true, true, true, true, true, true, true, true, false, false, false, false, true, true, true, false, false, true, true, true, true, false, false, false, false, false, false, false, false, false, false] rfl rfl (by kernel_rfl) (fun _ _ _ h => h) (Or.inl ⟨by rfl, ?_⟩) hHeld ?_ ?_
        rotate_left
        · rintro w' ⟨s0, s1, s2, s3, s4, s5, s6, s7⟩
          go_simp
          with_reducible rfl
        rotate_left
        · simp only [Act.put, pkA, pkZ, pkS, i64_w, i32_w]
          rfl
        refine one_ (i := 19) (N := some 26) #[true, true, true, true, true, true, true, true, true, true, true, true, true, true, true, true, true, true, true, true, false, false, false, true, true, true, false, false, true, true, true, true, false, false, false, false, false, false, false, false, false, false] rfl rfl (by kernel_rfl) (by decide) (fun K hK => ?_)
        refine goes_ Try.func50 (by kernel_rfl) rfl #[.string a.f4] (by rfl) rfl rfl (by simp only [List.map_toArray, List.map_cons, List.map_nil]; rfl) ?_
        refine (HMC.out _).mono ?_
        rintro e v19 ⟨rfl, hb19⟩
        refine ⟨_, rfl, ?_⟩
        have gr1_19 := gr1_1.trans (hb19.mono gr1_1.size)
        refine hK.out _ _ ⟨(HS.out _ gr1_19).1, (HS.out _ gr1_19).2.1, (HS.out _ gr1_19).2.2.1, (HS.out _ gr1_19).2.2.2.1, (HS.out _ gr1_19).2.2.2.2.1, (HS.out _ gr1_19).2.2.2.2.2.1, (HS.out _ gr1_19).2.2.2.2.2.2.1, (HS.out _ gr1_19).2.2.2.2.2.2.2⟩ (fun hHeld => ?_)
        clear hK K
        refine norm_ (a' := ?_) ?_ ?_
        rotate_left
        · show Act.put _ (some 26) _ = _
          simp only [Act.put, pkA, pkZ, pkS, i64_w, i32_w]
          rfl
        refine pure_ (i := 20) (N := some 27) (v := ?_) (a' := ?_) #[true, true, true, true, true, true, true, true, true, true, true, true, true, true, true, true, true, true, true, true, true, false, false, true, true, true, false, false, true, true, true, true, false, false, false, false, false, false, false, false, false, false] rfl rfl (by kernel_rfl) (fun _ _ _ h => h) (Or.inl ⟨by rfl, ?_⟩) ?_ ?_
        rotate_left
        · intro w'
          go_simp
          with_reducible rfl
        rotate_left
        · simp only [Act.put, pkA, pkZ, pkS, i64_w, i32_w]
          rfl
        refine pure_ (i := 21) (N := some 28) (v := ?_) (a' := ?_) #[true, true, true, true, true, true, true, true, true, true, true, true, true, true, true, true, true, true, true, true, true, true, false, true, true, true, false, false, true, true, true, true, false, false, false, false, false, false, false, false, false, false] rfl rfl (by kernel_rfl) (fun _ _ _ h => h) (Or.inl ⟨by rfl, ?_⟩) ?_ ?_
        rotate_left
        · intro w'
          go_simp
          with_reducible rfl
        rotate_left
        · simp only [Act.put, pkA, pkZ, pkS, i64_w, i32_w]
          rfl
        refine pure_ (i := 22) (N := some 29) (v := ?_) (a' := ?_) #[true, true, true, true, true, true, true, true, true, true, true, true, true, true, true, true, true, true, true, true, true, true, true, true, true, true, false, false, true, true, true, true, false, false, false, false, false, false, false, false, false, false] rfl rfl (by kernel_rfl) (fun _ _ _ h => h) (Or.inl ⟨by rfl, ?_⟩) ?_ ?_
        rotate_left
        · intro w'
          go_simp
          with_reducible rfl
        rotate_left
        · simp only [Act.put, pkA, pkZ, pkS, i64_w, i32_w]
          rfl
        refine one_ (i := 26) (N := some 33) #[true, true, true, true, true, true, true, true, true, true, true, true, true, true, true, true, true, true, true, true, true, true, true, true, true, true, true, false, true, true, true, true, false, false, false, false, false, false, false, false, false, false] rfl rfl (by kernel_rfl) (by decide) (fun K hK => ?_)
        refine goesV_ Try.func70 (by kernel_rfl) rfl #[.pointer (some ⟨z2, 0, none⟩)] #[.string a.f0, .pointer (some ⟨z2, 0, none⟩)] (by rfl) rfl rfl rfl (by simp only [List.map_toArray, List.map_cons, List.map_nil]; rfl) ?_
        refine (HKN.out _ gr1_19).mono ?_
        rintro e v26 ⟨rfl, hb26⟩
        refine ⟨_, rfl, ?_⟩
        have gr1_26 := gr1_19.trans (hb26.mono gr1_19.size)
        refine hK.out _ _ ⟨(HS.out _ gr1_26).1, (HS.out _ gr1_26).2.1, (HS.out _ gr1_26).2.2.1, (HS.out _ gr1_26).2.2.2.1, (HS.out _ gr1_26).2.2.2.2.1, (HS.out _ gr1_26).2.2.2.2.2.1, (HS.out _ gr1_26).2.2.2.2.2.2.1, (HS.out _ gr1_26).2.2.2.2.2.2.2⟩ (fun hHeld => ?_)
        clear hK K
        refine norm_ (a' := ?_) ?_ ?_
        rotate_left
        · show Act.put _ (some 33) _ = _
          simp only [Act.put, pkA, pkZ, pkS, i64_w, i32_w]
          rfl
        refine pure_ (i := 27) (N := some 34) (v := ?_) (a' := ?_) #[true, true, true, true, true, true, true, true, true, true, true, true, true, true, true, true, true, true, true, true, true, true, true, true, true, true, true, true, true, true, true, true, false, false, false, false, false, false, false, false, false, false] rfl rfl (by kernel_rfl) (fun _ _ _ h => h) (Or.inl ⟨by rfl, ?_⟩) ?_ ?_
        rotate_left
        · intro w'
          go_simp
          with_reducible rfl
        rotate_left
        · simp only [Act.put, pkA, pkZ, pkS, i64_w, i32_w]
          rfl
        refine pure_ (i := 32) (N := some 39) (v := ?_) (a' := ?_) #[true, true, true, true, true, true, true, true, true, true, true, true, true, true, true, true, true, true, true, true, true, true, true, true, true, true, true, true, true, true, true, true, true, false, false, false, false, false, false, false, false, false] rfl rfl (by kernel_rfl) (fun _ _ _ h => h) (Or.inl ⟨by rfl, ?_⟩) ?_ ?_
        rotate_left
        · intro w'
          go_simp
          with_reducible rfl
        rotate_left
        · simp only [Act.put, pkA, pkZ, pkS, i64_w, i32_w]
          rfl
        refine pure_ (i := 33) (N := some 40) (v := ?_) (a' := ?_) #[true, true, true, true, true, true, true, true, true, true, true, true, true, true, true, true, true, true, true, true, true, true, true, true, true, true, true, true, true, true, true, true, true, true, false, false, false, false, false, false, false, false] rfl rfl (by kernel_rfl) (fun _ _ _ h => h) (Or.inl ⟨by rfl, ?_⟩) ?_ ?_
        rotate_left
        · intro w'
          go_simp
          with_reducible rfl
        rotate_left
        · simp only [Act.put, pkA, pkZ, pkS, i64_w, i32_w]
          rfl
        refine take_ (i := 34) (N := some 41) (v := ?_) (a' := ?_) #[true, true, true, true, true, true, true, true, true, true, true, true, true, true, true, true, true, true, true, true, true, true, true, true, true, true, true, true, true, true, true, true, true, true, true, false, false, false, false, false, false, false] rfl rfl (by kernel_rfl) (fun _ _ _ h => h) (Or.inl ⟨by rfl, ?_⟩) hHeld ?_ ?_
        rotate_left
        · rintro w' ⟨s0, s1, s2, s3, s4, s5, s6, s7⟩
          go_simp
          with_reducible rfl
        rotate_left
        · simp only [Act.put, pkA, pkZ, pkS, i64_w, i32_w]
          rfl
        refine one_ (i := 35) (N := some 42) #[true, true, true, true, true, true, true, true, true, true, true, true, true, true, true, true, true, true, true, true, true, true, true, true, true, true, true, true, true, true, true, true, true, true, true, true, false, false, false, false, false, false] rfl rfl (by kernel_rfl) (by decide) (fun K hK => ?_)
        refine goes_ Try.func73 (by kernel_rfl) rfl #[.slice A n c] (by rfl) rfl rfl (by simp only [List.map_toArray, List.map_cons, List.map_nil]; rfl) ?_
        refine (HRS.out _ gr1_26).mono ?_
        rintro e v35 ⟨rfl, hb35⟩
        refine ⟨_, rfl, ?_⟩
        have gr1_35 := gr1_26.trans (hb35.mono gr1_26.size)
        refine hK.out _ _ ⟨(HS.out _ gr1_35).1, (HS.out _ gr1_35).2.1, (HS.out _ gr1_35).2.2.1, (HS.out _ gr1_35).2.2.2.1, (HS.out _ gr1_35).2.2.2.2.1, (HS.out _ gr1_35).2.2.2.2.2.1, (HS.out _ gr1_35).2.2.2.2.2.2.1, (HS.out _ gr1_35).2.2.2.2.2.2.2⟩ (fun hHeld => ?_)
        clear hK K
        refine norm_ (a' := ?_) ?_ ?_
        rotate_left
        · show Act.put _ (some 42) _ = _
          simp only [Act.put, pkA, pkZ, pkS, i64_w, i32_w]
          rfl
        refine pure_ (i := 36) (N := some 43) (v := ?_) (a' := ?_) #[true, true, true, true, true, true, true, true, true, true, true, true, true, true, true, true, true, true, true, true, true, true, true, true, true, true, true, true, true, true, true, true, true, true, true, true, true, false, false, false, false, false] rfl rfl (by kernel_rfl) (fun _ _ _ h => h) (Or.inl ⟨by rfl, ?_⟩) ?_ ?_
        rotate_left
        · intro w'
          go_simp
          with_reducible rfl
        rotate_left
        · simp only [Act.put, pkA, pkZ, pkS, i64_w, i32_w]
          rfl
        refine pure_ (i := 37) (N := some 44) (v := ?_) (a' := ?_) #[true, true, true, true, true, true, true, true, true, true, true, true, true, true, true, true, true, true, true, true, true, true, true, true, true, true, true, true, true, true, true, true, true, true, true, true, true, true, false, false, false, false] rfl rfl (by kernel_rfl) (fun _ _ _ h => h) (Or.inl ⟨by rfl, ?_⟩) ?_ ?_
        rotate_left
        · intro w'
          go_simp
          with_reducible rfl
        rotate_left
        · simp only [Act.put, pkA, pkZ, pkS, i64_w, i32_w]
          rfl
        refine pure_ (i := 38) (N := some 45) (v := ?_) (a' := ?_) #[true, true, true, true, true, true, true, true, true, true, true, true, true, true, true, true, true, true, true, true, true, true, true, true, true, true, true, true, true, true, true, true, true, true, true, true, true, true, true, false, false, false] rfl rfl (by kernel_rfl) (fun _ _ _ h => h) (Or.inl ⟨by rfl, ?_⟩) ?_ ?_
        rotate_left
        · intro w'
          go_simp
          with_reducible rfl
        rotate_left
        · simp only [Act.put, pkA, pkZ, pkS, i64_w, i32_w]
          rfl
        refine one_ (i := 39) (N := some 46) #[true, true, true, true, true, true, true, true, true, true, true, true, true, true, true, true, true, true, true, true, true, true, true, true, true, true, true, true, true, true, true, true, true, true, true, true, true, true, true, true, false, false] rfl rfl (by kernel_rfl) (by decide) (fun K hK => ?_)
        refine value_ (w1 := ?_) (v := ?_) (by rfl) rfl ?_ ?_
        rotate_left 2
        · go_simp
          constructor
          · rfl
          · rfl
        have gr9 : Below w1.heap.size w1 (v35.alloc (.cells #[.bool (!nm), .int .i64 7, .bool (decide (a.f2 > 5)), .int .i64 10, .bool (!mc), .int .i64 13, .bool kn, .int .i64 8, .bool (!rs), .int .i64 14] 114)) := gr1_35.alloc gr1_35.size _
        have h9 := (Go.MapKept.heap_alloc v35 (.cells #[.bool (!nm), .int .i64 7, .bool (decide (a.f2 > 5)), .int .i64 10, .bool (!mc), .int .i64 13, .bool kn, .int .i64 8, .bool (!rs), .int .i64 14] 114)).1
        obtain ⟨z9, hz9⟩ : ∃ z, v35.heap.size = z := ⟨_, rfl⟩
        rw [hz9] at h9 ⊢
        obtain ⟨v39, hv39⟩ : ∃ W, v35.alloc (.cells #[.bool (!nm), .int .i64 7, .bool (decide (a.f2 > 5)), .int .i64 10, .bool (!mc), .int .i64 13, .bool kn, .int .i64 8, .bool (!rs), .int .i64 14] 114) = W := ⟨_, rfl⟩
        rw [hv39] at gr9 h9 ⊢
        clear hv39 hz9
        refine hK.out _ _ ⟨(HS.out _ gr9).1, (HS.out _ gr9).2.1, (HS.out _ gr9).2.2.1, (HS.out _ gr9).2.2.2.1, (HS.out _ gr9).2.2.2.2.1, (HS.out _ gr9).2.2.2.2.2.1, (HS.out _ gr9).2.2.2.2.2.2.1, (HS.out _ gr9).2.2.2.2.2.2.2⟩ (fun hHeld => ?_)
        clear hK K
        refine norm_ (a' := ?_) ?_ ?_
        rotate_left
        · show Act.put _ (some 46) _ = _
          simp only [Act.put, pkA, pkZ, pkS, i64_w, i32_w]
          rfl
        refine one_ (i := 40) (N := some 47) #[true, true, true, true, true, true, true, true, true, true, true, true, true, true, true, true, true, true, true, true, true, true, true, true, true, true, true, true, true, true, true, true, true, true, true, true, true, true, true, true, true, false] rfl rfl (by kernel_rfl) (by decide) (fun K hK => ?_)
        refine goes_ Try.func71 (by kernel_rfl) rfl #[.slice (some ⟨z9, 0, none⟩) 5 5] (by rfl) rfl rfl (by simp only [List.map_toArray, List.map_cons, List.map_nil]; rfl) ?_
        refine (go_first [⟨!nm, 7⟩, ⟨decide (a.f2 > 5), 10⟩, ⟨!mc, 13⟩, ⟨kn, 8⟩, ⟨!rs, 14⟩] (by simp) z9 5 (Nat.le_refl _) _ _ h9).mono ?_
        rintro e v40 ⟨rfl, hb40⟩
        refine ⟨_, rfl, ?_⟩
        have gr10 := gr9.trans (hb40.mono gr9.size)
        refine hK.out _ _ ⟨(HS.out _ gr10).1, (HS.out _ gr10).2.1, (HS.out _ gr10).2.2.1, (HS.out _ gr10).2.2.2.1, (HS.out _ gr10).2.2.2.2.1, (HS.out _ gr10).2.2.2.2.2.1, (HS.out _ gr10).2.2.2.2.2.2.1, (HS.out _ gr10).2.2.2.2.2.2.2⟩ (fun hHeld => ?_)
        clear hK K
        refine norm_ (a' := ?_) ?_ ?_
        rotate_left
        · show Act.put _ (some 47) _ = _
          simp only [Act.put, pkA, pkZ, pkS, i64_w, i32_w]
          rfl
        refine pure_ (i := 41) (N := some 4) (v := ?_) (a' := ?_) #[true, true, true, true, true, true, true, true, true, true, true, true, true, true, true, true, true, true, true, true, true, true, true, true, true, true, true, true, true, true, true, true, true, true, true, true, true, true, true, true, true, true] rfl rfl (by kernel_rfl) (fun _ _ _ h => h) (Or.inl ⟨by rfl, ?_⟩) ?_ ?_
        rotate_left
        · intro w'
          go_simp
          with_reducible rfl
        rotate_left
        · simp only [Act.put, pkA, pkZ, pkS, i64_w, i32_w]
          rfl
        refine done_ (by kernel_rfl) ?_
        have HF : Hid (rr = firstE [⟨!nm, 7⟩, ⟨decide (a.f2 > 5), 10⟩, ⟨!mc, 13⟩, ⟨kn, 8⟩, ⟨!rs, 14⟩]) := Lib.hid (by rw [HE.out]; simp [HK.out, HU.out, H6.out])
        clear hHeld
        obtain ⟨wf, hwf⟩ : ∃ W, v40 = W := ⟨_, rfl⟩
        rw [hwf] at gr10 ⊢
        go_wp2
        go_ret
        exact ⟨by rw [HF.out]; rfl, HG.out.trans (gr10.mono HG.out.size)⟩
end Go.Proofs.Ytdlilbleohlmnaa.PAq
