/- at; the insertion of a rate into a table. -/
import Derived.Test.YtncbfpigojeekaaDoorC6
import Derived.Deep.DrawnRows
import Derived.Laws.StructEq
namespace Go.Proofs.YtncbfpigojeekaaDoor
open Go.RowKit Go.Lib
open Go.Maps (Keyed)
attribute [local go_sem ↓] Go.wp_at_zero Go.wp_at_succ

theorem eq_place_gen (dd : Nat) (c : ByteArray) (k a b : Int) (w : World) : (Op.equalIn (dd + 1 + 1 + 1) 75 (.agg #[.string c, .int .i64 k, .int .i64 a]) (.agg #[.string c, .int .i64 k, .int .i64 b])).run Tryd.prog w = .ok (a == b) w := by
  have f75 : Tryd.prog.underlying 75 = some (.struct (Tryd.prog.fieldsOf 75)) := by kernel_rfl
  have f62 : Tryd.prog.underlying 62 = some (.struct (Tryd.prog.fieldsOf 62)) := by kernel_rfl
  have p0 : ∀ d, (part 62 #[.string c, .int .i64 k, .int .i64 d] 0).run Tryd.prog w = .ok (.agg #[.string c, .int .i64 k]) w := fun d => by kernel_rfl
  have p1 : ∀ d, (part 3 #[.string c, .int .i64 k, .int .i64 d] 2).run Tryd.prog w = .ok (.int .i64 d) w := fun d => by kernel_rfl
  have q0 : (part 9 #[.string c, .int .i64 k] 0).run Tryd.prog w = .ok (.string c) w := by kernel_rfl
  have q1 : (part 3 #[.string c, .int .i64 k] 1).run Tryd.prog w = .ok (.int .i64 k) w := by kernel_rfl
  rw [run_equalIn_struct w (dd + 1 + 1) 75 _ _ f75 (by kernel_rfl)]
  have ei : ∀ (d : Nat) (x y : Int), (Op.equalIn (d + 1) 3 (.int .i64 x) (.int .i64 y)).run Tryd.prog w = .ok (x == y) w := fun d x y => run_equalIn_int w _ _ _ _ _ _ Tryd.underlying3
  have es : (Op.equalIn (dd + 1) 9 (.string c) (.string c)).run Tryd.prog w = .ok true w := by
    simp [Op.equalIn, run_underlying Tryd.underlying9, beq_toListBytes]
  have e62 : (Op.equalIn (dd + 1 + 1) 62 (.agg #[.string c, .int .i64 k]) (.agg #[.string c, .int .i64 k])).run Tryd.prog w = .ok true w := by
    rw [run_equalIn_struct w (dd + 1) 62 _ _ f62 (by kernel_rfl)]
    simp [Program.fieldsOf, Tryd.underlying62, Op.eqFields, q0, q1, es, ei]
  simp only [Program.fieldsOf, Tryd.underlying75, Op.eqFields]
  cases h : (a == b) <;> simp [p0, p1, e62, ei, h]
theorem eq_place (c : ByteArray) (k a b : Int) (w : World) : (Op.equalIn 10000 75 (.agg #[.string c, .int .i64 k, .int .i64 a]) (.agg #[.string c, .int .i64 k, .int .i64 b])).run Tryd.prog w = .ok (a == b) w := eq_place_gen 9997 c k a b w

set_option maxHeartbeats 1000000 in
theorem fx_at.calls (r : Rate) (w : World) :
    Calls Tryd.prog 42 #[r.v] w fun e w' => e = .returned (.agg #[.string r.cur, .int .i64 r.kind, .int .i64 r.day]) ∧ Below w.heap.size w w' := by
  unfold Rate.v
  go_enter Tryd.func42, Tryd.ntmps42
  go_wp2
  refine bodyPost_ret (v := .agg #[.string r.cur, .int .i64 r.kind, .int .i64 r.day]) (by simp [results, Tryd.results42, go_sem]) rfl ⟨rfl, ?_⟩
  exact ((Below.refl _ _).alloc (Nat.le_refl _) _).alloc (by simp) _

/-- the cells that the insertion reads, in a later world -/
structure InsW (w wx : World) (tb mb kb : Nat) (r : Rate) : Prop where
  below : Below w.heap.size w wx
  kb0 : w.heap.size < kb
  kb1 : kb < wx.heap.size
  t2 : wx.cell? ⟨tb, 2, none⟩ = some (.map (some mb))
  r0 : wx.cell? ⟨w.heap.size, 0, none⟩ = some (.string r.cur)
  r1 : wx.cell? ⟨w.heap.size, 1, none⟩ = some (.int .i64 r.kind)
  r2 : wx.cell? ⟨w.heap.size, 2, none⟩ = some (.int .i64 r.day)
  r3 : wx.cell? ⟨w.heap.size, 3, none⟩ = some (.int .i64 r.n)
  r4 : wx.cell? ⟨w.heap.size, 4, none⟩ = some (.int .i64 r.d)
  k0 : wx.cell? ⟨kb, 0, none⟩ = some (.string r.cur)
  k1 : wx.cell? ⟨kb, 1, none⟩ = some (.int .i64 r.kind)
theorem InsW.mono {w wx wy : World} {tb mb kb : Nat} {r : Rate} (h : InsW w wx tb mb kb r) (ht : tb < w.heap.size) (hb : Below wx.heap.size wx wy) : InsW w wy tb mb kb r := by
  have hs := h.below.size
  have h0 := h.kb0
  have h1 := h.kb1
  have c := (bcell hb).1
  exact ⟨h.below.trans (hb.mono hs), h.kb0, Nat.lt_of_lt_of_le h.kb1 hb.size, by rw [c _ _ (by omega)]; exact h.t2, by rw [c _ _ (by omega)]; exact h.r0, by rw [c _ _ (by omega)]; exact h.r1, by rw [c _ _ (by omega)]; exact h.r2,
    by rw [c _ _ (by omega)]; exact h.r3, by rw [c _ _ (by omega)]; exact h.r4, by rw [c _ _ (by omega)]; exact h.k0, by rw [c _ _ (by omega)]; exact h.k1⟩

/-- the cells that the last statement of the insertion reads -/
def InsS (hs tb mb kb : Nat) (r : Rate) (w' : World) : Prop :=
  w'.cell? ⟨tb, 2, none⟩ = some (.map (some mb)) ∧ w'.cell? ⟨kb, 0, none⟩ = some (.string r.cur) ∧ w'.cell? ⟨kb, 1, none⟩ = some (.int .i64 r.kind)
  ∧ w'.cell? ⟨hs, 0, none⟩ = some (.string r.cur) ∧ w'.cell? ⟨hs, 1, none⟩ = some (.int .i64 r.kind) ∧ w'.cell? ⟨hs, 2, none⟩ = some (.int .i64 r.day) ∧ w'.cell? ⟨hs, 3, none⟩ = some (.int .i64 r.n) ∧ w'.cell? ⟨hs, 4, none⟩ = some (.int .i64 r.d)
theorem InsS.of_blocks {hs tb mb kb : Nat} {r : Rate} {w w' : World} (h : InsS hs tb mb kb r w) (h1 : w'.heap[tb]? = w.heap[tb]?) (h2 : w'.heap[kb]? = w.heap[kb]?) (h3 : w'.heap[hs]? = w.heap[hs]?) : InsS hs tb mb kb r w' := by
  have c : ∀ (b o : Nat), w'.heap[b]? = w.heap[b]? → w'.cell? ⟨b, o, none⟩ = w.cell? ⟨b, o, none⟩ := fun b o h => World.cell?_of_block (a := ⟨b, o, none⟩) h
  unfold InsS at h ⊢
  rw [c tb 2 h1, c kb 0 h2, c kb 1 h2, c hs 0 h3, c hs 1 h3, c hs 2 h3, c hs 3 h3, c hs 4 h3]
  exact h

set_option maxRecDepth 100000 in
set_option maxHeartbeats 4000000 in
theorem fx_insert.calls (B tb : Nat) (base : ByteArray) (n : Int) (L : List Rate) (r : Rate) (w : World) (hT : Tab w B tb base n L) (hA : Apart L) (hr : r.wf) (hlen : L.length ≤ 2000) (hB : B ≤ w.heap.size) :
    Calls Tryd.prog 25 #[.pointer (some ⟨tb, 0, none⟩), r.v] w fun e w' =>
      e = .returned (.bool (!dup L r)) ∧ Below B w w' ∧ (dup L r = false → Tab w' B tb base n (L ++ [r])) := by
  obtain ⟨mb, M, hbt, htb, hbm, hmap, hser, hdis⟩ := hT
  have hrise := hA.rising r.key
  have hown := Tab.at_ hser r.key
  obtain ⟨v0, hv0⟩ : ∃ v, (M r.key).getD (.slice none 0 0) = v := ⟨_, rfl⟩
  rw [hv0] at hown
  obtain ⟨xs, hxs⟩ : ∃ xs, ser L r.key = xs := ⟨_, rfl⟩
  have hxl : xs.length ≤ 2000 := by rw [← hxs]; exact Nat.le_trans (length_ser L r.key) hlen
  have hmx : ∀ q ∈ xs, q.cur = r.cur ∧ q.kind = r.kind := fun q hq => by
    have := ((mem_ser L r.key q).1 (hxs ▸ hq)).2
    exact Prod.mk.injEq _ _ _ _ ▸ this
  have hdup := hrise.dup (L := L) (r := r)
  rw [hxs] at hown hdup hrise
  obtain ⟨kl, hkl⟩ := fx_keyOf r.key (Nat.le_trans hr.1 (by unfold maxLen; omega)) hr.2.1
  have hlook := fun (w' : World) (hw : w'.heap[mb]? = w.heap[mb]?) => (hmap.of_block hw).lookup fx_keyed encK_inj Tryd.underlying54 (z := .slice none 0 0) (by kernel_rfl) false r.key hkl
  simp only [hv0] at hlook
  have hT2 : w.cell? ⟨tb, 2, none⟩ = some (.map (some mb)) := by simp [World.cell?, htb]
  have htw : tb < w.heap.size := (Array.getElem?_eq_some_iff.1 htb).1
  have hmw := hmap.lt
  obtain ⟨A, cp, rfl, hAs⟩ := (slr_of_owns hown rfl).shape
  have HAS := Lib.hid hAs; clear hAs
  have HD := Lib.hid hdup; have HL := Lib.hid hlook; have HO := Lib.hid hown; have HM := Lib.hid hmap; have HS := Lib.hid hser; have HI := Lib.hid hdis; have HR := Lib.hid hrise; have HX := Lib.hid hmx; have HTB := Lib.hid htb
  clear hdup hlook hown hmap hser hdis hrise hmx htb
  have hfld : ∀ W, (Instr.field 75 (.agg #[.string r.cur, .int .i64 r.kind, .int .i64 r.day]) 0).run Tryd.prog W = .ok (.agg #[.string r.cur, .int .i64 r.kind]) W := fun W => by kernel_rfl
  unfold Rate.v
  go_enter Tryd.func25, Tryd.ntmps25
  go_wp2_with (go_at_call 42; refine (fx_at.calls r _).mono ?_; rintro e w1 ⟨rfl, hb1⟩; obtain ⟨hcc, hff⟩ := bcell hb1; have hz1 : w.heap.size < w1.heap.size := by (have := hb1.size; simp at this; omega))
  have hk0 : w.heap.size ≠ w1.heap.size := by omega
  obtain ⟨kb, hkb⟩ : ∃ kb, w1.heap.size = kb := ⟨_, rfl⟩
  have HKB := Lib.hid hkb; clear hkb
  go_cut [6] (fun s6 wx => s6 = .slice A xs.length cp ∧ InsW w wx tb mb w1.heap.size r)
  case first =>
    have hl1 := HL.out ((w1.alloc (.cells #[.string r.cur, .int .i64 r.kind] 62)).drew) (by
      show (w1.alloc _).heap[mb]? = _
      rw [heap_alloc_old w1 _ (by omega), hb1.block mb (Nat.lt_of_lt_of_le hmw (by simp)), heap_alloc_old w _ hmw])
    have e : encK r.key = .agg #[.string r.cur, .int .i64 r.kind] := rfl
    rw [e] at hl1
    simp only [Bool.false_eq_true, if_false] at hl1
    have c2 : w1.cell? ⟨tb, 2, none⟩ = some (.map (some mb)) := (hcc tb 2 (by simp; omega)).trans (by rw [World.cell?_alloc_past _ _ _ htw]; exact hT2)
    go_region_held3 (fun w' => w'.cell? ⟨tb, 2, none⟩ = some (.map (some mb)) ∧ w'.cell? ⟨w1.heap.size, 0, none⟩ = some (.string r.cur) ∧ w'.cell? ⟨w1.heap.size, 1, none⟩ = some (.int .i64 r.kind)) (go_keep) (fail)
    go_wp2
    go_meet
    refine ⟨rfl, (bc1 _ _ _ hb1).trans (((Below.refl _ _).alloc (by omega) _).drew), hz1, by simp, ?_, ?_, ?_, ?_, ?_, ?_, by simp, by simp⟩
    · rw [World.cell?_drew, World.cell?_alloc_past _ _ _ (by omega)]; exact c2
    all_goals (rw [World.cell?_drew, World.cell?_alloc_past _ _ _ (by omega), hcc _ _ (by simp)]; simp)
  case rest =>
    obtain ⟨rfl, hW⟩ := hcut
    rw [HKB.out] at hW ⊢
    clear hk0 hz1 hb1 hcc hff
    have hslr : ∀ W, Below w.heap.size w W → SlR Rate.cells 5 W (.slice A xs.length cp) xs := fun W hb => (slr_of_owns HO.out rfl).below hb
    have HSL := Lib.hid hslr; clear hslr
    obtain ⟨hbx, hk0, hk1, c2, r0, r1, r2, r3, r4, k0, k1⟩ := id hW
    obtain ⟨lb, hlb⟩ : ∃ lb, lowB xs r.day = lb := ⟨_, rfl⟩
    rw [hlb] at HD
    have HLB := Lib.hid hlb
    have hlbn : lb ≤ xs.length := by rw [← hlb]; exact List.countP_le_length
    clear hlb
    go_upto_region 4 with (go_at_call 30; refine (fx_search.calls xs _ r.day _ (HSL.out _ hbx) HR.out (by omega)).mono ?_; rintro e w2 ⟨rfl, hb2⟩; rw [HLB.out])
    obtain ⟨hcc2, hff2⟩ := bcell hb2
    have hz2 := hb2.size
    have hW2 := hW.mono htw hb2
    clear r0 r1 r2 r3 r4 k0 k1 c2
    obtain ⟨hbx2, _, hk2, c2', r0', r1', r2', r3', r4', k0', k1'⟩ := id hW2
    go_cut [34] (fun s34 wx => s34 = .bool (dup L r) ∧ InsW w wx tb mb kb r)
    case first =>
      by_cases hi : lb < xs.length
      · obtain ⟨b, o, rfl, hbw, hc⟩ := HAS.out lb hi
        have hc' := fun j u hu => (hbx2.cell (p := ⟨b, o + lb * 5 + j, none⟩) hbw).trans (hc j u hu)
        obtain ⟨q, hq⟩ : ∃ q, xs[lb] = q := ⟨_, rfl⟩
        rw [hq] at hc'
        have hqm := HX.out q (hq ▸ List.getElem_mem hi)
        have hqq : q = ⟨r.cur, r.kind, q.day, q.n, q.d⟩ := by rw [← hqm.1, ← hqm.2]
        rw [hqq] at hc'
        obtain ⟨q0', q1', q2', q3', q4'⟩ := Rate.five hc'
        simp only at q0' q1' q2' q3' q4'
        have HQ : Hid (dup L r = (q.day == r.day)) := Lib.hid (by
          have ht := HD.out
          cases hdu : dup L r with
          | true => obtain ⟨_, h⟩ := ht.1 hdu; rw [hq] at h; simp [h]
          | false =>
            have : ¬ q.day = r.day := fun h => by rw [ht.2 ⟨hi, by rw [hq]; exact h⟩] at hdu; cases hdu
            simp [this])
        clear hc hc' hqm hqq hq hcc2 hff2
        have hx2 : b < w2.heap.size := by have := hbx2.size; omega
        have hwc : w.heap.size < w2.heap.size := by omega
        have hlt : decide ((lb : Int) < (xs.length : Int)) = true := by simp; omega
        have heq := eq_place r.cur r.kind q.day r.day
        go_region_held3 (fun w' => w'.cell? ⟨b, o + lb * 5, none⟩ = some (.string r.cur) ∧ w'.cell? ⟨b, o + lb * 5 + 1, none⟩ = some (.int .i64 r.kind) ∧ w'.cell? ⟨b, o + lb * 5 + 2, none⟩ = some (.int .i64 q.day) ∧ w'.cell? ⟨b, o + lb * 5 + 3, none⟩ = some (.int .i64 q.n) ∧ w'.cell? ⟨b, o + lb * 5 + 4, none⟩ = some (.int .i64 q.d)
            ∧ w'.cell? ⟨w.heap.size, 0, none⟩ = some (.string r.cur) ∧ w'.cell? ⟨w.heap.size, 1, none⟩ = some (.int .i64 r.kind) ∧ w'.cell? ⟨w.heap.size, 2, none⟩ = some (.int .i64 r.day) ∧ w'.cell? ⟨w.heap.size, 3, none⟩ = some (.int .i64 r.n) ∧ w'.cell? ⟨w.heap.size, 4, none⟩ = some (.int .i64 r.d))
          (first | go_keep | (and_intros <;> (rw [hcc4 _ _ (by omega), hcc3 _ _ (by first | omega | (simp; omega))]; simp; assumption)) | (and_intros <;> (rw [hcc3 _ _ (by first | omega | (simp; omega))]; simp; assumption)))
          (first
            | (go_at_call_of 42 (Value.agg #[Value.string r.cur, Value.int IntKind.i64 r.kind, Value.int IntKind.i64 q.day, Value.int IntKind.i64 q.n, Value.int IntKind.i64 q.d]); refine (fx_at.calls ⟨r.cur, r.kind, q.day, q.n, q.d⟩ _).mono ?_; rintro e w3 ⟨rfl, hb3⟩; obtain ⟨hcc3, hff3⟩ := bcell hb3; have hz3 := hb3.size; simp only [World.size_drew] at hz3)
            | (go_at_call_of 42 (Value.agg #[Value.string r.cur, Value.int IntKind.i64 r.kind, Value.int IntKind.i64 r.day, Value.int IntKind.i64 r.n, Value.int IntKind.i64 r.d]); refine (fx_at.calls r _).mono ?_; rintro e w4 ⟨rfl, hb4⟩; obtain ⟨hcc4, hff4⟩ := bcell hb4; have hz4 := hb4.size))
        go_wp2
        go_meet
        exact ⟨by rw [HQ.out], hW2.mono htw ((below_drewN _ 1).trans ((hb3.mono (by simp)).trans (hb4.mono (by omega))))⟩
      · have hlt : decide ((lb : Int) < (xs.length : Int)) = false := by simp; omega
        have hdu : Hid (dup L r = false) := Lib.hid (by
          cases hdu : dup L r with
          | true => obtain ⟨h, _⟩ := HD.out.1 hdu; omega
          | false => rfl)
        go_quiet (fail)
        go_wp2
        go_meet
        exact ⟨by rw [hdu.out], hW2.mono htw (below_drewN _ _)⟩
    case rest =>
      obtain ⟨rfl, hW3⟩ := hcut
      clear hcc2 hff2 hz2 hb2 hW2 hk2 c2' r0' r1' r2' r3' r4' k0' k1' hbx2 hW hbx hk1
      obtain ⟨D, hD⟩ : ∃ D, dup L r = D := ⟨_, rfl⟩
      rw [hD]
      have HDD := Lib.hid hD; clear hD
      cases D with
      | true =>
        go_wp2
        go_ret
        exact ⟨by rw [HDD.out]; rfl, hW3.below.mono hB, fun h => by rw [HDD.out] at h; cases h⟩
      | false =>
        obtain ⟨hbx, _, hk1, c2, r0, r1, r2, r3, r4, k0, k1⟩ := id hW3
        have hwc : w.heap.size < wc.heap.size := by omega
        have hS0 : InsS w.heap.size tb mb kb r wc := ⟨c2, k0, k1, r0, r1, r2, r3, r4⟩
        obtain ⟨W', hW'⟩ : ∃ W', (wc.alloc (.cells #[.string r.cur, .int .i64 r.kind, .int .i64 r.day, .int .i64 r.n, .int .i64 r.d] 51)).drew = W' := ⟨_, rfl⟩
        have hbW : Below wc.heap.size wc W' := by rw [← hW']; exact ((Below.refl _ _).alloc (Nat.le_refl _) _).drew
        have hbWw : Below w.heap.size w W' := hbx.trans (hbW.mono (by omega))
        have hWn : W'.heap[wc.heap.size]? = some (.cells #[.string r.cur, .int .i64 r.kind, .int .i64 r.day, .int .i64 r.n, .int .i64 r.d] 51 (0, 0)) := by rw [← hW']; exact heap_alloc_new wc _
        have hWs : wc.heap.size < W'.heap.size := (Array.getElem?_eq_some_iff.1 hWn).1
        have hownW := owns_below HO.out hbWw
        have hob : ∀ g, (Value.slice A xs.length cp).ownBlock = some g → g < w.heap.size := fun g hg => by
          rcases owns_block HO.out with ⟨h0, _⟩ | ⟨g', cur, h0, _, h2⟩
          · rw [h0] at hg; cases hg
          · rw [h0] at hg; cases hg; exact (Array.getElem?_eq_some_iff.1 h2).1
        have hins := slices_Insert.calls B xs.length lb _ xs r wc.heap.size 1 W' hownW (by have := hbWw.size; omega) hlbn rfl (by omega)
          (fun j u hj => by rw [hasRow hWn]; match j, hj with | 0, hj => exact hj | 1, hj => exact hj | 2, hj => exact hj | 3, hj => exact hj | 4, hj => exact hj)
          (fun h => by have := hob _ h.symm; omega) 5 51 (by unfold World.shape?; rw [hWn]; rfl) (by simp [World.frozen?, hWn]) (by simp [World.frozen?, hWn])
        have hafter : ∀ w5 v', W'.grownBy w5 (Value.slice A xs.length cp).ownBlock → w5.ownsRow B 51 5 v' (xs.length + 1) (flat (xs.take lb ++ r :: xs.drop lb)) → (v'.ownBlock = (Value.slice A xs.length cp).ownBlock ∨ v'.ownBlock = some W'.heap.size) →
            ∃ o, (Instr.mapUpdate 54 (.map (some mb)) (.agg #[.string r.cur, .int .i64 r.kind]) v').run Tryd.prog w5 = .ok () (ChangeMaps.setBlock w5 mb o) ∧ InsS w.heap.size tb mb kb r w5 ∧ InsS w.heap.size tb mb kb r (ChangeMaps.setBlock w5 mb o) ∧ Tab (ChangeMaps.setBlock w5 mb o) B tb base n (L ++ [r]) ∧ Below B w (ChangeMaps.setBlock w5 mb o) := by
          intro w5 v' hgrow hown' hat
          have hgrow' : W'.grownBy w5 ((M r.key).getD (.slice none 0 0)).ownBlock := by rw [hv0]; exact hgrow
          have hm5 : MapAt Tryd.prog 62 encK w5 mb M := by
            obtain ⟨es, clock, h, _⟩ := HM.out
            exact HM.out.of_block ((Tab.left HS.out hbWw hgrow' mb _ h (by simp)).trans h.symm)
          obtain ⟨o, ho, hm6⟩ := hm5.store fx_keyed encK_inj Tryd.underlying54 r.key v' hkl
          have hT := Tab.inserted hB hbt hbm HTB.out HM.out HS.out HI.out hbWw hgrow' (by rw [hv0]; exact hat) (by rw [hxs]; unfold insB; rw [HLB.out]; exact hown') hm6
          have hne : ∀ k, w.heap.size ≤ k → some k ≠ (Value.slice A xs.length cp).ownBlock := fun k hk h => by have := hob k h.symm; omega
          have t5 : w5.heap[tb]? = wc.heap[tb]? := by
            rw [Tab.left HS.out hbWw hgrow' tb _ HTB.out (by simp), hbx.block tb htw]; exact HTB.out.symm
          have s5 : InsS w.heap.size tb mb kb r w5 := hS0.of_blocks t5
            ((hgrow.block kb (by omega) (hne kb (by omega))).trans (hbW.block kb hk1)) ((hgrow.block _ (by omega) (hne _ (Nat.le_refl _))).trans (hbW.block _ hwc))
          have htm : tb ≠ mb := fun h => by
            obtain ⟨es, clock, hh, _⟩ := HM.out
            rw [← h, HTB.out] at hh; cases hh
          exact ⟨o, ho, s5, s5.of_blocks (setBlock_other htm) (setBlock_other (by omega)) (setBlock_other (by omega)), hT.1, hT.2⟩
        have HAF := Lib.hid hafter
        have HIN := Lib.hid hins
        have HSW := Lib.hid (hS0.of_blocks (hbW.block tb (by omega)) (hbW.block kb hk1) (hbW.block _ hwc))
        rw [← hW'] at HAF HIN HSW
        have HWD := Lib.hid hWs
        clear hafter hins hS0 hownW hob hWn hWs hbWw hbW hW'
        go_wp2
        go_region_held3 (fun w' => w'.cell? ⟨tb, 2, none⟩ = some (.map (some mb)) ∧ w'.cell? ⟨kb, 0, none⟩ = some (.string r.cur) ∧ w'.cell? ⟨kb, 1, none⟩ = some (.int .i64 r.kind)
            ∧ w'.cell? ⟨w.heap.size, 0, none⟩ = some (.string r.cur) ∧ w'.cell? ⟨w.heap.size, 1, none⟩ = some (.int .i64 r.kind) ∧ w'.cell? ⟨w.heap.size, 2, none⟩ = some (.int .i64 r.day) ∧ w'.cell? ⟨w.heap.size, 3, none⟩ = some (.int .i64 r.n) ∧ w'.cell? ⟨w.heap.size, 4, none⟩ = some (.int .i64 r.d))
          (first | go_keep | exact h6.out | exact h5.out | exact HSW.out)
          (first
            | (go_at_call 43; refine (HIN.out).mono ?_; rintro e w5 ⟨v', rfl, hown', hgrow, hat⟩; obtain ⟨o, hup, h5, h6, hT⟩ := HAF.out w5 v' hgrow hown' hat; have HT := Lib.hid hT; replace h5 := Lib.hid h5; replace h6 := Lib.hid h6; clear hT hown' hgrow hat))
        go_wp2
        go_ret
        exact ⟨by rw [HDD.out]; rfl, HT.out.2, fun _ => HT.out.1⟩

end Go.Proofs.YtncbfpigojeekaaDoor
