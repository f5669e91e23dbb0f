/- A part of the proof. -/
import Derived.Test.YtikdiepcfdimgaaDoorQN1
set_option linter.all false
namespace Go.Proofs.YtikdiepcfdimgaaDoor.POw
open Go.RowKit Go.Lib Go.Proofs.YtikdiepcfdimgaaDoorW.PrintWords Go.Proofs.YtikdiepcfdimgaaDoorW.PrintLast Go.Proofs.YtikdiepcfdimgaaDoorW.PrintMore
theorem info_hold : (Tryd.prog.info? 41).map (fun i => (i.zero, i.size, i.bytes)) = some (some (.agg #[.string ⟨#[]⟩, .string ⟨#[]⟩, .int .i64 0, .int .i64 0, .int .i64 0]), 5, 56) := by kernel_rfl
def AddPost (B g m1 m2 : Nat) (s : Gr) (w w' : World) : Prop := ∃ V' U' vE' vC', GrAt w' B g m1 m2 V' U' vE' vC' s ∧ Below B w w'
theorem cellsH_one (h : Hold) : ∀ u ∈ cellsH h, u.oneCell' = true := by
  intro u hu
  simp [cellsH] at hu
  rcases hu with rfl | rfl | rfl | rfl | rfl <;> rfl
section
variable {w : World} {B g m1 m2 : Nat} {V : Pr → Value} {U : ByteArray → Value} {vE vC : Value} {s : Gr}
set_option maxRecDepth 100000 in
set_option maxHeartbeats 8000000 in
theorem go_add (hG : GrAt w B g m1 m2 V U vE vC s) (ok : GrOk s) (hdif : m1 ≠ m2) (hBw : B ≤ w.heap.size) (h : Hold) (hx : h.f0.size ≤ 100) (hy : h.f1.size ≤ 100) (hl1 : ∀ k, (s.shL k).length ≤ 900) (hl2 : ∀ x, (s.owL x).length ≤ 900) (hl3 : s.en.length ≤ 900) (hl4 : s.ch.length ≤ 900) (hfr : ∀ x ∈ s.shL h.pr, x.f3 ≠ h.f3) :
    Calls Tryd.prog 18 #[.pointer (some ⟨g, 0, none⟩), .agg #[.string h.f0, .string h.f1, .int .i64 h.f2.f0, .int .i64 h.f2.f1, .int .i64 h.f3]] w fun e w' => e = .returned (.tuple #[]) ∧ AddPost B g m1 m2 (addG s h) w w' := by
  have hb1 : Below w.heap.size w ((w.alloc (.cells #[.string h.f0, .string h.f1, .int .i64 h.f2.f0, .int .i64 h.f2.f1, .int .i64 h.f3] 41)).alloc (.cells #[.string h.f0, .string h.f1] 58)) := ((Below.refl _ _).alloc (Nat.le_refl _) _).alloc (by simp) _
  have hx1 : HBox ((w.alloc (.cells #[.string h.f0, .string h.f1, .int .i64 h.f2.f0, .int .i64 h.f2.f1, .int .i64 h.f3] 41)).alloc (.cells #[.string h.f0, .string h.f1] 58)) w.heap.size h := (HBox.made w h).below ((Below.refl _ _).alloc (Nat.le_refl _) _)
  have hp1 : ((w.alloc (.cells #[.string h.f0, .string h.f1, .int .i64 h.f2.f0, .int .i64 h.f2.f1, .int .i64 h.f3] 41)).alloc (.cells #[.string h.f0, .string h.f1] 58)).heap[w.heap.size + 1]? = some (.cells #[.string h.f0, .string h.f1] 58 (0, 0)) := by
    have := (Go.MapKept.heap_alloc (w.alloc (.cells #[.string h.f0, .string h.f1, .int .i64 h.f2.f0, .int .i64 h.f2.f1, .int .i64 h.f3] 41)) (.cells #[.string h.f0, .string h.f1] 58)).1
    rw [World.size_alloc] at this
    exact this
  have hG1 := hG.below hb1
  have hgl := hG.lt
  go_enter Tryd.func18, Tryd.ntmps18
  go_upto_region 2 with fail
  obtain ⟨w1, hw1⟩ : ∃ W, (w.alloc (.cells #[.string h.f0, .string h.f1, .int .i64 h.f2.f0, .int .i64 h.f2.f1, .int .i64 h.f3] 41)).alloc (.cells #[.string h.f0, .string h.f1] 58) = W := ⟨_, rfl⟩
  obtain ⟨z3, hz3⟩ : ∃ z, w.heap.size = z := ⟨_, rfl⟩
  obtain ⟨z4, hz4⟩ : ∃ z, w.heap.size + 1 = z := ⟨_, rfl⟩
  have hzs : w1.heap.size = w.heap.size + 1 + 1 := by rw [← hw1, World.size_alloc, World.size_alloc]
  rw [hw1] at hb1 hx1 hp1 hG1 ⊢
  rw [hz4] at hp1 ⊢
  rw [hz3] at hx1 ⊢
  have HZZ := Lib.hid (show w.heap.size = z3 ∧ z3 < z4 ∧ z4 + 1 = w1.heap.size from ⟨hz3, by omega, by omega⟩)
  clear hw1 hz3 hz4 hzs
  obtain ⟨i0, hi0, hi1, hi2, hi3⟩ := info_parts info_hold
  obtain ⟨A, c, hown, hlook, hV⟩ := hG1.look_sh h.pr (show h.f0.size ≤ 1000 by omega) (show h.f1.size ≤ 1000 by omega)
  obtain ⟨A0, c0, hown0, _, hV0⟩ := hG.look_sh h.pr (show h.f0.size ≤ 1000 by omega) (show h.f1.size ≤ 1000 by omega)
  have hll := hl1 h.pr
  obtain ⟨l, hle⟩ : ∃ l, s.shL h.pr = l := ⟨_, rfl⟩
  rw [hle] at hown hown0 hV hV0 hll hfr hlook
  have hVV := hV.symm.trans hV0
  injection hVV with hA1 _ hA3
  subst hA1 hA3
  have ROWLT := Lib.hid (fun (b : Nat) (hb : (Value.slice A l.length c).ownBlock = some b) => own_lt hown0 b hb)
  have hz := HZZ.out
  obtain ⟨es1, cl1, hm1⟩ := hG1.map1
  have hne1 : ∀ {b : Nat} {o : Obj}, w1.heap[b]? = some o → (∀ cs, o ≠ .cells cs 41 (0, 0)) → some b ≠ (Value.slice A l.length c).ownBlock := fun {b o} ho hne e => own_not_block hown ho hne e.symm
  have HS := Lib.hid (show ∀ w' : World, w1.grownBy w' (Value.slice A l.length c).ownBlock → w'.cell? ⟨g, 0, none⟩ = some (.map (some m1)) ∧ w'.cell? ⟨z4, 0, none⟩ = some (.string h.f0) ∧ w'.cell? ⟨z4, 1, none⟩ = some (.string h.f1) ∧ (Instr.lookup 51 (.map (some m1)) (.agg #[.string h.f0, .string h.f1]) false).run Tryd.prog w' = .ok (.slice A l.length c) w' ∧ w'.cell? ⟨z3, 0, none⟩ = some (.string h.f0) ∧ w'.cell? ⟨z3, 1, none⟩ = some (.string h.f1) ∧ w'.cell? ⟨z3, 2, none⟩ = some (.int .i64 h.f2.f0) ∧ w'.cell? ⟨z3, 3, none⟩ = some (.int .i64 h.f2.f1) ∧ w'.cell? ⟨z3, 4, none⟩ = some (.int .i64 h.f3) from fun w' gr => by
    have q1 : w'.heap[g]? = w1.heap[g]? := gr.block g hG1.lt (hne1 hG1.blk (fun _ e => by injection e with _ e; exact absurd e (by decide)))
    have q2 : w'.heap[z4]? = w1.heap[z4]? := gr.block z4 (by omega) (fun e => by have := ROWLT.out _ e.symm; omega)
    have q3 : w'.heap[z3]? = w1.heap[z3]? := gr.block z3 (by omega) (fun e => by have := ROWLT.out _ e.symm; omega)
    have q4 : w'.heap[m1]? = w1.heap[m1]? := gr.block m1 hG1.sh.lt (hne1 hm1 (fun _ e => by cases e))
    have hxx : HBox w' z3 h := q3.trans hx1
    obtain ⟨kl, hkl⟩ := key_pr (k := h.pr) (show h.f0.size ≤ 1000 by omega) (show h.f1.size ≤ 1000 by omega)
    have hr := (hG1.sh.of_block q4).lookup pair_keyed encP_inj Tryd.underlying51 (z := .slice none 0 0) (by kernel_rfl) false h.pr hkl
    simp only [Bool.false_eq_true, if_false] at hr
    rw [hV] at hr
    exact ⟨blk_cell (q1.trans hG1.blk) 0, blk_cell (q2.trans hp1) 0, blk_cell (q2.trans hp1) 1, hr, hxx.facts⟩)
  have HOWN := Lib.hid hown; have HG1 := Lib.hid hG1; have HG := Lib.hid hG; have HX1 := Lib.hid hx1; have HP1 := Lib.hid hp1; have HV := Lib.hid hV; have HM1 := Lib.hid hm1; have HB1 := Lib.hid hb1; have HOK := Lib.hid ok
  have HFR := Lib.hid hfr; have HL2 := Lib.hid hl2; have HLE := Lib.hid hle
  have hBw : B ≤ w1.heap.size := Nat.le_trans hBw hb1.size
  clear hown hown0 hG1 hG hx1 hp1 hV hV0 hm1 hb1 ok hne1 hlook hl1 hl2 hfr hle
  have gr_ : w1.grownBy w1.drew (Value.slice A l.length c).ownBlock := grown_of_below ((Below.refl _ w1).drew) _
  have ow_ : w1.drew.ownsRow B 41 5 (.slice A l.length c) l.length (flatH l) := pw_own_below HOWN.out ((Below.refl _ w1).drew)
  refine start_ (n := 11) (S := fun w' => w'.cell? ⟨g, 0, none⟩ = some (.map (some m1)) ∧ w'.cell? ⟨z4, 0, none⟩ = some (.string h.f0) ∧ w'.cell? ⟨z4, 1, none⟩ = some (.string h.f1) ∧ (Instr.lookup 51 (.map (some m1)) (.agg #[.string h.f0, .string h.f1]) false).run Tryd.prog w' = .ok (.slice A l.length c) w' ∧ w'.cell? ⟨z3, 0, none⟩ = some (.string h.f0) ∧ w'.cell? ⟨z3, 1, none⟩ = some (.string h.f1) ∧ w'.cell? ⟨z3, 2, none⟩ = some (.int .i64 h.f2.f0) ∧ w'.cell? ⟨z3, 3, none⟩ = some (.int .i64 h.f2.f1) ∧ w'.cell? ⟨z3, 4, none⟩ = some (.int .i64 h.f3)) (ds := []) #[false, false, false, false, false, false, false, false, false, false, false] (by kernel_rfl) rfl rfl ⟨(HS.out _ gr_).1, (HS.out _ gr_).2.1, (HS.out _ gr_).2.2.1, (HS.out _ gr_).2.2.2.1, (HS.out _ gr_).2.2.2.2.1, (HS.out _ gr_).2.2.2.2.2.1, (HS.out _ gr_).2.2.2.2.2.2.1, (HS.out _ gr_).2.2.2.2.2.2.2.1, (HS.out _ gr_).2.2.2.2.2.2.2.2⟩ (fun hHeld => ?_)
  refine pure_ (i := 0) (N := some 12) (v := ?_) (a' := ?_) #[true, false, false, false, false, false, false, false, false, false, false] rfl rfl (by kernel_rfl) (fun _ _ _ h => h) (Or.inl ⟨by rfl, ?_⟩) ?_ ?_
  rotate_left
  · intro w'
    go_simp
    with_reducible rfl
  rotate_left
  · simp only [Act.put, List.setIfInBounds_toArray, List.set_cons_zero, List.set_cons_succ, i64_w, i32_w]
    rfl
  refine pure_ (i := 1) (N := some 13) (v := ?_) (a' := ?_) #[true, true, false, false, false, false, false, false, false, false, false] rfl rfl (by kernel_rfl) (fun _ _ _ h => h) (Or.inl ⟨by rfl, ?_⟩) ?_ ?_
  rotate_left
  · intro w'
    go_simp
    with_reducible rfl
  rotate_left
  · simp only [Act.put, List.setIfInBounds_toArray, List.set_cons_zero, List.set_cons_succ, i64_w, i32_w]
    rfl
  refine pure_ (i := 2) (N := some 14) (v := ?_) (a' := ?_) #[true, true, true, false, false, false, false, false, false, false, false] rfl rfl (by kernel_rfl) (fun _ _ _ h => h) (Or.inl ⟨by rfl, ?_⟩) ?_ ?_
  rotate_left
  · intro w'
    go_simp
    with_reducible rfl
  rotate_left
  · simp only [Act.put, List.setIfInBounds_toArray, List.set_cons_zero, List.set_cons_succ, i64_w, i32_w]
    rfl
  refine take_ (i := 3) (N := some 15) (v := ?_) (a' := ?_) #[true, true, true, true, false, false, false, false, false, false, false] rfl rfl (by kernel_rfl) (fun _ _ _ h => h) (Or.inl ⟨by rfl, ?_⟩) hHeld ?_ ?_
  rotate_left
  · rintro w' ⟨s0, s1, s2, s3, s4, s5, s6, s7, s8⟩
    go_simp
    with_reducible rfl
  rotate_left
  · simp only [Act.put, List.setIfInBounds_toArray, List.set_cons_zero, List.set_cons_succ, i64_w, i32_w]
    rfl
  refine take_ (i := 4) (N := some 16) (v := ?_) (a' := ?_) #[true, true, true, true, true, false, false, false, false, false, false] rfl rfl (by kernel_rfl) (fun _ _ _ h => h) (Or.inl ⟨by rfl, ?_⟩) hHeld ?_ ?_
  rotate_left
  · rintro w' ⟨s0, s1, s2, s3, s4, s5, s6, s7, s8⟩
    go_simp
    with_reducible rfl
  rotate_left
  · simp only [Act.put, List.setIfInBounds_toArray, List.set_cons_zero, List.set_cons_succ, i64_w, i32_w]
    rfl
  refine take_ (i := 5) (N := some 17) (v := ?_) (a' := ?_) #[true, true, true, true, true, true, false, false, false, false, false] rfl rfl (by kernel_rfl) (fun _ _ _ h => h) (Or.inl ⟨by rfl, ?_⟩) hHeld ?_ ?_
  rotate_left
  · rintro w' ⟨s0, s1, s2, s3, s4, s5, s6, s7, s8⟩
    go_simp
    with_reducible rfl
  rotate_left
  · simp only [Act.put, List.setIfInBounds_toArray, List.set_cons_zero, List.set_cons_succ, i64_w, i32_w]
    rfl
  refine take_ (i := 6) (N := some 18) (v := ?_) (a' := ?_) #[true, true, true, true, true, true, true, false, false, false, false] rfl rfl (by kernel_rfl) (fun _ _ _ h => h) (Or.inl ⟨by rfl, ?_⟩) hHeld ?_ ?_
  rotate_left
  · rintro w' ⟨s0, s1, s2, s3, s4, s5, s6, s7, s8⟩
    go_simp
    with_reducible rfl
  rotate_left
  · simp only [Act.put, List.setIfInBounds_toArray, List.set_cons_zero, List.set_cons_succ, i64_w, i32_w]
    rfl
  refine join_ (σ := Nat × Value × Nat) 1 #[true, true, true, true, true, true, true, true, true, true, false] (fun q => [(19, .slice (some ⟨q.1, 0, none⟩) 1 1), (20, q.2.1), (5, .pointer (some ⟨q.2.2, 0, none⟩))]) (fun q w' => w1.grownBy w' (Value.slice A l.length c).ownBlock ∧ w'.ownsRow B 41 5 q.2.1 (l.length + 1) (flatH l ++ cellsH h) ∧ w'.heap[q.2.2]? = some (.cells #[.slice none 0 0] 56 (0, 0)) ∧ w1.heap.size ≤ q.2.2 ∧ (q.2.1.ownBlock = (Value.slice A l.length c).ownBlock ∨ ∃ b, q.2.1.ownBlock = some b ∧ w1.heap.size ≤ b)) ?_ ?_
  rotate_left
  · intro hCont
    refine two_ (i := 7) (j := 9) (Ni := some 19) (Nj := some 5) #[true, true, true, true, true, true, true, true, false, false, false] #[true, true, true, true, true, true, true, false, false, true, false] rfl rfl rfl rfl (by kernel_rfl) (by decide) (by decide) (fun K hK => ?_) (fun K hK => ?_)
    · skip
      refine value_ (w1 := ?_) (v := ?_) (by rfl) rfl ?_ ?_
      rotate_left 2
      · go_simp
        constructor
        · rfl
        · rfl
      have gr7_ := grown_below gr_ ((Below.refl _ w1.drew).alloc (Nat.le_refl _) (.cells #[.string h.f0, .string h.f1, .int .i64 h.f2.f0, .int .i64 h.f2.f1, .int .i64 h.f3] 41))
      have ow7_ := (ow_).alloc (.cells #[.string h.f0, .string h.f1, .int .i64 h.f2.f0, .int .i64 h.f2.f1, .int .i64 h.f3] 41)
      refine hK.out _ _ ⟨(HS.out _ gr7_).1, (HS.out _ gr7_).2.1, (HS.out _ gr7_).2.2.1, (HS.out _ gr7_).2.2.2.1, (HS.out _ gr7_).2.2.2.2.1, (HS.out _ gr7_).2.2.2.2.2.1, (HS.out _ gr7_).2.2.2.2.2.2.1, (HS.out _ gr7_).2.2.2.2.2.2.2.1, (HS.out _ gr7_).2.2.2.2.2.2.2.2⟩ (fun hHeld => ?_)
      clear hK K
      refine norm_ (a' := ?_) ?_ ?_
      rotate_left
      · show Act.put _ (some 19) _ = _
        simp only [Act.put, List.setIfInBounds_toArray, List.set_cons_zero, List.set_cons_succ, i64_w, i32_w]
        rfl
      refine two_ (i := 8) (j := 9) (Ni := some 20) (Nj := some 5) #[true, true, true, true, true, true, true, true, true, false, false] #[true, true, true, true, true, true, true, true, false, true, false] rfl rfl rfl rfl (by kernel_rfl) (by decide) (by decide) (fun K hK => ?_) (fun K hK => ?_)
      · skip
        have ng : ((w1.drew.alloc (.cells #[.string h.f0, .string h.f1, .int .i64 h.f2.f0, .int .i64 h.f2.f1, .int .i64 h.f3] 41))).heap[w1.heap.size]? = some (.cells #[.string h.f0, .string h.f1, .int .i64 h.f2.f0, .int .i64 h.f2.f1, .int .i64 h.f3] 41 (0, 0)) := (Go.MapKept.heap_alloc w1.drew (.cells #[.string h.f0, .string h.f1, .int .i64 h.f2.f0, .int .i64 h.f2.f1, .int .i64 h.f3] 41)).1
        refine step_append_any (by rfl) (.tmp 17) (.tmp 19) 56 (by rfl) B 41 i0 _ 5 56 Tryd.underlying56 hi0 hi1 hi2 hi3 rfl (by omega) _ l.length (flatH l) (by rfl) ow7_ _ 1 _ (cellsH h) (by rfl) rfl (fun j u hu => ⟨_, rfl, World.news_of_block ng j u hu⟩) (cellsH_one h) (by unfold maxLen; omega) (by omega) (Nat.le_trans hBw gr7_.size) ?_
        intro v8 w8 own8 gr8 fr8
        have gr7_8_ := grown_then gr7_ gr8 (.inl rfl)
        refine hK.out _ _ ⟨(HS.out _ gr7_8_).1, (HS.out _ gr7_8_).2.1, (HS.out _ gr7_8_).2.2.1, (HS.out _ gr7_8_).2.2.2.1, (HS.out _ gr7_8_).2.2.2.2.1, (HS.out _ gr7_8_).2.2.2.2.2.1, (HS.out _ gr7_8_).2.2.2.2.2.2.1, (HS.out _ gr7_8_).2.2.2.2.2.2.2.1, (HS.out _ gr7_8_).2.2.2.2.2.2.2.2⟩ (fun hHeld => ?_)
        clear hK K
        refine norm_ (a' := ?_) ?_ ?_
        rotate_left
        · show Act.put _ (some 20) _ = _
          simp only [Act.put, List.setIfInBounds_toArray, List.set_cons_zero, List.set_cons_succ, i64_w, i32_w]
          rfl
        refine one_ (i := 9) (N := some 5) #[true, true, true, true, true, true, true, true, true, true, false] rfl rfl (by kernel_rfl) (by decide) (fun K hK => ?_)
        refine value_ (w1 := ?_) (v := ?_) (by rfl) rfl ?_ ?_
        rotate_left 2
        · go_simp
          constructor
          · rfl
          · rfl
        have gr7_8_9_ := grown_below gr7_8_ ((Below.refl _ w8).alloc (Nat.le_refl _) (.cells #[.slice none 0 0] 56))
        have ow7_8_9_ := (own8).alloc (.cells #[.slice none 0 0] 56)
        refine hK.out _ _ ⟨(HS.out _ gr7_8_9_).1, (HS.out _ gr7_8_9_).2.1, (HS.out _ gr7_8_9_).2.2.1, (HS.out _ gr7_8_9_).2.2.2.1, (HS.out _ gr7_8_9_).2.2.2.2.1, (HS.out _ gr7_8_9_).2.2.2.2.2.1, (HS.out _ gr7_8_9_).2.2.2.2.2.2.1, (HS.out _ gr7_8_9_).2.2.2.2.2.2.2.1, (HS.out _ gr7_8_9_).2.2.2.2.2.2.2.2⟩ (fun hHeld => ?_)
        clear hK K
        refine norm_ (a' := ?_) ?_ ?_
        rotate_left
        · show Act.put _ (some 5) _ = _
          simp only [Act.put, List.setIfInBounds_toArray, List.set_cons_zero, List.set_cons_succ, i64_w, i32_w]
          rfl
        exact norm_ (by simp only [putAll, Act.put, List.setIfInBounds_toArray, List.set_cons_zero, List.set_cons_succ]) (hCont (w1.heap.size, v8, w8.heap.size) _ ⟨gr7_8_9_, ow7_8_9_, (Go.MapKept.heap_alloc w8 (.cells #[.slice none 0 0] 56)).1, gr7_8_.size, (fr8.imp id fun e => ⟨_, e, gr7_.size⟩)⟩)
      · skip
        refine value_ (w1 := ?_) (v := ?_) (by rfl) rfl ?_ ?_
        rotate_left 2
        · go_simp
          constructor
          · rfl
          · rfl
        have gr7_9_ := grown_below gr7_ ((Below.refl _ (w1.drew.alloc (.cells #[.string h.f0, .string h.f1, .int .i64 h.f2.f0, .int .i64 h.f2.f1, .int .i64 h.f3] 41))).alloc (Nat.le_refl _) (.cells #[.slice none 0 0] 56))
        have ow7_9_ := (ow7_).alloc (.cells #[.slice none 0 0] 56)
        refine hK.out _ _ ⟨(HS.out _ gr7_9_).1, (HS.out _ gr7_9_).2.1, (HS.out _ gr7_9_).2.2.1, (HS.out _ gr7_9_).2.2.2.1, (HS.out _ gr7_9_).2.2.2.2.1, (HS.out _ gr7_9_).2.2.2.2.2.1, (HS.out _ gr7_9_).2.2.2.2.2.2.1, (HS.out _ gr7_9_).2.2.2.2.2.2.2.1, (HS.out _ gr7_9_).2.2.2.2.2.2.2.2⟩ (fun hHeld => ?_)
        clear hK K
        refine norm_ (a' := ?_) ?_ ?_
        rotate_left
        · show Act.put _ (some 5) _ = _
          simp only [Act.put, List.setIfInBounds_toArray, List.set_cons_zero, List.set_cons_succ, i64_w, i32_w]
          rfl
        refine one_ (i := 8) (N := some 20) #[true, true, true, true, true, true, true, true, true, true, false] rfl rfl (by kernel_rfl) (by decide) (fun K hK => ?_)
        have ng : (((w1.drew.alloc (.cells #[.string h.f0, .string h.f1, .int .i64 h.f2.f0, .int .i64 h.f2.f1, .int .i64 h.f3] 41)).alloc (.cells #[.slice none 0 0] 56))).heap[w1.heap.size]? = some (.cells #[.string h.f0, .string h.f1, .int .i64 h.f2.f0, .int .i64 h.f2.f1, .int .i64 h.f3] 41 (0, 0)) := (two_new w1 (.cells #[.string h.f0, .string h.f1, .int .i64 h.f2.f0, .int .i64 h.f2.f1, .int .i64 h.f3] 41) (.cells #[.slice none 0 0] 56)).1
        refine step_append_any (by rfl) (.tmp 17) (.tmp 19) 56 (by rfl) B 41 i0 _ 5 56 Tryd.underlying56 hi0 hi1 hi2 hi3 rfl (by omega) _ l.length (flatH l) (by rfl) ow7_9_ _ 1 _ (cellsH h) (by rfl) rfl (fun j u hu => ⟨_, rfl, World.news_of_block ng j u hu⟩) (cellsH_one h) (by unfold maxLen; omega) (by omega) (Nat.le_trans hBw gr7_9_.size) ?_
        intro v8 w8 own8 gr8 fr8
        have gr7_9_8_ := grown_then gr7_9_ gr8 (.inl rfl)
        refine hK.out _ _ ⟨(HS.out _ gr7_9_8_).1, (HS.out _ gr7_9_8_).2.1, (HS.out _ gr7_9_8_).2.2.1, (HS.out _ gr7_9_8_).2.2.2.1, (HS.out _ gr7_9_8_).2.2.2.2.1, (HS.out _ gr7_9_8_).2.2.2.2.2.1, (HS.out _ gr7_9_8_).2.2.2.2.2.2.1, (HS.out _ gr7_9_8_).2.2.2.2.2.2.2.1, (HS.out _ gr7_9_8_).2.2.2.2.2.2.2.2⟩ (fun hHeld => ?_)
        clear hK K
        refine norm_ (a' := ?_) ?_ ?_
        rotate_left
        · show Act.put _ (some 20) _ = _
          simp only [Act.put, List.setIfInBounds_toArray, List.set_cons_zero, List.set_cons_succ, i64_w, i32_w]
          rfl
        exact norm_ (by simp only [putAll, Act.put, List.setIfInBounds_toArray, List.set_cons_zero, List.set_cons_succ]) (hCont (w1.heap.size, v8, w1.heap.size + 1) _ ⟨gr7_9_8_, own8, (gr8.block (w1.heap.size + 1) (by rw [show ∀ W : World, W.drew.heap.size = W.heap.size from fun _ => rfl, World.size_alloc, World.size_alloc]; omega) (fun e => by have := ROWLT.out _ e.symm; omega)).trans (two_new w1 (.cells #[.string h.f0, .string h.f1, .int .i64 h.f2.f0, .int .i64 h.f2.f1, .int .i64 h.f3] 41) (.cells #[.slice none 0 0] 56)).2.1, Nat.le_succ _, (fr8.imp id fun e => ⟨_, e, gr7_9_.size⟩)⟩)
    · skip
      refine value_ (w1 := ?_) (v := ?_) (by rfl) rfl ?_ ?_
      rotate_left 2
      · go_simp
        constructor
        · rfl
        · rfl
      have gr9_ := grown_below gr_ ((Below.refl _ w1.drew).alloc (Nat.le_refl _) (.cells #[.slice none 0 0] 56))
      have ow9_ := (ow_).alloc (.cells #[.slice none 0 0] 56)
      refine hK.out _ _ ⟨(HS.out _ gr9_).1, (HS.out _ gr9_).2.1, (HS.out _ gr9_).2.2.1, (HS.out _ gr9_).2.2.2.1, (HS.out _ gr9_).2.2.2.2.1, (HS.out _ gr9_).2.2.2.2.2.1, (HS.out _ gr9_).2.2.2.2.2.2.1, (HS.out _ gr9_).2.2.2.2.2.2.2.1, (HS.out _ gr9_).2.2.2.2.2.2.2.2⟩ (fun hHeld => ?_)
      clear hK K
      refine norm_ (a' := ?_) ?_ ?_
      rotate_left
      · show Act.put _ (some 5) _ = _
        simp only [Act.put, List.setIfInBounds_toArray, List.set_cons_zero, List.set_cons_succ, i64_w, i32_w]
        rfl
      refine one_ (i := 7) (N := some 19) #[true, true, true, true, true, true, true, true, false, true, false] rfl rfl (by kernel_rfl) (by decide) (fun K hK => ?_)
      refine value_ (w1 := ?_) (v := ?_) (by rfl) rfl ?_ ?_
      rotate_left 2
      · go_simp
        constructor
        · rfl
        · rfl
      have gr9_7_ := grown_below gr9_ ((Below.refl _ (w1.drew.alloc (.cells #[.slice none 0 0] 56))).alloc (Nat.le_refl _) (.cells #[.string h.f0, .string h.f1, .int .i64 h.f2.f0, .int .i64 h.f2.f1, .int .i64 h.f3] 41))
      have ow9_7_ := (ow9_).alloc (.cells #[.string h.f0, .string h.f1, .int .i64 h.f2.f0, .int .i64 h.f2.f1, .int .i64 h.f3] 41)
      refine hK.out _ _ ⟨(HS.out _ gr9_7_).1, (HS.out _ gr9_7_).2.1, (HS.out _ gr9_7_).2.2.1, (HS.out _ gr9_7_).2.2.2.1, (HS.out _ gr9_7_).2.2.2.2.1, (HS.out _ gr9_7_).2.2.2.2.2.1, (HS.out _ gr9_7_).2.2.2.2.2.2.1, (HS.out _ gr9_7_).2.2.2.2.2.2.2.1, (HS.out _ gr9_7_).2.2.2.2.2.2.2.2⟩ (fun hHeld => ?_)
      clear hK K
      refine norm_ (a' := ?_) ?_ ?_
      rotate_left
      · show Act.put _ (some 19) _ = _
        simp only [Act.put, List.setIfInBounds_toArray, List.set_cons_zero, List.set_cons_succ, i64_w, i32_w]
        rfl
      refine one_ (i := 8) (N := some 20) #[true, true, true, true, true, true, true, true, true, true, false] rfl rfl (by kernel_rfl) (by decide) (fun K hK => ?_)
      have ng : (((w1.drew.alloc (.cells #[.slice none 0 0] 56)).alloc (.cells #[.string h.f0, .string h.f1, .int .i64 h.f2.f0, .int .i64 h.f2.f1, .int .i64 h.f3] 41))).heap[w1.heap.size + 1]? = some (.cells #[.string h.f0, .string h.f1, .int .i64 h.f2.f0, .int .i64 h.f2.f1, .int .i64 h.f3] 41 (0, 0)) := (two_new w1 (.cells #[.slice none 0 0] 56) (.cells #[.string h.f0, .string h.f1, .int .i64 h.f2.f0, .int .i64 h.f2.f1, .int .i64 h.f3] 41)).2.1
      refine step_append_any (by rfl) (.tmp 17) (.tmp 19) 56 (by rfl) B 41 i0 _ 5 56 Tryd.underlying56 hi0 hi1 hi2 hi3 rfl (by omega) _ l.length (flatH l) (by rfl) ow9_7_ _ 1 _ (cellsH h) (by rfl) rfl (fun j u hu => ⟨_, rfl, World.news_of_block ng j u hu⟩) (cellsH_one h) (by unfold maxLen; omega) (by omega) (Nat.le_trans hBw gr9_7_.size) ?_
      intro v8 w8 own8 gr8 fr8
      have gr9_7_8_ := grown_then gr9_7_ gr8 (.inl rfl)
      refine hK.out _ _ ⟨(HS.out _ gr9_7_8_).1, (HS.out _ gr9_7_8_).2.1, (HS.out _ gr9_7_8_).2.2.1, (HS.out _ gr9_7_8_).2.2.2.1, (HS.out _ gr9_7_8_).2.2.2.2.1, (HS.out _ gr9_7_8_).2.2.2.2.2.1, (HS.out _ gr9_7_8_).2.2.2.2.2.2.1, (HS.out _ gr9_7_8_).2.2.2.2.2.2.2.1, (HS.out _ gr9_7_8_).2.2.2.2.2.2.2.2⟩ (fun hHeld => ?_)
      clear hK K
      refine norm_ (a' := ?_) ?_ ?_
      rotate_left
      · show Act.put _ (some 20) _ = _
        simp only [Act.put, List.setIfInBounds_toArray, List.set_cons_zero, List.set_cons_succ, i64_w, i32_w]
        rfl
      exact norm_ (by simp only [putAll, Act.put, List.setIfInBounds_toArray, List.set_cons_zero, List.set_cons_succ]) (hCont (w1.heap.size + 1, v8, w1.heap.size) _ ⟨gr9_7_8_, own8, (gr8.block w1.heap.size (by rw [show ∀ W : World, W.drew.heap.size = W.heap.size from fun _ => rfl, World.size_alloc, World.size_alloc]; omega) (fun e => by have := ROWLT.out _ e.symm; omega)).trans (two_new w1 (.cells #[.slice none 0 0] 56) (.cells #[.string h.f0, .string h.f1, .int .i64 h.f2.f0, .int .i64 h.f2.f1, .int .i64 h.f3] 41)).1, Nat.le_refl _, (fr8.imp id fun e => ⟨_, e, gr9_7_.size⟩)⟩)
  rintro ⟨z19, v20, z5⟩ wj ⟨grj, owj, hz5, hz5l, hat⟩
  obtain ⟨A20, c20, hv20, _⟩ := own_form owj
  subst hv20
  have hHeld := HS.out _ grj
  have e5 := blk_cell hz5 0
  have f5 := blk_frozen hz5 0
  refine norm_ (a' := ?_) ?_ ?_
  rotate_left
  · simp only [putAll, Act.put, List.setIfInBounds_toArray, List.set_cons_zero, List.set_cons_succ]
    rfl
  refine one_ (i := 10) (N := none) #[true, true, true, true, true, true, true, true, true, true, true] rfl rfl (by kernel_rfl) (by decide) (fun K hK => ?_)
  refine skip_ (w1 := ?_) (by rfl) rfl ?_ ?_
  rotate_left
  · go_simp
    rfl
  have gr10 := grown_set grj (p := ⟨z5, 0, none⟩) hz5l (.slice A20 (l.length + 1) c20)
  refine hK.out _ _ ⟨(HS.out _ gr10).1, (HS.out _ gr10).2.1, (HS.out _ gr10).2.2.1, (HS.out _ gr10).2.2.2.1, (HS.out _ gr10).2.2.2.2.1, (HS.out _ gr10).2.2.2.2.2.1, (HS.out _ gr10).2.2.2.2.2.2.1, (HS.out _ gr10).2.2.2.2.2.2.2.1, (HS.out _ gr10).2.2.2.2.2.2.2.2⟩ (fun hHeld => ?_)
  clear hK K
  refine done_ (by kernel_rfl) ?_
  have hat2 := hat
  have own3 : (wj.setCell ⟨z5, 0, none⟩ (.slice A20 (l.length + 1) c20)).ownsRow B 41 5 (.slice A20 (l.length + 1) c20) (l.length + 1) (flatH l ++ cellsH h) := own_move owj (fun b hb => Below.heap_setCell _ _ _ _ (fun e => own_ne_of owj hz5 (by decide) (by rw [hb, e])))
  have hz53 : (wj.setCell ⟨z5, 0, none⟩ (.slice A20 (l.length + 1) c20)).heap[z5]? = some (.cells #[.slice A20 (l.length + 1) c20] 56 (0, 0)) := blk_set hz5 0 _
  have hne5 : some z5 ≠ (Value.slice A20 (l.length + 1) c20).ownBlock := fun e => own_ne_of owj hz5 (by decide) e.symm
  obtain ⟨w3, hw3⟩ : ∃ W, wj.setCell ⟨z5, 0, none⟩ (.slice A20 (l.length + 1) c20) = W := ⟨_, rfl⟩
  rw [hw3] at own3 hz53 gr10 ⊢
  clear hw3 e5 f5 hz5 owj grj hHeld
  have el : (l ++ [h]).length = l.length + 1 := by simp
  have ef : flatH (l ++ [h]) = flatH l ++ cellsH h := by simp [flatH]
  have hnd : ((l ++ [h]).map (·.f3)).Nodup := by
    rw [List.map_append, List.nodup_append]
    have hso := HOK.out.sho h.pr
    rw [HLE.out] at hso
    refine ⟨?_, by simp, ?_⟩
    · rw [List.nodup_iff_pairwise_ne, List.pairwise_map]
      exact hso.imp (fun hab e => by omega)
    · intro a ha b hb
      obtain ⟨x, hx, rfl⟩ := List.mem_map.1 ha
      simp at hb
      rw [hb]; exact HFR.out x hx
  have hz53l : z5 < w3.heap.size := (Array.getElem?_eq_some_iff.1 hz53).1
  have hsort := sorted_rows (w := w3) (base := B) (Bs := z5) (done := l ++ [h]) (v := .slice A20 (l.length + 1) c20) (by rw [el, ef]; exact own3) (blk_cell hz53 0) hz53l hne5 (Nat.le_trans hBw gr10.size) hnd (by rw [el]; omega)
  have c53 := blk_cell hz53 0
  have HSORT := Lib.hid hsort; have HZ53 := Lib.hid hz53; have HNE5 := Lib.hid hne5
  clear hsort el ef hnd hz53 hne5 own3 hat
  go_upto_region 4 with (go_at_call 30; refine HSORT.out.mono ?_; rintro e w4 ⟨rfl, ks, hperm, hpw, hown4, hb4, hoth4⟩; have HP4 := Lib.hid (And.intro hperm hpw); have HO4 := Lib.hid hown4; have HB4 := Lib.hid hb4; have HT4 := Lib.hid hoth4; clear hperm hpw hown4 hb4 hoth4)
  have hks : ks = insH l h := by
    have hso := HOK.out.sho h.pr
    rw [HLE.out] at hso
    refine sorted_ext_h (HP4.out.2.imp (fun hab => by simpa [hLt] using hab)) (insH_sorted hso HFR.out) (fun x => ?_)
    rw [HP4.out.1.mem_iff, (insH_perm l h).mem_iff]
  subst hks
  have gr4 : w3.grownBy w4 (Value.slice A20 (l.length + 1) c20).ownBlock := ⟨HB4.out.os, HB4.out.tape, HB4.out.output, HB4.out.size, fun b hb hne => HT4.out b hb hne⟩
  have gr14 := grown_then gr10 gr4 hat2
  have gr14d := grown_below gr14 ((Below.refl _ w4).drew)
  obtain ⟨ob, hob, hG5⟩ := HG1.out.setShares hdif (k := h.pr) (show h.f0.size ≤ 1000 by omega) (show h.f1.size ≤ 1000 by omega) (v' := .slice A20 (l.length + 1) c20) (l' := insH l h) (W := w4.drew) (by unfold insH; simp) (by rw [HV.out]; exact gr14d) (pw_own_below HO4.out ((Below.refl _ w4).drew)) (by rw [HV.out]; exact hat2)
  have hsc := HS.out _ gr14d
  have j0 := hsc.1; have j1 := hsc.2.1; have j2 := hsc.2.2.1
  have j3 : w4.drew.cell? ⟨z5, 0, none⟩ = some (.slice A20 (l.length + 1) c20) := by
    have h1 : w4.heap[z5]? = w3.heap[z5]? := HT4.out z5 hz53l HNE5.out
    exact blk_cell (w := w4.drew) (h1.trans HZ53.out) 0
  clear hsc c53
  have hobk : (Instr.mapUpdate 51 (.map (some m1)) (.agg #[.string h.f0, .string h.f1]) (.slice A20 (l.length + 1) c20)).run Tryd.prog w4.drew = .ok () (ChangeMaps.setBlock w4.drew m1 ob) := hob
  have HG5 := Lib.hid hG5
  clear hob hG5
  refine start_ (n := 7) (S := fun w' => w'.cell? ⟨g, 0, none⟩ = some (.map (some m1)) ∧ w'.cell? ⟨z4, 0, none⟩ = some (.string h.f0) ∧ w'.cell? ⟨z4, 1, none⟩ = some (.string h.f1) ∧ w'.cell? ⟨z5, 0, none⟩ = some (.slice A20 (l.length + 1) c20)) (ds := [6]) #[false, false, false, false, false, false, false] (by kernel_rfl) rfl rfl ⟨j0, j1, j2, j3⟩ (fun hHeld => ?_)
  refine pure_ (i := 0) (N := some 25) (v := ?_) (a' := ?_) #[true, false, false, false, false, false, false] rfl rfl (by kernel_rfl) (fun _ _ _ h => h) (Or.inl ⟨by rfl, ?_⟩) ?_ ?_
  rotate_left
  · intro w'
    go_simp
    with_reducible rfl
  rotate_left
  · simp only [Act.put, List.setIfInBounds_toArray, List.set_cons_zero, List.set_cons_succ, i64_w, i32_w]
    rfl
  refine pure_ (i := 1) (N := some 26) (v := ?_) (a' := ?_) #[true, true, false, false, false, false, false] rfl rfl (by kernel_rfl) (fun _ _ _ h => h) (Or.inl ⟨by rfl, ?_⟩) ?_ ?_
  rotate_left
  · intro w'
    go_simp
    with_reducible rfl
  rotate_left
  · simp only [Act.put, List.setIfInBounds_toArray, List.set_cons_zero, List.set_cons_succ, i64_w, i32_w]
    rfl
  refine pure_ (i := 2) (N := some 27) (v := ?_) (a' := ?_) #[true, true, true, false, false, false, false] rfl rfl (by kernel_rfl) (fun _ _ _ h => h) (Or.inl ⟨by rfl, ?_⟩) ?_ ?_
  rotate_left
  · intro w'
    go_simp
    with_reducible rfl
  rotate_left
  · simp only [Act.put, List.setIfInBounds_toArray, List.set_cons_zero, List.set_cons_succ, i64_w, i32_w]
    rfl
  refine take_ (i := 3) (N := some 28) (v := ?_) (a' := ?_) #[true, true, true, true, false, false, false] rfl rfl (by kernel_rfl) (fun _ _ _ h => h) (Or.inl ⟨by rfl, ?_⟩) hHeld ?_ ?_
  rotate_left
  · rintro w' ⟨s0, s1, s2, s3⟩
    go_simp
    with_reducible rfl
  rotate_left
  · simp only [Act.put, List.setIfInBounds_toArray, List.set_cons_zero, List.set_cons_succ, i64_w, i32_w]
    rfl
  refine take_ (i := 4) (N := some 29) (v := ?_) (a' := ?_) #[true, true, true, true, true, false, false] rfl rfl (by kernel_rfl) (fun _ _ _ h => h) (Or.inl ⟨by rfl, ?_⟩) hHeld ?_ ?_
  rotate_left
  · rintro w' ⟨s0, s1, s2, s3⟩
    go_simp
    with_reducible rfl
  rotate_left
  · simp only [Act.put, List.setIfInBounds_toArray, List.set_cons_zero, List.set_cons_succ, i64_w, i32_w]
    rfl
  refine take_ (i := 5) (N := some 30) (v := ?_) (a' := ?_) #[true, true, true, true, true, true, false] rfl rfl (by kernel_rfl) (fun _ _ _ h => h) (Or.inl ⟨by rfl, ?_⟩) hHeld ?_ ?_
  rotate_left
  · rintro w' ⟨s0, s1, s2, s3⟩
    go_simp
    with_reducible rfl
  rotate_left
  · simp only [Act.put, List.setIfInBounds_toArray, List.set_cons_zero, List.set_cons_succ, i64_w, i32_w]
    rfl
  refine last_ (i := 6) (N := none) #[true, true, true, true, true, true, true] rfl rfl (by kernel_rfl) (by decide) (fun K hK => ?_)
  refine skip_ (w1 := ?_) (by rfl) rfl ?_ ?_
  rotate_left
  · go_simp
    rfl
  refine hK.out _ _ ?_
  clear hK K
  refine done_ (by kernel_rfl) ?_
  have hz3l : z3 < w1.heap.size := by have := HZZ.out; omega
  have hx5 : HBox (ChangeMaps.setBlock w4.drew m1 ob) z3 h := by
    unfold HBox
    rw [setBlock_heap _ _ _ _ (fun e => by have h1 := HX1.out; unfold HBox at h1; rw [e, HM1.out] at h1; cases h1)]
    exact (gr14.block z3 hz3l (fun e => by have := ROWLT.out _ e.symm; have := HZZ.out; omega)).trans HX1.out
  have hB5' : Below B w (ChangeMaps.setBlock w4.drew m1 ob) := setBlock_below (pw_below_grown (HB1.out.mono (by have := HB1.out.size; omega : B ≤ w.heap.size)) _ hBw gr14d (fun k hk => own_base HOWN.out k hk)) HG1.out.h1
  obtain ⟨w5, hw5⟩ : ∃ W, ChangeMaps.setBlock w4.drew m1 ob = W := ⟨_, rfl⟩
  rw [hw5] at hx5 hB5' HG5 ⊢
  have HX5 := Lib.hid hx5; have HBB5 := Lib.hid hB5'
  obtain ⟨s5, hs5⟩ : ∃ s5 : Gr, ({ s with sh := fun y => if y = h.pr then some (insH l h) else s.sh y } : Gr) = s5 := ⟨_, rfl⟩
  have HE5 := Lib.hid hs5
  rw [hs5] at HG5
  have how5 : ∀ x, s5.owL x = s.owL x := fun x => by rw [← hs5]; rfl
  have hen5 : s5.en = s.en := by rw [← hs5]
  have hch5 : s5.ch = s.ch := by rw [← hs5]
  have how52 : s5.ow = s.ow := by rw [← hs5]
  have HQ5 := Lib.hid (And.intro how5 (And.intro hen5 hch5))
  have HQ52 := Lib.hid how52
  clear hw5 hx5 hB5' hs5 how5 hen5 hch5 how52 j0 j1 j2 j3 hobk gr14 gr14d gr4 gr10 gr_ ow_ hat2 hz53l hz3l
  obtain ⟨A6, c6, hown6, hlk6⟩ := HG5.out.look_ow h.f1 (by omega)
  rw [HQ5.out.1] at hown6 hlk6
  have ho6 := HOK.out.owo h.f1
  have hl6 := HL2.out h.f1
  obtain ⟨l6, hl6e⟩ : ∃ l6, s.owL h.f1 = l6 := ⟨_, rfl⟩
  rw [hl6e] at hown6 hlk6 ho6 hl6
  have HL6 := Lib.hid hl6e
  have hB5 : B ≤ w5.heap.size := Nat.le_trans HG5.out.hg (Nat.le_of_lt HG5.out.lt)
  have HS5 := Lib.hid (show ∀ w' : World, Below w5.heap.size w5 w' → w'.cell? ⟨g, 1, none⟩ = some (.map (some m2)) ∧ w'.cell? ⟨z3, 0, none⟩ = some (.string h.f0) ∧ w'.cell? ⟨z3, 1, none⟩ = some (.string h.f1) ∧ (Instr.lookup 52 (.map (some m2)) (.string h.f1) false).run Tryd.prog w' = .ok (.slice A6 l6.length c6) w' from fun w' hb => ⟨(HG5.out.below hb).facts.2.1, (HX5.out.below hb).facts.1, (HX5.out.below hb).facts.2.1, hlk6 w' hb⟩)
  have HO6 := Lib.hid hown6
  clear hown6 hlk6 hl6e
  have hBd : Below w5.heap.size w5 w5.drew := (Below.refl _ w5).drew
  go_upto_region 5 with fail
  refine start_ (n := 17) (S := fun w' => w'.cell? ⟨g, 1, none⟩ = some (.map (some m2)) ∧ w'.cell? ⟨z3, 0, none⟩ = some (.string h.f0) ∧ w'.cell? ⟨z3, 1, none⟩ = some (.string h.f1) ∧ (Instr.lookup 52 (.map (some m2)) (.string h.f1) false).run Tryd.prog w' = .ok (.slice A6 l6.length c6) w') (ds := [16]) #[false, false, false, false, false, false, false, false, false, false, false, false, false, false, false, false, false] (by kernel_rfl) rfl rfl ⟨(HS5.out _ hBd).1, (HS5.out _ hBd).2.1, (HS5.out _ hBd).2.2.1, (HS5.out _ hBd).2.2.2⟩ (fun hHeld => ?_)
  refine pure_ (i := 0) (N := some 31) (v := ?_) (a' := ?_) #[true, false, false, false, false, false, false, false, false, false, false, false, false, false, false, false, false] rfl rfl (by kernel_rfl) (fun _ _ _ h => h) (Or.inl ⟨by rfl, ?_⟩) ?_ ?_
  rotate_left
  · intro w'
    go_simp
    with_reducible rfl
  rotate_left
  · simp only [Act.put, List.setIfInBounds_toArray, List.set_cons_zero, List.set_cons_succ, i64_w, i32_w]
    rfl
  refine pure_ (i := 1) (N := some 32) (v := ?_) (a' := ?_) #[true, true, false, false, false, false, false, false, false, false, false, false, false, false, false, false, false] rfl rfl (by kernel_rfl) (fun _ _ _ h => h) (Or.inl ⟨by rfl, ?_⟩) ?_ ?_
  rotate_left
  · intro w'
    go_simp
    with_reducible rfl
  rotate_left
  · simp only [Act.put, List.setIfInBounds_toArray, List.set_cons_zero, List.set_cons_succ, i64_w, i32_w]
    rfl
  refine pure_ (i := 2) (N := some 33) (v := ?_) (a' := ?_) #[true, true, true, false, false, false, false, false, false, false, false, false, false, false, false, false, false] rfl rfl (by kernel_rfl) (fun _ _ _ h => h) (Or.inl ⟨by rfl, ?_⟩) ?_ ?_
  rotate_left
  · intro w'
    go_simp
    with_reducible rfl
  rotate_left
  · simp only [Act.put, List.setIfInBounds_toArray, List.set_cons_zero, List.set_cons_succ, i64_w, i32_w]
    rfl
  refine pure_ (i := 4) (N := some 35) (v := ?_) (a' := ?_) #[true, true, true, false, true, false, false, false, false, false, false, false, false, false, false, false, false] rfl rfl (by kernel_rfl) (fun _ _ _ h => h) (Or.inl ⟨by rfl, ?_⟩) ?_ ?_
  rotate_left
  · intro w'
    go_simp
    with_reducible rfl
  rotate_left
  · simp only [Act.put, List.setIfInBounds_toArray, List.set_cons_zero, List.set_cons_succ, i64_w, i32_w]
    rfl
  refine pure_ (i := 6) (N := some 37) (v := ?_) (a' := ?_) #[true, true, true, false, true, false, true, false, false, false, false, false, false, false, false, false, false] rfl rfl (by kernel_rfl) (fun _ _ _ h => h) (Or.inl ⟨by rfl, ?_⟩) ?_ ?_
  rotate_left
  · intro w'
    go_simp
    with_reducible rfl
  rotate_left
  · simp only [Act.put, List.setIfInBounds_toArray, List.set_cons_zero, List.set_cons_succ, i64_w, i32_w]
    rfl
  refine pure_ (i := 7) (N := some 38) (v := ?_) (a' := ?_) #[true, true, true, false, true, false, true, true, false, false, false, false, false, false, false, false, false] rfl rfl (by kernel_rfl) (fun _ _ _ h => h) (Or.inl ⟨by rfl, ?_⟩) ?_ ?_
  rotate_left
  · intro w'
    go_simp
    with_reducible rfl
  rotate_left
  · simp only [Act.put, List.setIfInBounds_toArray, List.set_cons_zero, List.set_cons_succ, i64_w, i32_w]
    rfl
  refine pure_ (i := 8) (N := some 39) (v := ?_) (a' := ?_) #[true, true, true, false, true, false, true, true, true, false, false, false, false, false, false, false, false] rfl rfl (by kernel_rfl) (fun _ _ _ h => h) (Or.inl ⟨by rfl, ?_⟩) ?_ ?_
  rotate_left
  · intro w'
    go_simp
    with_reducible rfl
  rotate_left
  · simp only [Act.put, List.setIfInBounds_toArray, List.set_cons_zero, List.set_cons_succ, i64_w, i32_w]
    rfl
  refine pure_ (i := 10) (N := some 41) (v := ?_) (a' := ?_) #[true, true, true, false, true, false, true, true, true, false, true, false, false, false, false, false, false] rfl rfl (by kernel_rfl) (fun _ _ _ h => h) (Or.inl ⟨by rfl, ?_⟩) ?_ ?_
  rotate_left
  · intro w'
    go_simp
    with_reducible rfl
  rotate_left
  · simp only [Act.put, List.setIfInBounds_toArray, List.set_cons_zero, List.set_cons_succ, i64_w, i32_w]
    rfl
  refine pure_ (i := 13) (N := some 44) (v := ?_) (a' := ?_) #[true, true, true, false, true, false, true, true, true, false, true, false, false, true, false, false, false] rfl rfl (by kernel_rfl) (fun _ _ _ h => h) (Or.inl ⟨by rfl, ?_⟩) ?_ ?_
  rotate_left
  · intro w'
    go_simp
    with_reducible rfl
  rotate_left
  · simp only [Act.put, List.setIfInBounds_toArray, List.set_cons_zero, List.set_cons_succ, i64_w, i32_w]
    rfl
  refine take_ (i := 3) (N := some 34) (v := ?_) (a' := ?_) #[true, true, true, true, true, false, true, true, true, false, true, false, false, true, false, false, false] rfl rfl (by kernel_rfl) (fun _ _ _ h => h) (Or.inl ⟨by rfl, ?_⟩) hHeld ?_ ?_
  rotate_left
  · rintro w' ⟨s0, s1, s2, s3⟩
    go_simp
    with_reducible rfl
  rotate_left
  · simp only [Act.put, List.setIfInBounds_toArray, List.set_cons_zero, List.set_cons_succ, i64_w, i32_w]
    rfl
  refine take_ (i := 5) (N := some 36) (v := ?_) (a' := ?_) #[true, true, true, true, true, true, true, true, true, false, true, false, false, true, false, false, false] rfl rfl (by kernel_rfl) (fun _ _ _ h => h) (Or.inl ⟨by rfl, ?_⟩) hHeld ?_ ?_
  rotate_left
  · rintro w' ⟨s0, s1, s2, s3⟩
    go_simp
    with_reducible rfl
  rotate_left
  · simp only [Act.put, List.setIfInBounds_toArray, List.set_cons_zero, List.set_cons_succ, i64_w, i32_w]
    rfl
  refine take_ (i := 9) (N := some 40) (v := ?_) (a' := ?_) #[true, true, true, true, true, true, true, true, true, true, true, false, false, true, false, false, false] rfl rfl (by kernel_rfl) (fun _ _ _ h => h) (Or.inl ⟨by rfl, ?_⟩) hHeld ?_ ?_
  rotate_left
  · rintro w' ⟨s0, s1, s2, s3⟩
    go_simp
    with_reducible rfl
  rotate_left
  · simp only [Act.put, List.setIfInBounds_toArray, List.set_cons_zero, List.set_cons_succ, i64_w, i32_w]
    rfl
  refine take_ (i := 11) (N := some 42) (v := ?_) (a' := ?_) #[true, true, true, true, true, true, true, true, true, true, true, true, false, true, false, false, false] rfl rfl (by kernel_rfl) (fun _ _ _ h => h) (Or.inl ⟨by rfl, ?_⟩) hHeld ?_ ?_
  rotate_left
  · rintro w' ⟨s0, s1, s2, s3⟩
    go_simp
    with_reducible rfl
  rotate_left
  · simp only [Act.put, List.setIfInBounds_toArray, List.set_cons_zero, List.set_cons_succ, i64_w, i32_w]
    rfl
  refine take_ (i := 12) (N := some 43) (v := ?_) (a' := ?_) #[true, true, true, true, true, true, true, true, true, true, true, true, true, true, false, false, false] rfl rfl (by kernel_rfl) (fun _ _ _ h => h) (Or.inl ⟨by rfl, ?_⟩) hHeld ?_ ?_
  rotate_left
  · rintro w' ⟨s0, s1, s2, s3⟩
    go_simp
    with_reducible rfl
  rotate_left
  · simp only [Act.put, List.setIfInBounds_toArray, List.set_cons_zero, List.set_cons_succ, i64_w, i32_w]
    rfl
  refine take_ (i := 14) (N := some 45) (v := ?_) (a' := ?_) #[true, true, true, true, true, true, true, true, true, true, true, true, true, true, true, false, false] rfl rfl (by kernel_rfl) (fun _ _ _ h => h) (Or.inl ⟨by rfl, ?_⟩) hHeld ?_ ?_
  rotate_left
  · rintro w' ⟨s0, s1, s2, s3⟩
    go_simp
    with_reducible rfl
  rotate_left
  · simp only [Act.put, List.setIfInBounds_toArray, List.set_cons_zero, List.set_cons_succ, i64_w, i32_w]
    rfl
  refine one_ (i := 15) (N := some 46) #[true, true, true, true, true, true, true, true, true, true, true, true, true, true, true, true, false] rfl rfl (by kernel_rfl) (by decide) (fun K hK => ?_)
  refine goes_ Tryd.func16 (by kernel_rfl) rfl #[.slice A6 l6.length c6, .string h.f0] (by rfl) rfl rfl (by simp only [List.map_toArray, List.map_cons, List.map_nil]; rfl) ?_
  refine (go_with l6 h.f0 _ B _ (pw_own_below HO6.out hBd) hB5 ho6 (by omega)).mono ?_
  rintro e w15 ⟨v15, rfl, own15, hb15⟩
  refine ⟨_, rfl, ?_⟩
  have hB15 := hBd.trans (hb15.mono hBd.size)
  refine hK.out _ _ ⟨(HS5.out _ hB15).1, (HS5.out _ hB15).2.1, (HS5.out _ hB15).2.2.1, (HS5.out _ hB15).2.2.2⟩ (fun hHeld => ?_)
  clear hK K
  refine norm_ (a' := ?_) ?_ ?_
  rotate_left
  · show Act.put _ (some 46) _ = _
    simp only [Act.put, List.setIfInBounds_toArray, List.set_cons_zero, List.set_cons_succ, i64_w, i32_w]
    rfl
  refine last_ (i := 16) (N := none) #[true, true, true, true, true, true, true, true, true, true, true, true, true, true, true, true, true] rfl rfl (by kernel_rfl) (by decide) (fun K hK => ?_)
  obtain ⟨ob2, hob2, hG7⟩ := (HG5.out.below hB15).setOwners hdif (x := h.f1) (by omega) own15
  refine skip_ (w1 := ?_) (by rfl) rfl ?_ ?_
  rotate_left
  · go_simp
    rfl
  refine hK.out _ _ ?_
  clear hK K
  refine done_ (by kernel_rfl) ?_
  have hx7 : HBox (ChangeMaps.setBlock w15 m2 ob2) z3 h := by
    obtain ⟨es2, cl2, hm2⟩ := (HG5.out.below hB15).map2
    unfold HBox
    rw [setBlock_heap _ _ _ _ (fun e => by have h1 := HX5.out.below hB15; unfold HBox at h1; rw [e, hm2] at h1; cases h1)]
    exact HX5.out.below hB15
  have hB7' : Below B w (ChangeMaps.setBlock w15 m2 ob2) := setBlock_below (HBB5.out.trans (hB15.mono hB5)) HG5.out.h2
  obtain ⟨w7, hw7⟩ : ∃ W, ChangeMaps.setBlock w15 m2 ob2 = W := ⟨_, rfl⟩
  rw [hw7] at hx7 hB7' hG7 ⊢
  have HG7 := Lib.hid hG7; have HX7 := Lib.hid hx7; have HBB7 := Lib.hid hB7'
  clear hw7 hG7 hx7 hB7' hob2 own15 hB15 hB5 hBd hb15
  have hE7 := HG7.out.enr
  rw [show ({ s5 with ow := fun y => if y = h.f1 then some (withG sLt l6 h.f0) else s5.ow y } : Gr).en = s.en from HQ5.out.2.1] at hE7
  obtain ⟨A7, c7, hvE, _⟩ := own_form hE7
  subst hvE
  have HE7 := Lib.hid hE7
  have hB7 : B ≤ w7.heap.size := Nat.le_trans HG7.out.hg (Nat.le_of_lt HG7.out.lt)
  have HS6 := Lib.hid (show ∀ w' : World, Below w7.heap.size w7 w' → w'.cell? ⟨g, 2, none⟩ = some (.slice A7 s.en.length c7) ∧ w'.cell? ⟨z3, 0, none⟩ = some (.string h.f0) ∧ w'.cell? ⟨z3, 1, none⟩ = some (.string h.f1) from fun w' hb => ⟨(HG7.out.below hb).facts.2.2.1, (HX7.out.below hb).facts.1, (HX7.out.below hb).facts.2.1⟩)
  clear hE7
  have hBd : Below w7.heap.size w7 w7.drew := (Below.refl _ w7).drew
  have hwl := withG_length (lt := sLt) s.en h.f0
  go_upto_region 6 with fail
  refine start_ (n := 14) (S := fun w' => w'.cell? ⟨g, 2, none⟩ = some (.slice A7 s.en.length c7) ∧ w'.cell? ⟨z3, 0, none⟩ = some (.string h.f0) ∧ w'.cell? ⟨z3, 1, none⟩ = some (.string h.f1)) (ds := [13]) #[false, false, false, false, false, false, false, false, false, false, false, false, false, false] (by kernel_rfl) rfl rfl ⟨(HS6.out _ hBd).1, (HS6.out _ hBd).2.1, (HS6.out _ hBd).2.2⟩ (fun hHeld => ?_)
  refine pure_ (i := 0) (N := some 47) (v := ?_) (a' := ?_) #[true, false, false, false, false, false, false, false, false, false, false, false, false, false] rfl rfl (by kernel_rfl) (fun _ _ _ h => h) (Or.inl ⟨by rfl, ?_⟩) ?_ ?_
  rotate_left
  · intro w'
    go_simp
    with_reducible rfl
  rotate_left
  · simp only [Act.put, List.setIfInBounds_toArray, List.set_cons_zero, List.set_cons_succ, i64_w, i32_w]
    rfl
  refine pure_ (i := 1) (N := some 48) (v := ?_) (a' := ?_) #[true, true, false, false, false, false, false, false, false, false, false, false, false, false] rfl rfl (by kernel_rfl) (fun _ _ _ h => h) (Or.inl ⟨by rfl, ?_⟩) ?_ ?_
  rotate_left
  · intro w'
    go_simp
    with_reducible rfl
  rotate_left
  · simp only [Act.put, List.setIfInBounds_toArray, List.set_cons_zero, List.set_cons_succ, i64_w, i32_w]
    rfl
  refine pure_ (i := 2) (N := some 49) (v := ?_) (a' := ?_) #[true, true, true, false, false, false, false, false, false, false, false, false, false, false] rfl rfl (by kernel_rfl) (fun _ _ _ h => h) (Or.inl ⟨by rfl, ?_⟩) ?_ ?_
  rotate_left
  · intro w'
    go_simp
    with_reducible rfl
  rotate_left
  · simp only [Act.put, List.setIfInBounds_toArray, List.set_cons_zero, List.set_cons_succ, i64_w, i32_w]
    rfl
  refine pure_ (i := 3) (N := some 50) (v := ?_) (a' := ?_) #[true, true, true, true, false, false, false, false, false, false, false, false, false, false] rfl rfl (by kernel_rfl) (fun _ _ _ h => h) (Or.inl ⟨by rfl, ?_⟩) ?_ ?_
  rotate_left
  · intro w'
    go_simp
    with_reducible rfl
  rotate_left
  · simp only [Act.put, List.setIfInBounds_toArray, List.set_cons_zero, List.set_cons_succ, i64_w, i32_w]
    rfl
  refine pure_ (i := 5) (N := some 52) (v := ?_) (a' := ?_) #[true, true, true, true, false, true, false, false, false, false, false, false, false, false] rfl rfl (by kernel_rfl) (fun _ _ _ h => h) (Or.inl ⟨by rfl, ?_⟩) ?_ ?_
  rotate_left
  · intro w'
    go_simp
    with_reducible rfl
  rotate_left
  · simp only [Act.put, List.setIfInBounds_toArray, List.set_cons_zero, List.set_cons_succ, i64_w, i32_w]
    rfl
  refine pure_ (i := 8) (N := some 55) (v := ?_) (a' := ?_) #[true, true, true, true, false, true, false, false, true, false, false, false, false, false] rfl rfl (by kernel_rfl) (fun _ _ _ h => h) (Or.inl ⟨by rfl, ?_⟩) ?_ ?_
  rotate_left
  · intro w'
    go_simp
    with_reducible rfl
  rotate_left
  · simp only [Act.put, List.setIfInBounds_toArray, List.set_cons_zero, List.set_cons_succ, i64_w, i32_w]
    rfl
  refine take_ (i := 4) (N := some 51) (v := ?_) (a' := ?_) #[true, true, true, true, true, true, false, false, true, false, false, false, false, false] rfl rfl (by kernel_rfl) (fun _ _ _ h => h) (Or.inl ⟨by rfl, ?_⟩) hHeld ?_ ?_
  rotate_left
  · rintro w' ⟨s0, s1, s2⟩
    go_simp
    with_reducible rfl
  rotate_left
  · simp only [Act.put, List.setIfInBounds_toArray, List.set_cons_zero, List.set_cons_succ, i64_w, i32_w]
    rfl
  refine take_ (i := 6) (N := some 53) (v := ?_) (a' := ?_) #[true, true, true, true, true, true, true, false, true, false, false, false, false, false] rfl rfl (by kernel_rfl) (fun _ _ _ h => h) (Or.inl ⟨by rfl, ?_⟩) hHeld ?_ ?_
  rotate_left
  · rintro w' ⟨s0, s1, s2⟩
    go_simp
    with_reducible rfl
  rotate_left
  · simp only [Act.put, List.setIfInBounds_toArray, List.set_cons_zero, List.set_cons_succ, i64_w, i32_w]
    rfl
  refine take_ (i := 9) (N := some 56) (v := ?_) (a' := ?_) #[true, true, true, true, true, true, true, false, true, true, false, false, false, false] rfl rfl (by kernel_rfl) (fun _ _ _ h => h) (Or.inl ⟨by rfl, ?_⟩) hHeld ?_ ?_
  rotate_left
  · rintro w' ⟨s0, s1, s2⟩
    go_simp
    with_reducible rfl
  rotate_left
  · simp only [Act.put, List.setIfInBounds_toArray, List.set_cons_zero, List.set_cons_succ, i64_w, i32_w]
    rfl
  refine one_ (i := 7) (N := some 54) #[true, true, true, true, true, true, true, true, true, true, false, false, false, false] rfl rfl (by kernel_rfl) (by decide) (fun K hK => ?_)
  refine goes_ Tryd.func16 (by kernel_rfl) rfl #[.slice A7 s.en.length c7, .string h.f0] (by rfl) rfl rfl (by simp only [List.map_toArray, List.map_cons, List.map_nil]; rfl) ?_
  refine (go_with s.en h.f0 _ B _ (pw_own_below HE7.out hBd) hB7 HOK.out.eno (by omega)).mono ?_
  rintro e w8 ⟨v8, rfl, own8, hb8⟩
  refine ⟨_, rfl, ?_⟩
  have hB8 := hBd.trans (hb8.mono hBd.size)
  refine hK.out _ _ ⟨(HS6.out _ hB8).1, (HS6.out _ hB8).2.1, (HS6.out _ hB8).2.2⟩ (fun hHeld => ?_)
  clear hK K
  refine norm_ (a' := ?_) ?_ ?_
  rotate_left
  · show Act.put _ (some 54) _ = _
    simp only [Act.put, List.setIfInBounds_toArray, List.set_cons_zero, List.set_cons_succ, i64_w, i32_w]
    rfl
  refine one_ (i := 10) (N := some 57) #[true, true, true, true, true, true, true, true, true, true, true, false, false, false] rfl rfl (by kernel_rfl) (by decide) (fun K hK => ?_)
  refine goes_ Tryd.func16 (by kernel_rfl) rfl #[v8, .string h.f1] (by rfl) rfl rfl (by simp only [List.map_toArray, List.map_cons, List.map_nil]; rfl) ?_
  refine (go_with (withG sLt s.en h.f0) h.f1 _ B _ own8 (Nat.le_trans hB7 hB8.size) (withG_sorted sO _ HOK.out.eno) (by omega)).mono ?_
  rintro e w9 ⟨v9, rfl, own9, hb9⟩
  obtain ⟨A9, c9, hv9, _⟩ := own_form own9
  subst hv9
  refine ⟨_, rfl, ?_⟩
  have hB9 := hB8.trans (hb9.mono hB8.size)
  refine hK.out _ _ ⟨(HS6.out _ hB9).1, (HS6.out _ hB9).2.1, (HS6.out _ hB9).2.2⟩ (fun hHeld => ?_)
  clear hK K
  refine norm_ (a' := ?_) ?_ ?_
  rotate_left
  · show Act.put _ (some 57) _ = _
    simp only [Act.put, List.setIfInBounds_toArray, List.set_cons_zero, List.set_cons_succ, i64_w, i32_w]
    rfl
  refine pure_ (i := 11) (N := some 58) (v := ?_) (a' := ?_) #[true, true, true, true, true, true, true, true, true, true, true, true, false, false] rfl rfl (by kernel_rfl) (fun _ _ _ h => h) (Or.inl ⟨by rfl, ?_⟩) ?_ ?_
  rotate_left
  · intro w'
    go_simp
    with_reducible rfl
  rotate_left
  · simp only [Act.put, List.setIfInBounds_toArray, List.set_cons_zero, List.set_cons_succ, i64_w, i32_w]
    rfl
  refine pure_ (i := 12) (N := some 59) (v := ?_) (a' := ?_) #[true, true, true, true, true, true, true, true, true, true, true, true, true, false] rfl rfl (by kernel_rfl) (fun _ _ _ h => h) (Or.inl ⟨by rfl, ?_⟩) ?_ ?_
  rotate_left
  · intro w'
    go_simp
    with_reducible rfl
  rotate_left
  · simp only [Act.put, List.setIfInBounds_toArray, List.set_cons_zero, List.set_cons_succ, i64_w, i32_w]
    rfl
  refine last_ (i := 13) (N := none) #[true, true, true, true, true, true, true, true, true, true, true, true, true, true] rfl rfl (by kernel_rfl) (by decide) (fun K hK => ?_)
  have e2 := (HS6.out _ hB9).1
  have f2 := blk_frozen (HG7.out.below hB9).blk 2
  refine skip_ (w1 := ?_) (by rfl) rfl ?_ ?_
  rotate_left
  · go_simp
    rfl
  refine hK.out _ _ ?_
  clear hK K
  refine done_ (by kernel_rfl) ?_
  have hG10 := (HG7.out.below hB9).setEn own9
  have hx10 : HBox (w9.setCell ⟨g, 2, none⟩ (.slice A9 (withG sLt (withG sLt s.en h.f0) h.f1).length c9)) z3 h := by
    unfold HBox
    rw [Below.heap_setCell _ _ _ _ (fun e => by
      have h1 := HX7.out.below hB9
      have h2 := (HG7.out.below hB9).blk
      unfold HBox at h1
      rw [e] at h1
      rw [h1] at h2
      injection h2 with h2; injection h2 with _ h2
      exact absurd h2 (by decide))]
    exact HX7.out.below hB9
  have hB10' := (HBB7.out.trans (hB9.mono hB7)).setCell (p := ⟨g, 2, none⟩) HG7.out.hg (.slice A9 (withG sLt (withG sLt s.en h.f0) h.f1).length c9)
  obtain ⟨w10, hw10⟩ : ∃ W, w9.setCell ⟨g, 2, none⟩ (.slice A9 (withG sLt (withG sLt s.en h.f0) h.f1).length c9) = W := ⟨_, rfl⟩
  rw [hw10] at hx10 hB10' hG10 ⊢
  have HG10 := Lib.hid hG10; have HX10 := Lib.hid hx10; have HBB10 := Lib.hid hB10'
  clear hw10 hG10 hx10 hB10' own9 own8 hB9 hB8 hB7 hBd hb9 hb8 e2 f2 hwl
  have hC10 := HG10.out.chr
  rw [show ({ ({ s5 with ow := fun y => if y = h.f1 then some (withG sLt l6 h.f0) else s5.ow y } : Gr) with en := withG sLt (withG sLt s.en h.f0) h.f1 } : Gr).ch = s.ch from HQ5.out.2.2] at hC10
  obtain ⟨A10, c10, hvC, hlc10, hnil10, _⟩ := own_form hC10
  subst hvC
  have HC10 := Lib.hid hC10
  have hB10 : B ≤ w10.heap.size := Nat.le_trans HG10.out.hg (Nat.le_of_lt HG10.out.lt)
  have HS7 := Lib.hid (show ∀ w' : World, Below w10.heap.size w10 w' → w'.cell? ⟨g, 3, none⟩ = some (.slice A10 s.ch.length c10) ∧ w'.cell? ⟨z3, 4, none⟩ = some (.int .i64 h.f3) from fun w' hb => ⟨(HG10.out.below hb).facts.2.2.2, (HX10.out.below hb).facts.2.2.2.2⟩)
  have hBd : Below w10.heap.size w10 w10.drew := (Below.refl _ w10).drew
  obtain ⟨P, hP⟩ : ∃ P, posG iLt s.ch h.f3 = P := ⟨_, rfl⟩
  have hPl : P ≤ s.ch.length := by rw [← hP]; exact posG_le _ _
  have HP := Lib.hid hP
  clear hC10 hP
  go_upto_region 7 with fail
  refine start_ (n := 8) (S := fun w' => w'.cell? ⟨g, 3, none⟩ = some (.slice A10 s.ch.length c10) ∧ w'.cell? ⟨z3, 4, none⟩ = some (.int .i64 h.f3)) (ds := []) #[false, false, false, false, false, false, false, false] (by kernel_rfl) rfl rfl ⟨(HS7.out _ hBd).1, (HS7.out _ hBd).2⟩ (fun hHeld => ?_)
  refine pure_ (i := 0) (N := some 60) (v := ?_) (a' := ?_) #[true, false, false, false, false, false, false, false] rfl rfl (by kernel_rfl) (fun _ _ _ h => h) (Or.inl ⟨by rfl, ?_⟩) ?_ ?_
  rotate_left
  · intro w'
    go_simp
    with_reducible rfl
  rotate_left
  · simp only [Act.put, List.setIfInBounds_toArray, List.set_cons_zero, List.set_cons_succ, i64_w, i32_w]
    rfl
  refine pure_ (i := 1) (N := some 61) (v := ?_) (a' := ?_) #[true, true, false, false, false, false, false, false] rfl rfl (by kernel_rfl) (fun _ _ _ h => h) (Or.inl ⟨by rfl, ?_⟩) ?_ ?_
  rotate_left
  · intro w'
    go_simp
    with_reducible rfl
  rotate_left
  · simp only [Act.put, List.setIfInBounds_toArray, List.set_cons_zero, List.set_cons_succ, i64_w, i32_w]
    rfl
  refine pure_ (i := 2) (N := some 62) (v := ?_) (a' := ?_) #[true, true, true, false, false, false, false, false] rfl rfl (by kernel_rfl) (fun _ _ _ h => h) (Or.inl ⟨by rfl, ?_⟩) ?_ ?_
  rotate_left
  · intro w'
    go_simp
    with_reducible rfl
  rotate_left
  · simp only [Act.put, List.setIfInBounds_toArray, List.set_cons_zero, List.set_cons_succ, i64_w, i32_w]
    rfl
  refine pure_ (i := 4) (N := some 64) (v := ?_) (a' := ?_) #[true, true, true, false, true, false, false, false] rfl rfl (by kernel_rfl) (fun _ _ _ h => h) (Or.inl ⟨by rfl, ?_⟩) ?_ ?_
  rotate_left
  · intro w'
    go_simp
    with_reducible rfl
  rotate_left
  · simp only [Act.put, List.setIfInBounds_toArray, List.set_cons_zero, List.set_cons_succ, i64_w, i32_w]
    rfl
  refine take_ (i := 3) (N := some 63) (v := ?_) (a' := ?_) #[true, true, true, true, true, false, false, false] rfl rfl (by kernel_rfl) (fun _ _ _ h => h) (Or.inl ⟨by rfl, ?_⟩) hHeld ?_ ?_
  rotate_left
  · rintro w' ⟨s0, s1⟩
    go_simp
    with_reducible rfl
  rotate_left
  · simp only [Act.put, List.setIfInBounds_toArray, List.set_cons_zero, List.set_cons_succ, i64_w, i32_w]
    rfl
  refine take_ (i := 5) (N := some 65) (v := ?_) (a' := ?_) #[true, true, true, true, true, true, false, false] rfl rfl (by kernel_rfl) (fun _ _ _ h => h) (Or.inl ⟨by rfl, ?_⟩) hHeld ?_ ?_
  rotate_left
  · rintro w' ⟨s0, s1⟩
    go_simp
    with_reducible rfl
  rotate_left
  · simp only [Act.put, List.setIfInBounds_toArray, List.set_cons_zero, List.set_cons_succ, i64_w, i32_w]
    rfl
  refine one_ (i := 6) (N := some 66) #[true, true, true, true, true, true, true, false] rfl rfl (by kernel_rfl) (by decide) (fun K hK => ?_)
  refine goes_ Tryd.func32 (by kernel_rfl) rfl #[.slice A10 s.ch.length c10, .int .i64 h.f3] (by rfl) rfl rfl (by simp only [List.map_toArray, List.map_cons, List.map_nil]; rfl) ?_
  refine (search_ints s.ch h.f3 (pw_own_below HC10.out hBd) HOK.out.cho (by omega)).mono ?_
  rw [HP.out]
  rintro e w11 ⟨rfl, hb11⟩
  refine ⟨_, rfl, ?_⟩
  have hB11 := hBd.trans (hb11.mono hBd.size)
  refine hK.out _ _ ⟨(HS7.out _ hB11).1, (HS7.out _ hB11).2⟩ (fun hHeld => ?_)
  clear hK K
  refine norm_ (a' := ?_) ?_ ?_
  rotate_left
  · show Act.put _ (some 66) _ = _
    simp only [Act.put, List.setIfInBounds_toArray, List.set_cons_zero, List.set_cons_succ, i64_w, i32_w]
    rfl
  refine pure_ (i := 7) (N := some 6) (v := ?_) (a' := ?_) #[true, true, true, true, true, true, true, true] rfl rfl (by kernel_rfl) (fun _ _ _ h => h) (Or.inl ⟨by rfl, ?_⟩) ?_ ?_
  rotate_left
  · intro w'
    go_simp
    with_reducible rfl
  rotate_left
  · simp only [Act.put, List.setIfInBounds_toArray, List.set_cons_zero, List.set_cons_succ, i64_w, i32_w]
    rfl
  refine done_ (by kernel_rfl) ?_
  have HG12 := Lib.hid (HG10.out.below hB11)
  have HS8 := Lib.hid (show ∀ w' : World, Below w11.heap.size w11 w' → w'.cell? ⟨g, 3, none⟩ = some (.slice A10 s.ch.length c10) ∧ w'.cell? ⟨z3, 4, none⟩ = some (.int .i64 h.f3) from fun w' hb => HS7.out w' (hB11.trans (hb.mono hB11.size)))
  have HBB12 := Lib.hid (HBB10.out.trans (hB11.mono hB10))
  have HC12 := Lib.hid (pw_own_below HC10.out hB11)
  have HSUM := Lib.hid (show ∀ ch', ch' = withG iLt s.ch h.f3 → ({ ({ ({ s5 with ow := fun y => if y = h.f1 then some (withG sLt l6 h.f0) else s5.ow y } : Gr) with en := withG sLt (withG sLt s.en h.f0) h.f1 } : Gr) with ch := ch' } : Gr) = addG s h from fun ch' hch => by
    rw [hch, ← HE5.out]
    unfold addG
    rw [HL6.out, HLE.out])
  have HSUM2 := Lib.hid (show ({ ({ s5 with ow := fun y => if y = h.f1 then some (withG sLt l6 h.f0) else s5.ow y } : Gr) with en := withG sLt (withG sLt s.en h.f0) h.f1 } : Gr).ch = s.ch from HQ5.out.2.2)
  obtain ⟨sx, hsx⟩ : ∃ sx : Gr, ({ ({ s5 with ow := fun y => if y = h.f1 then some (withG sLt l6 h.f0) else s5.ow y } : Gr) with en := withG sLt (withG sLt s.en h.f0) h.f1 } : Gr) = sx := ⟨_, rfl⟩
  rw [hsx] at HG12 HSUM HSUM2
  clear hsx
  obtain ⟨w12, hw12⟩ : ∃ W, w11 = W := ⟨_, rfl⟩
  rw [hw12] at HG12 HS8 HBB12 HC12 ⊢
  clear hBd hw12 hb11 hB11
  have hBd : Below w12.heap.size w12 w12.drew := (Below.refl _ w12).drew
  have hB12 : B ≤ w12.heap.size := Nat.le_trans HG12.out.hg (Nat.le_of_lt HG12.out.lt)
  go_upto_region 8 with fail
  by_cases hsame : s.ch[P]? = some h.f3
  · have hlt : P < s.ch.length := (List.getElem?_eq_some_iff.1 hsame).1
    obtain ⟨gc, hAc, hgc, q0⟩ := own_int_at HC12.out P hlt
    subst hAc
    rw [(List.getElem?_eq_some_iff.1 hsame).2] at q0
    have HT := Lib.hid (HSUM.out s.ch (by unfold withG; rw [HP.out, if_pos hsame]))
    have hPi : (P : Int) < (s.ch.length : Int) := by omega
    have hPb : ((P : Int) == (s.ch.length : Int)) = false := by simp; omega
    have hPn : (P == s.ch.length) = false := by simp; omega
    clear hsame
    refine start_ (n := 19) (S := fun w' => w'.cell? ⟨g, 3, none⟩ = some (.slice (some ⟨gc, 0, none⟩) s.ch.length c10) ∧ w'.cell? ⟨z3, 4, none⟩ = some (.int .i64 h.f3) ∧ w'.cell? ⟨gc, P, none⟩ = some (.int .i64 h.f3)) (ds := []) #[false, false, false, false, false, false, false, false, false, false, false, false, false, false, false, false, false, false, false] (by kernel_rfl) rfl rfl ⟨(HS8.out _ hBd).1, (HS8.out _ hBd).2, q0⟩ (fun hHeld => ?_)
    refine pure_ (i := 0) (N := some 67) (v := ?_) (a' := ?_) #[true, false, false, false, false, false, false, false, false, false, false, false, false, false, false, false, false, false, false] rfl rfl (by kernel_rfl) (fun _ _ _ h => h) (Or.inl ⟨by rfl, ?_⟩) ?_ ?_
    rotate_left
    · intro w'
      go_simp
      with_reducible rfl
    rotate_left
    · simp only [Act.put, List.setIfInBounds_toArray, List.set_cons_zero, List.set_cons_succ, i64_w, i32_w]
      rfl
    refine pure_ (i := 1) (N := some 68) (v := ?_) (a' := ?_) #[true, true, false, false, false, false, false, false, false, false, false, false, false, false, false, false, false, false, false] rfl rfl (by kernel_rfl) (fun _ _ _ h => h) (Or.inl ⟨by rfl, ?_⟩) ?_ ?_
    rotate_left
    · intro w'
      go_simp
      with_reducible rfl
    rotate_left
    · simp only [Act.put, List.setIfInBounds_toArray, List.set_cons_zero, List.set_cons_succ, i64_w, i32_w]
      rfl
    refine pure_ (i := 2) (N := some 69) (v := ?_) (a' := ?_) #[true, true, true, false, false, false, false, false, false, false, false, false, false, false, false, false, false, false, false] rfl rfl (by kernel_rfl) (fun _ _ _ h => h) (Or.inl ⟨by rfl, ?_⟩) ?_ ?_
    rotate_left
    · intro w'
      go_simp
      with_reducible rfl
    rotate_left
    · simp only [Act.put, List.setIfInBounds_toArray, List.set_cons_zero, List.set_cons_succ, i64_w, i32_w]
      rfl
    refine pure_ (i := 3) (N := some 70) (v := ?_) (a' := ?_) #[true, true, true, true, false, false, false, false, false, false, false, false, false, false, false, false, false, false, false] rfl rfl (by kernel_rfl) (fun _ _ _ h => h) (Or.inl ⟨by rfl, ?_⟩) ?_ ?_
    rotate_left
    · intro w'
      go_simp
      with_reducible rfl
    rotate_left
    · simp only [Act.put, List.setIfInBounds_toArray, List.set_cons_zero, List.set_cons_succ, i64_w, i32_w]
      rfl
    refine take_ (i := 4) (N := some 71) (v := ?_) (a' := ?_) #[true, true, true, true, true, false, false, false, false, false, false, false, false, false, false, false, false, false, false] rfl rfl (by kernel_rfl) (fun _ _ _ h => h) (Or.inl ⟨by rfl, ?_⟩) hHeld ?_ ?_
    rotate_left
    · rintro w' ⟨s0, s1, s2⟩
      go_simp
      with_reducible rfl
    rotate_left
    · simp only [Act.put, List.setIfInBounds_toArray, List.set_cons_zero, List.set_cons_succ, i64_w, i32_w]
      rfl
    refine pure_ (i := 5) (N := some 72) (v := ?_) (a' := ?_) #[true, true, true, true, true, true, false, false, false, false, false, false, false, false, false, false, false, false, false] rfl rfl (by kernel_rfl) (fun _ _ _ h => h) (Or.inl ⟨by rfl, ?_⟩) ?_ ?_
    rotate_left
    · intro w'
      go_simp
      with_reducible rfl
    rotate_left
    · simp only [Act.put, List.setIfInBounds_toArray, List.set_cons_zero, List.set_cons_succ, i64_w, i32_w]
      rfl
    refine pure_ (i := 6) (N := some 73) (v := ?_) (a' := ?_) #[true, true, true, true, true, true, true, false, false, false, false, false, false, false, false, false, false, false, false] rfl rfl (by kernel_rfl) (fun _ _ _ h => h) (Or.inl ⟨by rfl, ?_⟩) ?_ ?_
    rotate_left
    · intro w'
      go_simp
      with_reducible rfl
    rotate_left
    · simp only [Act.put, List.setIfInBounds_toArray, List.set_cons_zero, List.set_cons_succ, i64_w, i32_w]
      rfl
    refine pure_ (i := 7) (N := some 74) (v := ?_) (a' := ?_) #[true, true, true, true, true, true, true, true, false, false, false, false, false, false, false, false, false, false, false] rfl rfl (by kernel_rfl) (fun _ _ _ h => h) (Or.inl ⟨by rfl, ?_⟩) ?_ ?_
    rotate_left
    · intro w'
      go_simp
      with_reducible rfl
    rotate_left
    · simp only [Act.put, List.setIfInBounds_toArray, List.set_cons_zero, List.set_cons_succ, i64_w, i32_w]
      rfl
    refine pure_ (i := 8) (N := some 75) (v := ?_) (a' := ?_) #[true, true, true, true, true, true, true, true, true, false, false, false, false, false, false, false, false, false, false] rfl rfl (by kernel_rfl) (fun _ _ _ h => h) (Or.inl ⟨by rfl, ?_⟩) ?_ ?_
    rotate_left
    · intro w'
      go_simp
      with_reducible rfl
    rotate_left
    · simp only [Act.put, List.setIfInBounds_toArray, List.set_cons_zero, List.set_cons_succ, i64_w, i32_w]
      rfl
    refine pure_ (i := 9) (N := some 76) (v := ?_) (a' := ?_) #[true, true, true, true, true, true, true, true, true, true, false, false, false, false, false, false, false, false, false] rfl rfl (by kernel_rfl) (fun _ _ _ h => h) (Or.inl ⟨by rfl, ?_⟩) ?_ ?_
    rotate_left
    · intro w'
      go_simp
      with_reducible rfl
    rotate_left
    · simp only [Act.put, List.setIfInBounds_toArray, List.set_cons_zero, List.set_cons_succ, i64_w, i32_w]
      rfl
    refine pure_ (i := 10) (N := some 77) (v := ?_) (a' := ?_) #[true, true, true, true, true, true, true, true, true, true, true, false, false, false, false, false, false, false, false] rfl rfl (by kernel_rfl) (fun _ _ _ h => h) (Or.inl ⟨by rfl, ?_⟩) ?_ ?_
    rotate_left
    · intro w'
      go_simp
      with_reducible rfl
    rotate_left
    · simp only [Act.put, List.setIfInBounds_toArray, List.set_cons_zero, List.set_cons_succ, i64_w, i32_w]
      rfl
    refine pure_ (i := 12) (N := some 79) (v := ?_) (a' := ?_) #[true, true, true, true, true, true, true, true, true, true, true, false, true, false, false, false, false, false, false] rfl rfl (by kernel_rfl) (fun _ _ _ h => h) (Or.inl ⟨by rfl, ?_⟩) ?_ ?_
    rotate_left
    · intro w'
      go_simp
      with_reducible rfl
    rotate_left
    · simp only [Act.put, List.setIfInBounds_toArray, List.set_cons_zero, List.set_cons_succ, i64_w, i32_w]
      rfl
    refine pure_ (i := 15) (N := some 82) (v := ?_) (a' := ?_) #[true, true, true, true, true, true, true, true, true, true, true, false, true, false, false, true, false, false, false] rfl rfl (by kernel_rfl) (fun _ _ _ h => h) (Or.inl ⟨by rfl, ?_⟩) ?_ ?_
    rotate_left
    · intro w'
      go_simp
      with_reducible rfl
    rotate_left
    · simp only [Act.put, List.setIfInBounds_toArray, List.set_cons_zero, List.set_cons_succ, i64_w, i32_w]
      rfl
    refine take_ (i := 11) (N := some 78) (v := ?_) (a' := ?_) #[true, true, true, true, true, true, true, true, true, true, true, true, true, false, false, true, false, false, false] rfl rfl (by kernel_rfl) (fun _ _ _ h => h) (Or.inl ⟨by rfl, ?_⟩) hHeld ?_ ?_
    rotate_left
    · rintro w' ⟨s0, s1, s2⟩
      go_simp
      with_reducible rfl
    rotate_left
    · simp only [Act.put, List.setIfInBounds_toArray, List.set_cons_zero, List.set_cons_succ, i64_w, i32_w]
      rfl
    refine pure_ (i := 13) (N := some 80) (v := ?_) (a' := ?_) #[true, true, true, true, true, true, true, true, true, true, true, true, true, true, false, true, false, false, false] rfl rfl (by kernel_rfl) (fun _ _ _ h => h) (Or.inl ⟨by rfl, ?_⟩) ?_ ?_
    rotate_left
    · intro w'
      go_simp
      with_reducible rfl
    rotate_left
    · simp only [Act.put, List.setIfInBounds_toArray, List.set_cons_zero, List.set_cons_succ, i64_w, i32_w]
      rfl
    refine take_ (i := 14) (N := some 81) (v := ?_) (a' := ?_) #[true, true, true, true, true, true, true, true, true, true, true, true, true, true, true, true, false, false, false] rfl rfl (by kernel_rfl) (fun _ _ _ h => h) (Or.inl ⟨by rfl, ?_⟩) hHeld ?_ ?_
    rotate_left
    · rintro w' ⟨s0, s1, s2⟩
      go_simp
      with_reducible rfl
    rotate_left
    · simp only [Act.put, List.setIfInBounds_toArray, List.set_cons_zero, List.set_cons_succ, i64_w, i32_w]
      rfl
    refine take_ (i := 16) (N := some 83) (v := ?_) (a' := ?_) #[true, true, true, true, true, true, true, true, true, true, true, true, true, true, true, true, true, false, false] rfl rfl (by kernel_rfl) (fun _ _ _ h => h) (Or.inl ⟨by rfl, ?_⟩) hHeld ?_ ?_
    rotate_left
    · rintro w' ⟨s0, s1, s2⟩
      go_simp
      with_reducible rfl
    rotate_left
    · simp only [Act.put, List.setIfInBounds_toArray, List.set_cons_zero, List.set_cons_succ, i64_w, i32_w]
      rfl
    refine pure_ (i := 17) (N := some 84) (v := ?_) (a' := ?_) #[true, true, true, true, true, true, true, true, true, true, true, true, true, true, true, true, true, true, false] rfl rfl (by kernel_rfl) (fun _ _ _ h => h) (Or.inl ⟨by rfl, ?_⟩) ?_ ?_
    rotate_left
    · intro w'
      go_simp
      with_reducible rfl
    rotate_left
    · simp only [Act.put, List.setIfInBounds_toArray, List.set_cons_zero, List.set_cons_succ, i64_w, i32_w]
      rfl
    refine pure_ (i := 18) (N := some 85) (v := ?_) (a' := ?_) #[true, true, true, true, true, true, true, true, true, true, true, true, true, true, true, true, true, true, true] rfl rfl (by kernel_rfl) (fun _ _ _ h => h) (Or.inl ⟨by rfl, ?_⟩) ?_ ?_
    rotate_left
    · intro w'
      go_simp
      with_reducible rfl
    rotate_left
    · simp only [Act.put, List.setIfInBounds_toArray, List.set_cons_zero, List.set_cons_succ, i64_w, i32_w]
      rfl
    refine done_ (by kernel_rfl) ?_
    go_wp2
    have he : sx = addG s h := by rw [← HT.out, ← HSUM2.out]
    refine bodyPost_end (v := .tuple #[]) (by simp [results, Tryd.results18, go_sem]) rfl ⟨rfl, _, _, _, _, he ▸ HG12.out.below hBd, HBB12.out.trans (hBd.mono hB12)⟩
  · obtain ⟨i1, hj0, hj1, hj2, hj3⟩ := info_parts info_int_
    have HL := Lib.hid (show withG iLt s.ch h.f3 = s.ch.take P ++ h.f3 :: s.ch.drop P by unfold withG insG; rw [HP.out, if_neg hsame])
    have hcf := cut_full (P := Tryd.prog) 53 3 Tryd.underlying53 hj0 A10 s.ch.length c10 (P : Int) (by omega) (by omega)
    have hcd := cut_from (P := Tryd.prog) 53 3 .i64 Tryd.underlying53 hj0 1 hj2 A10 s.ch.length c10 (P : Int) (by omega) (by omega)
    rw [Int.toNat_natCast] at hcf hcd
    rw [Nat.mul_one] at hcd
    obtain ⟨D, hD⟩ : ∃ D, (if c10 = P then A10 else A10.map (·.add P)) = D := ⟨_, rfl⟩
    rw [hD] at hcd
    have TAKE := Lib.hid (show ∀ W, Below w12.heap.size w12 W → ∀ j u, (intVs (s.ch.take P))[j]? = some u → ∃ ad, A10 = some ad ∧ W.cell? (ad.add j) = some u from fun W hW => by
      have := own_news_take (W := W) HC12.out hPl (fun g hg => hW.block g (own_lt HC12.out g hg))
      rw [Nat.mul_one] at this
      unfold intVs at this ⊢
      rw [← List.map_take] at this
      exact this)
    have DROP := Lib.hid (show ∀ W, Below w12.heap.size w12 W → ∀ j u, (intVs (s.ch.drop P))[j]? = some u → ∃ ad, D = some ad ∧ W.cell? (ad.add j) = some u from fun W hW => by
      have := own_news_drop (W := W) HC12.out hPl (fun g hg => hW.block g (own_lt HC12.out g hg))
      unfold intVs at this ⊢
      rw [Nat.mul_one, ← List.map_drop, hD] at this
      exact this)
    have hnone : A10 = none → P = 0 := fun h => by have := (hnil10 h).1; omega
    have HEND := Lib.hid (show ∀ (v32 : Value) (w32 : World), w32.ownsRow w12.heap.size 3 1 v32 (P + 1 + (s.ch.length - P)) (intVs (s.ch.take P) ++ [.int .i64 h.f3] ++ intVs (s.ch.drop P)) → w32.ownsRow B 3 1 v32 (withG iLt s.ch h.f3).length (intVs (withG iLt s.ch h.f3)) from fun v32 w32 hw => by
      rw [HL.out]
      have e1 : (s.ch.take P ++ h.f3 :: s.ch.drop P).length = P + 1 + (s.ch.length - P) := by simp; omega
      have e2 : intVs (s.ch.take P ++ h.f3 :: s.ch.drop P) = intVs (s.ch.take P) ++ [.int .i64 h.f3] ++ intVs (s.ch.drop P) := by simp [intVs]
      rw [e1, e2]
      exact own_lower_ hw hB12)
    have HCUT := Lib.hid (show ∀ i (h : i < s.ch.length), ∃ g, A10 = some ⟨g, 0, none⟩ ∧ w12.cell? ⟨g, i, none⟩ = some (.int .i64 s.ch[i]) from fun i hi => by obtain ⟨g, h1, _, h2⟩ := own_int_at HC12.out i hi; exact ⟨g, h1, h2⟩)
    have HT := Lib.hid (HSUM.out _ rfl)
    have HFIN := Lib.hid (show ∀ (A32 : Option Addr) (n32 c32 : Nat) (W : World), Below w12.heap.size w12 W → W.ownsRow w12.heap.size 3 1 (.slice A32 n32 c32) (P + 1 + (s.ch.length - P)) (intVs (s.ch.take P) ++ [.int .i64 h.f3] ++ intVs (s.ch.drop P)) → AddPost B g m1 m2 (addG s h) w (W.setCell ⟨g, 3, none⟩ (.slice A32 n32 c32)) from fun A32 n32 c32 W hW ho => by
      have h1 := (HG12.out.below hW).setCh (HEND.out _ _ ho)
      rw [HT.out] at h1
      exact ⟨_, _, _, _, h1, (HBB12.out.trans (hW.mono hB12)).setCell (p := ⟨g, 3, none⟩) HG12.out.hg _⟩)
    clear hD hnil10
    by_cases hlt : P < s.ch.length
    · obtain ⟨gc, hAc, q0⟩ := HCUT.out P hlt
      subst hAc
      obtain ⟨y, hye⟩ : ∃ y, s.ch[P] = y := ⟨_, rfl⟩
      have hne : y ≠ h.f3 := fun e => hsame (by rw [List.getElem?_eq_getElem hlt, hye, e])
      have hneb : (y == h.f3) = false := by simp [hne]
      have hneb2 : (y != h.f3) = true := by simp [hne]
      rw [hye] at q0
      have hPi : (P : Int) < (s.ch.length : Int) := by omega
      have hPb : ((P : Int) == (s.ch.length : Int)) = false := by simp; omega
      have hPn : (P == s.ch.length) = false := by simp; omega
      clear hsame hne hye
      refine start_ (n := 19) (S := fun w' => w'.cell? ⟨g, 3, none⟩ = some (.slice (some ⟨gc, 0, none⟩) s.ch.length c10) ∧ w'.cell? ⟨z3, 4, none⟩ = some (.int .i64 h.f3) ∧ w'.cell? ⟨gc, P, none⟩ = some (.int .i64 y)) (ds := []) #[false, false, false, false, false, false, false, false, false, false, false, false, false, false, false, false, false, false, false] (by kernel_rfl) rfl rfl ⟨(HS8.out _ hBd).1, (HS8.out _ hBd).2, q0⟩ (fun hHeld => ?_)
      refine pure_ (i := 0) (N := some 67) (v := ?_) (a' := ?_) #[true, false, false, false, false, false, false, false, false, false, false, false, false, false, false, false, false, false, false] rfl rfl (by kernel_rfl) (fun _ _ _ h => h) (Or.inl ⟨by rfl, ?_⟩) ?_ ?_
      rotate_left
      · intro w'
        go_simp
        with_reducible rfl
      rotate_left
      · simp only [Act.put, List.setIfInBounds_toArray, List.set_cons_zero, List.set_cons_succ, i64_w, i32_w]
        rfl
      refine pure_ (i := 1) (N := some 68) (v := ?_) (a' := ?_) #[true, true, false, false, false, false, false, false, false, false, false, false, false, false, false, false, false, false, false] rfl rfl (by kernel_rfl) (fun _ _ _ h => h) (Or.inl ⟨by rfl, ?_⟩) ?_ ?_
      rotate_left
      · intro w'
        go_simp
        with_reducible rfl
      rotate_left
      · simp only [Act.put, List.setIfInBounds_toArray, List.set_cons_zero, List.set_cons_succ, i64_w, i32_w]
        rfl
      refine pure_ (i := 2) (N := some 69) (v := ?_) (a' := ?_) #[true, true, true, false, false, false, false, false, false, false, false, false, false, false, false, false, false, false, false] rfl rfl (by kernel_rfl) (fun _ _ _ h => h) (Or.inl ⟨by rfl, ?_⟩) ?_ ?_
      rotate_left
      · intro w'
        go_simp
        with_reducible rfl
      rotate_left
      · simp only [Act.put, List.setIfInBounds_toArray, List.set_cons_zero, List.set_cons_succ, i64_w, i32_w]
        rfl
      refine pure_ (i := 3) (N := some 70) (v := ?_) (a' := ?_) #[true, true, true, true, false, false, false, false, false, false, false, false, false, false, false, false, false, false, false] rfl rfl (by kernel_rfl) (fun _ _ _ h => h) (Or.inl ⟨by rfl, ?_⟩) ?_ ?_
      rotate_left
      · intro w'
        go_simp
        with_reducible rfl
      rotate_left
      · simp only [Act.put, List.setIfInBounds_toArray, List.set_cons_zero, List.set_cons_succ, i64_w, i32_w]
        rfl
      refine take_ (i := 4) (N := some 71) (v := ?_) (a' := ?_) #[true, true, true, true, true, false, false, false, false, false, false, false, false, false, false, false, false, false, false] rfl rfl (by kernel_rfl) (fun _ _ _ h => h) (Or.inl ⟨by rfl, ?_⟩) hHeld ?_ ?_
      rotate_left
      · rintro w' ⟨s0, s1, s2⟩
        go_simp
        with_reducible rfl
      rotate_left
      · simp only [Act.put, List.setIfInBounds_toArray, List.set_cons_zero, List.set_cons_succ, i64_w, i32_w]
        rfl
      refine pure_ (i := 5) (N := some 72) (v := ?_) (a' := ?_) #[true, true, true, true, true, true, false, false, false, false, false, false, false, false, false, false, false, false, false] rfl rfl (by kernel_rfl) (fun _ _ _ h => h) (Or.inl ⟨by rfl, ?_⟩) ?_ ?_
      rotate_left
      · intro w'
        go_simp
        with_reducible rfl
      rotate_left
      · simp only [Act.put, List.setIfInBounds_toArray, List.set_cons_zero, List.set_cons_succ, i64_w, i32_w]
        rfl
      refine pure_ (i := 6) (N := some 73) (v := ?_) (a' := ?_) #[true, true, true, true, true, true, true, false, false, false, false, false, false, false, false, false, false, false, false] rfl rfl (by kernel_rfl) (fun _ _ _ h => h) (Or.inl ⟨by rfl, ?_⟩) ?_ ?_
      rotate_left
      · intro w'
        go_simp
        with_reducible rfl
      rotate_left
      · simp only [Act.put, List.setIfInBounds_toArray, List.set_cons_zero, List.set_cons_succ, i64_w, i32_w]
        rfl
      refine pure_ (i := 7) (N := some 74) (v := ?_) (a' := ?_) #[true, true, true, true, true, true, true, true, false, false, false, false, false, false, false, false, false, false, false] rfl rfl (by kernel_rfl) (fun _ _ _ h => h) (Or.inl ⟨by rfl, ?_⟩) ?_ ?_
      rotate_left
      · intro w'
        go_simp
        with_reducible rfl
      rotate_left
      · simp only [Act.put, List.setIfInBounds_toArray, List.set_cons_zero, List.set_cons_succ, i64_w, i32_w]
        rfl
      refine pure_ (i := 8) (N := some 75) (v := ?_) (a' := ?_) #[true, true, true, true, true, true, true, true, true, false, false, false, false, false, false, false, false, false, false] rfl rfl (by kernel_rfl) (fun _ _ _ h => h) (Or.inl ⟨by rfl, ?_⟩) ?_ ?_
      rotate_left
      · intro w'
        go_simp
        with_reducible rfl
      rotate_left
      · simp only [Act.put, List.setIfInBounds_toArray, List.set_cons_zero, List.set_cons_succ, i64_w, i32_w]
        rfl
      refine pure_ (i := 9) (N := some 76) (v := ?_) (a' := ?_) #[true, true, true, true, true, true, true, true, true, true, false, false, false, false, false, false, false, false, false] rfl rfl (by kernel_rfl) (fun _ _ _ h => h) (Or.inl ⟨by rfl, ?_⟩) ?_ ?_
      rotate_left
      · intro w'
        go_simp
        with_reducible rfl
      rotate_left
      · simp only [Act.put, List.setIfInBounds_toArray, List.set_cons_zero, List.set_cons_succ, i64_w, i32_w]
        rfl
      refine pure_ (i := 10) (N := some 77) (v := ?_) (a' := ?_) #[true, true, true, true, true, true, true, true, true, true, true, false, false, false, false, false, false, false, false] rfl rfl (by kernel_rfl) (fun _ _ _ h => h) (Or.inl ⟨by rfl, ?_⟩) ?_ ?_
      rotate_left
      · intro w'
        go_simp
        with_reducible rfl
      rotate_left
      · simp only [Act.put, List.setIfInBounds_toArray, List.set_cons_zero, List.set_cons_succ, i64_w, i32_w]
        rfl
      refine pure_ (i := 12) (N := some 79) (v := ?_) (a' := ?_) #[true, true, true, true, true, true, true, true, true, true, true, false, true, false, false, false, false, false, false] rfl rfl (by kernel_rfl) (fun _ _ _ h => h) (Or.inl ⟨by rfl, ?_⟩) ?_ ?_
      rotate_left
      · intro w'
        go_simp
        with_reducible rfl
      rotate_left
      · simp only [Act.put, List.setIfInBounds_toArray, List.set_cons_zero, List.set_cons_succ, i64_w, i32_w]
        rfl
      refine pure_ (i := 15) (N := some 82) (v := ?_) (a' := ?_) #[true, true, true, true, true, true, true, true, true, true, true, false, true, false, false, true, false, false, false] rfl rfl (by kernel_rfl) (fun _ _ _ h => h) (Or.inl ⟨by rfl, ?_⟩) ?_ ?_
      rotate_left
      · intro w'
        go_simp
        with_reducible rfl
      rotate_left
      · simp only [Act.put, List.setIfInBounds_toArray, List.set_cons_zero, List.set_cons_succ, i64_w, i32_w]
        rfl
      refine take_ (i := 11) (N := some 78) (v := ?_) (a' := ?_) #[true, true, true, true, true, true, true, true, true, true, true, true, true, false, false, true, false, false, false] rfl rfl (by kernel_rfl) (fun _ _ _ h => h) (Or.inl ⟨by rfl, ?_⟩) hHeld ?_ ?_
      rotate_left
      · rintro w' ⟨s0, s1, s2⟩
        go_simp
        with_reducible rfl
      rotate_left
      · simp only [Act.put, List.setIfInBounds_toArray, List.set_cons_zero, List.set_cons_succ, i64_w, i32_w]
        rfl
      refine pure_ (i := 13) (N := some 80) (v := ?_) (a' := ?_) #[true, true, true, true, true, true, true, true, true, true, true, true, true, true, false, true, false, false, false] rfl rfl (by kernel_rfl) (fun _ _ _ h => h) (Or.inl ⟨by rfl, ?_⟩) ?_ ?_
      rotate_left
      · intro w'
        go_simp
        with_reducible rfl
      rotate_left
      · simp only [Act.put, List.setIfInBounds_toArray, List.set_cons_zero, List.set_cons_succ, i64_w, i32_w]
        rfl
      refine take_ (i := 14) (N := some 81) (v := ?_) (a' := ?_) #[true, true, true, true, true, true, true, true, true, true, true, true, true, true, true, true, false, false, false] rfl rfl (by kernel_rfl) (fun _ _ _ h => h) (Or.inl ⟨by rfl, ?_⟩) hHeld ?_ ?_
      rotate_left
      · rintro w' ⟨s0, s1, s2⟩
        go_simp
        with_reducible rfl
      rotate_left
      · simp only [Act.put, List.setIfInBounds_toArray, List.set_cons_zero, List.set_cons_succ, i64_w, i32_w]
        rfl
      refine take_ (i := 16) (N := some 83) (v := ?_) (a' := ?_) #[true, true, true, true, true, true, true, true, true, true, true, true, true, true, true, true, true, false, false] rfl rfl (by kernel_rfl) (fun _ _ _ h => h) (Or.inl ⟨by rfl, ?_⟩) hHeld ?_ ?_
      rotate_left
      · rintro w' ⟨s0, s1, s2⟩
        go_simp
        with_reducible rfl
      rotate_left
      · simp only [Act.put, List.setIfInBounds_toArray, List.set_cons_zero, List.set_cons_succ, i64_w, i32_w]
        rfl
      refine pure_ (i := 17) (N := some 84) (v := ?_) (a' := ?_) #[true, true, true, true, true, true, true, true, true, true, true, true, true, true, true, true, true, true, false] rfl rfl (by kernel_rfl) (fun _ _ _ h => h) (Or.inl ⟨by rfl, ?_⟩) ?_ ?_
      rotate_left
      · intro w'
        go_simp
        with_reducible rfl
      rotate_left
      · simp only [Act.put, List.setIfInBounds_toArray, List.set_cons_zero, List.set_cons_succ, i64_w, i32_w]
        rfl
      refine pure_ (i := 18) (N := some 85) (v := ?_) (a' := ?_) #[true, true, true, true, true, true, true, true, true, true, true, true, true, true, true, true, true, true, true] rfl rfl (by kernel_rfl) (fun _ _ _ h => h) (Or.inl ⟨by rfl, ?_⟩) ?_ ?_
      rotate_left
      · intro w'
        go_simp
        with_reducible rfl
      rotate_left
      · simp only [Act.put, List.setIfInBounds_toArray, List.set_cons_zero, List.set_cons_succ, i64_w, i32_w]
        rfl
      refine done_ (by kernel_rfl) ?_
      go_upto_region 9 with fail
      have hBd9 := hBd.trans ((Below.refl _ w12.drew).drew.mono hBd.size)
      refine start_ (n := 22) (S := fun w' => w'.cell? ⟨g, 3, none⟩ = some (.slice (some ⟨gc, 0, none⟩) s.ch.length c10) ∧ w'.cell? ⟨z3, 4, none⟩ = some (.int .i64 h.f3)) (ds := [21]) #[false, false, false, false, false, false, false, false, false, false, false, false, false, false, false, false, false, false, false, false, false, false] (by kernel_rfl) rfl rfl ⟨(HS8.out _ hBd9).1, (HS8.out _ hBd9).2⟩ (fun hHeld => ?_)
      refine pure_ (i := 0) (N := some 86) (v := ?_) (a' := ?_) #[true, false, false, false, false, false, false, false, false, false, false, false, false, false, false, false, false, false, false, false, false, false] rfl rfl (by kernel_rfl) (fun _ _ _ h => h) (Or.inl ⟨by rfl, ?_⟩) ?_ ?_
      rotate_left
      · intro w'
        go_simp
        with_reducible rfl
      rotate_left
      · simp only [Act.put, List.setIfInBounds_toArray, List.set_cons_zero, List.set_cons_succ, i64_w, i32_w]
        rfl
      refine pure_ (i := 1) (N := some 87) (v := ?_) (a' := ?_) #[true, true, false, false, false, false, false, false, false, false, false, false, false, false, false, false, false, false, false, false, false, false] rfl rfl (by kernel_rfl) (fun _ _ _ h => h) (Or.inl ⟨by rfl, ?_⟩) ?_ ?_
      rotate_left
      · intro w'
        go_simp
        with_reducible rfl
      rotate_left
      · simp only [Act.put, List.setIfInBounds_toArray, List.set_cons_zero, List.set_cons_succ, i64_w, i32_w]
        rfl
      refine pure_ (i := 2) (N := some 88) (v := ?_) (a' := ?_) #[true, true, true, false, false, false, false, false, false, false, false, false, false, false, false, false, false, false, false, false, false, false] rfl rfl (by kernel_rfl) (fun _ _ _ h => h) (Or.inl ⟨by rfl, ?_⟩) ?_ ?_
      rotate_left
      · intro w'
        go_simp
        with_reducible rfl
      rotate_left
      · simp only [Act.put, List.setIfInBounds_toArray, List.set_cons_zero, List.set_cons_succ, i64_w, i32_w]
        rfl
      refine pure_ (i := 3) (N := some 89) (v := ?_) (a' := ?_) #[true, true, true, true, false, false, false, false, false, false, false, false, false, false, false, false, false, false, false, false, false, false] rfl rfl (by kernel_rfl) (fun _ _ _ h => h) (Or.inl ⟨by rfl, ?_⟩) ?_ ?_
      rotate_left
      · intro w'
        go_simp
        with_reducible rfl
      rotate_left
      · simp only [Act.put, List.setIfInBounds_toArray, List.set_cons_zero, List.set_cons_succ, i64_w, i32_w]
        rfl
      refine pure_ (i := 5) (N := some 91) (v := ?_) (a' := ?_) #[true, true, true, true, false, true, false, false, false, false, false, false, false, false, false, false, false, false, false, false, false, false] rfl rfl (by kernel_rfl) (fun _ _ _ h => h) (Or.inl ⟨by rfl, ?_⟩) ?_ ?_
      rotate_left
      · intro w'
        go_simp
        with_reducible rfl
      rotate_left
      · simp only [Act.put, List.setIfInBounds_toArray, List.set_cons_zero, List.set_cons_succ, i64_w, i32_w]
        rfl
      refine pure_ (i := 6) (N := some 92) (v := ?_) (a' := ?_) #[true, true, true, true, false, true, true, false, false, false, false, false, false, false, false, false, false, false, false, false, false, false] rfl rfl (by kernel_rfl) (fun _ _ _ h => h) (Or.inl ⟨by rfl, ?_⟩) ?_ ?_
      rotate_left
      · intro w'
        go_simp
        with_reducible rfl
      rotate_left
      · simp only [Act.put, List.setIfInBounds_toArray, List.set_cons_zero, List.set_cons_succ, i64_w, i32_w]
        rfl
      refine pure_ (i := 8) (N := some 94) (v := ?_) (a' := ?_) #[true, true, true, true, false, true, true, false, true, false, false, false, false, false, false, false, false, false, false, false, false, false] rfl rfl (by kernel_rfl) (fun _ _ _ h => h) (Or.inl ⟨by rfl, ?_⟩) ?_ ?_
      rotate_left
      · intro w'
        go_simp
        with_reducible rfl
      rotate_left
      · simp only [Act.put, List.setIfInBounds_toArray, List.set_cons_zero, List.set_cons_succ, i64_w, i32_w]
        rfl
      refine pure_ (i := 12) (N := some 98) (v := ?_) (a' := ?_) #[true, true, true, true, false, true, true, false, true, false, false, false, true, false, false, false, false, false, false, false, false, false] rfl rfl (by kernel_rfl) (fun _ _ _ h => h) (Or.inl ⟨by rfl, ?_⟩) ?_ ?_
      rotate_left
      · intro w'
        go_simp
        with_reducible rfl
      rotate_left
      · simp only [Act.put, List.setIfInBounds_toArray, List.set_cons_zero, List.set_cons_succ, i64_w, i32_w]
        rfl
      refine pure_ (i := 13) (N := some 99) (v := ?_) (a' := ?_) #[true, true, true, true, false, true, true, false, true, false, false, false, true, true, false, false, false, false, false, false, false, false] rfl rfl (by kernel_rfl) (fun _ _ _ h => h) (Or.inl ⟨by rfl, ?_⟩) ?_ ?_
      rotate_left
      · intro w'
        go_simp
        with_reducible rfl
      rotate_left
      · simp only [Act.put, List.setIfInBounds_toArray, List.set_cons_zero, List.set_cons_succ, i64_w, i32_w]
        rfl
      refine pure_ (i := 14) (N := some 100) (v := ?_) (a' := ?_) #[true, true, true, true, false, true, true, false, true, false, false, false, true, true, true, false, false, false, false, false, false, false] rfl rfl (by kernel_rfl) (fun _ _ _ h => h) (Or.inl ⟨by rfl, ?_⟩) ?_ ?_
      rotate_left
      · intro w'
        go_simp
        with_reducible rfl
      rotate_left
      · simp only [Act.put, List.setIfInBounds_toArray, List.set_cons_zero, List.set_cons_succ, i64_w, i32_w]
        rfl
      refine pure_ (i := 16) (N := some 102) (v := ?_) (a' := ?_) #[true, true, true, true, false, true, true, false, true, false, false, false, true, true, true, false, true, false, false, false, false, false] rfl rfl (by kernel_rfl) (fun _ _ _ h => h) (Or.inl ⟨by rfl, ?_⟩) ?_ ?_
      rotate_left
      · intro w'
        go_simp
        with_reducible rfl
      rotate_left
      · simp only [Act.put, List.setIfInBounds_toArray, List.set_cons_zero, List.set_cons_succ, i64_w, i32_w]
        rfl
      refine take_ (i := 4) (N := some 90) (v := ?_) (a' := ?_) #[true, true, true, true, true, true, true, false, true, false, false, false, true, true, true, false, true, false, false, false, false, false] rfl rfl (by kernel_rfl) (fun _ _ _ h => h) (Or.inl ⟨by rfl, ?_⟩) hHeld ?_ ?_
      rotate_left
      · rintro w' ⟨s0, s1⟩
        go_simp
        with_reducible rfl
      rotate_left
      · simp only [Act.put, List.setIfInBounds_toArray, List.set_cons_zero, List.set_cons_succ, i64_w, i32_w]
        rfl
      refine pure_ (i := 7) (N := some 93) (v := ?_) (a' := ?_) #[true, true, true, true, true, true, true, true, true, false, false, false, true, true, true, false, true, false, false, false, false, false] rfl rfl (by kernel_rfl) (fun _ _ _ h => h) (Or.inl ⟨by rfl, ?_⟩) ?_ ?_
      rotate_left
      · intro w'
        go_simp
        with_reducible rfl
      rotate_left
      · simp only [Act.put, List.setIfInBounds_toArray, List.set_cons_zero, List.set_cons_succ, i64_w, i32_w]
        rfl
      refine take_ (i := 9) (N := some 95) (v := ?_) (a' := ?_) #[true, true, true, true, true, true, true, true, true, true, false, false, true, true, true, false, true, false, false, false, false, false] rfl rfl (by kernel_rfl) (fun _ _ _ h => h) (Or.inl ⟨by rfl, ?_⟩) hHeld ?_ ?_
      rotate_left
      · rintro w' ⟨s0, s1⟩
        go_simp
        with_reducible rfl
      rotate_left
      · simp only [Act.put, List.setIfInBounds_toArray, List.set_cons_zero, List.set_cons_succ, i64_w, i32_w]
        rfl
      refine take_ (i := 15) (N := some 101) (v := ?_) (a' := ?_) #[true, true, true, true, true, true, true, true, true, true, false, false, true, true, true, true, true, false, false, false, false, false] rfl rfl (by kernel_rfl) (fun _ _ _ h => h) (Or.inl ⟨by rfl, ?_⟩) hHeld ?_ ?_
      rotate_left
      · rintro w' ⟨s0, s1⟩
        go_simp
        with_reducible rfl
      rotate_left
      · simp only [Act.put, List.setIfInBounds_toArray, List.set_cons_zero, List.set_cons_succ, i64_w, i32_w]
        rfl
      refine pure_ (i := 17) (N := some 103) (v := ?_) (a' := ?_) #[true, true, true, true, true, true, true, true, true, true, false, false, true, true, true, true, true, true, false, false, false, false] rfl rfl (by kernel_rfl) (fun _ _ _ h => h) (Or.inl ⟨by rfl, ?_⟩) ?_ ?_
      rotate_left
      · intro w'
        go_simp
        with_reducible rfl
      rotate_left
      · simp only [Act.put, List.setIfInBounds_toArray, List.set_cons_zero, List.set_cons_succ, i64_w, i32_w]
        rfl
      refine one_ (i := 10) (N := some 96) #[true, true, true, true, true, true, true, true, true, true, true, false, true, true, true, true, true, true, false, false, false, false] rfl rfl (by kernel_rfl) (by decide) (fun K hK => ?_)
      refine value_ (w1 := ?_) (v := ?_) (by rfl) rfl ?_ ?_
      rotate_left 2
      · go_simp
        constructor
        · rfl
        · rfl
      have hB1 := hBd9.alloc hBd9.size (.cells #[.int .i64 h.f3] 3)
      have hone := (Go.MapKept.heap_alloc w12.drew.drew (.cells #[.int .i64 h.f3] 3)).1
      refine hK.out _ _ ⟨(HS8.out _ hB1).1, (HS8.out _ hB1).2⟩ (fun hHeld => ?_)
      clear hK K
      refine norm_ (a' := ?_) ?_ ?_
      rotate_left
      · show Act.put _ (some 96) _ = _
        simp only [Act.put, List.setIfInBounds_toArray, List.set_cons_zero, List.set_cons_succ, i64_w, i32_w]
        rfl
      refine one_ (i := 11) (N := some 97) #[true, true, true, true, true, true, true, true, true, true, true, true, true, true, true, true, true, true, false, false, false, false] rfl rfl (by kernel_rfl) (by decide) (fun K hK => ?_)
      refine step_append_full (by rfl) (.tmp 93) (.tmp 96) 53 (by rfl) 3 i1 _ 1 8 Tryd.underlying53 hj0 hj1 hj2 hj3 rfl _ P (intVs (s.ch.take P)) (by rfl) (by simp [intVs, List.length_take, Nat.min_eq_left hPl]) (fun j u hu => TAKE.out _ hB1 j u hu) hnone _ 1 1 [.int .i64 h.f3] (by rfl) rfl (fun j u hu => World.news_of_block hone j u hu) (by omega) (by unfold maxLen; omega) (by omega) ?_
      intro c28 w28 own28 hb28
      have hB2 := hB1.trans (hb28.mono hB1.size)
      refine hK.out _ _ ⟨(HS8.out _ hB2).1, (HS8.out _ hB2).2⟩ (fun hHeld => ?_)
      clear hK K
      refine norm_ (a' := ?_) ?_ ?_
      rotate_left
      · show Act.put _ (some 97) _ = _
        simp only [Act.put, List.setIfInBounds_toArray, List.set_cons_zero, List.set_cons_succ, i64_w, i32_w]
        rfl
      refine one_ (i := 18) (N := some 104) #[true, true, true, true, true, true, true, true, true, true, true, true, true, true, true, true, true, true, true, false, false, false] rfl rfl (by kernel_rfl) (by decide) (fun K hK => ?_)
      refine step_append_any (by rfl) (.tmp 97) (.tmp 103) 53 (by rfl) w12.heap.size 3 i1 _ 1 8 Tryd.underlying53 hj0 hj1 hj2 hj3 rfl (by omega) _ (P + 1) (intVs (s.ch.take P) ++ [.int .i64 h.f3]) (by rfl) (own_lower_ own28 hB1.size) _ (s.ch.length - P) _ (intVs (s.ch.drop P)) (by rfl) (by simp [intVs]) (fun j u hu => DROP.out _ hB2 j u hu) (ints_one _) (by unfold maxLen; omega) (by omega) hB2.size ?_
      intro v32 w32 own32 gr32 fr32
      have hB3 := pw_below_grown hB2 _ hB2.size gr32 (own_base (own_lower_ own28 hB1.size))
      obtain ⟨A32, c32, hv32, _⟩ := own_form own32
      subst hv32
      refine hK.out _ _ ⟨(HS8.out _ hB3).1, (HS8.out _ hB3).2⟩ (fun hHeld => ?_)
      clear hK K
      refine norm_ (a' := ?_) ?_ ?_
      rotate_left
      · show Act.put _ (some 104) _ = _
        simp only [Act.put, List.setIfInBounds_toArray, List.set_cons_zero, List.set_cons_succ, i64_w, i32_w]
        rfl
      refine pure_ (i := 19) (N := some 105) (v := ?_) (a' := ?_) #[true, true, true, true, true, true, true, true, true, true, true, true, true, true, true, true, true, true, true, true, false, false] rfl rfl (by kernel_rfl) (fun _ _ _ h => h) (Or.inl ⟨by rfl, ?_⟩) ?_ ?_
      rotate_left
      · intro w'
        go_simp
        with_reducible rfl
      rotate_left
      · simp only [Act.put, List.setIfInBounds_toArray, List.set_cons_zero, List.set_cons_succ, i64_w, i32_w]
        rfl
      refine pure_ (i := 20) (N := some 106) (v := ?_) (a' := ?_) #[true, true, true, true, true, true, true, true, true, true, true, true, true, true, true, true, true, true, true, true, true, false] rfl rfl (by kernel_rfl) (fun _ _ _ h => h) (Or.inl ⟨by rfl, ?_⟩) ?_ ?_
      rotate_left
      · intro w'
        go_simp
        with_reducible rfl
      rotate_left
      · simp only [Act.put, List.setIfInBounds_toArray, List.set_cons_zero, List.set_cons_succ, i64_w, i32_w]
        rfl
      refine last_ (i := 21) (N := none) #[true, true, true, true, true, true, true, true, true, true, true, true, true, true, true, true, true, true, true, true, true, true] rfl rfl (by kernel_rfl) (by decide) (fun K hK => ?_)
      have e2 := (HS8.out _ hB3).1
      have f2 := blk_frozen (HG12.out.below hB3).blk 3
      refine skip_ (w1 := ?_) (by rfl) rfl ?_ ?_
      rotate_left
      · go_simp
        rfl
      refine hK.out _ _ ?_
      clear hK K
      refine done_ (by kernel_rfl) ?_
      go_wp2
      refine bodyPost_end (v := .tuple #[]) (by simp [results, Tryd.results18, go_sem]) rfl ⟨rfl, HFIN.out _ _ _ _ hB3 own32⟩
    · have hPl2 : P = s.ch.length := by omega
      have hPb : ((P : Int) == (s.ch.length : Int)) = true := by rw [hPl2]; simp
      have hPn : (P == s.ch.length) = true := by rw [hPl2]; simp
      have HPL := Lib.hid hPl2
      clear hPl2 hlt hsame
      refine start_ (n := 19) (S := fun w' => w'.cell? ⟨g, 3, none⟩ = some (.slice A10 s.ch.length c10) ∧ w'.cell? ⟨z3, 4, none⟩ = some (.int .i64 h.f3)) (ds := []) #[false, false, false, false, false, false, false, false, false, false, false, false, false, false, false, false, false, false, false] (by kernel_rfl) rfl rfl ⟨(HS8.out _ hBd).1, (HS8.out _ hBd).2⟩ (fun hHeld => ?_)
      refine pure_ (i := 0) (N := some 67) (v := ?_) (a' := ?_) #[true, false, false, false, false, false, false, false, false, false, false, false, false, false, false, false, false, false, false] rfl rfl (by kernel_rfl) (fun _ _ _ h => h) (Or.inl ⟨by rfl, ?_⟩) ?_ ?_
      rotate_left
      · intro w'
        go_simp
        with_reducible rfl
      rotate_left
      · simp only [Act.put, List.setIfInBounds_toArray, List.set_cons_zero, List.set_cons_succ, i64_w, i32_w]
        rfl
      refine pure_ (i := 1) (N := some 68) (v := ?_) (a' := ?_) #[true, true, false, false, false, false, false, false, false, false, false, false, false, false, false, false, false, false, false] rfl rfl (by kernel_rfl) (fun _ _ _ h => h) (Or.inl ⟨by rfl, ?_⟩) ?_ ?_
      rotate_left
      · intro w'
        go_simp
        with_reducible rfl
      rotate_left
      · simp only [Act.put, List.setIfInBounds_toArray, List.set_cons_zero, List.set_cons_succ, i64_w, i32_w]
        rfl
      refine pure_ (i := 2) (N := some 69) (v := ?_) (a' := ?_) #[true, true, true, false, false, false, false, false, false, false, false, false, false, false, false, false, false, false, false] rfl rfl (by kernel_rfl) (fun _ _ _ h => h) (Or.inl ⟨by rfl, ?_⟩) ?_ ?_
      rotate_left
      · intro w'
        go_simp
        with_reducible rfl
      rotate_left
      · simp only [Act.put, List.setIfInBounds_toArray, List.set_cons_zero, List.set_cons_succ, i64_w, i32_w]
        rfl
      refine pure_ (i := 3) (N := some 70) (v := ?_) (a' := ?_) #[true, true, true, true, false, false, false, false, false, false, false, false, false, false, false, false, false, false, false] rfl rfl (by kernel_rfl) (fun _ _ _ h => h) (Or.inl ⟨by rfl, ?_⟩) ?_ ?_
      rotate_left
      · intro w'
        go_simp
        with_reducible rfl
      rotate_left
      · simp only [Act.put, List.setIfInBounds_toArray, List.set_cons_zero, List.set_cons_succ, i64_w, i32_w]
        rfl
      refine take_ (i := 4) (N := some 71) (v := ?_) (a' := ?_) #[true, true, true, true, true, false, false, false, false, false, false, false, false, false, false, false, false, false, false] rfl rfl (by kernel_rfl) (fun _ _ _ h => h) (Or.inl ⟨by rfl, ?_⟩) hHeld ?_ ?_
      rotate_left
      · rintro w' ⟨s0, s1⟩
        go_simp
        with_reducible rfl
      rotate_left
      · simp only [Act.put, List.setIfInBounds_toArray, List.set_cons_zero, List.set_cons_succ, i64_w, i32_w]
        rfl
      refine pure_ (i := 5) (N := some 72) (v := ?_) (a' := ?_) #[true, true, true, true, true, true, false, false, false, false, false, false, false, false, false, false, false, false, false] rfl rfl (by kernel_rfl) (fun _ _ _ h => h) (Or.inl ⟨by rfl, ?_⟩) ?_ ?_
      rotate_left
      · intro w'
        go_simp
        with_reducible rfl
      rotate_left
      · simp only [Act.put, List.setIfInBounds_toArray, List.set_cons_zero, List.set_cons_succ, i64_w, i32_w]
        rfl
      refine pure_ (i := 6) (N := some 73) (v := ?_) (a' := ?_) #[true, true, true, true, true, true, true, false, false, false, false, false, false, false, false, false, false, false, false] rfl rfl (by kernel_rfl) (fun _ _ _ h => h) (Or.inl ⟨by rfl, ?_⟩) ?_ ?_
      rotate_left
      · intro w'
        go_simp
        with_reducible rfl
      rotate_left
      · simp only [Act.put, List.setIfInBounds_toArray, List.set_cons_zero, List.set_cons_succ, i64_w, i32_w]
        rfl
      refine pure_ (i := 7) (N := some 74) (v := ?_) (a' := ?_) #[true, true, true, true, true, true, true, true, false, false, false, false, false, false, false, false, false, false, false] rfl rfl (by kernel_rfl) (fun _ _ _ h => h) (Or.inl ⟨by rfl, ?_⟩) ?_ ?_
      rotate_left
      · intro w'
        go_simp
        with_reducible rfl
      rotate_left
      · simp only [Act.put, List.setIfInBounds_toArray, List.set_cons_zero, List.set_cons_succ, i64_w, i32_w]
        rfl
      refine pure_ (i := 8) (N := some 75) (v := undef) (a' := ?_) #[true, true, true, true, true, true, true, true, true, false, false, false, false, false, false, false, false, false, false] rfl rfl (by kernel_rfl) (fun _ _ _ h => h) (Or.inr ⟨by rfl, rfl⟩) ?_ ?_
      rotate_left
      · simp only [Act.put, List.setIfInBounds_toArray, List.set_cons_zero, List.set_cons_succ, i64_w, i32_w]
        rfl
      refine pure_ (i := 9) (N := some 76) (v := undef) (a' := ?_) #[true, true, true, true, true, true, true, true, true, true, false, false, false, false, false, false, false, false, false] rfl rfl (by kernel_rfl) (fun _ _ _ h => h) (Or.inr ⟨by rfl, rfl⟩) ?_ ?_
      rotate_left
      · simp only [Act.put, List.setIfInBounds_toArray, List.set_cons_zero, List.set_cons_succ, i64_w, i32_w]
        rfl
      refine pure_ (i := 10) (N := some 77) (v := undef) (a' := ?_) #[true, true, true, true, true, true, true, true, true, true, true, false, false, false, false, false, false, false, false] rfl rfl (by kernel_rfl) (fun _ _ _ h => h) (Or.inr ⟨by rfl, rfl⟩) ?_ ?_
      rotate_left
      · simp only [Act.put, List.setIfInBounds_toArray, List.set_cons_zero, List.set_cons_succ, i64_w, i32_w]
        rfl
      refine pure_ (i := 11) (N := some 78) (v := undef) (a' := ?_) #[true, true, true, true, true, true, true, true, true, true, true, true, false, false, false, false, false, false, false] rfl rfl (by kernel_rfl) (fun _ _ _ h => h) (Or.inr ⟨by rfl, rfl⟩) ?_ ?_
      rotate_left
      · simp only [Act.put, List.setIfInBounds_toArray, List.set_cons_zero, List.set_cons_succ, i64_w, i32_w]
        rfl
      refine pure_ (i := 12) (N := some 79) (v := undef) (a' := ?_) #[true, true, true, true, true, true, true, true, true, true, true, true, true, false, false, false, false, false, false] rfl rfl (by kernel_rfl) (fun _ _ _ h => h) (Or.inr ⟨by rfl, rfl⟩) ?_ ?_
      rotate_left
      · simp only [Act.put, List.setIfInBounds_toArray, List.set_cons_zero, List.set_cons_succ, i64_w, i32_w]
        rfl
      refine pure_ (i := 13) (N := some 80) (v := undef) (a' := ?_) #[true, true, true, true, true, true, true, true, true, true, true, true, true, true, false, false, false, false, false] rfl rfl (by kernel_rfl) (fun _ _ _ h => h) (Or.inr ⟨by rfl, rfl⟩) ?_ ?_
      rotate_left
      · simp only [Act.put, List.setIfInBounds_toArray, List.set_cons_zero, List.set_cons_succ, i64_w, i32_w]
        rfl
      refine pure_ (i := 14) (N := some 81) (v := undef) (a' := ?_) #[true, true, true, true, true, true, true, true, true, true, true, true, true, true, true, false, false, false, false] rfl rfl (by kernel_rfl) (fun _ _ _ h => h) (Or.inr ⟨by rfl, rfl⟩) ?_ ?_
      rotate_left
      · simp only [Act.put, List.setIfInBounds_toArray, List.set_cons_zero, List.set_cons_succ, i64_w, i32_w]
        rfl
      refine pure_ (i := 15) (N := some 82) (v := undef) (a' := ?_) #[true, true, true, true, true, true, true, true, true, true, true, true, true, true, true, true, false, false, false] rfl rfl (by kernel_rfl) (fun _ _ _ h => h) (Or.inr ⟨by rfl, rfl⟩) ?_ ?_
      rotate_left
      · simp only [Act.put, List.setIfInBounds_toArray, List.set_cons_zero, List.set_cons_succ, i64_w, i32_w]
        rfl
      refine pure_ (i := 16) (N := some 83) (v := undef) (a' := ?_) #[true, true, true, true, true, true, true, true, true, true, true, true, true, true, true, true, true, false, false] rfl rfl (by kernel_rfl) (fun _ _ _ h => h) (Or.inr ⟨by rfl, rfl⟩) ?_ ?_
      rotate_left
      · simp only [Act.put, List.setIfInBounds_toArray, List.set_cons_zero, List.set_cons_succ, i64_w, i32_w]
        rfl
      refine pure_ (i := 17) (N := some 84) (v := undef) (a' := ?_) #[true, true, true, true, true, true, true, true, true, true, true, true, true, true, true, true, true, true, false] rfl rfl (by kernel_rfl) (fun _ _ _ h => h) (Or.inr ⟨by rfl, rfl⟩) ?_ ?_
      rotate_left
      · simp only [Act.put, List.setIfInBounds_toArray, List.set_cons_zero, List.set_cons_succ, i64_w, i32_w]
        rfl
      refine pure_ (i := 18) (N := some 85) (v := ?_) (a' := ?_) #[true, true, true, true, true, true, true, true, true, true, true, true, true, true, true, true, true, true, true] rfl rfl (by kernel_rfl) (fun _ _ _ h => h) (Or.inl ⟨by rfl, ?_⟩) ?_ ?_
      rotate_left
      · intro w'
        go_simp
        with_reducible rfl
      rotate_left
      · simp only [Act.put, List.setIfInBounds_toArray, List.set_cons_zero, List.set_cons_succ, i64_w, i32_w]
        rfl
      refine done_ (by kernel_rfl) ?_
      go_upto_region 9 with fail
      have hBd9 := hBd.trans ((Below.refl _ w12.drew).drew.mono hBd.size)
      refine start_ (n := 22) (S := fun w' => w'.cell? ⟨g, 3, none⟩ = some (.slice A10 s.ch.length c10) ∧ w'.cell? ⟨z3, 4, none⟩ = some (.int .i64 h.f3)) (ds := [21]) #[false, false, false, false, false, false, false, false, false, false, false, false, false, false, false, false, false, false, false, false, false, false] (by kernel_rfl) rfl rfl ⟨(HS8.out _ hBd9).1, (HS8.out _ hBd9).2⟩ (fun hHeld => ?_)
      refine pure_ (i := 0) (N := some 86) (v := ?_) (a' := ?_) #[true, false, false, false, false, false, false, false, false, false, false, false, false, false, false, false, false, false, false, false, false, false] rfl rfl (by kernel_rfl) (fun _ _ _ h => h) (Or.inl ⟨by rfl, ?_⟩) ?_ ?_
      rotate_left
      · intro w'
        go_simp
        with_reducible rfl
      rotate_left
      · simp only [Act.put, List.setIfInBounds_toArray, List.set_cons_zero, List.set_cons_succ, i64_w, i32_w]
        rfl
      refine pure_ (i := 1) (N := some 87) (v := ?_) (a' := ?_) #[true, true, false, false, false, false, false, false, false, false, false, false, false, false, false, false, false, false, false, false, false, false] rfl rfl (by kernel_rfl) (fun _ _ _ h => h) (Or.inl ⟨by rfl, ?_⟩) ?_ ?_
      rotate_left
      · intro w'
        go_simp
        with_reducible rfl
      rotate_left
      · simp only [Act.put, List.setIfInBounds_toArray, List.set_cons_zero, List.set_cons_succ, i64_w, i32_w]
        rfl
      refine pure_ (i := 2) (N := some 88) (v := ?_) (a' := ?_) #[true, true, true, false, false, false, false, false, false, false, false, false, false, false, false, false, false, false, false, false, false, false] rfl rfl (by kernel_rfl) (fun _ _ _ h => h) (Or.inl ⟨by rfl, ?_⟩) ?_ ?_
      rotate_left
      · intro w'
        go_simp
        with_reducible rfl
      rotate_left
      · simp only [Act.put, List.setIfInBounds_toArray, List.set_cons_zero, List.set_cons_succ, i64_w, i32_w]
        rfl
      refine pure_ (i := 3) (N := some 89) (v := ?_) (a' := ?_) #[true, true, true, true, false, false, false, false, false, false, false, false, false, false, false, false, false, false, false, false, false, false] rfl rfl (by kernel_rfl) (fun _ _ _ h => h) (Or.inl ⟨by rfl, ?_⟩) ?_ ?_
      rotate_left
      · intro w'
        go_simp
        with_reducible rfl
      rotate_left
      · simp only [Act.put, List.setIfInBounds_toArray, List.set_cons_zero, List.set_cons_succ, i64_w, i32_w]
        rfl
      refine pure_ (i := 5) (N := some 91) (v := ?_) (a' := ?_) #[true, true, true, true, false, true, false, false, false, false, false, false, false, false, false, false, false, false, false, false, false, false] rfl rfl (by kernel_rfl) (fun _ _ _ h => h) (Or.inl ⟨by rfl, ?_⟩) ?_ ?_
      rotate_left
      · intro w'
        go_simp
        with_reducible rfl
      rotate_left
      · simp only [Act.put, List.setIfInBounds_toArray, List.set_cons_zero, List.set_cons_succ, i64_w, i32_w]
        rfl
      refine pure_ (i := 6) (N := some 92) (v := ?_) (a' := ?_) #[true, true, true, true, false, true, true, false, false, false, false, false, false, false, false, false, false, false, false, false, false, false] rfl rfl (by kernel_rfl) (fun _ _ _ h => h) (Or.inl ⟨by rfl, ?_⟩) ?_ ?_
      rotate_left
      · intro w'
        go_simp
        with_reducible rfl
      rotate_left
      · simp only [Act.put, List.setIfInBounds_toArray, List.set_cons_zero, List.set_cons_succ, i64_w, i32_w]
        rfl
      refine pure_ (i := 8) (N := some 94) (v := ?_) (a' := ?_) #[true, true, true, true, false, true, true, false, true, false, false, false, false, false, false, false, false, false, false, false, false, false] rfl rfl (by kernel_rfl) (fun _ _ _ h => h) (Or.inl ⟨by rfl, ?_⟩) ?_ ?_
      rotate_left
      · intro w'
        go_simp
        with_reducible rfl
      rotate_left
      · simp only [Act.put, List.setIfInBounds_toArray, List.set_cons_zero, List.set_cons_succ, i64_w, i32_w]
        rfl
      refine pure_ (i := 12) (N := some 98) (v := ?_) (a' := ?_) #[true, true, true, true, false, true, true, false, true, false, false, false, true, false, false, false, false, false, false, false, false, false] rfl rfl (by kernel_rfl) (fun _ _ _ h => h) (Or.inl ⟨by rfl, ?_⟩) ?_ ?_
      rotate_left
      · intro w'
        go_simp
        with_reducible rfl
      rotate_left
      · simp only [Act.put, List.setIfInBounds_toArray, List.set_cons_zero, List.set_cons_succ, i64_w, i32_w]
        rfl
      refine pure_ (i := 13) (N := some 99) (v := ?_) (a' := ?_) #[true, true, true, true, false, true, true, false, true, false, false, false, true, true, false, false, false, false, false, false, false, false] rfl rfl (by kernel_rfl) (fun _ _ _ h => h) (Or.inl ⟨by rfl, ?_⟩) ?_ ?_
      rotate_left
      · intro w'
        go_simp
        with_reducible rfl
      rotate_left
      · simp only [Act.put, List.setIfInBounds_toArray, List.set_cons_zero, List.set_cons_succ, i64_w, i32_w]
        rfl
      refine pure_ (i := 14) (N := some 100) (v := ?_) (a' := ?_) #[true, true, true, true, false, true, true, false, true, false, false, false, true, true, true, false, false, false, false, false, false, false] rfl rfl (by kernel_rfl) (fun _ _ _ h => h) (Or.inl ⟨by rfl, ?_⟩) ?_ ?_
      rotate_left
      · intro w'
        go_simp
        with_reducible rfl
      rotate_left
      · simp only [Act.put, List.setIfInBounds_toArray, List.set_cons_zero, List.set_cons_succ, i64_w, i32_w]
        rfl
      refine pure_ (i := 16) (N := some 102) (v := ?_) (a' := ?_) #[true, true, true, true, false, true, true, false, true, false, false, false, true, true, true, false, true, false, false, false, false, false] rfl rfl (by kernel_rfl) (fun _ _ _ h => h) (Or.inl ⟨by rfl, ?_⟩) ?_ ?_
      rotate_left
      · intro w'
        go_simp
        with_reducible rfl
      rotate_left
      · simp only [Act.put, List.setIfInBounds_toArray, List.set_cons_zero, List.set_cons_succ, i64_w, i32_w]
        rfl
      refine take_ (i := 4) (N := some 90) (v := ?_) (a' := ?_) #[true, true, true, true, true, true, true, false, true, false, false, false, true, true, true, false, true, false, false, false, false, false] rfl rfl (by kernel_rfl) (fun _ _ _ h => h) (Or.inl ⟨by rfl, ?_⟩) hHeld ?_ ?_
      rotate_left
      · rintro w' ⟨s0, s1⟩
        go_simp
        with_reducible rfl
      rotate_left
      · simp only [Act.put, List.setIfInBounds_toArray, List.set_cons_zero, List.set_cons_succ, i64_w, i32_w]
        rfl
      refine pure_ (i := 7) (N := some 93) (v := ?_) (a' := ?_) #[true, true, true, true, true, true, true, true, true, false, false, false, true, true, true, false, true, false, false, false, false, false] rfl rfl (by kernel_rfl) (fun _ _ _ h => h) (Or.inl ⟨by rfl, ?_⟩) ?_ ?_
      rotate_left
      · intro w'
        go_simp
        with_reducible rfl
      rotate_left
      · simp only [Act.put, List.setIfInBounds_toArray, List.set_cons_zero, List.set_cons_succ, i64_w, i32_w]
        rfl
      refine take_ (i := 9) (N := some 95) (v := ?_) (a' := ?_) #[true, true, true, true, true, true, true, true, true, true, false, false, true, true, true, false, true, false, false, false, false, false] rfl rfl (by kernel_rfl) (fun _ _ _ h => h) (Or.inl ⟨by rfl, ?_⟩) hHeld ?_ ?_
      rotate_left
      · rintro w' ⟨s0, s1⟩
        go_simp
        with_reducible rfl
      rotate_left
      · simp only [Act.put, List.setIfInBounds_toArray, List.set_cons_zero, List.set_cons_succ, i64_w, i32_w]
        rfl
      refine take_ (i := 15) (N := some 101) (v := ?_) (a' := ?_) #[true, true, true, true, true, true, true, true, true, true, false, false, true, true, true, true, true, false, false, false, false, false] rfl rfl (by kernel_rfl) (fun _ _ _ h => h) (Or.inl ⟨by rfl, ?_⟩) hHeld ?_ ?_
      rotate_left
      · rintro w' ⟨s0, s1⟩
        go_simp
        with_reducible rfl
      rotate_left
      · simp only [Act.put, List.setIfInBounds_toArray, List.set_cons_zero, List.set_cons_succ, i64_w, i32_w]
        rfl
      refine pure_ (i := 17) (N := some 103) (v := ?_) (a' := ?_) #[true, true, true, true, true, true, true, true, true, true, false, false, true, true, true, true, true, true, false, false, false, false] rfl rfl (by kernel_rfl) (fun _ _ _ h => h) (Or.inl ⟨by rfl, ?_⟩) ?_ ?_
      rotate_left
      · intro w'
        go_simp
        with_reducible rfl
      rotate_left
      · simp only [Act.put, List.setIfInBounds_toArray, List.set_cons_zero, List.set_cons_succ, i64_w, i32_w]
        rfl
      refine one_ (i := 10) (N := some 96) #[true, true, true, true, true, true, true, true, true, true, true, false, true, true, true, true, true, true, false, false, false, false] rfl rfl (by kernel_rfl) (by decide) (fun K hK => ?_)
      refine value_ (w1 := ?_) (v := ?_) (by rfl) rfl ?_ ?_
      rotate_left 2
      · go_simp
        constructor
        · rfl
        · rfl
      have hB1 := hBd9.alloc hBd9.size (.cells #[.int .i64 h.f3] 3)
      have hone := (Go.MapKept.heap_alloc w12.drew.drew (.cells #[.int .i64 h.f3] 3)).1
      refine hK.out _ _ ⟨(HS8.out _ hB1).1, (HS8.out _ hB1).2⟩ (fun hHeld => ?_)
      clear hK K
      refine norm_ (a' := ?_) ?_ ?_
      rotate_left
      · show Act.put _ (some 96) _ = _
        simp only [Act.put, List.setIfInBounds_toArray, List.set_cons_zero, List.set_cons_succ, i64_w, i32_w]
        rfl
      refine one_ (i := 11) (N := some 97) #[true, true, true, true, true, true, true, true, true, true, true, true, true, true, true, true, true, true, false, false, false, false] rfl rfl (by kernel_rfl) (by decide) (fun K hK => ?_)
      refine step_append_full (by rfl) (.tmp 93) (.tmp 96) 53 (by rfl) 3 i1 _ 1 8 Tryd.underlying53 hj0 hj1 hj2 hj3 rfl _ P (intVs (s.ch.take P)) (by rfl) (by simp [intVs, List.length_take, Nat.min_eq_left hPl]) (fun j u hu => TAKE.out _ hB1 j u hu) hnone _ 1 1 [.int .i64 h.f3] (by rfl) rfl (fun j u hu => World.news_of_block hone j u hu) (by omega) (by unfold maxLen; omega) (by omega) ?_
      intro c28 w28 own28 hb28
      have hB2 := hB1.trans (hb28.mono hB1.size)
      refine hK.out _ _ ⟨(HS8.out _ hB2).1, (HS8.out _ hB2).2⟩ (fun hHeld => ?_)
      clear hK K
      refine norm_ (a' := ?_) ?_ ?_
      rotate_left
      · show Act.put _ (some 97) _ = _
        simp only [Act.put, List.setIfInBounds_toArray, List.set_cons_zero, List.set_cons_succ, i64_w, i32_w]
        rfl
      refine one_ (i := 18) (N := some 104) #[true, true, true, true, true, true, true, true, true, true, true, true, true, true, true, true, true, true, true, false, false, false] rfl rfl (by kernel_rfl) (by decide) (fun K hK => ?_)
      refine step_append_any (by rfl) (.tmp 97) (.tmp 103) 53 (by rfl) w12.heap.size 3 i1 _ 1 8 Tryd.underlying53 hj0 hj1 hj2 hj3 rfl (by omega) _ (P + 1) (intVs (s.ch.take P) ++ [.int .i64 h.f3]) (by rfl) (own_lower_ own28 hB1.size) _ (s.ch.length - P) _ (intVs (s.ch.drop P)) (by rfl) (by simp [intVs]) (fun j u hu => DROP.out _ hB2 j u hu) (ints_one _) (by unfold maxLen; omega) (by omega) hB2.size ?_
      intro v32 w32 own32 gr32 fr32
      have hB3 := pw_below_grown hB2 _ hB2.size gr32 (own_base (own_lower_ own28 hB1.size))
      obtain ⟨A32, c32, hv32, _⟩ := own_form own32
      subst hv32
      refine hK.out _ _ ⟨(HS8.out _ hB3).1, (HS8.out _ hB3).2⟩ (fun hHeld => ?_)
      clear hK K
      refine norm_ (a' := ?_) ?_ ?_
      rotate_left
      · show Act.put _ (some 104) _ = _
        simp only [Act.put, List.setIfInBounds_toArray, List.set_cons_zero, List.set_cons_succ, i64_w, i32_w]
        rfl
      refine pure_ (i := 19) (N := some 105) (v := ?_) (a' := ?_) #[true, true, true, true, true, true, true, true, true, true, true, true, true, true, true, true, true, true, true, true, false, false] rfl rfl (by kernel_rfl) (fun _ _ _ h => h) (Or.inl ⟨by rfl, ?_⟩) ?_ ?_
      rotate_left
      · intro w'
        go_simp
        with_reducible rfl
      rotate_left
      · simp only [Act.put, List.setIfInBounds_toArray, List.set_cons_zero, List.set_cons_succ, i64_w, i32_w]
        rfl
      refine pure_ (i := 20) (N := some 106) (v := ?_) (a' := ?_) #[true, true, true, true, true, true, true, true, true, true, true, true, true, true, true, true, true, true, true, true, true, false] rfl rfl (by kernel_rfl) (fun _ _ _ h => h) (Or.inl ⟨by rfl, ?_⟩) ?_ ?_
      rotate_left
      · intro w'
        go_simp
        with_reducible rfl
      rotate_left
      · simp only [Act.put, List.setIfInBounds_toArray, List.set_cons_zero, List.set_cons_succ, i64_w, i32_w]
        rfl
      refine last_ (i := 21) (N := none) #[true, true, true, true, true, true, true, true, true, true, true, true, true, true, true, true, true, true, true, true, true, true] rfl rfl (by kernel_rfl) (by decide) (fun K hK => ?_)
      have e2 := (HS8.out _ hB3).1
      have f2 := blk_frozen (HG12.out.below hB3).blk 3
      refine skip_ (w1 := ?_) (by rfl) rfl ?_ ?_
      rotate_left
      · go_simp
        rfl
      refine hK.out _ _ ?_
      clear hK K
      refine done_ (by kernel_rfl) ?_
      go_wp2
      refine bodyPost_end (v := .tuple #[]) (by simp [results, Tryd.results18, go_sem]) rfl ⟨rfl, HFIN.out _ _ _ _ hB3 own32⟩
end
end Go.Proofs.YtikdiepcfdimgaaDoor.POw
namespace Go.Proofs.YtikdiepcfdimgaaDoor.POw
open Go.RowKit Go.Lib Go.Proofs.YtikdiepcfdimgaaDoorW.PrintWords Go.Proofs.YtikdiepcfdimgaaDoorW.PrintLast Go.Proofs.YtikdiepcfdimgaaDoorW.PrintMore
structure GrN (n : Nat) (s : Gr) : Prop where
  ows : ∀ x, ∀ o ∈ s.owL x, o.size ≤ 100
  owl : ∀ x, (s.owL x).length ≤ n
  owo : ∀ x, (s.owL x).Pairwise (fun a b => sLt a b = true)
  shl : ∀ k, (s.shL k).length ≤ n
  sho : ∀ k, (s.shL k).Pairwise (fun a b => a.f3 < b.f3)
  ens : ∀ o ∈ s.en, o.size ≤ 100
  enl : s.en.length ≤ 2 * n
  eno : s.en.Pairwise (fun a b => sLt a b = true)
  chl : s.ch.length ≤ n
  cho : s.ch.Pairwise (fun a b => iLt a b = true)
theorem GrN.ok {n : Nat} {s : Gr} (h : GrN n s) (hn : n ≤ 400) : GrOk s where
  ows x o ho := by have := h.ows x o ho; omega
  owl x := by have := h.owl x; omega
  owo := h.owo
  shl k := by have := h.shl k; omega
  sho := h.sho
  ens o ho := by have := h.ens o ho; omega
  enl := by have := h.enl; omega
  eno := h.eno
  chl := by have := h.chl; omega
  cho := h.cho
def gr0 : Gr := ⟨fun _ => none, fun _ => none, [], []⟩
theorem GrN.start : GrN 0 gr0 where
  ows x o ho := by simp [gr0, Gr.owL] at ho
  owl x := by simp [gr0, Gr.owL]
  owo x := by simp [gr0, Gr.owL]
  shl k := by simp [gr0, Gr.shL]
  sho k := by simp [gr0, Gr.shL]
  ens o ho := by simp [gr0] at ho
  enl := by simp [gr0]
  eno := by simp [gr0]
  chl := by simp [gr0]
  cho := by simp [gr0]
theorem insH_length (l : List Hold) (h : Hold) : (insH l h).length = l.length + 1 := by rw [(insH_perm l h).length_eq]; simp
theorem GrN.add {n : Nat} {s : Gr} (g : GrN n s) {h : Hold} (h0 : h.f0.size ≤ 100) (h1 : h.f1.size ≤ 100) (hf : ∀ x ∈ s.shL h.pr, x.f3 ≠ h.f3) : GrN (n + 1) (addG s h) where
  ows x o ho := by
    rw [addG_owL] at ho
    by_cases hx : x = h.f1
    · rw [if_pos hx] at ho
      rcases (withG_mem _ _ _).1 ho with rfl | ho
      · exact h0
      · exact g.ows _ o ho
    · rw [if_neg hx] at ho; exact g.ows _ o ho
  owl x := by
    rw [addG_owL]
    by_cases hx : x = h.f1
    · rw [if_pos hx]; have := withG_length (lt := sLt) (s.owL h.f1) h.f0; have := g.owl h.f1; omega
    · rw [if_neg hx]; have := g.owl x; omega
  owo x := by
    rw [addG_owL]
    by_cases hx : x = h.f1
    · rw [if_pos hx]; exact withG_sorted sO _ (g.owo _)
    · rw [if_neg hx]; exact g.owo x
  shl k := by
    rw [addG_shL]
    by_cases hx : k = h.pr
    · rw [if_pos hx, insH_length]; have := g.shl h.pr; omega
    · rw [if_neg hx]; have := g.shl k; omega
  sho k := by
    rw [addG_shL]
    by_cases hx : k = h.pr
    · rw [if_pos hx]; exact insH_sorted (g.sho _) hf
    · rw [if_neg hx]; exact g.sho k
  ens o ho := by
    rcases (withG_mem _ _ _).1 ho with rfl | ho
    · exact h1
    · rcases (withG_mem _ _ _).1 ho with rfl | ho
      · exact h0
      · exact g.ens o ho
  enl := by
    have a := withG_length (lt := sLt) s.en h.f0
    have b := withG_length (lt := sLt) (withG sLt s.en h.f0) h.f1
    have c := g.enl
    show (withG sLt (withG sLt s.en h.f0) h.f1).length ≤ 2 * (n + 1)
    omega
  eno := withG_sorted sO _ (withG_sorted sO _ g.eno)
  chl := by
    have a := withG_length (lt := iLt) s.ch h.f3
    have c := g.chl
    show (withG iLt s.ch h.f3).length ≤ n + 1
    omega
  cho := withG_sorted iO _ g.cho
theorem refused_zero {k : Nat} {s : Gr} {h : Hold} (hr : refusedF k s h = some 0) : wcodeB h.f0 = true ∧ wcodeB h.f1 = true ∧ fitH h = true ∧ isDay h.f3 = true ∧ (∀ x ∈ s.shL h.pr, x.f3 ≠ h.f3) ∧ h.f0 ≠ h.f1 ∧ ownsF k s h.f1 h.f0 = some false := by
  unfold refusedF at hr
  by_cases c0 : wcodeB h.f0 = true
  · rw [if_pos c0] at hr
    by_cases c1 : wcodeB h.f1 = true
    · rw [if_pos c1] at hr
      by_cases c2 : fitH h = true
      · rw [if_pos c2] at hr
        by_cases c3 : isDay h.f3 = true
        · rw [if_pos c3] at hr
          by_cases c4 : (s.shL (h.f0, h.f1)).any (fun x => decide (x.f3 = h.f3)) = true
          · rw [if_pos c4] at hr; cases hr
          · rw [if_neg c4] at hr
            by_cases c5 : h.f0 = h.f1
            · rw [if_pos c5] at hr; cases hr
            · rw [if_neg c5] at hr
              obtain ⟨b, hb, hr⟩ := Option.bind_eq_some_iff.1 hr
              refine ⟨c0, c1, c2, c3, fun x hx he => c4 (List.any_eq_true.2 ⟨x, hx, by simp [he]⟩), c5, ?_⟩
              cases b with
              | true => simp at hr
              | false => exact hb
        · rw [if_neg c3] at hr; cases hr
      · rw [if_neg c2] at hr; cases hr
    · rw [if_neg c1] at hr; cases hr
  · rw [if_neg c0] at hr; cases hr
theorem addr_of_cell' {w : World} {ad : Addr} {v : Value} (h : w.cell? (ad.add 0) = some v) : ∃ b o, ad = ⟨b, o, none⟩ := by
  obtain ⟨b, o, s⟩ := ad
  cases s with
  | none => exact ⟨b, o, rfl⟩
  | some z =>
    exfalso
    simp [World.cell?, Addr.add] at h
    split at h <;> cases h
theorem holds_at {w : World} {A : Option Addr} {n : Nat} {xs : List Hold} (h : Kd.C k41 w A n xs) : ∀ i (hi : i < xs.length), ∃ b o, A = some ⟨b, o, none⟩ ∧ b < w.heap.size ∧
    w.cell? ⟨b, o + i * 5, none⟩ = some (.string xs[i].f0) ∧ w.cell? ⟨b, o + i * 5 + 1, none⟩ = some (.string xs[i].f1) ∧ w.cell? ⟨b, o + i * 5 + 2, none⟩ = some (.int .i64 xs[i].f2.f0) ∧ w.cell? ⟨b, o + i * 5 + 3, none⟩ = some (.int .i64 xs[i].f2.f1) ∧ w.cell? ⟨b, o + i * 5 + 4, none⟩ = some (.int .i64 xs[i].f3) := by
  intro i hi
  obtain ⟨hl, _, hc⟩ := h
  obtain ⟨ad, rfl, hcell⟩ := hc (by omega)
  obtain ⟨c, hcl, hK, hu⟩ := hcell i xs[i] (List.getElem?_eq_getElem hi)
  have hK' := k41_open hK
  subst hK'
  have hp : 0 < xs.length := by omega
  obtain ⟨x0, hx0⟩ : ∃ x0, xs[0]'hp = x0 := ⟨_, rfl⟩
  obtain ⟨c0, _, hK0, hu0⟩ := hcell 0 x0 (by rw [← hx0]; exact List.getElem?_eq_getElem hp)
  have hK0' := k41_open hK0
  subst hK0'
  have h0 := hu0 0 _ rfl
  rw [Nat.zero_mul, Nat.zero_add] at h0
  obtain ⟨b, o, hbo⟩ := addr_of_cell' h0
  have hadd : ∃ b o, ad = ⟨b, o, none⟩ := by
    obtain ⟨b1, o1, sp⟩ := ad
    cases sp with
    | none => exact ⟨b1, o1, rfl⟩
    | some s => simp [Addr.add] at hbo
  obtain ⟨b, o, rfl⟩ := hadd
  have e : ∀ j, (⟨b, o, none⟩ : Addr).add (i * 5 + j) = ⟨b, o + i * 5 + j, none⟩ := fun j => by rw [Addr.add_lit]; congr 1; omega
  have f : ∀ j u, [Value.string xs[i].f0, .string xs[i].f1, .int .i64 xs[i].f2.f0, .int .i64 xs[i].f2.f1, .int .i64 xs[i].f3][j]? = some u → w.cell? ⟨b, o + i * 5 + j, none⟩ = some u := fun j u hj => by rw [← e]; exact hu j u hj
  have h2 := f 0 _ rfl
  exact ⟨b, o, rfl, World.block_lt_of_cell? w _ h2, h2, f 1 _ rfl, f 2 _ rfl, f 3 _ rfl, f 4 _ rfl⟩
def newL (k : Nat) : List Hold → Nat → Gr → Option (Sum (Nat × Int) Gr)
  | [], _, s => some (.inr s)
  | h :: l, i, s => (refusedF k s h).bind fun e => if e = 0 then newL k l (i + 1) (addG s h) else some (.inl (i, e))
def overE (k : Nat) (s : Gr) (day : Int) : List ByteArray → Option Bool
  | [] => some false
  | x :: xs => (sumF k (fun _ => true) s x day).bind fun st => (owners_sum_exceeds.f k st.1 st.2 1 1).bind fun b => if b = true then some true else overE k s day xs
def overD (k : Nat) (s : Gr) : List Int → Option Bool
  | [] => some false
  | d :: ds => (overE k s d s.en).bind fun b => if b = true then some true else overD k s ds
def newF (k : Nat) (l : List Hold) : Option (Int × Int × Option Gr) :=
  if l.length > 200 then some (0, 9, none) else (newL k l 0 gr0).bind fun r => match r with
    | .inl (i, e) => some ((i : Int), e, none)
    | .inr s => (overD k s s.ch).bind fun b => if b = true then some (0, 4, none) else some (0, 0, some s)
end Go.Proofs.YtikdiepcfdimgaaDoor.POw
namespace Go.Proofs.YtikdiepcfdimgaaDoor.POw
open Go.RowKit Go.Lib Go.Proofs.YtikdiepcfdimgaaDoorW.PrintWords Go.Proofs.YtikdiepcfdimgaaDoorW.PrintLast Go.Proofs.YtikdiepcfdimgaaDoorW.PrintMore
theorem strs_C {w : World} {B : Nat} {v : Value} {l : List ByteArray} (h : w.ownsRow B 9 1 v l.length (strs l)) : ∃ A c, v = .slice A l.length c ∧ l.length ≤ c ∧ Kd.C Kd.string w A l.length l :=
  Kd.R_reads (ok := fun _ => True) (e := 9) (base := B) (Kd.R_of_own (enc := Value.string) h (fun _ _ => trivial))
def entL (l : List Hold) (L : List ByteArray) : List ByteArray := l.foldl (fun L h => withG sLt (withG sLt L h.f0) h.f1) L
end Go.Proofs.YtikdiepcfdimgaaDoor.POw
namespace Go.Proofs.YtikdiepcfdimgaaDoor.POw
open Go.RowKit Go.Proofs.YtikdiepcfdimgaaDoorW.PrintWords Go.Proofs.YtikdiepcfdimgaaDoorW.PrintLast Go.Proofs.YtikdiepcfdimgaaDoorW.PrintMore
def grOf (l : List Hold) (s : Gr) : Gr := l.foldl addG s
theorem mem_shL (q : Hold) (k : Pr) : ∀ (l : List Hold) (s : Gr), q ∈ (grOf l s).shL k ↔ q ∈ s.shL k ∨ (q ∈ l ∧ q.pr = k)
  | [], s => by simp [grOf]
  | y :: l, s => by
    show q ∈ (grOf l (addG s y)).shL k ↔ _
    rw [mem_shL q k l, addG_shL]
    simp only [List.mem_cons]
    by_cases hx : k = y.pr
    · subst hx
      rw [if_pos rfl, (insH_perm _ _).mem_iff, List.mem_append, List.mem_singleton]
      constructor
      · rintro ((h | h) | h)
        · exact .inl h
        · subst h; exact .inr ⟨.inl rfl, rfl⟩
        · exact .inr ⟨.inr h.1, h.2⟩
      · rintro (h | ⟨h | h, h2⟩)
        · exact .inl (.inl h)
        · exact .inl (.inr h)
        · exact .inr ⟨h, h2⟩
    · rw [if_neg hx]
      constructor
      · rintro (h | h)
        · exact .inl h
        · exact .inr ⟨.inr h.1, h.2⟩
      · rintro (h | ⟨h | h, h2⟩)
        · exact .inl h
        · subst h; exact absurd h2.symm hx
        · exact .inr ⟨h, h2⟩
theorem mem_ch (d : Int) : ∀ (l : List Hold) (s : Gr), d ∈ (grOf l s).ch ↔ d ∈ s.ch ∨ ∃ h ∈ l, d = h.f3
  | [], s => by simp [grOf]
  | y :: l, s => by
    show d ∈ (grOf l (addG s y)).ch ↔ _
    rw [mem_ch d l, show (addG s y).ch = withG iLt s.ch y.f3 from rfl, withG_mem]
    simp only [List.mem_cons]
    constructor
    · rintro ((h | h) | ⟨z, hz, h⟩)
      · exact .inr ⟨y, .inl rfl, h⟩
      · exact .inl h
      · exact .inr ⟨z, .inr hz, h⟩
    · rintro (h | ⟨z, rfl | hz, h⟩)
      · exact .inl (.inr h)
      · exact .inl (.inl h)
      · exact .inr ⟨z, hz, h⟩
def ShareIs (P : Hold → Prop) (day : Int) (f : Frc) : Prop := (f = ⟨0, 1⟩ ∧ ∀ h, P h → day < h.f3) ∨ ∃ h, P h ∧ h.f3 ≤ day ∧ (∀ q, P q → q.f3 ≤ day → q.f3 ≤ h.f3) ∧ f = h.f2
theorem ShareIs.unique {P : Hold → Prop} {day : Int} {f g : Frc} (hP : ∀ a b, P a → P b → a.f3 = b.f3 → a = b) (h1 : ShareIs P day f) (h2 : ShareIs P day g) : f = g := by
  rcases h1 with ⟨rfl, h1⟩ | ⟨a, pa, la, ma, rfl⟩
  · rcases h2 with ⟨rfl, _⟩ | ⟨b, pb, lb, _, _⟩
    · rfl
    · have := h1 b pb; omega
  · rcases h2 with ⟨rfl, h2⟩ | ⟨b, pb, lb, mb, rfl⟩
    · have := h2 a pa; omega
    · have h3 := ma b pb lb
      have h4 := mb a pa la
      rw [hP a b pa pb (by omega)]
theorem shareL_is : ∀ (l : List Hold) (day : Int), l.Pairwise (fun a b => a.f3 < b.f3) → ShareIs (fun h => h ∈ l) day (shareL l day) := by
  intro l day
  suffices H : ∀ r : List Hold, r.reverse.Pairwise (fun a b => a.f3 < b.f3) → ShareIs (fun h => h ∈ r.reverse) day (shareL r.reverse day) by
    intro h
    have := H l.reverse (by rw [List.reverse_reverse]; exact h)
    rw [List.reverse_reverse] at this
    exact this
  intro r
  induction r with
  | nil => intro _; exact .inl ⟨rfl, fun h hh => by simp at hh⟩
  | cons x r ih =>
    intro h
    rw [List.reverse_cons] at h ⊢
    have h' := (List.pairwise_append.1 h)
    rw [shareL_snoc]
    by_cases c : x.f3 ≤ day
    · rw [if_pos c]
      refine .inr ⟨x, by simp, c, fun q hq _ => ?_, rfl⟩
      rcases List.mem_append.1 hq with hq | hq
      · have := h'.2.2 q hq x (by simp); omega
      · rw [List.mem_singleton.1 hq]; omega
    · rw [if_neg c]
      rcases ih h'.1 with ⟨e, h1⟩ | ⟨a, pa, la, ma, e⟩
      · refine .inl ⟨e, fun q hq => ?_⟩
        rcases List.mem_append.1 hq with hq | hq
        · exact h1 q hq
        · rw [List.mem_singleton.1 hq]; omega
      · refine .inr ⟨a, List.mem_append_left _ pa, la, fun q hq hle => ?_, e⟩
        rcases List.mem_append.1 hq with hq | hq
        · exact ma q hq hle
        · rw [List.mem_singleton.1 hq] at hle; omega
end Go.Proofs.YtikdiepcfdimgaaDoor.POw
namespace Go.Proofs.YtikdiepcfdimgaaDoor.POw
open Go.RowKit Go.Proofs.YtikdiepcfdimgaaDoorW.PrintWords Go.Proofs.YtikdiepcfdimgaaDoorW.PrintLast Go.Proofs.YtikdiepcfdimgaaDoorW.PrintMore
theorem Ev.step {α : Type} {F H : Nat → Option α} {r : α} (e : ∀ k, F (k + 1) = H k) (h : Ev H r) : Ev F r := Ev.succ (h.congr e)
end Go.Proofs.YtikdiepcfdimgaaDoor.POw
namespace Go.Proofs.YtikdiepcfdimgaaDoor.POw
open Go.RowKit Go.Lib Go.Proofs.YtikdiepcfdimgaaDoorW.PrintWords Go.Proofs.YtikdiepcfdimgaaDoorW.PrintLast Go.Proofs.YtikdiepcfdimgaaDoorW.PrintMore
theorem GrAt.start (w : World) : GrAt (((w.alloc (.map #[] 0)).alloc (.map #[] 0)).alloc (.cells #[.map (some w.heap.size), .map (some (w.heap.size + 1)), .slice none 0 0, .slice none 0 0] 55)) w.heap.size (w.heap.size + 1 + 1) w.heap.size (w.heap.size + 1) (fun _ => .slice none 0 0) (fun _ => .slice none 0 0) (.slice none 0 0) (.slice none 0 0) gr0 := by
  have hm1 := MapAt.made Tryd.prog 58 encP w
  have hm2 := MapAt.made Tryd.prog 9 encS (w.alloc (.map #[] 0))
  rw [World.size_alloc] at hm2
  have hb2 := (Below.refl _ (w.alloc (.map #[] 0))).alloc (Nat.le_refl _) (.map #[] 0)
  have hb3 := (Below.refl _ ((w.alloc (.map #[] 0)).alloc (.map #[] 0))).alloc (Nat.le_refl _) (.cells #[.map (some w.heap.size), .map (some (w.heap.size + 1)), .slice none 0 0, .slice none 0 0] 55)
  refine ⟨?_, by omega, Nat.le_refl _, by omega, (hm1.below hb2).below hb3, hm2.below hb3, (fun k l h => by cases h), (fun k k' l l' h => by cases h), (fun x l h => by cases h), World.ownsRow_nil _ _ _ _, World.ownsRow_nil _ _ _ _⟩
  have := (Go.MapKept.heap_alloc ((w.alloc (.map #[] 0)).alloc (.map #[] 0)) (.cells #[.map (some w.heap.size), .map (some (w.heap.size + 1)), .slice none 0 0, .slice none 0 0] 55)).1
  rw [World.size_alloc, World.size_alloc] at this
  exact this
def NewPost (w w' : World) (p : Value) (og : Option Gr) : Prop := match og with
  | none => p = .pointer none
  | some s => ∃ g m1 m2 V U vE vC, p = .pointer (some ⟨g, 0, none⟩) ∧ m1 ≠ m2 ∧ GrAt w' w.heap.size g m1 m2 V U vE vC s
theorem newL_ok {k : Nat} : ∀ {l : List Hold} {i : Nat} {s s' : Gr}, (∀ h ∈ l, h.f0.size ≤ 100 ∧ h.f1.size ≤ 100) → newL k l i s = some (.inr s') → GrN i s → GrN (i + l.length) s'
  | [], i, s, s', _, h, g => by
    simp only [newL, Option.some.injEq, Sum.inr.injEq] at h
    subst h
    simpa using g
  | a :: l, i, s, s', hs, h, g => by
    simp only [newL] at h
    obtain ⟨e, he, h⟩ := Option.bind_eq_some_iff.1 h
    by_cases h0 : e = 0
    · subst h0
      rw [if_pos rfl] at h
      obtain ⟨_, _, _, _, hf, _⟩ := refused_zero he
      have ha := hs a (List.mem_cons_self ..)
      have := newL_ok (fun b hb => hs b (List.mem_cons_of_mem _ hb)) h (g.add ha.1 ha.2 hf)
      rw [List.length_cons]
      have e1 : i + (l.length + 1) = i + 1 + l.length := by omega
      rw [e1]; exact this
    · rw [if_neg h0] at h; cases h
set_option maxRecDepth 100000 in
set_option maxHeartbeats 8000000 in
theorem go_New (kf : Nat) (A0 : Option Addr) (c0 : Nat) (l : List Hold) (a e : Int) (og : Option Gr) (w : World) (hC : Kd.C k41 w A0 l.length l) (hsz : l.length ≤ 200 → ∀ h ∈ l, h.f0.size ≤ 100 ∧ h.f1.size ≤ 100 ∧ inI h.f2.f0 ∧ inI h.f2.f1) (hL : DaysLaid w) (hF : newF kf l = some (a, e, og)) :
    Calls Tryd.prog 11 #[.slice A0 l.length c0] w fun r w' => ∃ p, r = .returned (.tuple #[p, .int .i64 a, .int .i64 e]) ∧ NewPost w w' p og ∧ Below w.heap.size w w' := by
  have HC := Lib.hid hC; have HL := Lib.hid hL
  clear hC hL
  unfold newF at hF
  by_cases hbig : l.length > 200
  · rw [if_pos hbig] at hF
    cases hF
    have hb : (200 : Int) < (l.length : Int) := by omega
    clear hsz
    go_enter Tryd.func11, Tryd.ntmps11
    go_wp2
    go_ret3
    exact ⟨_, rfl, rfl, Below.refl _ _⟩
  · rw [if_neg hbig] at hF
    have hb : ¬ (200 : Int) < (l.length : Int) := by omega
    have hbb : decide ((200 : Int) < (l.length : Int)) = false := decide_eq_false hb
    have hln : l.length ≤ 200 := by omega
    have HSZ := Lib.hid (hsz hln)
    obtain ⟨F1, hF1⟩ : ∃ F1 : Sum (Nat × Int) Gr → Option (Int × Int × Option Gr), (fun r => match r with
      | .inl (i, e) => some ((i : Int), e, none)
      | .inr s => (overD kf s s.ch).bind fun b => if b = true then some (0, 4, none) else some (0, 0, some s)) = F1 := ⟨_, rfl⟩
    have HF0 := Lib.hid (show (newL kf l 0 gr0).bind F1 = some (a, e, og) by rw [← hF1]; exact hF)
    have HFL := Lib.hid (show ∀ i e, F1 (.inl (i, e)) = some ((i : Int), e, none) by intro i e; rw [← hF1])
    have HFR := Lib.hid (show ∀ s, F1 (.inr s) = (overD kf s s.ch).bind fun b => if b = true then some (0, 4, none) else some (0, 0, some s) by intro s; rw [← hF1])
    have hg0 := GrAt.start w
    have hb0 : Below w.heap.size w (((w.alloc (.map #[] 0)).alloc (.map #[] 0)).alloc (.cells #[.map (some w.heap.size), .map (some (w.heap.size + 1)), .slice none 0 0, .slice none 0 0] 55)) := (((Below.refl _ w).alloc (Nat.le_refl _) _).alloc (by simp) _).alloc (by simp; omega) _
    have HG0 := Lib.hid hg0; have HB0 := Lib.hid hb0
    have hmm := @run_makeMap Tryd.prog
    clear hF hF1 hsz hbig hg0 hb0 hb
    go_enter Tryd.func11, Tryd.ntmps11
    go_upto_region 4 with fail
    obtain ⟨w1, hw1⟩ : ∃ W, ((w.alloc (.map #[] 0)).alloc (.map #[] 0)).alloc (.cells #[.map (some w.heap.size), .map (some (w.heap.size + 1)), .slice none 0 0, .slice none 0 0] 55) = W := ⟨_, rfl⟩
    obtain ⟨g, hg⟩ : ∃ g, w.heap.size + 1 + 1 = g := ⟨_, rfl⟩
    obtain ⟨m1, hm1⟩ : ∃ m, w.heap.size = m := ⟨_, rfl⟩
    obtain ⟨m2, hm2⟩ : ∃ m, w.heap.size + 1 = m := ⟨_, rfl⟩
    have hdif : m1 ≠ m2 := by omega
    obtain ⟨B, hB⟩ : ∃ B, w.heap.size = B := ⟨_, rfl⟩
    have HG1 := Lib.hid (show GrAt w1 B g m1 m2 (fun _ => .slice none 0 0) (fun _ => .slice none 0 0) (.slice none 0 0) (.slice none 0 0) gr0 by have := HG0.out; rw [hw1, hg, hm2] at this; rw [← hm1, ← hB]; exact this)
    have HB1 := Lib.hid (show Below B w w1 by rw [← hw1, ← hB]; exact HB0.out)
    have HBB := Lib.hid hB
    rw [hw1, hg]
    have e1 : ∀ (P : Nat → Prop), P w.heap.size → P m1 := fun P h => hm1 ▸ h
    clear hw1 hg hm1 hm2 hmm HG0 HB0 e1 hB
    go_wp2
    go_loopg [2, 22] l.length (fun n t2 t wr => t2 = .pointer (some ⟨g, 0, none⟩) ∧ ∃ (i : Nat) (s : Gr) (V : Pr → Value) (U : ByteArray → Value) (vE vC : Value), n = l.length - i ∧ i ≤ l.length ∧ t = .int .i64 i ∧ Below B w wr ∧ Hid (GrAt wr B g m1 m2 V U vE vC s) ∧ Hid (GrN i s) ∧ Hid ((newL kf (l.drop i) i s).bind F1 = some (a, e, og)))
    case atStart => exact ⟨rfl, 0, gr0, _, _, _, _, rfl, Nat.zero_le _, rfl, HB1.out, HG1, Lib.hid GrN.start, by rw [List.drop_zero]; exact HF0⟩
    case round =>
      obtain ⟨rfl, i, s, V, U, vE, vC, rfl, hi, rfl, hbr, HG, HN, HR⟩ := hrel
      have hbw : Below w.heap.size w wr := by rw [HBB.out]; exact hbr
      by_cases hlt : i < l.length
      · obtain ⟨b, o, rfl, hbl, q0, q1, q2, q3, q4⟩ := holds_at (Kd.C_below HC.out hbw) i hlt
        obtain ⟨h, hh⟩ : ∃ h, l[i] = h := ⟨_, rfl⟩
        have hsz := HSZ.out h (hh ▸ List.getElem_mem hlt)
        have hR := HR.out
        rw [List.drop_eq_getElem_cons hlt, hh] at hR
        rw [hh] at q0 q1 q2 q3 q4
        simp only [newL] at hR
        clear hh HR
        obtain ⟨x, hx, hR⟩ := Option.bind_eq_some_iff.1 hR
        obtain ⟨er, her, hx⟩ := Option.bind_eq_some_iff.1 hx
        have hba : Below wr.heap.size wr (wr.alloc (.cells #[.string h.f0, .string h.f1, .int .i64 h.f2.f0, .int .i64 h.f2.f1, .int .i64 h.f3] 41)) := (Below.refl _ _).alloc (Nat.le_refl _) _
        have hbx := HBox.made wr h
        have HRF := Lib.hid (go_refused (HG.out.below hba) (HN.out.ok (by omega)) kf h er hsz.1 hsz.2.1 hsz.2.2.1 hsz.2.2.2 (HL.out.below (hbw.trans (hba.mono hbw.size))) her)
        have hbB : B ≤ wr.heap.size := Nat.le_trans HG.out.hg (Nat.le_of_lt HG.out.lt)
        have hii : (i : Int) < (l.length : Int) := by omega
        by_cases he : er = 0
        · subst he
          obtain ⟨_, _, _, _, hfr, _⟩ := refused_zero her
          have HFR2 := Lib.hid hfr
          rw [if_pos rfl] at hx
          have HR2 := Lib.hid (show (newL kf (l.drop (i + 1)) (i + 1) (addG s h)).bind F1 = some (a, e, og) by rw [hx]; exact hR)
          have HBX := Lib.hid hbx; have HBA := Lib.hid hba; have HQZ := Lib.hid hsz
          have HQ9 := Lib.hid (show (∀ k, (s.shL k).length ≤ 900) ∧ (∀ x, (s.owL x).length ≤ 900) ∧ s.en.length ≤ 900 ∧ s.ch.length ≤ 900 from ⟨fun k => by have := HN.out.shl k; omega, fun x => by have := HN.out.owl x; omega, by have := HN.out.enl; omega, by have := HN.out.chl; omega⟩)
          clear hx hR her hfr hbx hba hsz
          go_wp2_with (first
            | (go_at_call 17; refine HRF.out.mono ?_; rintro e_ w3 ⟨rfl, hb3⟩; have HBX3 := Lib.hid (HBX.out.below hb3); obtain ⟨k0, k1, k2, k3, k4⟩ := HBX3.out.facts; have HG3 := Lib.hid ((HG.out.below HBA.out).below hb3); have HB3 := Lib.hid (hbr.trans ((HBA.out.trans (hb3.mono HBA.out.size)).mono hbB)); have HADD := Lib.hid (go_add HG3.out (HN.out.ok (by omega)) hdif (Nat.le_trans HG3.out.hg (Nat.le_of_lt HG3.out.lt)) h HQZ.out.1 HQZ.out.2.1 HQ9.out.1 HQ9.out.2.1 HQ9.out.2.2.1 HQ9.out.2.2.2 HFR2.out); clear hb3)
            | (go_at_call 18; refine HADD.out.mono ?_; rintro e_ w4 ⟨rfl, hP4⟩; have HP4 := Lib.hid hP4; clear hP4))
          go_roundg (l.length - (i + 1))
          case measure => omega
          case rel =>
            obtain ⟨V', U', vE', vC', hG4, hB4⟩ := HP4.out
            exact ⟨rfl, i + 1, addG s h, V', U', vE', vC', rfl, by omega, by go_num, HB3.out.trans hB4, Lib.hid hG4, Lib.hid (HN.out.add HQZ.out.1 HQZ.out.2.1 HFR2.out), HR2⟩
        · rw [if_neg he] at hx
          have hneb : (er == 0) = false := by simp [he]
          have hneb2 : (er != 0) = true := by simp [he]
          cases hx
          rw [HFL.out] at hR
          injection hR with hR; injection hR with hR1 hR2; injection hR2 with hR2 hR3
          have HT := Lib.hid (And.intro hR1 (And.intro hR2 hR3))
          have HBA := Lib.hid hba
          clear hR1 hR2 hR3 her hbx hba hsz he
          go_wp2_with (go_at_call 17; refine HRF.out.mono ?_; rintro e_ w3 ⟨rfl, hb3⟩)
          go_ret3
          obtain ⟨t1, t2, t3⟩ := HT.out
          refine ⟨.pointer none, by rw [← t1, ← t2]; rfl, ?_, by rw [HBB.out]; exact hbr.trans ((HBA.out.trans (hb3.mono HBA.out.size)).mono hbB)⟩
          rw [← t3]; rfl
      · have hie : i = l.length := by omega
        subst hie
        have hR := HR.out
        rw [List.drop_length] at hR
        simp only [newL, Option.bind_some] at hR
        rw [HFR.out] at hR
        have HR2 := Lib.hid hR
        clear hR HR HF0 HFL HFR HC
        obtain ⟨F2, hF2⟩ : ∃ F2 : Bool → Option (Int × Int × Option Gr), (fun b => if b = true then some (0, 4, none) else some (0, 0, some s)) = F2 := ⟨_, rfl⟩
        have HR3 := Lib.hid (show (overD kf s s.ch).bind F2 = some (a, e, og) by rw [← hF2]; exact HR2.out)
        have HFT := Lib.hid (show F2 true = some (0, 4, none) by rw [← hF2]; rfl)
        have HFF := Lib.hid (show F2 false = some (0, 0, some s) by rw [← hF2]; rfl)
        have hchr := HG.out.chr
        obtain ⟨AC, cC, hvC, hlC, _, _⟩ := own_form hchr
        subst hvC
        have henr := HG.out.enr
        obtain ⟨AE, cE, hvE, hlE, _, _⟩ := own_form henr
        subst hvE
        have f3 := HG.out.facts.2.2.2
        have hchl : s.ch.length ≤ 200 := by have := HN.out.chl; omega
        have henl : s.en.length ≤ 400 := by have := HN.out.enl; omega
        have HCHR := Lib.hid hchr; have HENR := Lib.hid henr
        have HBR := Lib.hid hbr
        clear hF2 HR2 hchr henr hbr
        rename World => wg
        go_wp2
        clear f3
        go_loopg [2, 43] s.ch.length (fun n t2 t wq => t2 = .pointer (some ⟨g, 0, none⟩) ∧ ∃ j : Nat, n = s.ch.length - j ∧ j ≤ s.ch.length ∧ t = .int .i64 j ∧ Below wg.heap.size wg wq ∧ Hid ((overD kf s (s.ch.drop j)).bind F2 = some (a, e, og)))
        case atStart => exact ⟨rfl, 0, rfl, Nat.zero_le _, rfl, Below.refl _ _, by rw [List.drop_zero]; exact HR3⟩
        case round =>
          obtain ⟨rfl, j, rfl, hj, rfl, hbq, HRj⟩ := hrel
          by_cases hjl : j < s.ch.length
          · obtain ⟨gc, hAC, hgc, q0⟩ := own_int_at (pw_own_below HCHR.out hbq) j hjl
            subst hAC
            obtain ⟨d, hd⟩ : ∃ d, s.ch[j] = d := ⟨_, rfl⟩
            have hR := HRj.out
            rw [List.drop_eq_getElem_cons hjl, hd] at hR
            rw [hd] at q0
            simp only [overD] at hR
            rw [Option.bind_assoc] at hR
            obtain ⟨G, hGe⟩ : ∃ G : Bool → Option (Int × Int × Option Gr), (fun x => (if x = true then some true else overD kf s (s.ch.drop (j + 1))).bind F2) = G := ⟨_, rfl⟩
            rw [hGe] at hR
            have HGT := Lib.hid (show G true = some (0, 4, none) by rw [← hGe]; simp [HFT.out])
            have HGF := Lib.hid (show G false = (overD kf s (s.ch.drop (j + 1))).bind F2 by rw [← hGe]; rfl)
            have HRG := Lib.hid hR
            have f2 := (HG.out.below hbq).facts.2.2.1
            have hji : (j : Int) < (s.ch.length : Int) := by omega
            have HBQ := Lib.hid hbq
            clear hR hGe hd HRj hbq
            rename World => wj
            go_wp2
            clear f2 q0
            go_loopg [2, 52] s.en.length (fun n t2 t wq => t2 = .pointer (some ⟨g, 0, none⟩) ∧ ∃ m : Nat, n = s.en.length - m ∧ m ≤ s.en.length ∧ t = .int .i64 m ∧ Below wj.heap.size wj wq ∧ Hid ((overE kf s d (s.en.drop m)).bind G = some (a, e, og)))
            case atStart => exact ⟨rfl, 0, rfl, Nat.zero_le _, rfl, Below.refl _ _, by rw [List.drop_zero]; exact HRG⟩
            case round =>
              obtain ⟨rfl, m, rfl, hm, rfl, hbq, HRm⟩ := hrel
              have hbq2 := HBQ.out.trans (hbq.mono HBQ.out.size)
              have HBQ2 := Lib.hid (HBR.out.trans (hbq2.mono (Nat.le_trans HG.out.hg (Nat.le_of_lt HG.out.lt))))
              by_cases hml : m < s.en.length
              · obtain ⟨ge, hAE, hge, q0⟩ := own_str_at (pw_own_below HENR.out hbq2) m hml
                subst hAE
                obtain ⟨x, hxe⟩ : ∃ x, s.en[m] = x := ⟨_, rfl⟩
                have hxz := HN.out.ens x (hxe ▸ List.getElem_mem hml)
                have hR := HRm.out
                rw [List.drop_eq_getElem_cons hml, hxe] at hR
                rw [hxe] at q0
                simp only [overE] at hR
                obtain ⟨y, hy, hR⟩ := Option.bind_eq_some_iff.1 hR
                obtain ⟨st, hst, hy⟩ := Option.bind_eq_some_iff.1 hy
                obtain ⟨ex, hex, hy⟩ := Option.bind_eq_some_iff.1 hy
                have hsum := go_sumAll (HG.out.below hbq2) kf x d (fun _ => true) st (by omega) (fun o ho => ⟨by have := HN.out.ows x o ho; omega, by have := HN.out.shl (o, x); omega⟩) (by have := HN.out.owl x; omega) (fun W _ o _ => by
                  go_enter Tryd.func20, Tryd.ntmps20
                  go_wp2
                  go_ret
                  exact ⟨rfl, rfl⟩) hst
                have HSUM := Lib.hid hsum; have HEX := Lib.hid hex
                have hmi : (m : Int) < (s.en.length : Int) := by omega
                have HGm := Lib.hid (HG.out.below hbq2)
                clear hxe hsum hst hex hxz hbq2
                cases ex with
                | true =>
                  rw [if_pos rfl] at hy
                  cases hy
                  rw [HGT.out] at hR
                  injection hR with hR; injection hR with hR1 hR2; injection hR2 with hR2 hR3
                  have HT := Lib.hid (And.intro hR1 (And.intro hR2 hR3))
                  clear hR1 hR2 hR3
                  go_wp2_with (first
                    | (go_at_call 19; refine HSUM.out.mono ?_; rintro e_ w3 ⟨v3, rfl, hS3, hb3⟩; obtain ⟨A3, c3, A4, c4, hv3, hC3, hc3, hC4, hc4⟩ := hS3; subst hv3; have HB3 := Lib.hid hb3; have hba := (Below.refl _ w3).alloc (Nat.le_refl _) (.cells #[.slice A3 st.1.length c3, .slice A4 st.2.length c4] 64); have HX4 := Lib.hid (owners_sum_exceeds.calls kf A3 c3 st.1 A4 c4 st.2 1 1 true _ (Kd.C_below hC3 hba) hc3 (Kd.C_below hC4 hba) hc4 HEX.out); clear hb3 hba hC3 hc3 hC4 hc4)
                    | (go_at_call 21; refine HX4.out.mono ?_; rintro e_ w5 ⟨rfl, hb5⟩))
                  go_ret3
                  obtain ⟨t1, t2, t3⟩ := HT.out
                  have hbe : Below wr.heap.size wr w5 := (HB3.out.trans (((Below.refl _ w3).alloc (Nat.le_refl _) _).mono HB3.out.size)).trans (hb5.mono (by have h2 := HB3.out.size; simp; omega))
                  have hlt2 := Nat.le_of_lt HGm.out.lt
                  refine ⟨.pointer none, by rw [← t1, ← t2]; rfl, ?_, by rw [HBB.out]; exact HBQ2.out.trans (hbe.mono (Nat.le_trans HGm.out.hg hlt2))⟩
                  rw [← t3]; rfl
                | false =>
                  rw [if_neg (by simp)] at hy
                  have HR2 := Lib.hid (show (overE kf s d (s.en.drop (m + 1))).bind G = some (a, e, og) by rw [hy]; exact hR)
                  clear hy hR
                  go_wp2_with (first
                    | (go_at_call 19; refine HSUM.out.mono ?_; rintro e_ w3 ⟨v3, rfl, hS3, hb3⟩; obtain ⟨A3, c3, A4, c4, hv3, hC3, hc3, hC4, hc4⟩ := hS3; subst hv3; have HB3 := Lib.hid hb3; have hba := (Below.refl _ w3).alloc (Nat.le_refl _) (.cells #[.slice A3 st.1.length c3, .slice A4 st.2.length c4] 64); have HX4 := Lib.hid (owners_sum_exceeds.calls kf A3 c3 st.1 A4 c4 st.2 1 1 false _ (Kd.C_below hC3 hba) hc3 (Kd.C_below hC4 hba) hc4 HEX.out); clear hb3 hba hC3 hc3 hC4 hc4)
                    | (go_at_call 21; refine HX4.out.mono ?_; rintro e_ w5 ⟨rfl, hb5⟩))
                  go_roundg (s.en.length - (m + 1))
                  case measure => omega
                  case rel =>
                    have hbe := (hbq.trans ((HB3.out.trans (((Below.refl _ w3).alloc (Nat.le_refl _) (.cells #[.slice A3 st.1.length c3, .slice A4 st.2.length c4] 64)).mono HB3.out.size)).mono hbq.size)).trans (hb5.mono (by have h1 := hbq.size; have h2 := HB3.out.size; simp; omega))
                    exact ⟨rfl, m + 1, rfl, by omega, by go_num, hbe, HR2⟩
              · have hme : m = s.en.length := by omega
                subst hme
                have hR := HRm.out
                rw [List.drop_length] at hR
                simp only [overE, Option.bind_some] at hR
                rw [HGF.out] at hR
                have HR2 := Lib.hid hR
                clear hR HRm
                go_wp2
                go_roundg (s.ch.length - (j + 1))
                case measure => omega
                case rel => exact ⟨rfl, j + 1, rfl, by omega, by go_num, hbq2, HR2⟩
          · have hje : j = s.ch.length := by omega
            subst hje
            have hR := HRj.out
            rw [List.drop_length] at hR
            simp only [overD, Option.bind_some] at hR
            rw [HFF.out] at hR
            injection hR with hR; injection hR with hR1 hR2; injection hR2 with hR2 hR3
            have HT := Lib.hid (And.intro hR1 (And.intro hR2 hR3))
            clear hR1 hR2 hR3
            go_wp2
            go_ret3
            obtain ⟨t1, t2, t3⟩ := HT.out
            have hBl : B ≤ wg.heap.size := Nat.le_trans HG.out.hg (Nat.le_of_lt HG.out.lt)
            refine ⟨.pointer (some ⟨g, 0, none⟩), by rw [← t1, ← t2]; rfl, ?_, by rw [HBB.out]; exact HBR.out.trans (hbq.mono hBl)⟩
            rw [← t3]
            exact ⟨g, m1, m2, _, _, _, _, rfl, hdif, by rw [HBB.out]; exact HG.out.below hbq⟩
end Go.Proofs.YtikdiepcfdimgaaDoor.POw
namespace Go.Proofs.YtikdiepcfdimgaaDoor.POw
open Go.RowKit Go.Lib Go.Proofs.YtikdiepcfdimgaaDoorW.PrintWords Go.Proofs.YtikdiepcfdimgaaDoorW.PrintLast Go.Proofs.YtikdiepcfdimgaaDoorW.PrintMore
def membE (kf : Nat) (s : Gr) (day : Int) (p : ByteArray → Bool) : List ByteArray → Option (Option ByteArray)
  | [] => some none
  | x :: xs => if p x = true then membE kf s day p xs else (sumF kf p s x day).bind fun st => (owners_sum_exceeds.f kf st.1 st.2 1 2).bind fun b => if b = true then some (some x) else membE kf s day p xs
def membL (kf : Nat) (s : Gr) (day : Int) : Nat → (ByteArray → Bool) → Option (ByteArray → Bool)
  | 0, _ => none
  | n + 1, p => (membE kf s day p s.en).bind fun r => match r with
    | none => some p
    | some x => membL kf s day n (putB p x)
def membF (kf : Nat) (s : Gr) (top : ByteArray) (day : Int) : Option (Option (ByteArray → Bool)) :=
  if wcodeB top = true then (if isDay day = true then (membL kf s day kf (putB (fun _ => false) top)).map some else some none) else some none
def MembPost (B : Nat) (w' : World) (mv : Value) (r : Option (ByteArray → Bool)) : Prop := match r with
  | none => mv = .map none
  | some p => ∃ mb, mv = .map (some mb) ∧ SetAt w' mb p ∧ B ≤ mb
set_option maxRecDepth 100000 in
set_option maxHeartbeats 8000000 in
theorem go_members_nil (top : ByteArray) (day : Int) (w : World) : Calls Tryd.prog 14 #[.pointer none, .string top, .int .i64 day] w fun e w' => e = .returned (.map none) ∧ Below w.heap.size w w' := by
  go_enter Tryd.func14, Tryd.ntmps14
  go_wp2
  go_step3
  go_wp2
  try rw [Exit.noGoto_ret]
  go_ret
  exact ⟨rfl, Below.refl _ _⟩
set_option maxHeartbeats 8000000 in
theorem go_members1 (o : ByteArray) (z mb : Nat) (p : ByteArray → Bool) (W : World) (hz : W.cell? ⟨z, 0, none⟩ = some (.map (some mb))) (hs : SetAt W mb p) (ho : o.size ≤ 1000) :
    Calls Tryd.prog 24 #[.string o, .pointer (some ⟨z, 0, none⟩)] W fun e w' => e = .returned (.bool (p o)) ∧ W = w' := by
  have hl := hs.look o ho
  clear hs
  go_enter Tryd.func24, Tryd.ntmps24
  go_wp2
  go_ret
  exact ⟨rfl, rfl⟩
section
variable {w : World} {B g m1 m2 : Nat} {V : Pr → Value} {U : ByteArray → Value} {vE vC : Value} {s : Gr}
set_option maxRecDepth 100000 in
set_option maxHeartbeats 8000000 in
theorem go_members (hG : GrAt w B g m1 m2 V U vE vC s) (ok : GrOk s) (kf : Nat) (top : ByteArray) (day : Int) (r : Option (ByteArray → Bool)) (ht : top.size ≤ 1000) (hL : DaysLaid w) (hF : membF kf s top day = some r) :
    Calls Tryd.prog 14 #[.pointer (some ⟨g, 0, none⟩), .string top, .int .i64 day] w fun e w' => ∃ mv, e = .returned mv ∧ MembPost w.heap.size w' mv r ∧ Below w.heap.size w w' := by
  have HG := Lib.hid hG; have HOK := Lib.hid ok
  have hg := hG.lt
  have HC := Lib.hid (fun W => go_words_Code top W (by omega))
  have HD := Lib.hid (fun (W : World) (hW : Below w.heap.size w W) => go_aging_isDay day W (hL.below hW))
  clear hG ok hL
  unfold membF at hF
  by_cases c0 : wcodeB top = true
  · rw [if_pos c0] at hF
    rw [c0] at HC
    by_cases c1 : isDay day = true
    · rw [if_pos c1] at hF
      rw [c1] at HD
      obtain ⟨P, hP, hr⟩ := Option.map_eq_some_iff.1 hF
      subst hr
      have HF := Lib.hid hP
      have hmm := @run_makeMap Tryd.prog
      clear hP hF c0 c1
      go_enter Tryd.func14, Tryd.ntmps14
      go_wp2
      go_step3
      go_upto_region 3 with (first
        | (go_at_call 22; refine (HC.out _).mono ?_; rintro e w1 ⟨rfl, rfl⟩)
        | (go_at_call 23; refine (HD.out _ (Below.refl _ _)).mono ?_; rintro e w1 ⟨rfl, hb1⟩))
      have hm0 := SetAt.made w1
      obtain ⟨ob, hput, hm1⟩ := hm0.put top ht
      have hB0 : Below w1.heap.size w1 (w1.alloc (.map #[] 0)) := (Below.refl _ _).alloc (Nat.le_refl _) _
      have hB1 := setBlock_below (o := ob) hB0 (Nat.le_refl _)
      have hm1z := hm1.lt
      have hbd := hb1.trans (hB1.mono hb1.size)
      obtain ⟨w2, hw2⟩ : ∃ W, ChangeMaps.setBlock (w1.alloc (.map #[] 0)) w1.heap.size ob = W := ⟨_, rfl⟩
      obtain ⟨mb, hmb⟩ : ∃ m, w1.heap.size = m := ⟨_, rfl⟩
      have hmbz : w.heap.size ≤ mb := by rw [← hmb]; exact hb1.size
      have hmz2 : mb + 1 = w2.heap.size := by rw [← hw2, setBlock_size, ← hmb]; simp
      rw [hw2, hmb] at hm1
      rw [hw2] at hbd
      have hba := (Below.refl _ w2).alloc (Nat.le_refl _) (.cells #[.map (some mb)] 44)
      have hz7 := (Go.MapKept.heap_alloc w2 (.cells #[.map (some mb)] 44)).1
      have HS0 := Lib.hid (hm1.below hba); have HB0 := Lib.hid (hbd.trans (hba.mono hbd.size)); have HZ0 := Lib.hid hz7
      have HMZ := Lib.hid hmz2; have HW2 := Lib.hid hw2; have HMB := Lib.hid hmb; have HMBZ := Lib.hid hmbz
      clear hm0 hm1 hB0 hB1 hm1z hbd hba hz7 hmz2 hw2 hmb hmbz
      go_wp2
      rw [HW2.out, HMB.out]
      obtain ⟨w3, hw3⟩ : ∃ W, w2.alloc (.cells #[.map (some mb)] 44) = W := ⟨_, rfl⟩
      obtain ⟨z7, hz7⟩ : ∃ z, w2.heap.size = z := ⟨_, rfl⟩
      have hzl : w.heap.size ≤ z7 := by rw [← hz7]; have := HMZ.out; have := HMBZ.out; omega
      have hzm : mb ≠ z7 := by rw [← hz7]; have := HMZ.out; omega
      rw [hw3] at HS0 HB0 HZ0
      rw [hz7] at HZ0
      rw [hw3, hz7]
      have HZL := Lib.hid hzl; have HZM := Lib.hid hzm
      clear hw3 hz7 HW2 HMB HMZ hmm hput hb1 hzl hzm
      go_step3
      have henr := HG.out.enr
      obtain ⟨AE, cE, hvE, hlE, _, _⟩ := own_form henr
      subst hvE
      have HENR := Lib.hid henr
      have henl : s.en.length ≤ 1000 := HOK.out.enl
      clear henr
      go_wp2
      go_loopg [9] kf (fun n t9 wr => ∃ p : ByteArray → Bool, Below w.heap.size w wr ∧ Hid (wr.heap[z7]? = some (.cells #[.map (some mb)] 44 (0, 0))) ∧ Hid (SetAt wr mb p) ∧ Hid (membL kf s day n p = some P))
      case atStart => exact ⟨_, HB0.out, HZ0, HS0, HF⟩
      case round =>
        obtain ⟨p, hbr, HZ, HS, HR⟩ := hrel
        cases gk with
        | zero => exact absurd HR.out (by simp [membL])
        | succ n =>
        have hR := HR.out
        simp only [membL] at hR
        obtain ⟨F, hF⟩ : ∃ F : Option ByteArray → Option (ByteArray → Bool), (fun r => match r with | none => some p | some x => membL kf s day n (putB p x)) = F := ⟨_, rfl⟩
        have HR0 := Lib.hid (show (membE kf s day p s.en).bind F = some P by rw [← hF]; exact hR)
        have HFN := Lib.hid (show F none = some p by rw [← hF])
        have HFS := Lib.hid (show ∀ x, F (some x) = membL kf s day n (putB p x) by intro x; rw [← hF])
        have f2 := (HG.out.below hbr).facts.2.2.1
        have HBR := Lib.hid hbr
        clear hR hF HR hbr
        rename World => wo
        go_wp2
        clear f2
        go_loopg [9, 31] s.en.length (fun n t9 t31 wq => ∃ m : Nat, n = s.en.length - m ∧ m ≤ s.en.length ∧ t31 = .int .i64 m ∧ Below wo.heap.size wo wq ∧ Hid ((membE kf s day p (s.en.drop m)).bind F = some P))
        case atStart => exact ⟨0, rfl, Nat.zero_le _, rfl, Below.refl _ _, by rw [List.drop_zero]; exact HR0⟩
        case round =>
          obtain ⟨m, rfl, hm, rfl, hbq, HRm⟩ := hrel
          have hbq2 := HBR.out.trans (hbq.mono HBR.out.size)
          have hSq := HS.out.below hbq
          have hzq : wr.heap[z7]? = some (.cells #[.map (some mb)] 44 (0, 0)) := (hbq.block z7 (Array.getElem?_eq_some_iff.1 HZ.out).1).trans HZ.out
          have k7 := blk_cell hzq 0
          by_cases hml : m < s.en.length
          · obtain ⟨ge, hAE, hge, q0⟩ := own_str_at (pw_own_below HENR.out hbq2) m hml
            subst hAE
            obtain ⟨x, hxe⟩ : ∃ x, s.en[m] = x := ⟨_, rfl⟩
            have hxz := HOK.out.ens x (hxe ▸ List.getElem_mem hml)
            have hR := HRm.out
            rw [List.drop_eq_getElem_cons hml, hxe] at hR
            rw [hxe] at q0
            simp only [membE] at hR
            have hmi : (m : Int) < (s.en.length : Int) := by omega
            have hlk := hSq.look x hxz
            have HSQ := Lib.hid hSq; have HZQ := Lib.hid hzq; have HBQ2 := Lib.hid hbq2
            clear hxe HRm hSq hzq hbq2
            by_cases hp : p x = true
            · rw [if_pos hp] at hR
              rw [hp] at hlk
              have HR2 := Lib.hid hR
              clear hR hp
              go_wp2
              go_roundg (s.en.length - (m + 1))
              case measure => omega
              case rel => exact ⟨m + 1, rfl, by omega, by go_num, hbq, HR2⟩
            · rw [if_neg hp] at hR
              have hp2 : p x = false := by simpa using hp
              rw [hp2] at hlk
              obtain ⟨y, hy, hR⟩ := Option.bind_eq_some_iff.1 hR
              obtain ⟨st, hst, hy⟩ := Option.bind_eq_some_iff.1 hy
              obtain ⟨ex, hex, hy⟩ := Option.bind_eq_some_iff.1 hy
              have hsum := go_sumIn (HG.out.below HBQ2.out) kf x day p st z7 hxz (fun o ho => ⟨HOK.out.ows x o ho, by have := HOK.out.shl (o, x); omega⟩) (by have := HOK.out.owl x; omega) (fun W hW o ho => go_members1 o z7 mb p W (blk_cell ((hW.block z7 (Array.getElem?_eq_some_iff.1 HZQ.out).1).trans HZQ.out) 0) (HSQ.out.below hW) (HOK.out.ows x o ho)) hst
              have HSUM := Lib.hid hsum; have HEX := Lib.hid hex
              clear hsum hst hex hp hp2
              cases ex with
              | true =>
                rw [if_pos rfl] at hy
                cases hy
                rw [HFS.out] at hR
                have HR2 := Lib.hid hR
                clear hR
                go_upto_region 10 with (first
                  | (go_at_call 19; refine HSUM.out.mono ?_; rintro e_ w3_ ⟨v3, rfl, hS3, hb3⟩; obtain ⟨A3, c3, A4, c4, hv3, hC3, hc3, hC4, hc4⟩ := hS3; subst hv3; have HB3 := Lib.hid hb3; have hba := (Below.refl _ w3_).alloc (Nat.le_refl _) (.cells #[.slice A3 st.1.length c3, .slice A4 st.2.length c4] 64); have HX4 := Lib.hid (owners_sum_exceeds.calls kf A3 c3 st.1 A4 c4 st.2 1 2 true _ (Kd.C_below hC3 hba) hc3 (Kd.C_below hC4 hba) hc4 HEX.out); clear hb3 hba hC3 hc3 hC4 hc4)
                  | (go_at_call 21; refine HX4.out.mono ?_; rintro e_ w5 ⟨rfl, hb5⟩))
                have hbe := (HB3.out.trans (((Below.refl _ w3_).alloc (Nat.le_refl _) (.cells #[.slice A3 st.1.length c3, .slice A4 st.2.length c4] 64)).mono HB3.out.size)).trans (hb5.mono (by have h2 := HB3.out.size; simp; omega))
                have hS5 := HSQ.out.below hbe
                have hz5 : w5.heap[z7]? = some (.cells #[.map (some mb)] 44 (0, 0)) := (hbe.block z7 (Array.getElem?_eq_some_iff.1 HZQ.out).1).trans HZQ.out
                have k5 := blk_cell hz5 0
                obtain ⟨ob5, hput5, hm5⟩ := hS5.put x hxz
                have HS5 := Lib.hid hm5; have HZ5 := Lib.hid hz5
                have HB5 := Lib.hid (HBQ2.out.trans (hbe.mono HBQ2.out.size))
                clear hS5 hz5 hm5 hlk k7 q0
                go_wp2
                go_roundg n
                case measure => omega
                case rel => exact ⟨putB p x, setBlock_below HB5.out HMBZ.out, Lib.hid (by rw [setBlock_heap _ _ _ _ (fun e => HZM.out e.symm)]; exact HZ5.out), HS5, HR2⟩
              | false =>
                rw [if_neg (by simp)] at hy
                have HR2 := Lib.hid (show (membE kf s day p (s.en.drop (m + 1))).bind F = some P by rw [hy]; exact hR)
                clear hy hR
                go_wp2_with (first
                  | (go_at_call 19; refine HSUM.out.mono ?_; rintro e_ w3_ ⟨v3, rfl, hS3, hb3⟩; obtain ⟨A3, c3, A4, c4, hv3, hC3, hc3, hC4, hc4⟩ := hS3; subst hv3; have HB3 := Lib.hid hb3; have hba := (Below.refl _ w3_).alloc (Nat.le_refl _) (.cells #[.slice A3 st.1.length c3, .slice A4 st.2.length c4] 64); have HX4 := Lib.hid (owners_sum_exceeds.calls kf A3 c3 st.1 A4 c4 st.2 1 2 false _ (Kd.C_below hC3 hba) hc3 (Kd.C_below hC4 hba) hc4 HEX.out); clear hb3 hba hC3 hc3 hC4 hc4)
                  | (go_at_call 21; refine HX4.out.mono ?_; rintro e_ w5 ⟨rfl, hb5⟩))
                go_roundg (s.en.length - (m + 1))
                case measure => omega
                case rel =>
                  have hbe := (hbq.trans ((HB3.out.trans (((Below.refl _ w3_).alloc (Nat.le_refl _) (.cells #[.slice A3 st.1.length c3, .slice A4 st.2.length c4] 64)).mono HB3.out.size)).mono hbq.size)).trans (hb5.mono (by have h1 := hbq.size; have h2 := HB3.out.size; simp; omega))
                  exact ⟨m + 1, rfl, by omega, by go_num, hbe, HR2⟩
          · have hme : m = s.en.length := by omega
            subst hme
            have hR := HRm.out
            rw [List.drop_length] at hR
            simp only [membE, Option.bind_some] at hR
            rw [HFN.out] at hR
            have HT := Lib.hid (Option.some.inj hR)
            have HSQ := Lib.hid hSq
            clear hR HRm hSq
            go_wp2
            try rw [Exit.noGoto_ret]
            go_ret
            exact ⟨_, rfl, ⟨mb, rfl, by rw [← HT.out]; exact HSQ.out, HMBZ.out⟩, hbq2⟩
    · rw [if_neg c1] at hF
      have c1b : isDay day = false := by simpa using c1
      rw [c1b] at HD
      cases hF
      clear c0 c1
      go_enter Tryd.func14, Tryd.ntmps14
      go_wp2
      go_step3
      go_wp2_with (first
        | (go_at_call 22; refine (HC.out _).mono ?_; rintro e w1 ⟨rfl, rfl⟩)
        | (go_at_call 23; refine (HD.out _ (Below.refl _ _)).mono ?_; rintro e w1 ⟨rfl, hb1⟩))
      try rw [Exit.noGoto_ret]
      go_ret
      exact ⟨_, rfl, rfl, hb1⟩
  · rw [if_neg c0] at hF
    have c0b : wcodeB top = false := by simpa using c0
    rw [c0b] at HC
    cases hF
    clear c0
    go_enter Tryd.func14, Tryd.ntmps14
    go_wp2
    go_step3
    go_wp2_with (go_at_call 22; refine (HC.out _).mono ?_; rintro e w1 ⟨rfl, rfl⟩)
    try rw [Exit.noGoto_ret]
    go_ret
    exact ⟨_, rfl, rfl, Below.refl _ _⟩
end
end Go.Proofs.YtikdiepcfdimgaaDoor.POw
namespace Go.Proofs.YtikdiepcfdimgaaDoor.POw
open Go.RowKit Go.Lib Go.Proofs.YtikdiepcfdimgaaDoorW.PrintWords Go.Proofs.YtikdiepcfdimgaaDoorW.PrintLast Go.Proofs.YtikdiepcfdimgaaDoorW.PrintMore
theorem membE_mem {kf : Nat} {s : Gr} {day : Int} {p : ByteArray → Bool} {x : ByteArray} : ∀ {l : List ByteArray}, membE kf s day p l = some (some x) → x ∈ l
  | [], h => by simp [membE] at h
  | a :: l, h => by
    rw [membE] at h
    by_cases c : p a = true
    · rw [if_pos c] at h; exact List.mem_cons_of_mem _ (membE_mem h)
    · rw [if_neg c] at h
      obtain ⟨st, _, h⟩ := Option.bind_eq_some_iff.1 h
      obtain ⟨b, _, h⟩ := Option.bind_eq_some_iff.1 h
      cases b with
      | true => rw [if_pos rfl] at h; cases h; exact List.mem_cons_self ..
      | false => rw [if_neg (by simp)] at h; exact List.mem_cons_of_mem _ (membE_mem h)
theorem membL_sub {kf : Nat} {s : Gr} {day : Int} {Q : ByteArray → Prop} (hQ : ∀ x ∈ s.en, Q x) {P : ByteArray → Bool} : ∀ {n : Nat} {p : ByteArray → Bool}, membL kf s day n p = some P → (∀ x, p x = true → Q x) → ∀ x, P x = true → Q x
  | 0, p, h, _ => by simp [membL] at h
  | n + 1, p, h, hp => by
    rw [membL] at h
    obtain ⟨r, hr, h⟩ := Option.bind_eq_some_iff.1 h
    cases r with
    | none => cases h; exact hp
    | some x =>
      refine membL_sub hQ h (fun y hy => ?_)
      unfold putB at hy
      by_cases e : y = x
      · rw [e]; exact hQ x (membE_mem hr)
      · exact hp y (by simpa [e] using hy)
theorem membF_sub {kf : Nat} {s : Gr} {top : ByteArray} {day : Int} {P : ByteArray → Bool} (h : membF kf s top day = some (some P)) : ∀ x, P x = true → x ∈ top :: s.en := by
  unfold membF at h
  by_cases c0 : wcodeB top = true
  · rw [if_pos c0] at h
    by_cases c1 : isDay day = true
    · rw [if_pos c1] at h
      obtain ⟨P', hP, hr⟩ := Option.map_eq_some_iff.1 h
      cases hr
      refine membL_sub (Q := fun x => x ∈ top :: s.en) (fun x hx => List.mem_cons_of_mem _ hx) hP (fun x hx => ?_)
      unfold putB at hx
      have : x = top := by simpa using hx
      rw [this]; exact List.mem_cons_self ..
    · rw [if_neg c1] at h; cases h
  · rw [if_neg c0] at h; cases h
theorem below_grown {B : Nat} {a w W : World} {row : Option Nat} (h : Below B a w) (hg : w.grownBy W row) (hr : ∀ g, row = some g → B ≤ g) (hs : B ≤ w.heap.size) : Below B a W :=
  ⟨hg.os.trans h.os, hg.tape.trans h.tape, hg.output.trans h.output, Nat.le_trans h.size hg.size, fun k hk => (hg.block k (by omega) (fun e => by have := hr k e.symm; omega)).trans (h.block k hk)⟩
def ListP (L : List ByteArray) (r : Option (ByteArray → Bool)) : Prop := L.Pairwise (fun a b => sLt a b = true) ∧ ∀ x, x ∈ L ↔ ∃ p, r = some p ∧ p x = true
section
variable {w : World} {B g m1 m2 : Nat} {V : Pr → Value} {U : ByteArray → Value} {vE vC : Value} {s : Gr}
set_option maxRecDepth 100000 in
set_option maxHeartbeats 8000000 in
theorem go_Members_at (gv : Value) (top : ByteArray) (day : Int) (r : Option (ByteArray → Bool)) (hz : ∀ P, r = some P → ∃ l : List ByteArray, l.length ≤ 1001 ∧ ∀ x, P x = true → x ∈ l ∧ x.size ≤ 1000)
    (hm : Calls Tryd.prog 14 #[gv, .string top, .int .i64 day] w fun e w' => ∃ mv, e = .returned mv ∧ MembPost w.heap.size w' mv r ∧ Below w.heap.size w w') :
    Calls Tryd.prog 10 #[gv, .string top, .int .i64 day] w fun e w' => ∃ v L, e = .returned v ∧ w'.ownsRow w.heap.size 9 1 v L.length (strs L) ∧ ListP L r ∧ Below w.heap.size w w' := by
  have HM := Lib.hid hm
  clear hm
  cases r with
  | none =>
    clear hz
    go_enter Tryd.func10, Tryd.ntmps10
    have hrg := fun W : World => run_range_nilMap (P := Tryd.prog) W 44 9 4 Tryd.underlying44
    go_wp2_with (go_at_call 14; refine HM.out.mono ?_; rintro e w1 ⟨mv, rfl, hmv, hb1⟩; unfold MembPost at hmv; simp only at hmv; subst hmv)
    have hnx := fun ty : TypeId => run_next_nilMap (P := Tryd.prog) w1 ty 0 0 #[]
    obtain ⟨w2, hw2⟩ : ∃ W, w1.alloc (.mapIter none 0 #[] 0) = W := ⟨_, rfl⟩
    have hb2 : Below w.heap.size w w2 := by rw [← hw2]; exact hb1.alloc hb1.size _
    rw [hw2] at hnx ⊢
    obtain ⟨z, hz⟩ : ∃ z, w1.heap.size = z := ⟨_, rfl⟩
    rw [hz] at hnx ⊢
    clear hw2 hz hrg hb1
    go_loopg [6] 0 (fun n t6 wr => n = 0 ∧ t6 = .slice none 0 0 ∧ wr = w2)
    case atStart => exact ⟨rfl, rfl, rfl⟩
    case round =>
      obtain ⟨rfl, rfl, rfl⟩ := hrel
      go_wp2
      go_ret
      exact ⟨_, [], rfl, World.ownsRow_nil _ _ _ _, ⟨List.Pairwise.nil, fun x => by simp⟩, hb2⟩
  | some P =>
    obtain ⟨l0, hl0, hl1⟩ := hz P rfl
    have HZ := Lib.hid hl1
    clear hz hl1
    go_enter Tryd.func10, Tryd.ntmps10
    go_wp2_with (go_at_call 14; refine HM.out.mono ?_; rintro e w1 ⟨mv, rfl, hmv, hb1⟩; obtain ⟨mb, hmv, hs1, hmb⟩ := hmv; subst hmv; obtain ⟨todo0, ito, hrun0, hR0, hnd0, hmem0⟩ := MapAt.start hs1 encS_inj Tryd.underlying44; have HS1 := Lib.hid hs1; have HR0 := Lib.hid hR0; have HND := Lib.hid hnd0; have HMEM := Lib.hid hmem0; clear hs1 hR0 hnd0 hmem0)
    have hmt : ∀ x, x ∈ todo0 ↔ P x = true := fun x => by
      rw [HMEM.out x]
      cases P x <;> simp
    have hlen0 : todo0.length ≤ 1001 := Nat.le_trans (List.Nodup.length_le_of_subset HND.out (fun x hx => (HZ.out x ((hmt x).1 hx)).1)) hl0
    have HMT := Lib.hid hmt
    have hb2 : Below w.heap.size w (w1.alloc ito) := hb1.alloc hb1.size _
    have hz2 : (w1.alloc ito).heap.size = w1.heap.size + 1 := by simp
    obtain ⟨w2, hw2⟩ : ∃ W, w1.alloc ito = W := ⟨_, rfl⟩
    rw [hw2] at HR0 hb2 hz2 ⊢
    have hwz := hb1.size
    obtain ⟨rb, hrb⟩ : ∃ z, w1.heap.size = z := ⟨_, rfl⟩
    rw [hrb] at HR0 hz2 hwz ⊢
    have HZ2 := Lib.hid hz2
    clear hw2 hrb hrun0 hmt HND HMEM hb1 hz2 HS1
    go_loopg [6] todo0.length (fun n t6 wq => ∃ (todo L : List ByteArray) (v : Value), n = todo.length ∧ v = t6 ∧ Below w.heap.size w wq ∧ Hid (rb < wq.heap.size) ∧ Hid (RangeAt Tryd.prog 9 encS wq mb rb (fun x => if P x = true then some (.bool true) else none) todo) ∧
      Hid (wq.ownsRow w.heap.size 9 1 v L.length (strs L)) ∧ Hid (wq.ownsRow (rb + 1) 9 1 v L.length (strs L)) ∧ Hid (L.Pairwise (fun a b => sLt a b = true)) ∧ Hid (L.length + todo.length ≤ 1001) ∧ Hid (∀ x, P x = true ↔ x ∈ L ∨ x ∈ todo))
    case atStart => exact ⟨todo0, [], _, rfl, rfl, hb2, Lib.hid (by have := HZ2.out; omega), HR0, Lib.hid (World.ownsRow_nil _ _ _ _), Lib.hid (World.ownsRow_nil _ _ _ _), Lib.hid List.Pairwise.nil, Lib.hid (by simpa using hlen0), Lib.hid (fun x => by rw [← HMT.out x]; simp)⟩
    case round =>
      obtain ⟨todo, L, v, rfl, rfl, hbq, HQ, HR, HO, HO2, HP, HL, HX⟩ := hrel
      rcases HR.out.next encS_inj 0 with ⟨rfl, hrun⟩ | ⟨l1, x, l2, vx, wn, rfl, hMx, hrun, hRn, hgr, hszn, hent⟩
      · go_wp2
        go_ret
        refine ⟨_, L, rfl, HO.out, ⟨HP.out, fun x => ?_⟩, hbq⟩
        have := HX.out x
        simp at this
        rw [← this]; simp
      · have hpx : P x = true := (HX.out x).2 (Or.inr (by simp))
        rw [if_pos hpx] at hMx
        obtain rfl := Option.some.inj hMx
        rw [show encS x = .string x from rfl] at hrun hent
        have hbn : Below w.heap.size w wn := below_grown hbq hgr (fun g e => by cases e; exact hwz) hbq.size
        have hown : wn.ownsRow (rb + 1) 9 1 v L.length (strs L) := HO2.out.kept hgr (by rcases HO2.out.2 with ⟨rfl, _⟩ | ⟨g, cap, cur, rfl, hg, _⟩ <;> simp [Value.ownBlock]; omega)
        have hrbn : rb + 1 ≤ wn.heap.size := by have := HQ.out; omega
        have hLl := HL.out
        have hW := go_with L x v (rb + 1) wn hown hrbn HP.out (by simp at hLl; omega)
        have HW := Lib.hid hW; have HRN := Lib.hid hRn
        have HRB := Lib.hid hrbn
        clear hW hRn hown hpx hgr hszn hbq hrbn hLl
        go_wp2_with (go_at_call 16; refine HW.out.mono ?_; rintro e w3 ⟨v', rfl, hO3, hb3⟩)
        go_roundg (l1 ++ l2).length
        case measure => simp
        case rel =>
          have hO3' : w3.ownsRow w.heap.size 9 1 v' (withG sLt L x).length (strs (withG sLt L x)) := own_lower_ hO3 (by omega)
          refine ⟨l1 ++ l2, withG sLt L x, v', rfl, rfl, hbn.trans (hb3.mono hbn.size), Lib.hid (by have := HRB.out; have := hb3.size; omega), Lib.hid (HRN.out.below hb3), Lib.hid hO3', Lib.hid hO3, Lib.hid (withG_sorted sO _ HP.out), Lib.hid ?_, Lib.hid (fun y => ?_)⟩
          · have h1 := withG_length (lt := sLt) L x
            have h2 := HL.out
            simp at h2 ⊢
            omega
          · rw [HX.out y, withG_mem]
            simp only [List.mem_append, List.mem_cons]
            constructor
            · rintro (h | h | h | h)
              · exact Or.inl (Or.inr h)
              · exact Or.inr (Or.inl h)
              · exact Or.inl (Or.inl h)
              · exact Or.inr (Or.inr h)
            · rintro ((h | h) | (h | h))
              · exact Or.inr (Or.inr (Or.inl h))
              · exact Or.inl h
              · exact Or.inr (Or.inl h)
              · exact Or.inr (Or.inr (Or.inr h))
theorem membF_few (ok : GrOk s) {kf : Nat} {top : ByteArray} {day : Int} {r : Option (ByteArray → Bool)} (ht : top.size ≤ 1000) (hF : membF kf s top day = some r) : ∀ P, r = some P → ∃ l : List ByteArray, l.length ≤ 1001 ∧ ∀ x, P x = true → x ∈ l ∧ x.size ≤ 1000 := by
  rintro P rfl
  refine ⟨top :: s.en, by have := ok.enl; simp; omega, fun x hx => ?_⟩
  have hm := membF_sub hF x hx
  refine ⟨hm, ?_⟩
  rcases List.mem_cons.1 hm with rfl | hm
  · exact ht
  · exact ok.ens x hm
theorem go_Members (hG : GrAt w B g m1 m2 V U vE vC s) (ok : GrOk s) (kf : Nat) (top : ByteArray) (day : Int) (r : Option (ByteArray → Bool)) (ht : top.size ≤ 1000) (hL : DaysLaid w) (hF : membF kf s top day = some r) :
    Calls Tryd.prog 10 #[.pointer (some ⟨g, 0, none⟩), .string top, .int .i64 day] w fun e w' => ∃ v L, e = .returned v ∧ w'.ownsRow w.heap.size 9 1 v L.length (strs L) ∧ ListP L r ∧ Below w.heap.size w w' :=
  go_Members_at _ top day r (membF_few ok ht hF) (go_members hG ok kf top day r ht hL hF)
theorem go_Members_nil (top : ByteArray) (day : Int) : Calls Tryd.prog 10 #[.pointer none, .string top, .int .i64 day] w fun e w' => ∃ v L, e = .returned v ∧ w'.ownsRow w.heap.size 9 1 v L.length (strs L) ∧ ListP L none ∧ Below w.heap.size w w' :=
  go_Members_at _ top day none (fun _ h => by cases h) ((go_members_nil top day w).mono (fun e w' h => ⟨_, h.1, rfl, h.2⟩))
end
end Go.Proofs.YtikdiepcfdimgaaDoor.POw
namespace Go.Proofs.YtikdiepcfdimgaaDoor
open Go.RowKit Go.Lib Go.Proofs.YtikdiepcfdimgaaDoorW.PrintWords
def quoI (n d : Int) : Int := absI n / gcdI (absI n) (absI d)
def makeQ (n d : Int) : Int × Int × Int :=
  if d = 0 then (0, 0, 2) else if 1000000 < quoI n d then (0, 0, 4) else if 1000000 < absI d / gcdI (absI n) (absI d) then (0, 0, 4)
  else ((if (decide (n < 0) != decide (d < 0)) = true then -(quoI n d) else quoI n d), absI d / gcdI (absI n) (absI d), 0)
def addQ (a b c d : Int) : Int × Int × Int := if rightB a b = true then (if rightB c d = true then makeQ (a * d + c * b) (b * d) else (0, 0, 2)) else (0, 0, 2)
def mulQ (a b c d : Int) : Int × Int × Int := if rightB a b = true then (if rightB c d = true then makeQ (a * c) (b * d) else (0, 0, 2)) else (0, 0, 2)
theorem rightB_bounds {n d : Int} (h : rightB n d = true) : -1000000 ≤ n ∧ n ≤ 1000000 ∧ 1 ≤ d ∧ d ≤ 1000000 := by
  unfold rightB at h
  simp only [Bool.and_eq_true, decide_eq_true_eq] at h
  obtain ⟨⟨⟨h1, h2⟩, h3⟩, _⟩ := h
  have := (absI_mil n).1 h3
  omega
theorem below_drewN_ {B : Nat} {w W : World} (h : Below B w W) (n : Nat) : Below B w (W.drewN n) := ⟨h.os, h.tape, h.output, h.size, h.block⟩
set_option maxRecDepth 100000 in
set_option maxHeartbeats 4000000 in
theorem frac_Make.calls (n d : Int) (w : World) (hn : inI n) (hd : inI d) :
    Calls Tryd.prog 60 #[.int .i64 n, .int .i64 d] w fun e w' => e = .returned (.tuple #[.agg #[.int .i64 (makeQ n d).1, .int .i64 (makeQ n d).2.1], .int .i64 (makeQ n d).2.2]) ∧ Below w.heap.size w w' := by
  by_cases h0 : d = 0
  · have HF := Lib.hid (show makeQ n d = (0, 0, 2) by unfold makeQ; rw [if_pos h0])
    rw [HF.out]
    subst h0
    go_enter Tryd.func60, Tryd.ntmps60
    go_wp2
    refine bodyPost_ret (v := .tuple #[.agg #[.int .i64 0, .int .i64 0], .int .i64 2]) (by simp [results, Tryd.results60, go_sem]) rfl ⟨rfl, ?_⟩
    repeat (first | exact Below.refl _ _ | refine Below.setCell ?_ (by simp) _ | refine Below.alloc ?_ (by simp) _)
  · have g0 := gcdI_pos (absI n) (absI d) (by unfold absI; split <;> omega)
    have bn : absI n ≤ 9223372036854775808 := absI_le n hn.1 hn.2
    have bd : absI d ≤ 9223372036854775808 := absI_le d hd.1 hd.2
    have nn := absI_nn n
    have nd := absI_nn d
    have h0b : (d == 0) = false := by simp [h0]
    obtain ⟨G, hG⟩ : ∃ G, gcdI (absI n) (absI d) = G := ⟨_, rfl⟩
    have hq1 := fun (W : World) => frac_gcd.calls (absI n) (absI d) W nn nd
    rw [hG] at g0 hq1
    obtain ⟨X, hX⟩ : ∃ X, absI n = X := ⟨_, rfl⟩
    obtain ⟨Y, hY⟩ : ∃ Y, absI d = Y := ⟨_, rfl⟩
    rw [hX] at nn bn hq1
    rw [hY] at nd bd hq1
    obtain ⟨q, hq⟩ : ∃ q, X / G = q := ⟨_, rfl⟩
    obtain ⟨r, hr⟩ : ∃ r, Y / G = r := ⟨_, rfl⟩
    have q0 : 0 ≤ q := by rw [← hq]; exact Int.ediv_nonneg nn (by omega)
    have r0 : 0 ≤ r := by rw [← hr]; exact Int.ediv_nonneg nd (by omega)
    have q1 : q ≤ 9223372036854775808 := by rw [← hq]; exact Int.le_trans (Int.ediv_le_self _ nn) bn
    have r1 : r ≤ 9223372036854775808 := by rw [← hr]; exact Int.le_trans (Int.ediv_le_self _ nd) bd
    have e1 : IntKind.u64.wrap (X.tdiv G) = q := by rw [Int.tdiv_eq_ediv_of_nonneg nn, hq]; rw [IntKind.wrap_u64]; omega
    have e2 : IntKind.u64.wrap (Y.tdiv G) = r := by rw [Int.tdiv_eq_ediv_of_nonneg nd, hr]; rw [IntKind.wrap_u64]; omega
    have hGb : (G == 0) = false := by simp; omega
    have HF := Lib.hid (show makeQ n d = if 1000000 < q then (0, 0, 4) else if 1000000 < r then (0, 0, 4) else ((if (decide (n < 0) != decide (d < 0)) = true then -q else q), r, 0) by unfold makeQ quoI; rw [if_neg h0, hG, hX, hY, hq, hr])
    have HX := Lib.hid hX; have HY := Lib.hid hY
    have HG := Lib.hid hq1
    obtain ⟨T, hT⟩ : ∃ T, makeQ n d = T := ⟨_, rfl⟩
    rw [hT] at HF ⊢
    clear hX hY hG hq hr hq1 h0 hT
    go_enter Tryd.func60, Tryd.ntmps60
    go_upto_region 5 with (first
      | (go_at_call_of 47 (Value.int IntKind.i64 n); refine (frac_size.calls _ _ hn).mono ?_; rintro e w' ⟨rfl, rfl⟩; rw [HX.out])
      | (go_at_call_of 47 (Value.int IntKind.i64 d); refine (frac_size.calls _ _ hd).mono ?_; rintro e w' ⟨rfl, rfl⟩; rw [HY.out])
      | (go_at_call 48; refine (HG.out _).mono ?_; rintro e w2 ⟨rfl, hb2⟩; obtain ⟨hcc, hff⟩ := bcell hb2))
    have hrow : w2.heap[w.heap.size]? = some (.cells #[.int .i64 0, .int .i64 0] 28 (0, 0)) := by rw [hb2.block _ (by simp)]; exact (Go.MapKept.heap_alloc w _).1
    have c0 : w2.cell? ⟨w.heap.size, 0, none⟩ = some (.int .i64 0) := by rw [hcc _ _ (by simp)]; simp
    have c1 : w2.cell? ⟨w.heap.size, 1, none⟩ = some (.int .i64 0) := by rw [hcc _ _ (by simp)]; simp
    have f0 : w2.frozen? ⟨w.heap.size, 0, none⟩ = false := by rw [hff _ _ (by simp)]; simp
    have f1 : w2.frozen? ⟨w.heap.size, 1, none⟩ = false := by rw [hff _ _ (by simp)]; simp
    have hz2 : w.heap.size < w2.heap.size := by have := hb2.size; simp at this; omega
    have hB : Below w.heap.size w w2 := ((Below.refl _ _).alloc (Nat.le_refl _) _).trans (hb2.mono (by simp))
    clear hcc hff hb2
    go_quiet (fail)
    have hrow2 : (w2.drewN nq).heap[w.heap.size]? = some (.cells #[.int .i64 0, .int .i64 0] 28 (0, 0)) := hrow
    have HR := Lib.hid hrow2; clear hrow hrow2
    by_cases t1 : 1000000 < q
    · go_wp2
      refine bodyPost_ret (v := .tuple #[.agg #[.int .i64 (0), .int .i64 (0)], .int .i64 4]) (by simp [results, Tryd.results60, go_sem, c0, c1]) rfl ⟨by rw [HF.out, if_pos t1], ?_⟩
      repeat (first | exact hB | refine Below.setCell ?_ (by simp) _ | refine below_drewN_ ?_ _ | refine Below.alloc ?_ (by simp; omega) _)
    · have t1b : decide (1000000 < q) = false := decide_eq_false t1
      by_cases t2 : 1000000 < r
      · go_wp2
        refine bodyPost_ret (v := .tuple #[.agg #[.int .i64 (0), .int .i64 (0)], .int .i64 4]) (by simp [results, Tryd.results60, go_sem, c0, c1]) rfl ⟨by rw [HF.out, if_neg (show ¬ 1000000 < q by omega), if_pos t2], ?_⟩
        repeat (first | exact hB | refine Below.setCell ?_ (by simp) _ | refine below_drewN_ ?_ _ | refine Below.alloc ?_ (by simp; omega) _)
      · have t2b : decide (1000000 < r) = false := decide_eq_false t2
        have wq : IntKind.i64.wrap q = q := IntWalk.i64_in _ (by omega)
        have wr : IntKind.i64.wrap r = r := IntWalk.i64_in _ (by omega)
        have wn : IntKind.i64.wrap (-q) = -q := IntWalk.i64_in _ (by omega)
        by_cases u1 : n < 0 <;> by_cases u2 : d < 0
        · have b1 : decide (n < 0) = true := decide_eq_true u1
          have b2 : decide (d < 0) = true := decide_eq_true u2
          go_wp2
          have hF := (blk_set (blk_set (blk_set (blk_set HR.out 0 (.int .i64 q)) 1 (.int .i64 r)) 0 (.int .i64 (q))) 1 (.int .i64 r))
          refine bodyPost_ret (v := .tuple #[.agg #[.int .i64 (q), .int .i64 (r)], .int .i64 0]) (by simp [results, Tryd.results60, go_sem, blk_cell hF 0, blk_cell hF 1]) rfl ⟨by rw [HF.out, if_neg (show ¬ 1000000 < q by omega), if_neg (show ¬ 1000000 < r by omega), b1, b2]; rfl, ?_⟩
          repeat (first | exact hB | refine Below.setCell ?_ (by simp) _ | refine below_drewN_ ?_ _ | refine Below.alloc ?_ (by simp; omega) _)
        · have b1 : decide (n < 0) = true := decide_eq_true u1
          have b2 : decide (d < 0) = false := decide_eq_false u2
          go_wp2
          have hF := (blk_set (blk_set (blk_set (blk_set (blk_set HR.out 0 (.int .i64 q)) 1 (.int .i64 r)) 0 (.int .i64 (-q))) 0 (.int .i64 (-q))) 1 (.int .i64 r))
          refine bodyPost_ret (v := .tuple #[.agg #[.int .i64 (-q), .int .i64 (r)], .int .i64 0]) (by simp [results, Tryd.results60, go_sem, blk_cell hF 0, blk_cell hF 1]) rfl ⟨by rw [HF.out, if_neg (show ¬ 1000000 < q by omega), if_neg (show ¬ 1000000 < r by omega), b1, b2]; rfl, ?_⟩
          repeat (first | exact hB | refine Below.setCell ?_ (by simp) _ | refine below_drewN_ ?_ _ | refine Below.alloc ?_ (by simp; omega) _)
        · have b1 : decide (n < 0) = false := decide_eq_false u1
          have b2 : decide (d < 0) = true := decide_eq_true u2
          go_wp2
          have hF := (blk_set (blk_set (blk_set (blk_set (blk_set HR.out 0 (.int .i64 q)) 1 (.int .i64 r)) 0 (.int .i64 (-q))) 0 (.int .i64 (-q))) 1 (.int .i64 r))
          refine bodyPost_ret (v := .tuple #[.agg #[.int .i64 (-q), .int .i64 (r)], .int .i64 0]) (by simp [results, Tryd.results60, go_sem, blk_cell hF 0, blk_cell hF 1]) rfl ⟨by rw [HF.out, if_neg (show ¬ 1000000 < q by omega), if_neg (show ¬ 1000000 < r by omega), b1, b2]; rfl, ?_⟩
          repeat (first | exact hB | refine Below.setCell ?_ (by simp) _ | refine below_drewN_ ?_ _ | refine Below.alloc ?_ (by simp; omega) _)
        · have b1 : decide (n < 0) = false := decide_eq_false u1
          have b2 : decide (d < 0) = false := decide_eq_false u2
          go_wp2
          have hF := (blk_set (blk_set (blk_set (blk_set HR.out 0 (.int .i64 q)) 1 (.int .i64 r)) 0 (.int .i64 (q))) 1 (.int .i64 r))
          refine bodyPost_ret (v := .tuple #[.agg #[.int .i64 (q), .int .i64 (r)], .int .i64 0]) (by simp [results, Tryd.results60, go_sem, blk_cell hF 0, blk_cell hF 1]) rfl ⟨by rw [HF.out, if_neg (show ¬ 1000000 < q by omega), if_neg (show ¬ 1000000 < r by omega), b1, b2]; rfl, ?_⟩
          repeat (first | exact hB | refine Below.setCell ?_ (by simp) _ | refine below_drewN_ ?_ _ | refine Below.alloc ?_ (by simp; omega) _)
end Go.Proofs.YtikdiepcfdimgaaDoor
namespace Go.Proofs.YtikdiepcfdimgaaDoor
open Go.RowKit Go.Lib Go.Proofs.YtikdiepcfdimgaaDoorW.PrintWords
theorem mil_mul {a b : Int} (h1 : -1000000 ≤ a) (h2 : a ≤ 1000000) (h3 : -1000000 ≤ b) (h4 : b ≤ 1000000) : -1000000000000 ≤ a * b ∧ a * b ≤ 1000000000000 := by
  have k : (a * b).natAbs ≤ 1000000 * 1000000 := by
    rw [Int.natAbs_mul]
    exact Nat.mul_le_mul (by omega) (by omega)
  omega
set_option maxRecDepth 100000 in
set_option maxHeartbeats 4000000 in
theorem frac_Mul1.calls (a b c d : Int) (w : World) (ha : -1000000 ≤ a ∧ a ≤ 1000000) (hb : -1000000 ≤ b ∧ b ≤ 1000000) (hc : -1000000 ≤ c ∧ c ≤ 1000000) (hd : -1000000 ≤ d ∧ d ≤ 1000000) :
    Calls Tryd.prog 43 #[.agg #[.int .i64 a, .int .i64 b], .agg #[.int .i64 c, .int .i64 d]] w fun e w' => e = .returned (.agg #[.int .i64 (a * c), .int .i64 (b * d)]) ∧ Below w.heap.size w w' := by
  have m1 := mil_mul ha.1 ha.2 hc.1 hc.2
  have m2 := mil_mul hb.1 hb.2 hd.1 hd.2
  obtain ⟨p, hp⟩ : ∃ p, a * c = p := ⟨_, rfl⟩
  obtain ⟨q, hq⟩ : ∃ q, b * d = q := ⟨_, rfl⟩
  have e1 : IntKind.i64.wrap (a * c) = p := by rw [hp]; exact IntWalk.i64_in _ (by omega)
  have e2 : IntKind.i64.wrap (b * d) = q := by rw [hq]; exact IntWalk.i64_in _ (by omega)
  rw [hp, hq]
  rw [hp] at m1; rw [hq] at m2
  clear hp hq
  go_enter Tryd.func43, Tryd.ntmps43
  go_wp2
  refine bodyPost_ret (v := .agg #[.int .i64 p, .int .i64 q]) (by simp [results, Tryd.results43, go_sem]) rfl ⟨rfl, ?_⟩
  repeat (first | exact Below.refl _ _ | refine Below.setCell ?_ (by simp; try omega) _ | refine Below.alloc ?_ (by simp; try omega) _ | refine below_drewN_ ?_ _)
set_option maxRecDepth 100000 in
set_option maxHeartbeats 4000000 in
theorem frac_Add1.calls (a b c d : Int) (w : World) (ha : -1000000 ≤ a ∧ a ≤ 1000000) (hb : -1000000 ≤ b ∧ b ≤ 1000000) (hc : -1000000 ≤ c ∧ c ≤ 1000000) (hd : -1000000 ≤ d ∧ d ≤ 1000000) :
    Calls Tryd.prog 44 #[.agg #[.int .i64 a, .int .i64 b], .agg #[.int .i64 c, .int .i64 d]] w fun e w' => e = .returned (.agg #[.int .i64 (a * d + c * b), .int .i64 (b * d)]) ∧ Below w.heap.size w w' := by
  have m1 := mil_mul ha.1 ha.2 hd.1 hd.2
  have m3 := mil_mul hc.1 hc.2 hb.1 hb.2
  have m2 := mil_mul hb.1 hb.2 hd.1 hd.2
  obtain ⟨x, hx⟩ : ∃ x, a * d = x := ⟨_, rfl⟩
  obtain ⟨y, hy⟩ : ∃ y, c * b = y := ⟨_, rfl⟩
  obtain ⟨q, hq⟩ : ∃ q, b * d = q := ⟨_, rfl⟩
  have e0 : IntKind.i64.wrap (a * d) = x := by rw [hx]; exact IntWalk.i64_in _ (by omega)
  have e1 : IntKind.i64.wrap (c * b) = y := by rw [hy]; exact IntWalk.i64_in _ (by omega)
  have e2 : IntKind.i64.wrap (b * d) = q := by rw [hq]; exact IntWalk.i64_in _ (by omega)
  rw [hx, hy, hq]
  rw [hx] at m1; rw [hy] at m3; rw [hq] at m2
  obtain ⟨p, hp⟩ : ∃ p, x + y = p := ⟨_, rfl⟩
  have e3 : IntKind.i64.wrap (x + y) = p := by rw [hp]; exact IntWalk.i64_in _ (by omega)
  have e4 : wrap64 (x + y) = p := by rw [hp]; exact IntWalk.wrap64_in _ (by omega)
  rw [hp]
  clear hx hy hq m1 m3 hp
  go_enter Tryd.func44, Tryd.ntmps44
  go_wp2
  refine bodyPost_ret (v := .agg #[.int .i64 p, .int .i64 q]) (by simp [results, Tryd.results44, go_sem]) rfl ⟨rfl, ?_⟩
  repeat (first | exact Below.refl _ _ | refine Below.setCell ?_ (by simp; try omega) _ | refine Below.alloc ?_ (by simp; try omega) _ | refine below_drewN_ ?_ _)
end Go.Proofs.YtikdiepcfdimgaaDoor
namespace Go.Proofs.YtikdiepcfdimgaaDoor
open Go.RowKit Go.Lib Go.Proofs.YtikdiepcfdimgaaDoorW.PrintWords
def Boxes (W : World) (z : Nat) (a b c d : Int) : Prop :=
  W.heap[z]? = some (.cells #[.int .i64 a, .int .i64 b] 28 (0, 0)) ∧ W.heap[z + 1]? = some (.cells #[.int .i64 c, .int .i64 d] 28 (0, 0)) ∧ W.heap[z + 1 + 1]? = some (.cells #[.int .i64 0, .int .i64 0] 28 (0, 0))
theorem Boxes.start (w : World) (a b c d : Int) : Boxes (((w.alloc (.cells #[.int .i64 a, .int .i64 b] 28)).alloc (.cells #[.int .i64 c, .int .i64 d] 28)).alloc (.cells #[.int .i64 0, .int .i64 0] 28)) w.heap.size a b c d := by
  refine ⟨?_, ?_, ?_⟩
  · rw [heap_alloc_old _ _ (by simp; omega), heap_alloc_old _ _ (by simp)]; exact (Go.MapKept.heap_alloc w _).1
  · rw [heap_alloc_old _ _ (by simp)]
    have := (Go.MapKept.heap_alloc (w.alloc (.cells #[.int .i64 a, .int .i64 b] 28)) (.cells #[.int .i64 c, .int .i64 d] 28)).1
    simpa using this
  · have := (Go.MapKept.heap_alloc ((w.alloc (.cells #[.int .i64 a, .int .i64 b] 28)).alloc (.cells #[.int .i64 c, .int .i64 d] 28)) (.cells #[.int .i64 0, .int .i64 0] 28)).1
    simpa using this
theorem Boxes.below {W W' : World} {z : Nat} {a b c d : Int} (h : Boxes W z a b c d) (hb : Below W.heap.size W W') : Boxes W' z a b c d :=
  ⟨(hb.block _ (Array.getElem?_eq_some_iff.1 h.1).1).trans h.1, (hb.block _ (Array.getElem?_eq_some_iff.1 h.2.1).1).trans h.2.1, (hb.block _ (Array.getElem?_eq_some_iff.1 h.2.2).1).trans h.2.2⟩
theorem Boxes.facts {W : World} {z : Nat} {a b c d : Int} (h : Boxes W z a b c d) : W.cell? ⟨z, 0, none⟩ = some (.int .i64 a) ∧ W.cell? ⟨z, 1, none⟩ = some (.int .i64 b) ∧ W.cell? ⟨z + 1, 0, none⟩ = some (.int .i64 c) ∧ W.cell? ⟨z + 1, 1, none⟩ = some (.int .i64 d) ∧
    W.cell? ⟨z + 1 + 1, 0, none⟩ = some (.int .i64 0) ∧ W.cell? ⟨z + 1 + 1, 1, none⟩ = some (.int .i64 0) ∧ W.frozen? ⟨z + 1 + 1, 0, none⟩ = false ∧ W.frozen? ⟨z + 1 + 1, 1, none⟩ = false ∧ z + 1 + 1 < W.heap.size :=
  ⟨blk_cell h.1 0, blk_cell h.1 1, blk_cell h.2.1 0, blk_cell h.2.1 1, blk_cell h.2.2 0, blk_cell h.2.2 1, blk_frozen h.2.2 0, blk_frozen h.2.2 1, (Array.getElem?_eq_some_iff.1 h.2.2).1⟩
set_option maxRecDepth 100000 in
set_option maxHeartbeats 4000000 in
theorem frac_joinMul.calls (a b c d : Int) (w : World) (ha : inI a) (hb : inI b) (hc : inI c) (hd : inI d) :
    Calls Tryd.prog 42 #[.agg #[.int .i64 a, .int .i64 b], .agg #[.int .i64 c, .int .i64 d], .func (.func 43) #[] #[]] w fun e w' => e = .returned (.tuple #[.agg #[.int .i64 (mulQ a b c d).1, .int .i64 (mulQ a b c d).2.1], .int .i64 (mulQ a b c d).2.2]) ∧ Below w.heap.size w w' := by
  obtain ⟨T, hT⟩ : ∃ T, mulQ a b c d = T := ⟨_, rfl⟩
  rw [hT]
  by_cases r1 : rightB a b = true
  · by_cases r2 : rightB c d = true
    · have B1 := rightB_bounds r1
      have B2 := rightB_bounds r2
      have m1 := mil_mul B1.1 B1.2.1 B2.1 B2.2.1
      have m2 := mil_mul (a := b) (b := d) (by omega) B1.2.2.2 (by omega) B2.2.2.2
      have HT := Lib.hid (show T = makeQ (a * c) (b * d) by rw [← hT]; unfold mulQ; rw [if_pos r1, if_pos r2])
      obtain ⟨p, hp⟩ : ∃ p, a * c = p := ⟨_, rfl⟩
      obtain ⟨q, hq⟩ : ∃ q, b * d = q := ⟨_, rfl⟩
      have e1 : IntKind.i64.wrap (a * c) = p := by rw [hp]; exact IntWalk.i64_in _ (by omega)
      have e2 : IntKind.i64.wrap (b * d) = q := by rw [hq]; exact IntWalk.i64_in _ (by omega)
      have HM := Lib.hid (fun W => frac_Make.calls p q W (by unfold inI; omega) (by unfold inI; omega))
      have HO := Lib.hid (fun W => frac_Mul1.calls a b c d W ⟨B1.1, B1.2.1⟩ ⟨by omega, B1.2.2.2⟩ ⟨B2.1, B2.2.1⟩ ⟨by omega, B2.2.2.2⟩)
      rw [hp, hq] at HO
      rw [hp, hq] at HT
      clear hT hp hq m1 m2
      try clear e0
      try clear e1
      try clear e2
      try clear e3
      try clear e4
      obtain ⟨t1, t2, t3⟩ := T
      have HSw0 := Lib.hid (Boxes.start w a b c d)
      have HBw0 := Lib.hid (show Below w.heap.size w (((w.alloc (.cells #[.int .i64 a, .int .i64 b] 28)).alloc (.cells #[.int .i64 c, .int .i64 d] 28)).alloc (.cells #[.int .i64 0, .int .i64 0] 28)) from (((Below.refl _ w).alloc (Nat.le_refl _) _).alloc (by simp) _).alloc (by simp; omega) _)
      go_enter Tryd.func42, Tryd.ntmps42
      go_wp2_with (first
        | (go_at_call_of 28 (Value.agg #[Value.int IntKind.i64 a, Value.int IntKind.i64 b]); refine (frac_Right.calls a b _ ha hb).mono ?_; rintro e w1 ⟨rfl, hb1⟩; have HSw1 := Lib.hid (HSw0.out.below hb1); have HBw1 := Lib.hid (HBw0.out.trans (hb1.mono HBw0.out.size)); obtain ⟨k0w1, k1w1, k2w1, k3w1, k4w1, k5w1, k6w1, k7w1, k8w1⟩ := HSw1.out.facts)
        | (go_at_call_of 28 (Value.agg #[Value.int IntKind.i64 c, Value.int IntKind.i64 d]); refine (frac_Right.calls c d _ hc hd).mono ?_; rintro e w2 ⟨rfl, hb2⟩; have HSw2 := Lib.hid (HSw1.out.below hb2); have HBw2 := Lib.hid (HBw1.out.trans (hb2.mono HBw1.out.size)); obtain ⟨k0w2, k1w2, k2w2, k3w2, k4w2, k5w2, k6w2, k7w2, k8w2⟩ := HSw2.out.facts)
        | (go_at_call 43; refine (HO.out _).mono ?_; rintro e w3 ⟨rfl, hb3⟩; have HSw3 := Lib.hid (HSw2.out.below hb3); have HBw3 := Lib.hid (HBw2.out.trans (hb3.mono HBw2.out.size)); obtain ⟨k0w3, k1w3, k2w3, k3w3, k4w3, k5w3, k6w3, k7w3, k8w3⟩ := HSw3.out.facts)
        | (go_at_call 60; refine (HM.out _).mono ?_; rintro e w4 ⟨rfl, hb4⟩; rw [← HT.out]; have HSw4 := Lib.hid ((HSw3.out.below ((Below.refl _ w3).alloc (Nat.le_refl _) _)).below hb4); have HBw4 := Lib.hid (HBw3.out.trans ((((Below.refl _ w3).alloc (Nat.le_refl _) _).trans (hb4.mono (by simp))).mono HBw3.out.size)); obtain ⟨k0w4, k1w4, k2w4, k3w4, k4w4, k5w4, k6w4, k7w4, k8w4⟩ := HSw4.out.facts))
      have hF := blk_set (blk_set HSw4.out.2.2 0 (.int .i64 t1)) 1 (.int .i64 t2)
      refine bodyPost_ret (v := .tuple #[.agg #[.int .i64 t1, .int .i64 t2], .int .i64 t3]) (by simp [results, Tryd.results42, go_sem, blk_cell hF 0, blk_cell hF 1]) rfl ⟨rfl, (HBw4.out.setCell (by simp; omega) _).setCell (by simp; omega) _⟩
    · have r2b : rightB c d = false := by simpa using r2
      have HT := Lib.hid (show T = (0, 0, 2) by rw [← hT]; unfold mulQ; rw [if_pos r1, if_neg r2])
      rw [HT.out]
      clear hT HT r2
      have HSw0 := Lib.hid (Boxes.start w a b c d)
      have HBw0 := Lib.hid (show Below w.heap.size w (((w.alloc (.cells #[.int .i64 a, .int .i64 b] 28)).alloc (.cells #[.int .i64 c, .int .i64 d] 28)).alloc (.cells #[.int .i64 0, .int .i64 0] 28)) from (((Below.refl _ w).alloc (Nat.le_refl _) _).alloc (by simp) _).alloc (by simp; omega) _)
      go_enter Tryd.func42, Tryd.ntmps42
      go_wp2_with (first
        | (go_at_call_of 28 (Value.agg #[Value.int IntKind.i64 a, Value.int IntKind.i64 b]); refine (frac_Right.calls a b _ ha hb).mono ?_; rintro e w1 ⟨rfl, hb1⟩; have HSw1 := Lib.hid (HSw0.out.below hb1); have HBw1 := Lib.hid (HBw0.out.trans (hb1.mono HBw0.out.size)); obtain ⟨k0w1, k1w1, k2w1, k3w1, k4w1, k5w1, k6w1, k7w1, k8w1⟩ := HSw1.out.facts)
        | (go_at_call_of 28 (Value.agg #[Value.int IntKind.i64 c, Value.int IntKind.i64 d]); refine (frac_Right.calls c d _ hc hd).mono ?_; rintro e w2 ⟨rfl, hb2⟩; have HSw2 := Lib.hid (HSw1.out.below hb2); have HBw2 := Lib.hid (HBw1.out.trans (hb2.mono HBw1.out.size)); obtain ⟨k0w2, k1w2, k2w2, k3w2, k4w2, k5w2, k6w2, k7w2, k8w2⟩ := HSw2.out.facts))
      have hF := blk_set (blk_set HSw2.out.2.2 0 (.int .i64 0)) 1 (.int .i64 0)
      refine bodyPost_ret (v := .tuple #[.agg #[.int .i64 0, .int .i64 0], .int .i64 2]) (by simp [results, Tryd.results42, go_sem, blk_cell hF 0, blk_cell hF 1]) rfl ⟨rfl, (HBw2.out.setCell (by simp; omega) _).setCell (by simp; omega) _⟩
  · have r1b : rightB a b = false := by simpa using r1
    have HT := Lib.hid (show T = (0, 0, 2) by rw [← hT]; unfold mulQ; rw [if_neg r1])
    rw [HT.out]
    clear hT HT r1
    have HSw0 := Lib.hid (Boxes.start w a b c d)
    have HBw0 := Lib.hid (show Below w.heap.size w (((w.alloc (.cells #[.int .i64 a, .int .i64 b] 28)).alloc (.cells #[.int .i64 c, .int .i64 d] 28)).alloc (.cells #[.int .i64 0, .int .i64 0] 28)) from (((Below.refl _ w).alloc (Nat.le_refl _) _).alloc (by simp) _).alloc (by simp; omega) _)
    go_enter Tryd.func42, Tryd.ntmps42
    go_wp2_with (first
      | (go_at_call_of 28 (Value.agg #[Value.int IntKind.i64 a, Value.int IntKind.i64 b]); refine (frac_Right.calls a b _ ha hb).mono ?_; rintro e w1 ⟨rfl, hb1⟩; have HSw1 := Lib.hid (HSw0.out.below hb1); have HBw1 := Lib.hid (HBw0.out.trans (hb1.mono HBw0.out.size)); obtain ⟨k0w1, k1w1, k2w1, k3w1, k4w1, k5w1, k6w1, k7w1, k8w1⟩ := HSw1.out.facts))
    have hF := blk_set (blk_set HSw1.out.2.2 0 (.int .i64 0)) 1 (.int .i64 0)
    refine bodyPost_ret (v := .tuple #[.agg #[.int .i64 0, .int .i64 0], .int .i64 2]) (by simp [results, Tryd.results42, go_sem, blk_cell hF 0, blk_cell hF 1]) rfl ⟨rfl, (HBw1.out.setCell (by simp; omega) _).setCell (by simp; omega) _⟩
set_option maxRecDepth 100000 in
set_option maxHeartbeats 4000000 in
theorem frac_Mul.calls (a b c d : Int) (w : World) (ha : inI a) (hb : inI b) (hc : inI c) (hd : inI d) :
    Calls Tryd.prog 25 #[.agg #[.int .i64 a, .int .i64 b], .agg #[.int .i64 c, .int .i64 d]] w fun e w' => e = .returned (.tuple #[.agg #[.int .i64 (mulQ a b c d).1, .int .i64 (mulQ a b c d).2.1], .int .i64 (mulQ a b c d).2.2]) ∧ Below w.heap.size w w' := by
  have HJ := Lib.hid (fun W => frac_joinMul.calls a b c d W ha hb hc hd)
  obtain ⟨T, hT⟩ : ∃ T, mulQ a b c d = T := ⟨_, rfl⟩
  rw [hT] at HJ ⊢
  clear hT
  obtain ⟨t1, t2, t3⟩ := T
  have HSw0 := Lib.hid (Boxes.start w a b c d)
  have HBw0 := Lib.hid (show Below w.heap.size w (((w.alloc (.cells #[.int .i64 a, .int .i64 b] 28)).alloc (.cells #[.int .i64 c, .int .i64 d] 28)).alloc (.cells #[.int .i64 0, .int .i64 0] 28)) from (((Below.refl _ w).alloc (Nat.le_refl _) _).alloc (by simp) _).alloc (by simp; omega) _)
  go_enter Tryd.func25, Tryd.ntmps25
  go_wp2_with (go_at_call 42; refine (HJ.out _).mono ?_; rintro e w1 ⟨rfl, hb1⟩; have HSw1 := Lib.hid (HSw0.out.below hb1); have HBw1 := Lib.hid (HBw0.out.trans (hb1.mono HBw0.out.size)); obtain ⟨k0w1, k1w1, k2w1, k3w1, k4w1, k5w1, k6w1, k7w1, k8w1⟩ := HSw1.out.facts)
  have hF := blk_set (blk_set HSw1.out.2.2 0 (.int .i64 t1)) 1 (.int .i64 t2)
  refine bodyPost_ret (v := .tuple #[.agg #[.int .i64 t1, .int .i64 t2], .int .i64 t3]) (by simp [results, Tryd.results25, go_sem, blk_cell hF 0, blk_cell hF 1]) rfl ⟨rfl, (HBw1.out.setCell (by simp; omega) _).setCell (by simp; omega) _⟩
set_option maxRecDepth 100000 in
set_option maxHeartbeats 4000000 in
theorem frac_joinAdd.calls (a b c d : Int) (w : World) (ha : inI a) (hb : inI b) (hc : inI c) (hd : inI d) :
    Calls Tryd.prog 42 #[.agg #[.int .i64 a, .int .i64 b], .agg #[.int .i64 c, .int .i64 d], .func (.func 44) #[] #[]] w fun e w' => e = .returned (.tuple #[.agg #[.int .i64 (addQ a b c d).1, .int .i64 (addQ a b c d).2.1], .int .i64 (addQ a b c d).2.2]) ∧ Below w.heap.size w w' := by
  obtain ⟨T, hT⟩ : ∃ T, addQ a b c d = T := ⟨_, rfl⟩
  rw [hT]
  by_cases r1 : rightB a b = true
  · by_cases r2 : rightB c d = true
    · have B1 := rightB_bounds r1
      have B2 := rightB_bounds r2
      have m1 := mil_mul B1.1 B1.2.1 (by omega) B2.2.2.2
      have m3 := mil_mul B2.1 B2.2.1 (by omega) B1.2.2.2
      have m2 := mil_mul (a := b) (b := d) (by omega) B1.2.2.2 (by omega) B2.2.2.2
      have HT := Lib.hid (show T = makeQ (a * d + c * b) (b * d) by rw [← hT]; unfold addQ; rw [if_pos r1, if_pos r2])
      obtain ⟨x, hx⟩ : ∃ x, a * d = x := ⟨_, rfl⟩
      obtain ⟨y, hy⟩ : ∃ y, c * b = y := ⟨_, rfl⟩
      obtain ⟨p, hp⟩ : ∃ p, x + y = p := ⟨_, rfl⟩
      obtain ⟨q, hq⟩ : ∃ q, b * d = q := ⟨_, rfl⟩
      have e0 : IntKind.i64.wrap (a * d) = x := by rw [hx]; exact IntWalk.i64_in _ (by omega)
      have e1 : IntKind.i64.wrap (c * b) = y := by rw [hy]; exact IntWalk.i64_in _ (by omega)
      rw [hx] at m1; rw [hy] at m3
      have e3 : IntKind.i64.wrap (x + y) = p := by rw [hp]; exact IntWalk.i64_in _ (by omega)
      have e4 : wrap64 (x + y) = p := by rw [hp]; exact IntWalk.wrap64_in _ (by omega)
      have e2 : IntKind.i64.wrap (b * d) = q := by rw [hq]; exact IntWalk.i64_in _ (by omega)
      have HM := Lib.hid (fun W => frac_Make.calls p q W (by unfold inI; omega) (by unfold inI; omega))
      have HO := Lib.hid (fun W => frac_Add1.calls a b c d W ⟨B1.1, B1.2.1⟩ ⟨by omega, B1.2.2.2⟩ ⟨B2.1, B2.2.1⟩ ⟨by omega, B2.2.2.2⟩)
      rw [hx, hy, hp, hq] at HO
      rw [hx, hy, hp, hq] at HT
      clear hT hp hq m1 m2 hx hy m3
      try clear e0
      try clear e1
      try clear e2
      try clear e3
      try clear e4
      obtain ⟨t1, t2, t3⟩ := T
      have HSw0 := Lib.hid (Boxes.start w a b c d)
      have HBw0 := Lib.hid (show Below w.heap.size w (((w.alloc (.cells #[.int .i64 a, .int .i64 b] 28)).alloc (.cells #[.int .i64 c, .int .i64 d] 28)).alloc (.cells #[.int .i64 0, .int .i64 0] 28)) from (((Below.refl _ w).alloc (Nat.le_refl _) _).alloc (by simp) _).alloc (by simp; omega) _)
      go_enter Tryd.func42, Tryd.ntmps42
      go_wp2_with (first
        | (go_at_call_of 28 (Value.agg #[Value.int IntKind.i64 a, Value.int IntKind.i64 b]); refine (frac_Right.calls a b _ ha hb).mono ?_; rintro e w1 ⟨rfl, hb1⟩; have HSw1 := Lib.hid (HSw0.out.below hb1); have HBw1 := Lib.hid (HBw0.out.trans (hb1.mono HBw0.out.size)); obtain ⟨k0w1, k1w1, k2w1, k3w1, k4w1, k5w1, k6w1, k7w1, k8w1⟩ := HSw1.out.facts)
        | (go_at_call_of 28 (Value.agg #[Value.int IntKind.i64 c, Value.int IntKind.i64 d]); refine (frac_Right.calls c d _ hc hd).mono ?_; rintro e w2 ⟨rfl, hb2⟩; have HSw2 := Lib.hid (HSw1.out.below hb2); have HBw2 := Lib.hid (HBw1.out.trans (hb2.mono HBw1.out.size)); obtain ⟨k0w2, k1w2, k2w2, k3w2, k4w2, k5w2, k6w2, k7w2, k8w2⟩ := HSw2.out.facts)
        | (go_at_call 44; refine (HO.out _).mono ?_; rintro e w3 ⟨rfl, hb3⟩; have HSw3 := Lib.hid (HSw2.out.below hb3); have HBw3 := Lib.hid (HBw2.out.trans (hb3.mono HBw2.out.size)); obtain ⟨k0w3, k1w3, k2w3, k3w3, k4w3, k5w3, k6w3, k7w3, k8w3⟩ := HSw3.out.facts)
        | (go_at_call 60; refine (HM.out _).mono ?_; rintro e w4 ⟨rfl, hb4⟩; rw [← HT.out]; have HSw4 := Lib.hid ((HSw3.out.below ((Below.refl _ w3).alloc (Nat.le_refl _) _)).below hb4); have HBw4 := Lib.hid (HBw3.out.trans ((((Below.refl _ w3).alloc (Nat.le_refl _) _).trans (hb4.mono (by simp))).mono HBw3.out.size)); obtain ⟨k0w4, k1w4, k2w4, k3w4, k4w4, k5w4, k6w4, k7w4, k8w4⟩ := HSw4.out.facts))
      have hF := blk_set (blk_set HSw4.out.2.2 0 (.int .i64 t1)) 1 (.int .i64 t2)
      refine bodyPost_ret (v := .tuple #[.agg #[.int .i64 t1, .int .i64 t2], .int .i64 t3]) (by simp [results, Tryd.results42, go_sem, blk_cell hF 0, blk_cell hF 1]) rfl ⟨rfl, (HBw4.out.setCell (by simp; omega) _).setCell (by simp; omega) _⟩
    · have r2b : rightB c d = false := by simpa using r2
      have HT := Lib.hid (show T = (0, 0, 2) by rw [← hT]; unfold addQ; rw [if_pos r1, if_neg r2])
      rw [HT.out]
      clear hT HT r2
      have HSw0 := Lib.hid (Boxes.start w a b c d)
      have HBw0 := Lib.hid (show Below w.heap.size w (((w.alloc (.cells #[.int .i64 a, .int .i64 b] 28)).alloc (.cells #[.int .i64 c, .int .i64 d] 28)).alloc (.cells #[.int .i64 0, .int .i64 0] 28)) from (((Below.refl _ w).alloc (Nat.le_refl _) _).alloc (by simp) _).alloc (by simp; omega) _)
      go_enter Tryd.func42, Tryd.ntmps42
      go_wp2_with (first
        | (go_at_call_of 28 (Value.agg #[Value.int IntKind.i64 a, Value.int IntKind.i64 b]); refine (frac_Right.calls a b _ ha hb).mono ?_; rintro e w1 ⟨rfl, hb1⟩; have HSw1 := Lib.hid (HSw0.out.below hb1); have HBw1 := Lib.hid (HBw0.out.trans (hb1.mono HBw0.out.size)); obtain ⟨k0w1, k1w1, k2w1, k3w1, k4w1, k5w1, k6w1, k7w1, k8w1⟩ := HSw1.out.facts)
        | (go_at_call_of 28 (Value.agg #[Value.int IntKind.i64 c, Value.int IntKind.i64 d]); refine (frac_Right.calls c d _ hc hd).mono ?_; rintro e w2 ⟨rfl, hb2⟩; have HSw2 := Lib.hid (HSw1.out.below hb2); have HBw2 := Lib.hid (HBw1.out.trans (hb2.mono HBw1.out.size)); obtain ⟨k0w2, k1w2, k2w2, k3w2, k4w2, k5w2, k6w2, k7w2, k8w2⟩ := HSw2.out.facts))
      have hF := blk_set (blk_set HSw2.out.2.2 0 (.int .i64 0)) 1 (.int .i64 0)
      refine bodyPost_ret (v := .tuple #[.agg #[.int .i64 0, .int .i64 0], .int .i64 2]) (by simp [results, Tryd.results42, go_sem, blk_cell hF 0, blk_cell hF 1]) rfl ⟨rfl, (HBw2.out.setCell (by simp; omega) _).setCell (by simp; omega) _⟩
  · have r1b : rightB a b = false := by simpa using r1
    have HT := Lib.hid (show T = (0, 0, 2) by rw [← hT]; unfold addQ; rw [if_neg r1])
    rw [HT.out]
    clear hT HT r1
    have HSw0 := Lib.hid (Boxes.start w a b c d)
    have HBw0 := Lib.hid (show Below w.heap.size w (((w.alloc (.cells #[.int .i64 a, .int .i64 b] 28)).alloc (.cells #[.int .i64 c, .int .i64 d] 28)).alloc (.cells #[.int .i64 0, .int .i64 0] 28)) from (((Below.refl _ w).alloc (Nat.le_refl _) _).alloc (by simp) _).alloc (by simp; omega) _)
    go_enter Tryd.func42, Tryd.ntmps42
    go_wp2_with (first
      | (go_at_call_of 28 (Value.agg #[Value.int IntKind.i64 a, Value.int IntKind.i64 b]); refine (frac_Right.calls a b _ ha hb).mono ?_; rintro e w1 ⟨rfl, hb1⟩; have HSw1 := Lib.hid (HSw0.out.below hb1); have HBw1 := Lib.hid (HBw0.out.trans (hb1.mono HBw0.out.size)); obtain ⟨k0w1, k1w1, k2w1, k3w1, k4w1, k5w1, k6w1, k7w1, k8w1⟩ := HSw1.out.facts))
    have hF := blk_set (blk_set HSw1.out.2.2 0 (.int .i64 0)) 1 (.int .i64 0)
    refine bodyPost_ret (v := .tuple #[.agg #[.int .i64 0, .int .i64 0], .int .i64 2]) (by simp [results, Tryd.results42, go_sem, blk_cell hF 0, blk_cell hF 1]) rfl ⟨rfl, (HBw1.out.setCell (by simp; omega) _).setCell (by simp; omega) _⟩
set_option maxRecDepth 100000 in
set_option maxHeartbeats 4000000 in
theorem frac_Add.calls (a b c d : Int) (w : World) (ha : inI a) (hb : inI b) (hc : inI c) (hd : inI d) :
    Calls Tryd.prog 26 #[.agg #[.int .i64 a, .int .i64 b], .agg #[.int .i64 c, .int .i64 d]] w fun e w' => e = .returned (.tuple #[.agg #[.int .i64 (addQ a b c d).1, .int .i64 (addQ a b c d).2.1], .int .i64 (addQ a b c d).2.2]) ∧ Below w.heap.size w w' := by
  have HJ := Lib.hid (fun W => frac_joinAdd.calls a b c d W ha hb hc hd)
  obtain ⟨T, hT⟩ : ∃ T, addQ a b c d = T := ⟨_, rfl⟩
  rw [hT] at HJ ⊢
  clear hT
  obtain ⟨t1, t2, t3⟩ := T
  have HSw0 := Lib.hid (Boxes.start w a b c d)
  have HBw0 := Lib.hid (show Below w.heap.size w (((w.alloc (.cells #[.int .i64 a, .int .i64 b] 28)).alloc (.cells #[.int .i64 c, .int .i64 d] 28)).alloc (.cells #[.int .i64 0, .int .i64 0] 28)) from (((Below.refl _ w).alloc (Nat.le_refl _) _).alloc (by simp) _).alloc (by simp; omega) _)
  go_enter Tryd.func26, Tryd.ntmps26
  go_wp2_with (go_at_call 42; refine (HJ.out _).mono ?_; rintro e w1 ⟨rfl, hb1⟩; have HSw1 := Lib.hid (HSw0.out.below hb1); have HBw1 := Lib.hid (HBw0.out.trans (hb1.mono HBw0.out.size)); obtain ⟨k0w1, k1w1, k2w1, k3w1, k4w1, k5w1, k6w1, k7w1, k8w1⟩ := HSw1.out.facts)
  have hF := blk_set (blk_set HSw1.out.2.2 0 (.int .i64 t1)) 1 (.int .i64 t2)
  refine bodyPost_ret (v := .tuple #[.agg #[.int .i64 t1, .int .i64 t2], .int .i64 t3]) (by simp [results, Tryd.results26, go_sem, blk_cell hF 0, blk_cell hF 1]) rfl ⟨rfl, (HBw1.out.setCell (by simp; omega) _).setCell (by simp; omega) _⟩
end Go.Proofs.YtikdiepcfdimgaaDoor
namespace Go.Proofs.YtikdiepcfdimgaaDoor.POw
open Go.RowKit Go.Lib Go.Proofs.YtikdiepcfdimgaaDoorW.PrintWords Go.Proofs.YtikdiepcfdimgaaDoorW.PrintLast Go.Proofs.YtikdiepcfdimgaaDoorW.PrintMore
theorem gcdI_nn_ (a b : Int) : 0 ≤ gcdI a b := by unfold gcdI; omega
theorem inI_of_mil {n : Int} (h : -1000000 ≤ n ∧ n ≤ 1000000) : inI n := by unfold inI; omega
theorem inI0 : inI 0 := by unfold inI; omega
theorem makeQ_inI (n d : Int) : inI (makeQ n d).1 ∧ inI (makeQ n d).2.1 := by
  have z := inI0
  have hq0 : 0 ≤ quoI n d := Int.ediv_nonneg (absI_nn n) (gcdI_nn_ _ _)
  have hq1 : 0 ≤ absI d / gcdI (absI n) (absI d) := Int.ediv_nonneg (absI_nn d) (gcdI_nn_ _ _)
  unfold makeQ
  obtain ⟨Q, hQ⟩ : ∃ Q, quoI n d = Q := ⟨_, rfl⟩
  obtain ⟨D, hD⟩ : ∃ D, absI d / gcdI (absI n) (absI d) = D := ⟨_, rfl⟩
  rw [hQ] at hq0 ⊢
  rw [hD] at hq1 ⊢
  by_cases h0 : d = 0
  · rw [if_pos h0]; exact ⟨z, z⟩
  · rw [if_neg h0]
    by_cases h1 : 1000000 < Q
    · rw [if_pos h1]; exact ⟨z, z⟩
    · rw [if_neg h1]
      by_cases h2 : 1000000 < D
      · rw [if_pos h2]; exact ⟨z, z⟩
      · rw [if_neg h2]
        refine ⟨?_, show inI D from inI_of_mil ⟨by omega, by omega⟩⟩
        simp only
        split
        · exact inI_of_mil ⟨by omega, by omega⟩
        · exact inI_of_mil ⟨by omega, by omega⟩
theorem mulQ_inI (a b c d : Int) : inI (mulQ a b c d).1 ∧ inI (mulQ a b c d).2.1 := by
  have z : inI 0 := by unfold inI; omega
  unfold mulQ
  split
  · split
    · exact makeQ_inI _ _
    · exact ⟨z, z⟩
  · exact ⟨z, z⟩
theorem addQ_inI (a b c d : Int) : inI (addQ a b c d).1 ∧ inI (addQ a b c d).2.1 := by
  have z : inI 0 := by unfold inI; omega
  unfold addQ
  split
  · split
    · exact makeQ_inI _ _
    · exact ⟨z, z⟩
  · exact ⟨z, z⟩
abbrev Dn := ByteArray → Option Frc
def putD (d : Dn) (x : ByteArray) (f : Frc) : Dn := fun y => if y = x then some f else d y
def effE (s : Gr) (day : Int) (p : ByteArray → Bool) (rec : ByteArray → Dn → Option ((Int × Int × Int) × Dn)) (x : ByteArray) : List ByteArray → Frc → Dn → Option ((Int × Int × Int) × Dn)
  | [], f, d => some ((f.f0, f.f1, 0), putD d x f)
  | o :: os, f, d => if p o = true then (if (shareL (s.shL (o, x)) day).f0 = 0 then effE s day p rec x os f d else (rec o d).bind fun r => if r.1.2.2 = 0 then
      (if (mulQ (shareL (s.shL (o, x)) day).f0 (shareL (s.shL (o, x)) day).f1 r.1.1 r.1.2.1).2.2 = 0 then
        (if (addQ f.f0 f.f1 (mulQ (shareL (s.shL (o, x)) day).f0 (shareL (s.shL (o, x)) day).f1 r.1.1 r.1.2.1).1 (mulQ (shareL (s.shL (o, x)) day).f0 (shareL (s.shL (o, x)) day).f1 r.1.1 r.1.2.1).2.1).2.2 = 0 then
          effE s day p rec x os ⟨(addQ f.f0 f.f1 (mulQ (shareL (s.shL (o, x)) day).f0 (shareL (s.shL (o, x)) day).f1 r.1.1 r.1.2.1).1 (mulQ (shareL (s.shL (o, x)) day).f0 (shareL (s.shL (o, x)) day).f1 r.1.1 r.1.2.1).2.1).1, (addQ f.f0 f.f1 (mulQ (shareL (s.shL (o, x)) day).f0 (shareL (s.shL (o, x)) day).f1 r.1.1 r.1.2.1).1 (mulQ (shareL (s.shL (o, x)) day).f0 (shareL (s.shL (o, x)) day).f1 r.1.1 r.1.2.1).2.1).2.1⟩ r.2
        else some ((0, 0, (addQ f.f0 f.f1 (mulQ (shareL (s.shL (o, x)) day).f0 (shareL (s.shL (o, x)) day).f1 r.1.1 r.1.2.1).1 (mulQ (shareL (s.shL (o, x)) day).f0 (shareL (s.shL (o, x)) day).f1 r.1.1 r.1.2.1).2.1).2.2), r.2))
      else some ((0, 0, (mulQ (shareL (s.shL (o, x)) day).f0 (shareL (s.shL (o, x)) day).f1 r.1.1 r.1.2.1).2.2), r.2))
      else some ((0, 0, r.1.2.2), r.2)) else effE s day p rec x os f d
def effF (s : Gr) (day : Int) (p : ByteArray → Bool) : Nat → ByteArray → Dn → Option ((Int × Int × Int) × Dn)
  | 0, _, _ => none
  | n + 1, x, d => match d x with
    | some f => some ((f.f0, f.f1, 0), d)
    | none => effE s day p (effF s day p n) x (s.owL x) ⟨0, 1⟩ d
def frcV (f : Frc) : Value := .agg #[.int .i64 f.f0, .int .i64 f.f1]
def DoneAt (w : World) (md : Nat) (d : Dn) : Prop := MapAt Tryd.prog 9 encS w md (fun x => (d x).map frcV) ∧ ∀ y f, d y = some f → inI f.f0 ∧ inI f.f1
structure EffAt (w : World) (ze g mb md : Nat) (day : Int) (p : ByteArray → Bool) (d : Dn) : Prop where
  blk : w.heap[ze]? = some (.cells #[.pointer (some ⟨g, 0, none⟩), .int .i64 day, .map (some mb), .map (some md)] 49 (0, 0))
  set : SetAt w mb p
  don : DoneAt w md d
  n1 : mb ≠ md
  n2 : ze ≠ md
section
variable {w W : World} {ze g mb md : Nat} {day : Int} {p : ByteArray → Bool} {d d' : Dn}
theorem EffAt.lt (h : EffAt w ze g mb md day p d) : ze < w.heap.size ∧ mb < w.heap.size ∧ md < w.heap.size := ⟨(Array.getElem?_eq_some_iff.1 h.blk).1, h.set.lt, h.don.1.lt⟩
theorem EffAt.of_blocks (h : EffAt w ze g mb md day p d) (h1 : W.heap[ze]? = w.heap[ze]?) (h2 : W.heap[mb]? = w.heap[mb]?) (h3 : W.heap[md]? = w.heap[md]?) : EffAt W ze g mb md day p d :=
  ⟨h1.trans h.blk, h.set.of_block h2, ⟨h.don.1.of_block h3, h.don.2⟩, h.n1, h.n2⟩
theorem EffAt.below (h : EffAt w ze g mb md day p d) (hb : Below w.heap.size w W) : EffAt W ze g mb md day p d :=
  h.of_blocks (hb.block _ h.lt.1) (hb.block _ h.lt.2.1) (hb.block _ h.lt.2.2)
theorem EffAt.grown (h : EffAt w ze g mb md day p d) (hg : w.grownBy W (some md)) (hd : DoneAt W md d') : EffAt W ze g mb md day p d' :=
  ⟨(hg.block _ h.lt.1 (by simpa using h.n2)).trans h.blk, h.set.of_block (hg.block _ h.lt.2.1 (by simpa using h.n1)), hd, h.n1, h.n2⟩
theorem EffAt.facts (h : EffAt w ze g mb md day p d) : w.cell? ⟨ze, 0, none⟩ = some (.pointer (some ⟨g, 0, none⟩)) ∧ w.cell? ⟨ze, 1, none⟩ = some (.int .i64 day) ∧ w.cell? ⟨ze, 2, none⟩ = some (.map (some mb)) ∧ w.cell? ⟨ze, 3, none⟩ = some (.map (some md)) :=
  ⟨blk_cell h.blk 0, blk_cell h.blk 1, blk_cell h.blk 2, blk_cell h.blk 3⟩
theorem DoneAt.look (h : DoneAt w md d) (x : ByteArray) (hx : x.size ≤ 1000) : (Instr.lookup 47 (.map (some md)) (.string x) true).run Tryd.prog w = .ok (.tuple #[((d x).map frcV).getD (.agg #[.int .i64 0, .int .i64 0]), .bool (d x).isSome]) w := by
  obtain ⟨kl, hkl⟩ := key_s hx
  have := h.1.lookup str_keyed encS_inj Tryd.underlying47 (z := .agg #[.int .i64 0, .int .i64 0]) (by kernel_rfl) true x hkl
  rw [if_pos rfl] at this
  have e1 : encS x = .string x := rfl
  rw [e1] at this
  rw [this]
  cases d x <;> rfl
theorem DoneAt.put (h : DoneAt w md d) (x : ByteArray) (hx : x.size ≤ 1000) (f : Frc) (h0 : inI f.f0) (h1 : inI f.f1) :
    ∃ o, (Instr.mapUpdate 47 (.map (some md)) (.string x) (.agg #[.int .i64 f.f0, .int .i64 f.f1])).run Tryd.prog w = .ok () (ChangeMaps.setBlock w md o) ∧ DoneAt (ChangeMaps.setBlock w md o) md (putD d x f) := by
  obtain ⟨kl, hkl⟩ := key_s hx
  obtain ⟨o, ho, hm⟩ := h.1.store str_keyed encS_inj Tryd.underlying47 x (.agg #[.int .i64 f.f0, .int .i64 f.f1]) hkl
  refine ⟨o, ho, ?_, ?_⟩
  · have e : (fun y => (putD d x f y).map frcV) = putM (fun y => (d y).map frcV) x (.agg #[.int .i64 f.f0, .int .i64 f.f1]) := by
      funext y
      unfold putD putM
      by_cases hy : y = x
      · simp [hy, frcV]
      · simp [hy]
    rw [e]; exact hm
  · intro y f' hy
    unfold putD at hy
    by_cases e : y = x
    · rw [if_pos e] at hy; cases hy; exact ⟨h0, h1⟩
    · rw [if_neg e] at hy; exact h.2 y f' hy
theorem grown_below_ {B : Nat} (h : Below B w W) (hB : w.heap.size ≤ B) (row : Option Nat) : w.grownBy W row := ⟨h.os, h.tape, h.output, h.size, fun k hk _ => h.block k (by omega)⟩
theorem grown_trans_ {a b c : World} {row : Option Nat} (h1 : a.grownBy b row) (h2 : b.grownBy c row) : a.grownBy c row :=
  ⟨h2.os.trans h1.os, h2.tape.trans h1.tape, h2.output.trans h1.output, Nat.le_trans h1.size h2.size, fun k hk hne => (h2.block k (Nat.lt_of_lt_of_le hk h1.size) hne).trans (h1.block k hk hne)⟩
theorem FrcAt.grown {z : Nat} {f : Frc} (h : FrcAt w z f) (hg : w.grownBy W (some md)) (hne : z ≠ md) : FrcAt W z f := (hg.block z (Array.getElem?_eq_some_iff.1 h).1 (by simpa using hne)).trans h
theorem EffAt.setAt {z i : Nat} (h : EffAt w ze g mb md day p d) (hz1 : ze ≠ z) (hz2 : mb ≠ z) (hz3 : md ≠ z) (v : Value) : EffAt (w.setCell ⟨z, i, none⟩ v) ze g mb md day p d :=
  h.of_blocks (Below.heap_setCell _ _ _ _ (by simpa using hz1)) (Below.heap_setCell _ _ _ _ (by simpa using hz2)) (Below.heap_setCell _ _ _ _ (by simpa using hz3))
theorem grown_at_ {a b : World} {row : Option Nat} (h : a.grownBy b row) {z i : Nat} (hz : a.heap.size ≤ z) (v : Value) : a.grownBy (b.setCell ⟨z, i, none⟩ v) row :=
  ⟨h.os, h.tape, h.output, by simpa [World.setCell] using h.size, fun k hk hne => (Below.heap_setCell _ _ _ _ (by simp; omega)).trans (h.block k hk hne)⟩
end
section
variable {w0 : World} {B g m1 m2 : Nat} {V : Pr → Value} {U : ByteArray → Value} {vE vC : Value} {s : Gr}
set_option maxRecDepth 100000 in
set_option maxHeartbeats 8000000 in
theorem go_of (hG : GrAt w0 B g m1 m2 V U vE vC s) (ok : GrOk s) (hsI : ∀ k (day : Int), inI (shareL (s.shL k) day).f0 ∧ inI (shareL (s.shL k) day).f1) (day : Int) (p : ByteArray → Bool) (ze mb md : Nat) (hmd : w0.heap.size ≤ md) :
    ∀ (n : Nat) (x : ByteArray) (d : Dn) (w : World) (r : Int × Int × Int) (d' : Dn), Below w0.heap.size w0 w → EffAt w ze g mb md day p d → x.size ≤ 1000 → effF s day p n x d = some (r, d') →
    Calls Tryd.prog 15 #[.pointer (some ⟨ze, 0, none⟩), .string x] w fun e w' => e = .returned (.tuple #[.agg #[.int .i64 r.1, .int .i64 r.2.1], .int .i64 r.2.2]) ∧ (DoneAt w' md d' ∧ inI r.1 ∧ inI r.2.1) ∧ w.grownBy w' (some md) := by
  intro n
  induction n with
  | zero => intro x d w r d' _ _ _ h; simp [effF] at h
  | succ nf ih =>
    intro x d w r d' hw0 hE hx hF
    obtain ⟨A, c, hown, hlook⟩ := hG.look_ow x hx
    obtain ⟨l, hle⟩ : ∃ l, s.owL x = l := ⟨_, rfl⟩
    have hlc := slice_room (hle ▸ hown)
    have hll : l.length ≤ 1000 := hle ▸ ok.owl x
    have hshare : ∀ W, Below w0.heap.size w0 W → ∀ o ∈ l, Calls Tryd.prog 9 #[.pointer (some ⟨g, 0, none⟩), .string o, .string x, .int .i64 day] W fun e w' => e = .returned (.agg #[.int .i64 (shareL (s.shL (o, x)) day).f0, .int .i64 (shareL (s.shL (o, x)) day).f1]) ∧ Below W.heap.size W w' :=
      fun W hW o ho => go_Share (hG.below hW) o x day (ok.ows x o (hle ▸ ho)) hx (by have := ok.shl (o, x); omega)
    obtain ⟨sh, hsh⟩ : ∃ sh, (fun o => shareL (s.shL (o, x)) day) = sh := ⟨_, rfl⟩
    have hsh1 : ∀ o, shareL (s.shL (o, x)) day = sh o := fun o => by rw [← hsh]
    simp only [hsh1] at hshare
    have hshI : ∀ o, inI (sh o).f0 ∧ inI (sh o).f1 := fun o => by rw [← hsh1]; exact hsI _ _
    have hos : ∀ o ∈ l, o.size ≤ 1000 := fun o ho => ok.ows x o (hle ▸ ho)
    have hg := Nat.lt_of_lt_of_le hG.lt hw0.size
    have hgc := fun (W : World) (hW : Below w0.heap.size w0 W) => (hG.below hW).facts.2.1
    simp only [effF] at hF
    rw [hle] at hF hown hlook
    have HOWN := Lib.hid hown; have HLOOK := Lib.hid hlook; have HSHARE := Lib.hid hshare; have HOS := Lib.hid hos; have HGC := Lib.hid hgc
    have HSI := Lib.hid hshI; have HSH := Lib.hid hsh1; have HW0 := Lib.hid hw0; have HE := Lib.hid hE; have IH := Lib.hid ih; have HX := Lib.hid hx
    clear hown hlook hshare hos hgc hw0 hE ih ok hG hle hsI hsh hsh1 hshI
    obtain ⟨ke0, ke1, ke2, ke3⟩ := HE.out.facts
    have hlk := HE.out.don.look x hx
    obtain ⟨hz1, hz2, hz3⟩ := HE.out.lt
    have hb1 : Below w.heap.size w (w.alloc (.cells #[.int .i64 0, .int .i64 0] 28)) := (Below.refl _ _).alloc (Nat.le_refl _) _
    have hlk1 := (HE.out.below hb1).don.look x hx
    cases hdx : d x with
    | some f =>
      rw [hdx] at hF hlk hlk1
      simp only [Option.some.injEq, Prod.mk.injEq] at hF
      obtain ⟨rfl, rfl⟩ := hF
      have hfi := HE.out.don.2 x f hdx
      simp only [Option.map_some, Option.getD_some, Option.isSome_some, frcV] at hlk hlk1
      clear hdx hx
      go_enter Tryd.func15, Tryd.ntmps15
      go_wp2
      have hF := (Go.MapKept.heap_alloc w (.cells #[.int .i64 f.f0, .int .i64 f.f1] 28)).1
      have hF2 := ((Below.refl _ (w.alloc (.cells #[.int .i64 f.f0, .int .i64 f.f1] 28))).alloc (Nat.le_refl _) (.cells #[.int .i64 f.f0, .int .i64 f.f1] 28)).block w.heap.size (by simp) |>.trans hF
      have hbe : Below w.heap.size w ((w.alloc (.cells #[.int .i64 f.f0, .int .i64 f.f1] 28)).alloc (.cells #[.int .i64 f.f0, .int .i64 f.f1] 28)) := ((Below.refl _ _).alloc (Nat.le_refl _) _).alloc (by simp) _
      refine bodyPost_ret (v := .tuple #[.agg #[.int .i64 f.f0, .int .i64 f.f1], .int .i64 0]) (by simp [results, Tryd.results15, go_sem, blk_cell hF2 0, blk_cell hF2 1]) rfl ⟨rfl, ⟨(HE.out.below hbe).don, hfi⟩, grown_below_ hbe (Nat.le_refl _) _⟩
    | none =>
      rw [hdx] at hF hlk hlk1
      simp only at hF
      have HF := Lib.hid hF
      simp only [Option.map_none, Option.getD_none, Option.isSome_none] at hlk hlk1
      clear hdx hx hF
      go_enter Tryd.func15, Tryd.ntmps15
      go_upto_region 4 with fail
      have hfr1 := (FrcAt.made w ⟨0, 0⟩).below ((Below.refl _ _).alloc (Nat.le_refl _) (.cells #[.int .i64 0, .int .i64 0] 28))
      have hbw1 : Below w.heap.size w ((w.alloc (.cells #[.int .i64 0, .int .i64 0] 28)).alloc (.cells #[.int .i64 0, .int .i64 0] 28)) := hb1.alloc (by simp) _
      obtain ⟨w1, hw1⟩ : ∃ W, (w.alloc (.cells #[.int .i64 0, .int .i64 0] 28)).alloc (.cells #[.int .i64 0, .int .i64 0] 28) = W := ⟨_, rfl⟩
      obtain ⟨z4, hz4⟩ : ∃ z, w.heap.size = z := ⟨_, rfl⟩
      simp only at hfr1
      rw [hw1, hz4] at hfr1
      rw [hw1] at hbw1 ⊢
      have HZ4 := Lib.hid hz4
      rw [hz4]
      clear hw1 hlk hlk1 hb1 ke0 ke1 ke2 ke3
      obtain ⟨q4a, q4b, q4c, q4d, q4l⟩ := hfr1.facts
      go_upto_region 5 with fail
      have hfr2 := hfr1.set 0 1
      have hbw2 : Below w.heap.size w ((w1.setCell ⟨z4, 0, none⟩ (.int .i64 0)).setCell ⟨z4, 1, none⟩ (.int .i64 1)) := (hbw1.setCell (by simp; omega) _).setCell (by simp; omega) _
      obtain ⟨w2, hw2⟩ : ∃ W, (w1.setCell ⟨z4, 0, none⟩ (.int .i64 0)).setCell ⟨z4, 1, none⟩ (.int .i64 1) = W := ⟨_, rfl⟩
      rw [hw2] at hfr2 hbw2 ⊢
      clear hw2 q4a q4b q4c q4d q4l hfr1 hbw1 hz4
      have hB02 : Below w0.heap.size w0 w2 := HW0.out.trans (hbw2.mono HW0.out.size)
      have hl1 := HLOOK.out w2 hB02
      have hg1 := HGC.out w2 hB02
      have hE2 := HE.out.below hbw2
      obtain ⟨ke0, ke1, ke2, ke3⟩ := hE2.facts
      have hg2 := Nat.lt_of_lt_of_le hg hbw2.size
      have HE2 := Lib.hid hE2; have HFR2 := Lib.hid hfr2; have HBW2 := Lib.hid hbw2
      clear hE2 hfr2 hbw2 hB02
      go_wp2
      clear hl1 hg1 ke0 ke1 ke2 ke3
      go_loopg [36, 5, 9, 10, 11, 12, 13] l.length (fun n t36 t5 t9 t10 t11 t12 t13 wr => ∃ (k : Nat) (f : Frc) (d1 : Dn), n = l.length - k ∧ k ≤ l.length ∧ t36 = .int .i64 k ∧ Hid (w.grownBy wr (some md)) ∧ Hid (EffAt wr ze g mb md day p d1) ∧ Hid (FrcAt wr z4 f) ∧ Hid (inI f.f0 ∧ inI f.f1) ∧
        Hid (effE s day p (effF s day p nf) x (l.drop k) f d1 = some (r, d')))
      case atStart => exact ⟨0, ⟨0, 1⟩, d, rfl, Nat.zero_le _, rfl, Lib.hid (grown_below_ HBW2.out (Nat.le_refl _) _), HE2, HFR2, Lib.hid ⟨by unfold inI; simp, by unfold inI; simp⟩, by rw [List.drop_zero]; exact HF⟩
      case round =>
        obtain ⟨k, f, d1, rfl, hk, rfl, HGR, HEr, HFR, HFI, HR⟩ := hrel
        have hB0r : Below w0.heap.size w0 wr := below_grown HW0.out HGR.out (fun g e => by cases e; exact hmd) HW0.out.size
        obtain ⟨ke0, ke1, ke2, ke3⟩ := HEr.out.facts
        have hzl := HEr.out.lt
        by_cases hlt : k < l.length
        · obtain ⟨gb, rfl, hgb, q0⟩ := own_str_at (pw_own_below HOWN.out hB0r) k hlt
          obtain ⟨o, ho⟩ : ∃ o, l[k] = o := ⟨_, rfl⟩
          have hom : o ∈ l := ho ▸ List.getElem_mem hlt
          have hR := HR.out
          rw [List.drop_eq_getElem_cons hlt, ho] at hR
          rw [ho] at q0
          clear ho
          have hki : (k : Int) < (l.length : Int) := by omega
          simp only [effE, HSH.out] at hR
          have HR0 := Lib.hid hR
          have HW0R := Lib.hid hB0r
          clear hR hB0r HR
          have hoz := HOS.out o hom
          go_upto_region 8 with fail
          have k0 := ke0
          have k1 := ke1
          have hzeW := hzl.1
          have bl_ : Below wr.heap.size wr wr.drew := (Below.refl _ wr).drew
          clear ke0 ke1 ke2 ke3 q0
          refine start_ (n := 13) (S := fun w' => w'.cell? ⟨ze, 0, none⟩ = some (.pointer (some ⟨g, 0, none⟩)) ∧ w'.cell? ⟨ze, 1, none⟩ = some (.int .i64 day)) (ds := [12]) #[false, false, false, false, false, false, false, false, false, false, false, false, false] (by kernel_rfl) rfl rfl ⟨(bl_.cell (p := ⟨ze, 0, none⟩) hzeW).trans k0, (bl_.cell (p := ⟨ze, 1, none⟩) hzeW).trans k1⟩ (fun hHeld => ?_)
          refine pure_ (i := 0) (N := some 40) (v := ?_) (a' := ?_) #[true, false, false, false, false, false, false, false, false, false, false, false, false] rfl rfl (by kernel_rfl) (fun _ _ _ h => h) (Or.inl ⟨by rfl, ?_⟩) ?_ ?_
          rotate_left
          · intro w'
            go_simp
            with_reducible rfl
          rotate_left
          · simp only [Act.put, List.setIfInBounds_toArray, List.set_cons_zero, List.set_cons_succ, i64_w, i32_w]
            rfl
          refine pure_ (i := 1) (N := some 41) (v := ?_) (a' := ?_) #[true, true, false, false, false, false, false, false, false, false, false, false, false] rfl rfl (by kernel_rfl) (fun _ _ _ h => h) (Or.inl ⟨by rfl, ?_⟩) ?_ ?_
          rotate_left
          · intro w'
            go_simp
            with_reducible rfl
          rotate_left
          · simp only [Act.put, List.setIfInBounds_toArray, List.set_cons_zero, List.set_cons_succ, i64_w, i32_w]
            rfl
          refine pure_ (i := 2) (N := some 42) (v := ?_) (a' := ?_) #[true, true, true, false, false, false, false, false, false, false, false, false, false] rfl rfl (by kernel_rfl) (fun _ _ _ h => h) (Or.inl ⟨by rfl, ?_⟩) ?_ ?_
          rotate_left
          · intro w'
            go_simp
            with_reducible rfl
          rotate_left
          · simp only [Act.put, List.setIfInBounds_toArray, List.set_cons_zero, List.set_cons_succ, i64_w, i32_w]
            rfl
          refine pure_ (i := 4) (N := some 44) (v := ?_) (a' := ?_) #[true, true, true, false, true, false, false, false, false, false, false, false, false] rfl rfl (by kernel_rfl) (fun _ _ _ h => h) (Or.inl ⟨by rfl, ?_⟩) ?_ ?_
          rotate_left
          · intro w'
            go_simp
            with_reducible rfl
          rotate_left
          · simp only [Act.put, List.setIfInBounds_toArray, List.set_cons_zero, List.set_cons_succ, i64_w, i32_w]
            rfl
          refine pure_ (i := 5) (N := some 45) (v := ?_) (a' := ?_) #[true, true, true, false, true, true, false, false, false, false, false, false, false] rfl rfl (by kernel_rfl) (fun _ _ _ h => h) (Or.inl ⟨by rfl, ?_⟩) ?_ ?_
          rotate_left
          · intro w'
            go_simp
            with_reducible rfl
          rotate_left
          · simp only [Act.put, List.setIfInBounds_toArray, List.set_cons_zero, List.set_cons_succ, i64_w, i32_w]
            rfl
          refine pure_ (i := 6) (N := some 46) (v := ?_) (a' := ?_) #[true, true, true, false, true, true, true, false, false, false, false, false, false] rfl rfl (by kernel_rfl) (fun _ _ _ h => h) (Or.inl ⟨by rfl, ?_⟩) ?_ ?_
          rotate_left
          · intro w'
            go_simp
            with_reducible rfl
          rotate_left
          · simp only [Act.put, List.setIfInBounds_toArray, List.set_cons_zero, List.set_cons_succ, i64_w, i32_w]
            rfl
          refine pure_ (i := 7) (N := some 47) (v := ?_) (a' := ?_) #[true, true, true, false, true, true, true, true, false, false, false, false, false] rfl rfl (by kernel_rfl) (fun _ _ _ h => h) (Or.inl ⟨by rfl, ?_⟩) ?_ ?_
          rotate_left
          · intro w'
            go_simp
            with_reducible rfl
          rotate_left
          · simp only [Act.put, List.setIfInBounds_toArray, List.set_cons_zero, List.set_cons_succ, i64_w, i32_w]
            rfl
          refine pure_ (i := 8) (N := some 48) (v := ?_) (a' := ?_) #[true, true, true, false, true, true, true, true, true, false, false, false, false] rfl rfl (by kernel_rfl) (fun _ _ _ h => h) (Or.inl ⟨by rfl, ?_⟩) ?_ ?_
          rotate_left
          · intro w'
            go_simp
            with_reducible rfl
          rotate_left
          · simp only [Act.put, List.setIfInBounds_toArray, List.set_cons_zero, List.set_cons_succ, i64_w, i32_w]
            rfl
          refine take_ (i := 3) (N := some 43) (v := ?_) (a' := ?_) #[true, true, true, true, true, true, true, true, true, false, false, false, false] rfl rfl (by kernel_rfl) (fun _ _ _ h => h) (Or.inl ⟨by rfl, ?_⟩) hHeld ?_ ?_
          rotate_left
          · rintro w' ⟨s0, s1⟩
            go_simp
            with_reducible rfl
          rotate_left
          · simp only [Act.put, List.setIfInBounds_toArray, List.set_cons_zero, List.set_cons_succ, i64_w, i32_w]
            rfl
          refine take_ (i := 9) (N := some 49) (v := ?_) (a' := ?_) #[true, true, true, true, true, true, true, true, true, true, false, false, false] rfl rfl (by kernel_rfl) (fun _ _ _ h => h) (Or.inl ⟨by rfl, ?_⟩) hHeld ?_ ?_
          rotate_left
          · rintro w' ⟨s0, s1⟩
            go_simp
            with_reducible rfl
          rotate_left
          · simp only [Act.put, List.setIfInBounds_toArray, List.set_cons_zero, List.set_cons_succ, i64_w, i32_w]
            rfl
          refine join_ (σ := Nat) 1 #[true, true, true, true, true, true, true, true, true, true, true, true, false] (fun q => [(50, .agg #[.int .i64 (sh o).f0, .int .i64 (sh o).f1]), (10, .pointer (some ⟨q, 0, none⟩))]) (fun q w' => Below wr.heap.size wr w' ∧ FrcAt w' q ⟨0, 0⟩ ∧ wr.heap.size ≤ q) ?_ ?_
          rotate_left
          · intro hCont
            refine two_ (i := 10) (j := 11) (Ni := some 50) (Nj := some 10) #[true, true, true, true, true, true, true, true, true, true, true, false, false] #[true, true, true, true, true, true, true, true, true, true, false, true, false] rfl rfl rfl rfl (by kernel_rfl) (by decide) (by decide) (fun K hK => ?_) (fun K hK => ?_)
            · skip
              refine goes_ Tryd.func9 (by kernel_rfl) rfl #[.pointer (some ⟨g, 0, none⟩), .string o, .string x, .int .i64 day] (by rfl) rfl rfl (by simp only [List.map_toArray, List.map_cons, List.map_nil]; rfl) ?_
              refine (HSHARE.out _ (HW0R.out.trans (bl_.mono HW0R.out.size)) o hom).mono ?_
              rintro e w5 ⟨rfl, hb5⟩
              refine ⟨_, rfl, ?_⟩
              have bl10_ := bl_.trans (hb5.mono bl_.size)
              refine hK.out _ _ ⟨(bl10_.cell (p := ⟨ze, 0, none⟩) hzeW).trans k0, (bl10_.cell (p := ⟨ze, 1, none⟩) hzeW).trans k1⟩ (fun hHeld => ?_)
              clear hK K
              refine norm_ (a' := ?_) ?_ ?_
              rotate_left
              · show Act.put _ (some 50) _ = _
                simp only [Act.put, List.setIfInBounds_toArray, List.set_cons_zero, List.set_cons_succ, i64_w, i32_w]
                rfl
              refine one_ (i := 11) (N := some 10) #[true, true, true, true, true, true, true, true, true, true, true, true, false] rfl rfl (by kernel_rfl) (by decide) (fun K hK => ?_)
              refine value_ (w1 := ?_) (v := ?_) (by rfl) rfl ?_ ?_
              rotate_left 2
              · go_simp
                constructor
                · rfl
                · rfl
              have bl10_11_ := bl10_.alloc bl10_.size (.cells #[.int .i64 0, .int .i64 0] 28)
              refine hK.out _ _ ⟨(bl10_11_.cell (p := ⟨ze, 0, none⟩) hzeW).trans k0, (bl10_11_.cell (p := ⟨ze, 1, none⟩) hzeW).trans k1⟩ (fun hHeld => ?_)
              clear hK K
              refine norm_ (a' := ?_) ?_ ?_
              rotate_left
              · show Act.put _ (some 10) _ = _
                simp only [Act.put, List.setIfInBounds_toArray, List.set_cons_zero, List.set_cons_succ, i64_w, i32_w]
                rfl
              exact norm_ (by simp only [putAll, Act.put, List.setIfInBounds_toArray, List.set_cons_zero, List.set_cons_succ]) (hCont w5.heap.size _ ⟨bl10_11_, FrcAt.made w5 ⟨0, 0⟩, bl10_.size⟩)
            · skip
              refine value_ (w1 := ?_) (v := ?_) (by rfl) rfl ?_ ?_
              rotate_left 2
              · go_simp
                constructor
                · rfl
                · rfl
              have bl11_ := bl_.alloc bl_.size (.cells #[.int .i64 0, .int .i64 0] 28)
              refine hK.out _ _ ⟨(bl11_.cell (p := ⟨ze, 0, none⟩) hzeW).trans k0, (bl11_.cell (p := ⟨ze, 1, none⟩) hzeW).trans k1⟩ (fun hHeld => ?_)
              clear hK K
              refine norm_ (a' := ?_) ?_ ?_
              rotate_left
              · show Act.put _ (some 10) _ = _
                simp only [Act.put, List.setIfInBounds_toArray, List.set_cons_zero, List.set_cons_succ, i64_w, i32_w]
                rfl
              refine one_ (i := 10) (N := some 50) #[true, true, true, true, true, true, true, true, true, true, true, true, false] rfl rfl (by kernel_rfl) (by decide) (fun K hK => ?_)
              refine goes_ Tryd.func9 (by kernel_rfl) rfl #[.pointer (some ⟨g, 0, none⟩), .string o, .string x, .int .i64 day] (by rfl) rfl rfl (by simp only [List.map_toArray, List.map_cons, List.map_nil]; rfl) ?_
              refine (HSHARE.out _ (HW0R.out.trans (bl11_.mono HW0R.out.size)) o hom).mono ?_
              rintro e w5 ⟨rfl, hb5⟩
              refine ⟨_, rfl, ?_⟩
              have bl11_10_ := bl11_.trans (hb5.mono bl11_.size)
              refine hK.out _ _ ⟨(bl11_10_.cell (p := ⟨ze, 0, none⟩) hzeW).trans k0, (bl11_10_.cell (p := ⟨ze, 1, none⟩) hzeW).trans k1⟩ (fun hHeld => ?_)
              clear hK K
              refine norm_ (a' := ?_) ?_ ?_
              rotate_left
              · show Act.put _ (some 50) _ = _
                simp only [Act.put, List.setIfInBounds_toArray, List.set_cons_zero, List.set_cons_succ, i64_w, i32_w]
                rfl
              exact norm_ (by simp only [putAll, Act.put, List.setIfInBounds_toArray, List.set_cons_zero, List.set_cons_succ]) (hCont wr.heap.size _ ⟨bl11_10_, (FrcAt.made wr.drew ⟨0, 0⟩).below hb5, Nat.le_refl _⟩)
          rintro z10 wj ⟨blj, frj, hzj⟩
          have hHeld := And.intro ((blj.cell (p := ⟨ze, 0, none⟩) hzeW).trans k0) ((blj.cell (p := ⟨ze, 1, none⟩) hzeW).trans k1)
          obtain ⟨k10a, k10b, k10c, k10d, k10l⟩ := frj.facts
          refine norm_ (a' := ?_) ?_ ?_
          rotate_left
          · simp only [putAll, Act.put, List.setIfInBounds_toArray, List.set_cons_zero, List.set_cons_succ]
            rfl
          refine last_ (i := 12) (N := none) #[true, true, true, true, true, true, true, true, true, true, true, true, true] rfl rfl (by kernel_rfl) (by decide) (fun K hK => ?_)
          refine skip_ (w1 := ?_) (by rfl) rfl ?_ ?_
          rotate_left
          · go_simp
            rfl
          refine hK.out _ _ ?_
          clear hK K
          refine done_ (by kernel_rfl) ?_
          have fr7 := frj.set (sh o).f0 (sh o).f1
          have bl7 : Below wr.heap.size wr ((wj.setCell ⟨z10, 0, none⟩ (.int .i64 (sh o).f0)).setCell ⟨z10, 1, none⟩ (.int .i64 (sh o).f1)) := (blj.setCell (by simp; omega) _).setCell (by simp; omega) _
          obtain ⟨w7, hw7⟩ : ∃ W, (wj.setCell ⟨z10, 0, none⟩ (.int .i64 (sh o).f0)).setCell ⟨z10, 1, none⟩ (.int .i64 (sh o).f1) = W := ⟨_, rfl⟩
          rw [hw7] at fr7 bl7 ⊢
          clear hw7 k10a k10b k10c k10d k10l hHeld frj blj k0 k1 bl_ hzeW
          have hE7 := HEr.out.below bl7
          have hF7 := HFR.out.below bl7
          have hg7 : w.grownBy w7 (some md) := grown_trans_ HGR.out (grown_below_ bl7 (Nat.le_refl _) _)
          have hW7 := HW0R.out.trans (bl7.mono HW0R.out.size)
          obtain ⟨ke0, ke1, ke2, ke3⟩ := hE7.facts
          have hlk7 := hE7.set.look o hoz
          have hz10m : z10 ≠ md := by omega
          obtain ⟨k10a, k10b, k10c, k10d, k10l⟩ := fr7.facts
          have hz7 := hE7.lt
          have HE7 := Lib.hid hE7; have HF7 := Lib.hid hF7; have HG7 := Lib.hid hg7; have HW7 := Lib.hid hW7; have HFR10 := Lib.hid fr7
          clear hE7 hF7 hg7 hW7 fr7 bl7 hzj
          by_cases hp : p o = true
          · have hR := HR0.out
            rw [if_pos hp] at hR
            rw [hp] at hlk7
            clear hp
            by_cases hs0 : (sh o).f0 = 0
            · rw [if_pos hs0] at hR
              have HR2 := Lib.hid hR
              rw [hs0] at k10a
              clear hR hs0
              go_wp2
              go_roundg (l.length - (k + 1))
              case measure => omega
              case rel => exact ⟨k + 1, f, d1, rfl, by omega, by go_num, HG7, HE7, HF7, HFI, HR2⟩
            · rw [if_neg hs0] at hR
              have hs0b : ((sh o).f0 == 0) = false := by simpa using hs0
              obtain ⟨⟨⟨a, b, e⟩, d2⟩, hr1, hR⟩ := Option.bind_eq_some_iff.1 hR
              simp only at hR
              have hcall := IH.out o d1 w7 (a, b, e) d2 HW7.out HE7.out hoz hr1
              simp only at hcall
              have HCALL := Lib.hid hcall
              have HR1 := Lib.hid hR
              clear hr1 hcall hR hs0
              go_upto_region 11 with (go_at_call 15; refine HCALL.out.mono ?_; rintro e_ w8 ⟨rfl, ⟨hd8, ha, hb⟩, hg8⟩)
              have hE8 := HE7.out.grown hg8 hd8
              have hz4m : z4 ≠ md := by have := HZ4.out; omega
              have hF8 := HF7.out.grown hg8 hz4m
              have hT8 := HFR10.out.grown hg8 hz10m
              have hg8w := grown_trans_ HG7.out hg8
              have hba := (Below.refl _ w8).alloc (Nat.le_refl _) (.cells #[.int .i64 a, .int .i64 b] 28)
              have hA9 := FrcAt.made w8 ⟨a, b⟩
              have hE9 := hE8.below hba
              have hF9 := hF8.below hba
              have hT9 := hT8.below hba
              have hg9 := grown_trans_ hg8w (grown_below_ hba (Nat.le_refl _) (some md))
              obtain ⟨w9, hw9⟩ : ∃ W, w8.alloc (.cells #[.int .i64 a, .int .i64 b] 28) = W := ⟨_, rfl⟩
              obtain ⟨z11, hz11⟩ : ∃ z, w8.heap.size = z := ⟨_, rfl⟩
              simp only at hA9
              rw [hw9] at hA9 hE9 hF9 hT9 hg9 ⊢
              rw [hz11] at hA9 ⊢
              clear hw9 hz11 hba hE8 hF8 hT8 hg8w hg8 hd8 k10a k10b k10c k10d k10l ke0 ke1 ke2 ke3 hlk7
              have hne : ze ≠ z4 ∧ mb ≠ z4 ∧ md ≠ z4 := by have := HZ4.out; omega
              obtain ⟨k4a, k4b, k4c, k4d, k4l⟩ := hF9.facts
              by_cases he0 : e = 0
              · subst he0
                have hR := HR1.out
                rw [if_pos rfl] at hR
                obtain ⟨k10a, k10b, k10c, k10d, k10l⟩ := hT9.facts
                obtain ⟨k11a, k11b, k11c, k11d, k11l⟩ := hA9.facts
                have hmul := fun W => frac_Mul.calls (sh o).f0 (sh o).f1 a b W (HSI.out o).1 (HSI.out o).2 ha hb
                have hmi := mulQ_inI (sh o).f0 (sh o).f1 a b
                obtain ⟨Q, hQ⟩ : ∃ Q, mulQ (sh o).f0 (sh o).f1 a b = Q := ⟨_, rfl⟩
                obtain ⟨qa, qb, qe⟩ := Q
                simp only [hQ] at hR hmul hmi
                have HMUL := Lib.hid hmul; have HR3 := Lib.hid hR
                have HE9 := Lib.hid hE9; have HF9 := Lib.hid hF9; have HG9 := Lib.hid hg9
                clear hmul hQ hR HR1 hE9 hF9 hg9 hT9 hA9
                go_upto_region 14 with (go_at_call 25; refine (HMUL.out _).mono ?_; rintro e_ w10 ⟨rfl, hb10⟩)
                have hE10 := HE9.out.below hb10
                have hF10 := HF9.out.below hb10
                have hg10 := grown_trans_ HG9.out (grown_below_ hb10 (Nat.le_refl _) (some md))
                have hba := (Below.refl _ w10).alloc (Nat.le_refl _) (.cells #[.int .i64 qa, .int .i64 qb] 28)
                have hA11 := FrcAt.made w10 ⟨qa, qb⟩
                have hE11 := hE10.below hba
                have hF11 := hF10.below hba
                have hg11 := grown_trans_ hg10 (grown_below_ hba (Nat.le_refl _) (some md))
                obtain ⟨w11, hw11⟩ : ∃ W, w10.alloc (.cells #[.int .i64 qa, .int .i64 qb] 28) = W := ⟨_, rfl⟩
                obtain ⟨z13, hz13⟩ : ∃ z, w10.heap.size = z := ⟨_, rfl⟩
                simp only at hA11
                rw [hw11] at hA11 hE11 hF11 hg11 ⊢
                rw [hz13] at hA11 ⊢
                clear hw11 hz13 hba hE10 hF10 hg10 k10a k10b k10c k10d k10l k11a k11b k11c k11d k11l k4a k4b k4c k4d k4l
                obtain ⟨k4a, k4b, k4c, k4d, k4l⟩ := hF11.facts
                by_cases hq0 : qe = 0
                · subst hq0
                  have hR := HR3.out
                  rw [if_pos rfl] at hR
                  obtain ⟨k13a, k13b, k13c, k13d, k13l⟩ := hA11.facts
                  have hadd := fun W => frac_Add.calls f.f0 f.f1 qa qb W HFI.out.1 HFI.out.2 hmi.1 hmi.2
                  have hai := addQ_inI f.f0 f.f1 qa qb
                  obtain ⟨T, hT⟩ : ∃ T, addQ f.f0 f.f1 qa qb = T := ⟨_, rfl⟩
                  obtain ⟨ta, tb, te⟩ := T
                  simp only [hT] at hR hadd hai
                  have HADD := Lib.hid hadd; have HR5 := Lib.hid hR; have HAI := Lib.hid hai
                  have HE11 := Lib.hid hE11; have HF11 := Lib.hid hF11; have HG11 := Lib.hid hg11
                  clear hadd hT hR HR3 hE11 hF11 hg11 hA11 hai
                  go_upto_region 17 with (go_at_call 26; refine (HADD.out _).mono ?_; rintro e_ w12 ⟨rfl, hb12⟩; have hE12 := HE11.out.below hb12; have hF12 := HF11.out.below hb12; have hg12 := grown_trans_ HG11.out (grown_below_ hb12 (Nat.le_refl _) (some md)); obtain ⟨j4a, j4b, j4c, j4d, j4l⟩ := hF12.facts; have HE12 := Lib.hid hE12; have HF12 := Lib.hid hF12; have HG12 := Lib.hid hg12; clear hE12 hF12 hg12)
                  have hE13 := (HE12.out.setAt (i := 0) hne.1 hne.2.1 hne.2.2 (.int .i64 ta)).setAt (i := 1) hne.1 hne.2.1 hne.2.2 (.int .i64 tb)
                  have hF13 := HF12.out.set ta tb
                  have hg13 := grown_at_ (grown_at_ HG12.out (z := z4) (i := 0) (by have := HZ4.out; omega) (.int .i64 ta)) (z := z4) (i := 1) (by have := HZ4.out; omega) (.int .i64 tb)
                  obtain ⟨w13, hw13⟩ : ∃ W, (w12.setCell ⟨z4, 0, none⟩ (.int .i64 ta)).setCell ⟨z4, 1, none⟩ (.int .i64 tb) = W := ⟨_, rfl⟩
                  rw [hw13] at hE13 hF13 hg13 ⊢
                  clear hw13 k4a k4b k4c k4d k4l j4a j4b j4c j4d j4l k13a k13b k13c k13d k13l
                  by_cases ht0 : te = 0
                  · subst ht0
                    have hR := HR5.out
                    rw [if_pos rfl] at hR
                    have HR6 := Lib.hid hR
                    have HE13 := Lib.hid hE13; have HF13 := Lib.hid hF13; have HG13 := Lib.hid hg13
                    clear hR HR5 hE13 hF13 hg13
                    go_wp2
                    go_roundg (l.length - (k + 1))
                    case measure => omega
                    case rel => exact ⟨k + 1, ⟨ta, tb⟩, d2, rfl, by omega, by go_num, HG13, HE13, HF13, HAI, HR6⟩
                  · have hR := HR5.out
                    rw [if_neg ht0] at hR
                    have ht0b : (te == 0) = false := by simpa using ht0
                    simp only [Option.some.injEq, Prod.mk.injEq] at hR
                    obtain ⟨rfl, rfl⟩ := hR
                    obtain ⟨j4a, j4b, j4c, j4d, j4l⟩ := hF13.facts
                    have HE13 := Lib.hid hE13; have HF13 := Lib.hid hF13; have HG13 := Lib.hid hg13
                    clear hE13 hF13 hg13
                    clear HR5 ht0
                    go_wp2
                    have hFF := HF13.out.set 0 0
                    refine bodyPost_ret (v := .tuple #[.agg #[.int .i64 0, .int .i64 0], .int .i64 te]) (by simp [results, Tryd.results15, go_sem, hFF.facts.1, hFF.facts.2.1]) rfl ⟨rfl, ⟨((HE13.out.setAt (i := 0) hne.1 hne.2.1 hne.2.2 _).setAt (i := 1) hne.1 hne.2.1 hne.2.2 _).don, inI0⟩, grown_at_ (grown_at_ HG13.out (by have := HZ4.out; omega) _) (by have := HZ4.out; omega) _⟩
                · have hR := HR3.out
                  rw [if_neg hq0] at hR
                  have hq0b : (qe == 0) = false := by simpa using hq0
                  simp only [Option.some.injEq, Prod.mk.injEq] at hR
                  obtain ⟨rfl, rfl⟩ := hR
                  have HE11 := Lib.hid hE11; have HF11 := Lib.hid hF11; have HG11 := Lib.hid hg11
                  clear hE11 hF11 hg11 hA11
                  clear HR3 hq0
                  go_wp2
                  have hFF := HF11.out.set 0 0
                  refine bodyPost_ret (v := .tuple #[.agg #[.int .i64 0, .int .i64 0], .int .i64 qe]) (by simp [results, Tryd.results15, go_sem, hFF.facts.1, hFF.facts.2.1]) rfl ⟨rfl, ⟨((HE11.out.setAt (i := 0) hne.1 hne.2.1 hne.2.2 _).setAt (i := 1) hne.1 hne.2.1 hne.2.2 _).don, inI0⟩, grown_at_ (grown_at_ HG11.out (by have := HZ4.out; omega) _) (by have := HZ4.out; omega) _⟩
              · have hR := HR1.out
                rw [if_neg he0] at hR
                have he0b : (e == 0) = false := by simpa using he0
                simp only [Option.some.injEq, Prod.mk.injEq] at hR
                obtain ⟨rfl, rfl⟩ := hR
                have HE9 := Lib.hid hE9; have HF9 := Lib.hid hF9; have HG9 := Lib.hid hg9
                clear hE9 hF9 hg9 hT9 hA9 HR1 he0
                go_wp2
                have hFF := HF9.out.set 0 0
                refine bodyPost_ret (v := .tuple #[.agg #[.int .i64 0, .int .i64 0], .int .i64 e]) (by simp [results, Tryd.results15, go_sem, hFF.facts.1, hFF.facts.2.1]) rfl ⟨rfl, ⟨((HE9.out.setAt (i := 0) hne.1 hne.2.1 hne.2.2 _).setAt (i := 1) hne.1 hne.2.1 hne.2.2 _).don, inI0⟩, grown_at_ (grown_at_ HG9.out (by have := HZ4.out; omega) _) (by have := HZ4.out; omega) _⟩
          · have hR := HR0.out
            have hpf : p o = false := by simpa using hp
            rw [if_neg hp] at hR
            rw [hpf] at hlk7
            have HR2 := Lib.hid hR
            clear hR hp hpf
            go_wp2
            go_roundg (l.length - (k + 1))
            case measure => omega
            case rel => exact ⟨k + 1, f, d1, rfl, by omega, by go_num, HG7, HE7, HF7, HFI, HR2⟩
        · have hkl : k = l.length := by omega
          subst hkl
          have hR := HR.out
          rw [List.drop_length] at hR
          simp only [effE, Option.some.injEq, Prod.mk.injEq] at hR
          obtain ⟨rfl, rfl⟩ := hR
          obtain ⟨k4a, k4b, k4c, k4d, k4l⟩ := HFR.out.facts
          clear HR
          go_upto_region 20 with fail
          have hEd := HEr.out.below (Below.refl _ wr).drew
          obtain ⟨ob, hob, hd2⟩ := hEd.don.put x HX.out f HFI.out.1 HFI.out.2
          have j0 : wr.drew.cell? ⟨ze, 3, none⟩ = some (.map (some md)) := hEd.facts.2.2.2
          have j1 : wr.drew.cell? ⟨z4, 0, none⟩ = some (.int .i64 f.f0) := k4a
          have j2 : wr.drew.cell? ⟨z4, 1, none⟩ = some (.int .i64 f.f1) := k4b
          have hfr := HFR.out.below (Below.refl _ wr).drew
          have hgd : w.grownBy wr.drew (some md) := grown_trans_ HGR.out (grown_below_ (Below.refl _ wr).drew (Nat.le_refl _) _)
          have hgs : w.grownBy (ChangeMaps.setBlock wr.drew md ob) (some md) := ⟨hgd.os, hgd.tape, hgd.output, by rw [setBlock_size]; exact hgd.size, fun k hk hne => (setBlock_heap _ _ _ _ (fun e => hne (by rw [e]))).trans (hgd.block k hk hne)⟩
          have hz4m : z4 ≠ md := by have := HZ4.out; omega
          have hfs : FrcAt (ChangeMaps.setBlock wr.drew md ob) z4 f := (setBlock_heap _ _ _ _ hz4m).trans hfr
          have HEND := Lib.hid (And.intro hd2 hgs); have HFS := Lib.hid hfs; have HFI2 := Lib.hid HFI.out
          clear hEd hd2 hfr hgd hgs hfs k4a k4b k4c k4d ke0 ke1 ke2 ke3
          refine start_ (n := 7) (S := fun w' => w'.cell? ⟨ze, 3, none⟩ = some (.map (some md)) ∧ w'.cell? ⟨z4, 0, none⟩ = some (.int .i64 f.f0) ∧ w'.cell? ⟨z4, 1, none⟩ = some (.int .i64 f.f1)) (ds := [6]) #[false, false, false, false, false, false, false] (by kernel_rfl) rfl rfl ⟨j0, j1, j2⟩ (fun hHeld => ?_)
          refine pure_ (i := 0) (N := some 94) (v := ?_) (a' := ?_) #[true, false, false, false, false, false, false] rfl rfl (by kernel_rfl) (fun _ _ _ h => h) (Or.inl ⟨by rfl, ?_⟩) ?_ ?_
          rotate_left
          · intro w'
            go_simp
            with_reducible rfl
          rotate_left
          · simp only [Act.put, List.setIfInBounds_toArray, List.set_cons_zero, List.set_cons_succ, i64_w, i32_w]
            rfl
          refine pure_ (i := 1) (N := some 95) (v := ?_) (a' := ?_) #[true, true, false, false, false, false, false] rfl rfl (by kernel_rfl) (fun _ _ _ h => h) (Or.inl ⟨by rfl, ?_⟩) ?_ ?_
          rotate_left
          · intro w'
            go_simp
            with_reducible rfl
          rotate_left
          · simp only [Act.put, List.setIfInBounds_toArray, List.set_cons_zero, List.set_cons_succ, i64_w, i32_w]
            rfl
          refine pure_ (i := 2) (N := some 96) (v := ?_) (a' := ?_) #[true, true, true, false, false, false, false] rfl rfl (by kernel_rfl) (fun _ _ _ h => h) (Or.inl ⟨by rfl, ?_⟩) ?_ ?_
          rotate_left
          · intro w'
            go_simp
            with_reducible rfl
          rotate_left
          · simp only [Act.put, List.setIfInBounds_toArray, List.set_cons_zero, List.set_cons_succ, i64_w, i32_w]
            rfl
          refine pure_ (i := 4) (N := some 98) (v := ?_) (a' := ?_) #[true, true, true, false, true, false, false] rfl rfl (by kernel_rfl) (fun _ _ _ h => h) (Or.inl ⟨by rfl, ?_⟩) ?_ ?_
          rotate_left
          · intro w'
            go_simp
            with_reducible rfl
          rotate_left
          · simp only [Act.put, List.setIfInBounds_toArray, List.set_cons_zero, List.set_cons_succ, i64_w, i32_w]
            rfl
          refine take_ (i := 3) (N := some 97) (v := ?_) (a' := ?_) #[true, true, true, true, true, false, false] rfl rfl (by kernel_rfl) (fun _ _ _ h => h) (Or.inl ⟨by rfl, ?_⟩) hHeld ?_ ?_
          rotate_left
          · rintro w' ⟨s0, s1, s2⟩
            go_simp
            with_reducible rfl
          rotate_left
          · simp only [Act.put, List.setIfInBounds_toArray, List.set_cons_zero, List.set_cons_succ, i64_w, i32_w]
            rfl
          refine take_ (i := 5) (N := some 99) (v := ?_) (a' := ?_) #[true, true, true, true, true, true, false] rfl rfl (by kernel_rfl) (fun _ _ _ h => h) (Or.inl ⟨by rfl, ?_⟩) hHeld ?_ ?_
          rotate_left
          · rintro w' ⟨s0, s1, s2⟩
            go_simp
            with_reducible rfl
          rotate_left
          · simp only [Act.put, List.setIfInBounds_toArray, List.set_cons_zero, List.set_cons_succ, i64_w, i32_w]
            rfl
          refine last_ (i := 6) (N := none) #[true, true, true, true, true, true, true] rfl rfl (by kernel_rfl) (by decide) (fun K hK => ?_)
          refine skip_ (w1 := ?_) (by rfl) rfl ?_ ?_
          rotate_left
          · go_simp
            rfl
          refine hK.out _ _ ?_
          clear hK K
          refine done_ (by kernel_rfl) ?_
          obtain ⟨k4a, k4b, k4c, k4d, k4l⟩ := HFS.out.facts
          obtain ⟨w5, hw5⟩ : ∃ W, ChangeMaps.setBlock wr.drew md ob = W := ⟨_, rfl⟩
          rw [hw5] at HEND HFS k4a k4b k4c k4d ⊢
          clear hw5 hob j0 j1 j2
          go_wp2
          have hFF := HFS.out.set f.f0 f.f1
          refine bodyPost_ret (v := .tuple #[.agg #[.int .i64 f.f0, .int .i64 f.f1], .int .i64 0]) (by simp [results, Tryd.results15, go_sem, hFF.facts.1, hFF.facts.2.1]) rfl ⟨rfl, ⟨?_, HFI2.out.1, HFI2.out.2⟩, grown_at_ (grown_at_ HEND.out.2 (by have := HZ4.out; omega) _) (by have := HZ4.out; omega) _⟩
          have hd3 := HEND.out.1
          exact ⟨hd3.1.of_block ((Below.heap_setCell _ _ _ _ (by simpa using hz4m.symm)).trans (Below.heap_setCell _ _ _ _ (by simpa using hz4m.symm))), hd3.2⟩
end
end Go.Proofs.YtikdiepcfdimgaaDoor.POw
namespace Go.Proofs.YtikdiepcfdimgaaDoor.POw
open Go.RowKit Go.Lib Go.Proofs.YtikdiepcfdimgaaDoorW.PrintWords Go.Proofs.YtikdiepcfdimgaaDoorW.PrintLast Go.Proofs.YtikdiepcfdimgaaDoorW.PrintMore
theorem set_nil_look (x : ByteArray) (hx : x.size ≤ 1000) (w : World) : (Instr.lookup 44 (.map none) (.string x) false).run Tryd.prog w = .ok (.bool false) w := by
  obtain ⟨kl, hkl⟩ := key_s hx
  have e1 : encS x = .string x := rfl
  rw [e1] at hkl
  have hz : (zeroValue 4).run Tryd.prog w = .ok (.bool false) w := by kernel_rfl
  rcases str_keyed.find w hkl [] (by simp) with ⟨f1, f2⟩ | ⟨j, e0, f1, f2, f3⟩
  · simp [Instr.lookup, run_underlying Tryd.underlying44, str_keyed.check w _ hkl, Result.andThen, hz, f1]
  · simp at f2
theorem DoneAt.made (w : World) : DoneAt (w.alloc (.map #[] 0)) w.heap.size (fun _ => none) := by
  refine ⟨?_, fun y f h => by cases h⟩
  have := MapAt.made Tryd.prog 9 encS w
  simpa using this
theorem inI1 : inI 1 := by unfold inI; omega
def inB : Option (ByteArray → Bool) → ByteArray → Bool
  | none, _ => false
  | some p, x => p x
def effectiveF (kf n : Nat) (s : Gr) (top ent : ByteArray) (day : Int) : Option (Int × Int × Int) :=
  (membF kf s top day).bind fun r => match r with
    | none => some (0, 0, 1)
    | some p => if p ent = true then (effF s day p n ent (putD (fun _ => none) top ⟨1, 1⟩)).map Prod.fst else some (0, 0, 1)
section
variable {w : World} {B g m1 m2 : Nat} {V : Pr → Value} {U : ByteArray → Value} {vE vC : Value} {s : Gr}
theorem go_Effective_none (gv : Value) (top ent : ByteArray) (day : Int) (r : Option (ByteArray → Bool)) (he : ent.size ≤ 1000) (hr : inB r ent = false)
    (hm : ∀ W, Below w.heap.size w W → Calls Tryd.prog 14 #[gv, .string top, .int .i64 day] W fun e w' => ∃ mv, e = .returned mv ∧ MembPost W.heap.size w' mv r ∧ Below W.heap.size W w') :
    Calls Tryd.prog 6 #[gv, .string top, .string ent, .int .i64 day] w fun e w' => e = .returned (.tuple #[.agg #[.int .i64 0, .int .i64 0], .int .i64 1]) ∧ Below w.heap.size w w' := by
  have hb1 : Below w.heap.size w (w.alloc (.cells #[.int .i64 0, .int .i64 0] 28)) := (Below.refl _ _).alloc (Nat.le_refl _) _
  have hfr1 := FrcAt.made w ⟨0, 0⟩
  have HM := Lib.hid (hm _ hb1)
  have HR := Lib.hid (show ∀ (W W' : World) (mv : Value), MembPost W.heap.size W' mv r → (Instr.lookup 44 mv (.string ent) false).run Tryd.prog W' = .ok (.bool false) W' ∧ ∃ o, mv = .map o from fun W W' mv h => by
    cases r with
    | none => simp only [MembPost] at h; subst h; exact ⟨set_nil_look ent he W', _, rfl⟩
    | some p =>
      obtain ⟨mb, rfl, hs, _⟩ := h
      refine ⟨?_, _, rfl⟩
      have := hs.look ent he
      rw [this]
      simp only [inB] at hr
      rw [hr])
  clear hm hr
  go_enter Tryd.func6, Tryd.ntmps6
  go_wp2_with (go_at_call 14; refine HM.out.mono ?_; rintro e w1 ⟨mv, rfl, hmv, hb2⟩; obtain ⟨hlk, o, ho⟩ := HR.out _ _ _ hmv; subst ho; have hfr2 := hfr1.below hb2; obtain ⟨k4a, k4b, k4c, k4d, k4l⟩ := hfr2.facts; clear hmv)
  have hF := hfr2.set 0 0
  refine bodyPost_ret (v := .tuple #[.agg #[.int .i64 0, .int .i64 0], .int .i64 1]) (by simp [results, Tryd.results6, go_sem, hF.facts.1, hF.facts.2.1]) rfl ⟨rfl, ?_⟩
  exact ((hb1.trans (hb2.mono hb1.size)).setCell (by simp) _).setCell (by simp) _
set_option maxRecDepth 100000 in
set_option maxHeartbeats 8000000 in
theorem go_Effective_in (hG : GrAt w B g m1 m2 V U vE vC s) (ok : GrOk s) (hsI : ∀ k (day : Int), inI (shareL (s.shL k) day).f0 ∧ inI (shareL (s.shL k) day).f1) (kf n : Nat) (top ent : ByteArray) (day : Int) (p : ByteArray → Bool) (res : (Int × Int × Int) × Dn) (ht : top.size ≤ 1000) (he : ent.size ≤ 1000) (hL : DaysLaid w)
    (hF : membF kf s top day = some (some p)) (hp : p ent = true) (hE : effF s day p n ent (putD (fun _ => none) top ⟨1, 1⟩) = some res) :
    Calls Tryd.prog 6 #[.pointer (some ⟨g, 0, none⟩), .string top, .string ent, .int .i64 day] w fun e w' => e = .returned (.tuple #[.agg #[.int .i64 res.1.1, .int .i64 res.1.2.1], .int .i64 res.1.2.2]) ∧ Below w.heap.size w w' := by
  have hb1 : Below w.heap.size w (w.alloc (.cells #[.int .i64 0, .int .i64 0] 28)) := (Below.refl _ _).alloc (Nat.le_refl _) _
  have hfr1 := FrcAt.made w ⟨0, 0⟩
  have hM := go_members (hG.below hb1) ok kf top day (some p) ht (hL.below hb1) hF
  have hgl := Nat.lt_of_lt_of_le hG.lt hb1.size
  obtain ⟨⟨ra, rb, re⟩, d'⟩ := res
  have hof := fun (ze mb md : Nat) (hmd : w.heap.size ≤ md) (W : World) (hW : Below w.heap.size w W) (hEf : EffAt W ze g mb md day p (putD (fun _ => none) top ⟨1, 1⟩)) => go_of hG ok hsI day p ze mb md hmd n ent _ W (ra, rb, re) d' hW hEf he hE
  have HM := Lib.hid hM; have HOF := Lib.hid hof; have HB1 := Lib.hid hb1; have HP := Lib.hid hp; have HT := Lib.hid ht; have HEZ := Lib.hid he
  have hmm := @run_makeMap Tryd.prog
  clear hM hof hG ok hsI hF hE hp hL
  go_enter Tryd.func6, Tryd.ntmps6
  go_upto_region 4 with (go_at_call 14; refine HM.out.mono ?_; rintro e w1 ⟨mv, rfl, hmv, hb2⟩; obtain ⟨mb, hmv, hs1, hmb⟩ := hmv; subst hmv; have hlk := hs1.look ent HEZ.out; rw [HP.out] at hlk)
  have hfr2 := hfr1.below hb2
  have hb2w := hb1.trans (hb2.mono hb1.size)
  have hd0 := DoneAt.made w1
  obtain ⟨ob, hput, hd1⟩ := hd0.put top HT.out ⟨1, 1⟩ inI1 inI1
  simp only at hput hd1
  have hBa : Below w1.heap.size w1 (w1.alloc (.map #[] 0)) := (Below.refl _ _).alloc (Nat.le_refl _) _
  have hBb := setBlock_below (o := ob) hBa (Nat.le_refl _)
  have hs2 := hs1.below hBb
  have hf2 := hfr2.below hBb
  have hb3 := hb2w.trans (hBb.mono hb2w.size)
  have hmbl := hs1.lt
  have hg1 : g < w1.heap.size := Nat.lt_of_lt_of_le hgl hb2.size
  go_upto_region 5 with fail
  have hz3 : (ChangeMaps.setBlock (w1.alloc (.map #[] 0)) w1.heap.size ob).heap.size = w1.heap.size + 1 := by rw [setBlock_size]; simp
  obtain ⟨w3, hw3⟩ : ∃ W, ChangeMaps.setBlock (w1.alloc (.map #[] 0)) w1.heap.size ob = W := ⟨_, rfl⟩
  rw [hw3] at hs2 hf2 hb3 hd1 hz3 ⊢
  obtain ⟨md, hmd⟩ : ∃ z, w1.heap.size = z := ⟨_, rfl⟩
  rw [hmd] at hd1 hz3 hmbl ⊢
  have hmdw : w.heap.size + 1 ≤ md := by rw [← hmd]; have := hb2.size; simp at this; omega
  clear hw3 hput hlk hBa hBb hd0 hmm hmd hs1
  have hba := (Below.refl _ w3).alloc (Nat.le_refl _) (.cells #[.pointer (some ⟨g, 0, none⟩), .int .i64 day, .map (some mb), .map (some md)] 49)
  have hE4 : EffAt (w3.alloc (.cells #[.pointer (some ⟨g, 0, none⟩), .int .i64 day, .map (some mb), .map (some md)] 49)) w3.heap.size g mb md day p (putD (fun _ => none) top ⟨1, 1⟩) :=
    ⟨(Go.MapKept.heap_alloc w3 _).1, hs2.below hba, ⟨hd1.1.below hba, hd1.2⟩, by omega, by omega⟩
  have hf4 := hf2.below hba
  have hb4 := hb3.trans (hba.mono hb3.size)
  obtain ⟨w4, hw4⟩ : ∃ W, w3.alloc (.cells #[.pointer (some ⟨g, 0, none⟩), .int .i64 day, .map (some mb), .map (some md)] 49) = W := ⟨_, rfl⟩
  obtain ⟨ze, hze⟩ : ∃ z, w3.heap.size = z := ⟨_, rfl⟩
  rw [hw4] at hE4 hf4 hb4 ⊢
  rw [hze] at hE4 ⊢
  clear hw4 hze hba hs2 hf2 hb3 hd1 hz3
  have HCALL := Lib.hid (HOF.out ze mb md (by omega) w4 hb4 hE4)
  have HMD := Lib.hid hmdw
  go_wp2_with (go_at_call 15; refine HCALL.out.mono ?_; rintro e_ w5 ⟨rfl, _, hg5⟩; have hf5 := hf4.grown hg5 (by have := HMD.out; omega); obtain ⟨k4a, k4b, k4c, k4d, k4l⟩ := hf5.facts)
  have hF := hf5.set ra rb
  refine bodyPost_ret (v := .tuple #[.agg #[.int .i64 ra, .int .i64 rb], .int .i64 re]) (by simp [results, Tryd.results6, go_sem, hF.facts.1, hF.facts.2.1]) rfl ⟨rfl, ?_⟩
  have hb5 := below_grown hb4 hg5 (fun b e => by cases e; have := HMD.out; omega) hb4.size
  exact (hb5.setCell (by simp) _).setCell (by simp) _
theorem go_Effective (hG : GrAt w B g m1 m2 V U vE vC s) (ok : GrOk s) (hsI : ∀ k (day : Int), inI (shareL (s.shL k) day).f0 ∧ inI (shareL (s.shL k) day).f1) (kf n : Nat) (top ent : ByteArray) (day : Int) (res : Int × Int × Int) (ht : top.size ≤ 1000) (he : ent.size ≤ 1000) (hL : DaysLaid w)
    (hF : effectiveF kf n s top ent day = some res) :
    Calls Tryd.prog 6 #[.pointer (some ⟨g, 0, none⟩), .string top, .string ent, .int .i64 day] w fun e w' => e = .returned (.tuple #[.agg #[.int .i64 res.1, .int .i64 res.2.1], .int .i64 res.2.2]) ∧ Below w.heap.size w w' := by
  unfold effectiveF at hF
  obtain ⟨r, hm, hF⟩ := Option.bind_eq_some_iff.1 hF
  have hM := fun (W : World) (hW : Below w.heap.size w W) => go_members (hG.below hW) ok kf top day r ht (hL.below hW) hm
  cases r with
  | none =>
    simp only [Option.some.injEq] at hF
    subst hF
    exact go_Effective_none _ top ent day none he rfl hM
  | some p =>
    simp only at hF
    by_cases hp : p ent = true
    · rw [if_pos hp] at hF
      obtain ⟨q, hq, rfl⟩ := Option.map_eq_some_iff.1 hF
      exact go_Effective_in hG ok hsI kf n top ent day p q ht he hL hm hp hq
    · rw [if_neg hp, Option.some.injEq] at hF
      subst hF
      exact go_Effective_none _ top ent day (some p) he (by simpa [inB] using hp) hM
theorem go_Effective_nil (top ent : ByteArray) (day : Int) (he : ent.size ≤ 1000) : Calls Tryd.prog 6 #[.pointer none, .string top, .string ent, .int .i64 day] w fun e w' => e = .returned (.tuple #[.agg #[.int .i64 0, .int .i64 0], .int .i64 1]) ∧ Below w.heap.size w w' :=
  go_Effective_none _ top ent day none he rfl (fun W _ => (go_members_nil top day W).mono (fun e w' h => ⟨_, h.1, rfl, h.2⟩))
set_option maxRecDepth 100000 in
theorem go_Entities_nil : Calls Tryd.prog 8 #[.pointer none] w fun e w' => e = .returned (.slice none 0 0) ∧ Below w.heap.size w w' := by
  go_enter Tryd.func8, Tryd.ntmps8
  go_wp2
  go_ret
  exact ⟨rfl, Below.refl _ _⟩
end
end Go.Proofs.YtikdiepcfdimgaaDoor.POw
