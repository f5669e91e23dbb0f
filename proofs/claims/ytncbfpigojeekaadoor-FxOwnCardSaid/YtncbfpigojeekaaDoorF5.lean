/- The law FxOwn, the walk. -/
import Derived.Test.YtncbfpigojeekaaDoorF4
namespace Go.Proofs.YtncbfpigojeekaaDoor
open Go.RowKit Go.Lib

section
variable {P : Program} (w : World)
theorem run_append_nil_src (base : Nat) (t ty e : TypeId) (i : TypeInfo) (size : Nat) (ht : P.underlying t = some (.slice e)) (hi : P.info? e = some i)
    (v : Value) (n : Nat) (xs : List Value) (hown : w.ownsRow base e size v n xs) (c : Nat) : (Builtin.append_ #[t, t] ty #[v, .slice none 0 c]).run P w = .ok v w := by
  rcases hown.2 with ⟨rfl, rfl⟩ | ⟨g, cap, cur, rfl, _, _, hnc, _⟩
  · simp [Builtin.append_, run_underlying ht, sizeOf, typeInfo, hi, Builtin.lenOf, Builtin.firstCells]
  · simp [Builtin.append_, run_underlying ht, sizeOf, typeInfo, hi, Builtin.lenOf, Builtin.firstCells, hnc, storeCells]
/-- append of whatever slice to a row of one's own -/
theorem wpList_append_src {ops : Array Oper} {rest : List Oper} {o : Oper} {a : Act} {Q : Exit → Act → World → Prop} (hgd : o.guard = none) (s x : Operand) (t : TypeId)
    (ho : o.op = .call { callee := .builtin .append, args := #[s, x], argTypes := #[t, t] })
    (base : Nat) (e : TypeId) (i : TypeInfo) (z : Value) (size bytes : Nat) (ht : P.underlying t = some (.slice e)) (hi : P.info? e = some i) (hz : i.zero = some z)
    (hsize : i.size = size) (hby : i.bytes = bytes) (hzs : z.cells.size = size) (hsz : 0 < size)
    (v : Value) (n : Nat) (xs : List Value) (hs : a.eval s = v) (hown : w.ownsRow base e size v n xs)
    (A : Option Addr) (m c : Nat) (news : List Value) (hx : a.eval x = .slice A m c) (hl : news.length = m * size) (hnews : ∀ j u, news[j]? = some u → ∃ ad, A = some ad ∧ w.cell? (ad.add j) = some u) (h1 : ∀ u ∈ news, u.oneCell' = true)
    (h63 : n + m ≤ maxLen) (hbytes : (n + m) * bytes ≤ 140737488355328) (hbase : base ≤ w.heap.size)
    (h : ∀ v' w', w'.ownsRow base e size v' (n + m) (xs ++ news) → w.grownBy w' v.ownBlock → wpList P ops Q rest (a.put o.dst v') w') : wpList P ops Q (o :: rest) a w := by
  cases A with
  | some ad =>
    exact wpList_append_own w hgd s x t ho base e i z size bytes ht hi hz hsize hby hzs hsz v n xs hs hown ad m c news hx hl (fun j u hu => by obtain ⟨ad', h, hc⟩ := hnews j u hu; cases h; exact hc) h1 h63 hbytes hbase (fun v' w' a b _ => h v' w' a b)
  | none =>
    have hn : news = [] := by
      cases news with
      | nil => rfl
      | cons u r => obtain ⟨_, h, _⟩ := hnews 0 u rfl; cases h
    subst hn
    have hm : m = 0 := by
      have h2 : m * size = 0 := hl.symm
      rcases Nat.mul_eq_zero.1 h2 with h | h
      · exact h
      · omega
    subst hm
    refine wpList_plain hgd fun K hK => ?_
    have hrun := run_append_nil_src (P := P) w base t o.type e i size ht hi v n xs hown c
    unfold Oper.wp execOp
    simp only [ho, resolve, invoke, builtin, Sem.run_bind, Sem.run_pure, Result.andThen_ok, List.map_toArray, List.map_cons, List.map_nil, hs, hx, hrun]
    exact hK _ _ (h v w (by simpa using hown) (World.grownBy.refl w _))
end

theorem flat_at (xs : List Rate) (i : Nat) (hi : i < xs.length) (j : Nat) (hj : j < 5) : (flat xs)[i * 5 + j]? = (xs[i].cells)[j]? := by
  have hj' : j < xs[i].cells.length := hj
  rw [List.getElem?_eq_getElem hj']
  exact flat_get xs i hi j _ (List.getElem?_eq_getElem hj')
/-- the cells of a row that is written -/
def Cells (w : World) (g n : Nat) : Prop := ∀ j, j < n → (∃ u, w.cell? ⟨g, j, none⟩ = some u) ∧ w.frozen? ⟨g, j, none⟩ = false
theorem Cells.setCell {w : World} {g n : Nat} (h : Cells w g n) (a : Addr) (v : Value) : Cells (w.setCell a v) g n := fun j hj => by
  obtain ⟨⟨u, hu⟩, hf⟩ := h j hj
  obtain ⟨v', hv'⟩ := cell?_setCell_some (w := w) (p := a) (x := v) (q := ⟨g, j, none⟩) (v := u) hu
  exact ⟨⟨v', hv'⟩, by rw [World.frozen?_setCell]; exact hf⟩
theorem Two.setCell {w : World} {b : Nat} {x y : Value} (h : Two w b x y) (a : Addr) (ha : a.block ≠ b) (v : Value) : Two (w.setCell a v) b x y := by
  have e : ∀ o, (w.setCell a v).cell? ⟨b, o, none⟩ = w.cell? ⟨b, o, none⟩ := fun o => World.cell?_of_block (Below.heap_setCell _ _ _ _ (fun h => ha h.symm))
  exact ⟨(e 0).trans h.1, (e 1).trans h.2.1, by rw [World.frozen?_setCell]; exact h.2.2.1, by rw [World.frozen?_setCell]; exact h.2.2.2⟩
def OwnW (w : World) (B z tb g : Nat) (a : Ask) (lv : Value) (f1 f2 : Int) (W : World) : Prop := Below w.heap.size w W ∧ AskAt W w.heap.size a lv ∧ Two W z (.int .i64 f1) (.int .i64 f2) ∧ z < W.heap.size ∧ Tab W B tb a.base a.rates.length a.rates ∧ Cells W g (a.rates.length * 5)
theorem OwnW.set {w : World} {B z tb g : Nat} {a : Ask} {lv : Value} {f1 f2 : Int} {W : World} (h : OwnW w B z tb g a lv f1 f2 W) (h1 : w.heap.size + 1 ≤ g) (h2 : g < B) (h3 : g ≠ z) (i : Nat) (v : Value) : OwnW w B z tb g a lv f1 f2 (W.setCell ⟨g, i, none⟩ v) := by
  obtain ⟨p1, p2, p3, p4, p5, p6⟩ := h
  exact ⟨p1.setCell (show w.heap.size ≤ g by omega) v, p2.belowB (Nat.lt_succ_self _) ((Below.refl (w.heap.size + 1) W).setCell h1 v), p3.setCell _ h3 v, by simpa using p4, p5.setCell _ h2 v, p6.setCell _ v⟩
theorem OwnW.rel {w : World} {B z tb g : Nat} {a : Ask} {lv : Value} {f1 f2 : Int} {W : World} (h : OwnW w B z tb g a lv f1 f2 W) : Below w.heap.size w W ∧ AskAt W w.heap.size a lv ∧ Two W z (.int .i64 f1) (.int .i64 f2) ∧ z < W.heap.size ∧ Tab W B tb a.base a.rates.length a.rates ∧ Hid (Cells W g (a.rates.length * 5)) :=
  ⟨h.1, h.2.1, h.2.2.1, h.2.2.2.1, h.2.2.2.2.1, Lib.hid h.2.2.2.2.2⟩
theorem set5 {P : World → Prop} {w : World} {g : Nat} (i0 i1 i2 i3 i4 : Nat) (v0 v1 v2 v3 v4 : Value) (hs : ∀ W i v, P W → P (W.setCell ⟨g, i, none⟩ v)) (h : P w) :
    P (((((w.setCell ⟨g, i0, none⟩ v0).setCell ⟨g, i1, none⟩ v1).setCell ⟨g, i2, none⟩ v2).setCell ⟨g, i3, none⟩ v3).setCell ⟨g, i4, none⟩ v4) := hs _ _ _ (hs _ _ _ (hs _ _ _ (hs _ _ _ (hs _ _ _ h))))

set_option maxRecDepth 100000 in
set_option maxHeartbeats 8000000 in
theorem law11_FxOwn.calls (a : Ask) (lv : Value) (w : World) (hl : DaysLaid w) (hs : SlR Rate.cells 5 w lv a.rates) (hw : a.wf) :
    Calls Tryd.prog 8 #[a.v lv] w fun e w' => e = .returned (.bool true) ∧ Below w.heap.size w w' := by
  have hlives := fun (W : World) (hB : Below w.heap.size w W) => law11_lives.calls W (hl.below hB)
  have HLI := Lib.hid hlives; clear hlives
  have hls : ∀ W, Below w.heap.size w W → DaysLaid W ∧ SlR Rate.cells 5 W lv a.rates := fun W hB => ⟨hl.below hB, hs.below hB⟩
  obtain ⟨A, cp, rfl, hAs⟩ := hs.shape
  have HAS := Lib.hid hAs; clear hAs
  have HLS := Lib.hid hls; clear hls hl hs
  unfold Ask.v
  have HW := Lib.hid hw; clear hw
  have hby := HW.out.bytes
  obtain ⟨i0, hi0, hz0, hz1, hz2⟩ := info_parts info_rate
  have hk0 := AskAt.new w a (.slice A a.rates.length cp) 35
  have hrow0 : ((w.alloc (.cells #[.string a.base, .slice A a.rates.length cp, .string a.frm, .string a.too, .int .i64 a.kind, .int .i64 a.day, .int .i64 a.amount, .int .i64 a.mode] 35)).alloc (.cells #[] 51)).ownsRow (w.heap.size + 1) 51 5 (.slice (some ⟨w.heap.size + 1, 0, none⟩) 0 0) 0 [] := by
    refine ⟨rfl, .inr ⟨_, 0, #[], rfl, Nat.le_refl _, ?_, Nat.le_refl _, by unfold maxLen; omega, rfl, rfl⟩⟩
    rw [← World.size_alloc w]; exact heap_alloc_new _ _
  have hnews : ∀ j u, (flat a.rates)[j]? = some u → ∃ ad : Addr, A = some ad ∧ ((w.alloc (.cells #[.string a.base, .slice A a.rates.length cp, .string a.frm, .string a.too, .int .i64 a.kind, .int .i64 a.day, .int .i64 a.amount, .int .i64 a.mode] 35)).alloc (.cells #[] 51)).cell? (ad.add j) = some u := by
    intro j u hu
    have hj : j < (flat a.rates).length := (List.getElem?_eq_some_iff.1 hu).1
    rw [flat_length] at hj
    obtain ⟨b, o, rfl, hbw, hc⟩ := HAS.out (j / 5) (by omega)
    refine ⟨_, rfl, ?_⟩
    have e1 : (⟨b, o, none⟩ : Addr).add j = ⟨b, o + j, none⟩ := Addr.add_lit _ _ _
    rw [e1, (bcell (Ba (Bn w _) _)).1 b (o + j) hbw]
    have h5 := flat_at a.rates (j / 5) (by omega) (j % 5) (by omega)
    have e2 : j / 5 * 5 + j % 5 = j := by omega
    rw [e2] at h5
    have := hc (j % 5) u (by rw [← h5]; exact hu)
    rw [← this]
    congr 2
    omega
  have HROW := Lib.hid hrow0; have HNEWS := Lib.hid hnews
  clear hrow0 hnews
  go_enter Tryd.func8, Tryd.ntmps8
  go_upto_region 2 with (at_builtin; refine wpList_append_src _ rfl (.tmp 12) (.tmp 14) 22 rfl (w.heap.size + 1) 51 i0 _ 5 48 Tryd.underlying22 hi0 hz0 hz1 hz2 rfl (by decide) _ 0 _ rfl HROW.out A a.rates.length cp (flat a.rates) rfl (flat_length _) HNEWS.out (flat_one _) ?c3 ?c4 ?c5 ?_; (case c3 => unfold maxLen; omega); (case c4 => omega); (case c5 => simp); intro v1 w1 hown1 hgrow1)
  simp only [Nat.zero_add, List.nil_append] at hown1
  have hb1 : Below (w.heap.size + 1) (w.alloc (.cells #[.string a.base, .slice A a.rates.length cp, .string a.frm, .string a.too, .int .i64 a.kind, .int .i64 a.day, .int .i64 a.amount, .int .i64 a.mode] 35)) w1 := ((Below.refl _ _).alloc (by simp) _).grown hgrow1 (by simp) (own_at HROW.out)
  have hk1 := hk0.belowB (by omega) hb1
  have c1 := (Bn w (.cells #[.string a.base, .slice A a.rates.length cp, .string a.frm, .string a.too, .int .i64 a.kind, .int .i64 a.day, .int .i64 a.amount, .int .i64 a.mode] 35)).trans (hb1.mono (by omega))
  have hslr := slr_of_owns hown1 rfl
  have HOWN := Lib.hid hown1; clear hown1
  clear hb1 hgrow1 hk0
  obtain ⟨A2, cp2, rfl, _⟩ := hslr.shape
  have hsb : ∀ W, Below w1.heap.size w1 W → SlR Rate.cells 5 W (.slice A2 a.rates.length cp2) a.rates := fun W hB => hslr.below hB
  have HSB := Lib.hid hsb; clear hsb hslr
  obtain ⟨kz, k0, k1, k2, k3, k4, k5, k6, k7⟩ := id hk1
  obtain ⟨⟨i, e⟩, hN⟩ : ∃ p, newS a.base a.rates = p := ⟨_, rfl⟩
  have HN := Lib.hid hN; clear hN
  by_cases he : e = 0
  case neg =>
    have hnew := fun (W : World) (hB : Below w1.heap.size w1 W) => fx_New_err HN.out he _ W (HLS.out W (Bt c1 hB)).1 (HSB.out W hB) HW.out.rates HW.out.base HW.out.len
    have HNE := Lib.hid hnew; clear hnew
    have heb : (e == 0) = false := by simp [he]
    clear he
    go_upto_region 3 with (go_at_call 12; refine (HNE.out _ (Below.refl _ _)).mono ?_; rintro e w2 ⟨rfl, hb2⟩; have hk2 := hk1.below hb2; clear kz k0 k1 k2 k3 k4 k5 k6 k7; obtain ⟨kz, k0, k1, k2, k3, k4, k5, k6, k7⟩ := id hk2)
    by_cases h1 : 60 < a.rates.length
    · have b1 : decide (60 < a.rates.length) = true := decide_eq_true h1
      go_wp2_with (first
        | (go_at_call 10; refine (law11_large.calls _ _ _ _).mono ?_; rintro e w' ⟨rfl, rfl⟩; rw [b1])
        | (go_at_call 11; refine (HLI.out _ (Bt c1 hb2)).mono ?_; rintro e w8 ⟨rfl, hb8⟩))
      go_ret
      exact ⟨rfl, Bt (Bt c1 hb2) hb8⟩
    · have b1 : decide (60 < a.rates.length) = false := decide_eq_false h1
      go_wp2_with (first
        | (go_at_call 10; refine (law11_large.calls _ _ _ _).mono ?_; rintro e w' ⟨rfl, rfl⟩; rw [b1])
        | (go_at_call 11; refine (HLI.out _ (Bt c1 hb2)).mono ?_; rintro e w8 ⟨rfl, hb8⟩))
      go_ret
      exact ⟨rfl, Bt (Bt c1 hb2) hb8⟩
  case pos =>
    subst he
    have hnew := fun (W : World) (hB : Below w1.heap.size w1 W) => fx_New_ok HN.out _ W (HLS.out W (Bt c1 hB)).1 (HSB.out W hB) HW.out.rates HW.out.base HW.out.len
    have HNE := Lib.hid hnew; clear hnew
    go_upto_region 3 with (go_at_call 12; refine (HNE.out _ (Below.refl _ _)).mono ?_; rintro e w2 ⟨tb, rfl, hb2, hT2, hO⟩; have hk2 := hk1.below hb2; clear kz k0 k1 k2 k3 k4 k5 k6 k7; obtain ⟨kz, k0, k1, k2, k3, k4, k5, k6, k7⟩ := id hk2)
    have c2 := Bt c1 hb2
    by_cases h1 : 60 < a.rates.length
    · have b1 : decide (60 < a.rates.length) = true := decide_eq_true h1
      go_wp2_with (first
        | (go_at_call 10; refine (law11_large.calls _ _ _ _).mono ?_; rintro e w' ⟨rfl, rfl⟩; rw [b1])
        | (go_at_call 11; refine (HLI.out _ c2).mono ?_; rintro e w8 ⟨rfl, hb8⟩))
      go_ret
      exact ⟨rfl, Bt c2 hb8⟩
    have b1 : decide (60 < a.rates.length) = false := decide_eq_false h1
    have hF := fun (W : World) (B tb : Nat) (hB : Below w.heap.size w W) (hT : Tab W B tb a.base a.rates.length a.rates) => fx_Find.calls a.base a.frm a.kind a.day a.rates B tb a.rates.length W (HLS.out W hB).1 HW.out.frm HW.out.kind hT hO
    obtain ⟨⟨f1, f2, f3⟩, hf⟩ : ∃ f, findS a.base a.rates a.frm a.kind a.day = f := ⟨_, rfl⟩
    rw [hf] at hF
    simp only at hF
    have HF := Lib.hid hF; clear hF hf
    go_upto_region 5 with (go_at_call 10; refine (law11_large.calls _ _ _ _).mono ?_; rintro e w' ⟨rfl, rfl⟩; rw [b1])
    go_upto_region 6 with (go_at_call 16; refine (HF.out _ _ _ c2 hT2).mono ?_; rintro e w3 ⟨rfl, hb3⟩; have hk3 := hk2.below hb3)
    have d3 := Ba hb3 (.cells #[.int .i64 f1, .int .i64 f2] 37)
    have z3 := Two.new w3 (.int .i64 f1) (.int .i64 f2) 37
    have hT3 := hT2.mono d3
    have hk3' := hk3.below (Bn w3 (.cells #[.int .i64 f1, .int .i64 f2] 37))
    have c3 := Bt c2 d3
    clear kz k0 k1 k2 k3 k4 k5 k6 k7
    have hown3 := owns_below HOWN.out (Bt hb2 d3)
    have hg : ∃ g, (0 < a.rates.length → w.heap.size + 1 ≤ g ∧ g < w1.heap.size ∧ A2 = some ⟨g, 0, none⟩) ∧ Cells (w3.alloc (.cells #[.int .i64 f1, .int .i64 f2] 37)) g (a.rates.length * 5) := by
      rcases HOWN.out.2 with ⟨_, h0⟩ | ⟨g, cap, cur, hv, hbg, hgh, hnc, hcm, hcs, htake⟩
      · exact ⟨0, fun h => by omega, fun j hj => by omega⟩
      · have hlt := (Array.getElem?_eq_some_iff.1 hgh).1
        refine ⟨g, fun _ => ⟨hbg, hlt, by injection hv⟩, fun j hj => ?_⟩
        obtain ⟨hcc, hff⟩ := bcell (Bt hb2 d3)
        have hjc : j < cur.size := by omega
        exact ⟨⟨cur[j], by rw [hcc _ _ hlt, hasRow hgh]; simp [hjc]⟩, by rw [hff _ _ hlt]; simp [World.frozen?, hgh]⟩
    obtain ⟨g, hgA, hgc⟩ := hg
    have HGA := Lib.hid hgA; have HGC := Lib.hid hgc
    clear hgA hgc hown3
    have hs1 := hb2.size
    have hs3 := hb3.size
    have hef := eq_frac
    go_wp2
    go_loopg [9] a.rates.length (fun gg s9 wx => ∃ k : Nat, gg = a.rates.length - k ∧ k ≤ a.rates.length ∧ s9 = .int .i64 k ∧ Below w.heap.size w wx ∧ AskAt wx w.heap.size a (.slice A a.rates.length cp) ∧ Two wx w3.heap.size (.int .i64 f1) (.int .i64 f2) ∧ w3.heap.size < wx.heap.size ∧ Tab wx w1.heap.size tb a.base a.rates.length a.rates ∧ Hid (Cells wx g (a.rates.length * 5)))
    case atStart => exact ⟨0, rfl, Nat.zero_le _, rfl, c3, hk3', z3, by simp, hT3, HGC⟩
    case round =>
      obtain ⟨k, rfl, hk, rfl, hbr, hask, htwo, hzr, htab, HC⟩ := hrel
      obtain ⟨kz, k0, k1, k2, k3, k4, k5, k6, k7⟩ := id hask
      by_cases hlt : k < a.rates.length
      · obtain ⟨hg1, hg2, rfl⟩ := HGA.out (by omega)
        obtain ⟨⟨u0, hu0⟩, hf0⟩ := HC.out (k * 5) (by omega)
        obtain ⟨⟨u1, hu1⟩, hf1⟩ := HC.out (k * 5 + 1) (by omega)
        obtain ⟨⟨u2, hu2⟩, hf2⟩ := HC.out (k * 5 + 2) (by omega)
        obtain ⟨⟨u3, hu3⟩, hf3⟩ := HC.out (k * 5 + 3) (by omega)
        obtain ⟨⟨u4, hu4⟩, hf4⟩ := HC.out (k * 5 + 4) (by omega)
        go_wp2
        go_roundg (a.rates.length - (k + 1))
        case measure => omega
        case rel =>
          have h3 : g ≠ w3.heap.size := by omega
          have hP : OwnW w w1.heap.size w3.heap.size tb g a (.slice A a.rates.length cp) f1 f2 wr := ⟨hbr, hask, htwo, hzr, htab, HC.out⟩
          refine ⟨k + 1, rfl, by omega, by go_num, ?_⟩
          exact OwnW.rel (set5 (P := OwnW w w1.heap.size w3.heap.size tb g a (.slice A a.rates.length cp) f1 f2) _ _ _ _ _ _ _ _ _ _ (fun W i v h => OwnW.set h hg1 hg2 h3 i v) hP)
      · have hkl : k = a.rates.length := by omega
        subst hkl
        obtain ⟨ya, yb, yc, yd⟩ := id htwo
        go_upto_region 11 with (go_at_call 16; refine (HF.out _ _ _ hbr htab).mono ?_; rintro e w4 ⟨rfl, hb4⟩; have hk4 := hask.below hb4; clear kz k0 k1 k2 k3 k4 k5 k6 k7)
        have hk5 := hk4.below (Bn w4 (.cells #[.int .i64 f1, .int .i64 f2] 37))
        have z5 := Two.new w4 (.int .i64 f1) (.int .i64 f2) 37
        have y5 := (htwo.below hzr hb4).below (Nat.lt_of_lt_of_le hzr hb4.size) (Bn w4 (.cells #[.int .i64 f1, .int .i64 f2] 37))
        have hT5 := htab.mono (Ba hb4 (.cells #[.int .i64 f1, .int .i64 f2] 37))
        obtain ⟨kz, k0, k1, k2, k3, k4, k5, k6, k7⟩ := id hk5
        obtain ⟨xa, xb, xc, xd⟩ := id z5
        clear ya yb yc yd
        obtain ⟨ya, yb, yc, yd⟩ := id y5
        have c5 := Bt hbr (Ba hb4 (.cells #[.int .i64 f1, .int .i64 f2] 37))
        have hb4s := hb4.size
        have hkz := hk4.1
        go_region_held3 (fun w' => w'.cell? ⟨w3.heap.size, 0, none⟩ = some (.int .i64 f1) ∧ w'.cell? ⟨w3.heap.size, 1, none⟩ = some (.int .i64 f2) ∧ w'.cell? ⟨w4.heap.size, 0, none⟩ = some (.int .i64 f1) ∧ w'.cell? ⟨w4.heap.size, 1, none⟩ = some (.int .i64 f2) ∧ w'.cell? ⟨w.heap.size, 1, none⟩ = some (.slice A a.rates.length cp))
          (first | (go_keep; done) | (refine ⟨(hcc _ _ (by first | (simp <;> omega) | (rw [World.size_drew, World.size_alloc]; omega))).trans ?_, (hcc _ _ (by first | (simp <;> omega) | (rw [World.size_drew, World.size_alloc]; omega))).trans ?_, (hcc _ _ (by first | (simp <;> omega) | (rw [World.size_drew, World.size_alloc]; omega))).trans ?_, (hcc _ _ (by first | (simp <;> omega) | (rw [World.size_drew, World.size_alloc]; omega))).trans ?_, (hcc _ _ (by first | (simp <;> omega) | (rw [World.size_drew, World.size_alloc]; omega))).trans ?_⟩ <;> (first | exact ya | exact yb | exact xa | exact xb | exact k1 | (rw [World.cell?_drewN]; first | exact ya | exact yb | exact xa | exact xb | exact k1) | (rw [World.cell?_drew]; first | exact ya | exact yb | exact xa | exact xb | exact k1))))
          (first
            | (go_at_call 15; refine (fx_Len.calls _ (hT5.mono (by first | exact Below.refl _ _ | exact below_drewN _ _))).mono ?_; rintro e w' ⟨rfl, rfl⟩)
            | (go_at_call 11; refine (HLI.out _ (Bt c5 (by first | exact Below.refl _ _ | exact below_drewN _ _))).mono ?_; rintro e w8 ⟨rfl, hb8⟩; obtain ⟨hcc, hff⟩ := bcell hb8))
        all_goals
          go_wp2
          go_ret
          exact ⟨rfl, Bt (Bt c5 (by first | exact Below.refl _ _ | exact below_drewN _ _)) hb8⟩

end Go.Proofs.YtncbfpigojeekaaDoor
