/- accountingref27.Of: the walk. -/
import Derived.Test.YtohfnpkoheafkaaDoorGC
namespace Go.Proofs.YtohfnpkoheafkaaDoor.PAg
open Go.RowKit Go.Lib Go.Proofs.YtohfnpkoheafkaaDoorW.PrintWords Go.Proofs.YtohfnpkoheafkaaDoorW.PrintLast Go.Proofs.YtohfnpkoheafkaaDoorW.PrintMore

set_option maxHeartbeats 2000000 in
theorem go_refBucket (age : Int) (lims : List Int) (A : Option Addr) (c : Nat) (w : World) (hr : Kd.C (Kd.int .i64) w A lims.length lims) :
    Calls Tryd.prog 11 #[.int .i64 age, .slice A lims.length c] w fun e w' => e = .returned (.int .i64 (bucketN age lims)) ∧ w = w' := by
  have hlen := hr.2.1
  have hat := ints_at hr
  have HAT := Lib.hid hat; clear hat hr
  obtain ⟨R, hR⟩ : ∃ R, bucketN age lims = R := ⟨_, rfl⟩
  have HR := Lib.hid hR
  rw [hR]
  have hRl : R ≤ lims.length := by rw [← hR]; exact bucketN_le age lims
  clear hR
  go_enter Tryd.func11, Tryd.ntmps11
  go_wp2
  go_loopg [5] lims.length (fun g t wr => ∃ k : Nat, g = lims.length - k ∧ k ≤ lims.length ∧ t = .int .i64 k ∧ wr = w ∧ k ≤ R)
  case atStart => exact ⟨0, rfl, Nat.zero_le _, rfl, rfl, Nat.zero_le _⟩
  case round =>
    obtain ⟨k, rfl, hk, rfl, rfl, hkR⟩ := hrel
    by_cases hlt : k < lims.length
    · obtain ⟨b, o, rfl, hbw, hc⟩ := HAT.out k hlt
      obtain ⟨x, hx⟩ : ∃ x, lims[k] = x := ⟨_, rfl⟩
      rw [hx] at hc
      by_cases hle : age ≤ x
      · have HF := Lib.hid (show R = k by rw [← HR.out]; exact bucketN_at hlt (by rw [hx]; exact hle) (by rw [HR.out]; exact hkR))
        clear hx
        go_wp2
        go_ret
        exact ⟨by rw [HF.out]; rfl, rfl⟩
      · have HF := Lib.hid (show k + 1 ≤ R by rw [← HR.out]; exact bucketN_next hlt (by rw [hx]; exact hle) (by rw [HR.out]; exact hkR))
        have hleb : decide (age ≤ x) = false := decide_eq_false hle
        clear hx hle
        go_wp2
        go_roundg (lims.length - (k + 1))
        case measure => omega
        case rel => exact ⟨k + 1, rfl, by omega, by go_num, rfl, HF.out⟩
    · have HF := Lib.hid (show R = lims.length by omega)
      have hlt' : ¬ (k : Int) < (lims.length : Int) := by omega
      go_wp2
      go_ret
      exact ⟨by rw [HF.out]; rfl, rfl⟩


theorem flatO_take (G : Own → Nat) (n : Nat) (ks : List Own) (P : Nat) : flatO G n (ks.take P) ++ flatO G n (ks.drop P) = flatO G n ks := by
  unfold flatO
  rw [← List.flatMap_append, List.take_append_drop]
theorem flatO_one (G : Own → Nat) (n : Nat) (ks : List Own) : ∀ u ∈ flatO G n ks, u.oneCell' = true := by
  intro u hu
  obtain ⟨k, _, hk⟩ := List.mem_flatMap.1 hu
  simp [cellsO] at hk
  rcases hk with rfl | rfl | rfl <;> rfl
theorem flatO_takeEq (G : Own → Nat) (n : Nat) (ks : List Own) (P : Nat) : flatO G n (ks.take P) = (flatO G n ks).take (P * 3) := by
  by_cases h : P ≤ ks.length
  · have hl : (flatO G n (ks.take P)).length = P * 3 := by rw [flatO_length, List.length_take, Nat.min_eq_left h]
    rw [← flatO_take G n ks P, List.take_left' hl]
  · rw [List.take_of_length_le (by omega), List.take_of_length_le (by rw [flatO_length]; omega)]
theorem flatO_dropEq (G : Own → Nat) (n : Nat) (ks : List Own) (P : Nat) : flatO G n (ks.drop P) = (flatO G n ks).drop (P * 3) := by
  by_cases h : P ≤ ks.length
  · have hl : (flatO G n (ks.take P)).length = P * 3 := by rw [flatO_length, List.length_take, Nat.min_eq_left h]
    rw [← flatO_take G n ks P, List.drop_left' hl]
  · rw [List.drop_of_length_le (by omega), List.drop_of_length_le (by rw [flatO_length]; omega)]; rfl
section
variable {w W : World} {base e size n c m : Nat} {A : Option Addr} {xs : List Value}
theorem slice_room (h : w.ownsRow base e size (.slice A n c) n xs) : n ≤ c := by
  rcases h.2 with ⟨hv, h0⟩ | ⟨g, cap, cur, hv, _, _, hnc, _⟩
  · omega
  · injection hv with _ _ hc
    subst hc; exact hnc
theorem own_news_take (h : w.ownsRow base e size (.slice A n c) n xs) (hm : m ≤ n) (hW : ∀ g, (Value.slice A n c).ownBlock = some g → W.heap[g]? = w.heap[g]?) :
    ∀ j u, (xs.take (m * size))[j]? = some u → ∃ ad, A = some ad ∧ W.cell? (ad.add j) = some u := fun j u hu => by
  have hj := (List.getElem?_eq_some_iff.1 hu).1
  rw [List.length_take] at hj
  rw [List.getElem?_take, if_pos (by omega)] at hu
  rcases h.2 with ⟨hv, h0⟩ | ⟨g, cap, cur, hv, _, hh, _, _, _, ht⟩
  · have := h.1; subst h0; omega
  · injection hv with ha _ hc
    subst ha; subst hc
    refine ⟨_, rfl, ?_⟩
    rw [Addr.add_lit, Nat.zero_add]
    have h2 := (List.getElem?_eq_some_iff.1 hu).1
    rw [h.1] at h2
    rw [← ht, List.getElem?_take, if_pos h2, Array.getElem?_toList] at hu
    simp [World.cell?, hW g rfl, hh, hu]
theorem own_news_drop (h : w.ownsRow base e size (.slice A n c) n xs) (hm : m ≤ n) (hW : ∀ g, (Value.slice A n c).ownBlock = some g → W.heap[g]? = w.heap[g]?) :
    ∀ j u, (xs.drop (m * size))[j]? = some u → ∃ ad, (if c = m then A else A.map (·.add (m * size))) = some ad ∧ W.cell? (ad.add j) = some u := fun j u hu => by
  rw [List.getElem?_drop] at hu
  have h2 := (List.getElem?_eq_some_iff.1 hu).1
  rw [h.1] at h2
  rcases h.2 with ⟨hv, h0⟩ | ⟨g, cap, cur, hv, _, hh, hnc, _, _, ht⟩
  · subst h0; omega
  · injection hv with ha _ hc
    subst ha; subst hc
    rw [← ht, List.getElem?_take, if_pos h2, Array.getElem?_toList] at hu
    by_cases hcm : c = m
    · subst hcm
      have : n = c := by omega
      subst this
      omega
    · rw [if_neg hcm]
      refine ⟨_, rfl, ?_⟩
      show W.cell? (((⟨g, 0, none⟩ : Addr).add (m * size)).add j) = some u
      rw [Addr.add_lit, Addr.add_lit, Nat.zero_add]
      simp [World.cell?, hW g rfl, hh, hu]
end
theorem empty_own {w : World} {base g : Nat} (hb : base ≤ g) (h : w.heap[g]? = some (.cells #[] 37 (0, 0))) : w.ownsRow base 37 3 (.slice (some ⟨g, 0, none⟩) 0 0) 0 [] :=
  ⟨rfl, .inr ⟨g, 0, #[], rfl, hb, h, Nat.le_refl _, Nat.zero_le _, rfl, rfl⟩⟩
theorem insG_length (ks : List Own) (k : Own) : (insG ownLt ks k).length = ks.length + 1 := by
  unfold insG
  have := posG_le (lt := ownLt) ks k
  simp; omega
theorem own_lower_ {w : World} {b b' : Nat} {e : TypeId} {size n : Nat} {v : Value} {xs : List Value} (h : w.ownsRow b e size v n xs) (hb : b' ≤ b) : w.ownsRow b' e size v n xs := by
  refine ⟨h.1, ?_⟩
  rcases h.2 with h2 | ⟨g, cap, cur, h1, h2, h3⟩
  · exact .inl h2
  · exact .inr ⟨g, cap, cur, h1, Nat.le_trans hb h2, h3⟩
theorem two_new (w : World) (o1 o2 : Obj) : (((w.alloc o1).alloc o2).drew).heap[w.heap.size]? = some o1 ∧ (((w.alloc o1).alloc o2).drew).heap[w.heap.size + 1]? = some o2 ∧ Below w.heap.size w (((w.alloc o1).alloc o2).drew) := by
  refine ⟨?_, ?_, (((Below.refl _ w).alloc (Nat.le_refl _) _).alloc (by simp) _).drew⟩
  · show ((w.alloc o1).alloc o2).heap[w.heap.size]? = _
    rw [heap_alloc_old (w.alloc o1) o2 (by simp)]
    exact (Go.MapKept.heap_alloc w o1).1
  · show ((w.alloc o1).alloc o2).heap[w.heap.size + 1]? = _
    have := (Go.MapKept.heap_alloc (w.alloc o1) o2).1
    simpa using this
def hasO (ks : List Own) (k : Own) : Bool := ks.any fun y => decide (y = k)
theorem hasO_iff (ks : List Own) (k : Own) : hasO ks k = true ↔ k ∈ ks := by
  unfold hasO
  rw [List.any_eq_true]
  constructor
  · rintro ⟨y, hy, h⟩
    rw [← of_decide_eq_true h]; exact hy
  · intro h; exact ⟨k, h, decide_eq_true rfl⟩

set_option maxRecDepth 100000 in
set_option maxHeartbeats 8000000 in
theorem go_ref_Of (A0 A2 : Option Addr) (c0 c2 : Nat) (l : List Left) (day : Int) (lims : List Int) (w : World) (hr0 : Kd.C k39 w A0 l.length l) (hr2 : Kd.C (Kd.int .i64) w A2 lims.length lims)
    (hck : ∀ W, Below w.heap.size w W → Calls Tryd.prog 19 #[.slice A0 l.length c0, .int .i64 day, .slice A2 lims.length c2] W fun e w' => e = .returned (.int .i64 0) ∧ Below W.heap.size W w')
    (hrow : ∀ (W : World) (A : Option Addr) (c : Nat) (rows : List Aged) (x : Left), rows.length ≤ 10000 → Kd.C k37 W A rows.length rows → rows.length ≤ c → InOrder rows →
      Calls Tryd.prog 20 #[.slice A rows.length c, .agg #[.string x.f0, .string x.f1, .int .i64 x.f2, .int .i64 x.f3]] W fun e w' => e = .returned (.tuple #[.int .i64 (posG ownLt (rows.map Aged.own) x.own : Nat), .bool (hasO (rows.map Aged.own) x.own)]) ∧ Below W.heap.size W w')
    (hlen : l.length ≤ 10000) (hlim : lims.length ≤ 10) :
    Calls Tryd.prog 13 #[.slice A0 l.length c0, .int .i64 day, .slice A2 lims.length c2] w fun e w' => ∃ v, e = .returned (.tuple #[v, .int .i64 0]) ∧ Kd.S k37 37 w' w.heap.size (fun _ => True) v (rowsOf l day lims) ∧ Below w.heap.size w w' := by
  have hC0 := fun (W : World) (hB : Below w.heap.size w W) => lefts_at (Kd.C_below hr0 hB)
  have hB2 := fun (W : World) (hB : Below w.heap.size w W) (age : Int) => go_refBucket age lims A2 c2 W (Kd.C_below hr2 hB)
  have HC0 := Lib.hid hC0; have HB2 := Lib.hid hB2; have HCK := Lib.hid hck; have HROW := Lib.hid hrow
  clear hC0 hB2 hck hr0 hr2 hrow
  go_enter Tryd.func13, Tryd.ntmps13
  go_wp2_with (first
    | (go_at_call 19; refine (HCK.out _ (Below.refl _ _)).mono ?_; rintro e w1 ⟨rfl, hb1⟩))
  go_loopg [9, 10] l.length (fun g s9 t wr => ∃ (k : Nat) (ks : List Own) (G : Own → Nat), g = l.length - k ∧ k ≤ l.length ∧ t = .int .i64 k ∧ Below w.heap.size w wr ∧ ks.length ≤ k ∧ Hid (RefAt wr w.heap.size s9 (lims.length + 1) ks (sumsOf (l.take k) day lims) G))
  case atStart => exact ⟨0, [], _, rfl, Nat.zero_le _, rfl, hb1, Nat.zero_le _, Lib.hid (RefAt.start _ _ _)⟩
  case round =>
    obtain ⟨k, ks, G, rfl, hk, rfl, hbr, hkl, HR⟩ := hrel
    have hz := hbr.size
    by_cases hlt : k < l.length
    · obtain ⟨b, o, rfl, hbw, p0, p1, p2, p3⟩ := HC0.out wr hbr k hlt
      obtain ⟨x, hx⟩ : ∃ x, l[k] = x := ⟨_, rfl⟩
      rw [hx] at p0 p1 p2 p3
      have HT := Lib.hid (show sumsOf (l.take (k + 1)) day lims = stepS (lims.length + 1) (bucketN (wrap64 (day - x.f2)) lims) x.f3 x.own (sumsOf (l.take k) day lims) by rw [List.take_succ_eq_append_getElem hlt, hx, sumsOf_snoc])
      clear hx
      obtain ⟨S, hSe⟩ : ∃ S, sumsOf (l.take k) day lims = S := ⟨_, rfl⟩
      rw [hSe] at HR HT
      clear hSe
      have hnl : lims.length + 1 ≤ maxLen := by unfold maxLen; omega
      obtain ⟨Av, cv, rfl, hcv, hKC⟩ := Kd.R_reads (Kd.S_R (HR.out.kdS hnl))
      rw [rowsAs_length] at HR
      have hrw := HROW.out wr Av cv (rowsAs ks S) x (by rw [rowsAs_length]; omega) hKC hcv HR.out.rep.1
      rw [rowsAs_own, rowsAs_length] at hrw
      obtain ⟨P, hP⟩ : ∃ P, posG ownLt ks x.own = P := ⟨_, rfl⟩
      have hPl : P ≤ ks.length := by rw [← hP]; exact posG_le _ _
      rw [hP] at hrw
      have HP := Lib.hid hP; have HRW := Lib.hid hrw; clear hP hrw hKC
      rw [rowsAs_length] at hcv ⊢
      go_upto_region 9 with (go_at_call 20; refine (HRW.out).mono ?_; rintro e w2 ⟨rfl, hb2⟩)
      have hb2' := hbr.trans (hb2.mono hz)
      have hR2 := HR.out.below hb2
      have hz2 := hb2.size
      rw [← hb2.cell hbw] at p0 p1 p2 p3
      have HR2 := Lib.hid hR2; clear hR2 HR
      obtain ⟨hb, hbe⟩ : ∃ hb, hasO ks x.own = hb := ⟨_, rfl⟩
      rw [hbe]
      have HBE := Lib.hid hbe; clear hbe
      go_upto_if 37 with fail
      go_cut [9] (fun s9 wz => ∃ (ks' : List Own) (G' : Own → Nat) (S' : Own → Option (List Int)) (s' : List Int), Below w.heap.size w wz ∧ ks'.length ≤ k + 1 ∧ S' x.own = some s' ∧ ks'[P]? = some x.own ∧ Below w2.heap.size w2 wz ∧ Hid (RefAt wz w.heap.size s9 (lims.length + 1) ks' S' G') ∧
        Hid (∀ b amt, putS S' x.own (addAt s' b amt) = stepS (lims.length + 1) b amt x.own S))
      case first =>
        cases hS : S x.own with
        | some s =>
          have hh : hasO ks x.own = true := (hasO_iff _ _).2 ((HR2.out.2.1 _).2 (by rw [hS]; rfl))
          obtain rfl : hb = true := HBE.out.symm.trans hh
          have HK := Lib.hid (show ks[P]? = some x.own by rw [← HP.out]; exact pos_mem ownO _ HR2.out.1 ((hasO_iff _ _).1 hh))
          go_wp2
          go_meet
          exact ⟨ks, G, S, s, hb2', by omega, hS, HK.out, Below.refl _ _, HR2, Lib.hid (fun b amt => by unfold stepS; rw [hS]; rfl)⟩
        | none =>
          have hh : hasO ks x.own = false := by
            rw [Bool.eq_false_iff]
            intro h
            have := (HR2.out.2.1 _).1 ((hasO_iff _ _).1 h)
            rw [hS] at this; cases this
          obtain rfl : hb = false := HBE.out.symm.trans hh
          have hmk : ∀ W : World, (Instr.makeSlice 22 (.int .i64 (↑lims.length + 1)) (.int .i64 (↑lims.length + 1))).run Tryd.prog W = .ok (.slice (some ⟨W.heap.size, 0, none⟩) (lims.length + 1) (lims.length + 1)) (W.alloc (.cells ((List.replicate (lims.length + 1) (0 : Int)).map (Value.int .i64)).toArray 3)) := fun W => run_make_ints W (lims.length + 1) (by omega)
          have hwn : IntKind.i64.wrap ((lims.length : Int) + 1) = (lims.length : Int) + 1 := IntWalk.i64_in _ (by omega)
          go_upto_region 10 with fail
          go_cut [13] (fun s13 wx => ∃ bx g : Nat, s13 = .pointer (some ⟨bx, 0, none⟩) ∧ wx.heap[bx]? = some (.cells #[.string x.f0, .string x.f1, .slice (some ⟨g, 0, none⟩) (lims.length + 1) (lims.length + 1)] 37 (0, 0)) ∧
            wx.heap[g]? = some (.cells (Array.replicate (lims.length + 1) (.int .i64 0)) 3 (0, 0)) ∧ bx ≠ g ∧ w2.heap.size ≤ bx ∧ w2.heap.size ≤ g ∧ Below w2.heap.size w2 wx)
          case first =>
            go_region_held3 (fun w' => w'.cell? ⟨b, o + k * 4, none⟩ = some (.string x.f0) ∧ w'.cell? ⟨b, o + k * 4 + 1, none⟩ = some (.string x.f1)) (go_keep) (fail)
            · go_wp2
              go_meet
              exact ⟨_, _, rfl, (two_new w2 _ _).2.1, (two_new w2 _ _).1, by omega, by omega, by omega, (two_new w2 _ _).2.2⟩
            · go_wp2
              go_meet
              exact ⟨_, _, rfl, (two_new w2 _ _).1, (two_new w2 _ _).2.1, by omega, by omega, by omega, (two_new w2 _ _).2.2⟩
          case rest =>
          obtain ⟨bx, g, rfl, hbx, hg, hne, hzb, hzg, hbc⟩ := hcut
          obtain ⟨i0, hi0, hi1, hi2, hi3⟩ := info_parts info_aged
          have hRc := HR2.out.below (hbc.mono (Nat.le_refl _))
          have HRC := Lib.hid hRc
          have hown := hRc.2.2.1
          have hz2' : w.heap.size ≤ w2.heap.size := hb2'.size
          have hsz : w.heap.size ≤ wc.heap.size := Nat.le_trans hb2'.size hbc.size
          have b0 : wc.cell? ⟨bx, 0, none⟩ = some (.string x.f0) := by simp [World.cell?, hbx]
          have b1 : wc.cell? ⟨bx, 1, none⟩ = some (.string x.f1) := by simp [World.cell?, hbx]
          have b2 : wc.cell? ⟨bx, 2, none⟩ = some (.slice (some ⟨g, 0, none⟩) (lims.length + 1) (lims.length + 1)) := by simp [World.cell?, hbx]
          have hbxl : bx < wc.heap.size := (Array.getElem?_eq_some_iff.1 hbx).1
          have hgl : g < wc.heap.size := (Array.getElem?_eq_some_iff.1 hg).1
          have hcl := slice_room hown
          have hks : ks.length ≤ 10000 := by omega
          have hct := cut_to (P := Tryd.prog) 28 37 .i64 Tryd.underlying28 hi0 Av ks.length cv (P : Int) (by omega) (by omega) hcl
          have hcf := cut_from (P := Tryd.prog) 28 37 .i64 Tryd.underlying28 hi0 3 hi2 Av ks.length cv (P : Int) (by omega) (by omega)
          rw [Int.toNat_natCast] at hct hcf
          have hsrc := fun (W : World) (hW : Below wc.heap.size wc W) => (flatO_takeEq G (lims.length + 1) ks P).symm ▸ own_news_take (W := W) hown hPl (fun g hg => (hW.block g (own_lt hown g hg)))
          have hsrd := fun (W : World) (hW : Below wc.heap.size wc W) => (flatO_dropEq G (lims.length + 1) ks P).symm ▸ own_news_drop (W := W) hown hPl (fun g hg => (hW.block g (own_lt hown g hg)))
          have SRC := Lib.hid hsrc; have SRD := Lib.hid hsrd
          have one_take := flatO_one G (lims.length + 1) (ks.take P)
          have one_drop := flatO_one G (lims.length + 1) (ks.drop P)
          clear hsrc hsrd hRc
          go_upto_region 11 with fail
          have hB_ : Below wc.heap.size wc wc.drew := (Below.refl _ wc).drew
          refine start_ (n := 13) (S := fun w' => w'.cell? ⟨bx, 0, none⟩ = some (.string x.f0) ∧ w'.cell? ⟨bx, 1, none⟩ = some (.string x.f1) ∧ w'.cell? ⟨bx, 2, none⟩ = some (.slice (some ⟨g, 0, none⟩) (lims.length + 1) (lims.length + 1))) (ds := []) #[false, false, false, false, false, false, false, false, false, false, false, false, false] (by kernel_rfl) rfl rfl ⟨b0, b1, b2⟩ (fun hHeld => ?_)
          refine pure_ (i := 1) (N := some 54) (v := ?_) (a' := ?_) #[false, true, false, false, false, false, false, false, false, false, false, false, false] rfl rfl (by kernel_rfl) (fun _ _ _ h => h) (Or.inl ⟨by rfl, ?_⟩) ?_ ?_
          rotate_left
          · intro w'
            go_simp
            with_reducible rfl
          rotate_left
          · simp only [Act.put, List.setIfInBounds_toArray, List.set_cons_zero, List.set_cons_succ, i64_w, i32_w]
            rfl
          refine pure_ (i := 2) (N := some 55) (v := ?_) (a' := ?_) #[false, true, true, false, false, false, false, false, false, false, false, false, false] rfl rfl (by kernel_rfl) (fun _ _ _ h => h) (Or.inl ⟨by rfl, ?_⟩) ?_ ?_
          rotate_left
          · intro w'
            go_simp
            with_reducible rfl
          rotate_left
          · simp only [Act.put, List.setIfInBounds_toArray, List.set_cons_zero, List.set_cons_succ, i64_w, i32_w]
            rfl
          refine pure_ (i := 3) (N := some 56) (v := ?_) (a' := ?_) #[false, true, true, true, false, false, false, false, false, false, false, false, false] rfl rfl (by kernel_rfl) (fun _ _ _ h => h) (Or.inl ⟨by rfl, ?_⟩) ?_ ?_
          rotate_left
          · intro w'
            go_simp
            with_reducible rfl
          rotate_left
          · simp only [Act.put, List.setIfInBounds_toArray, List.set_cons_zero, List.set_cons_succ, i64_w, i32_w]
            rfl
          refine pure_ (i := 8) (N := some 61) (v := ?_) (a' := ?_) #[false, true, true, true, false, false, false, false, true, false, false, false, false] rfl rfl (by kernel_rfl) (fun _ _ _ h => h) (Or.inl ⟨by rfl, ?_⟩) ?_ ?_
          rotate_left
          · intro w'
            go_simp
            with_reducible rfl
          rotate_left
          · simp only [Act.put, List.setIfInBounds_toArray, List.set_cons_zero, List.set_cons_succ, i64_w, i32_w]
            rfl
          refine pure_ (i := 9) (N := some 62) (v := ?_) (a' := ?_) #[false, true, true, true, false, false, false, false, true, true, false, false, false] rfl rfl (by kernel_rfl) (fun _ _ _ h => h) (Or.inl ⟨by rfl, ?_⟩) ?_ ?_
          rotate_left
          · intro w'
            go_simp
            with_reducible rfl
          rotate_left
          · simp only [Act.put, List.setIfInBounds_toArray, List.set_cons_zero, List.set_cons_succ, i64_w, i32_w]
            rfl
          refine pure_ (i := 10) (N := some 63) (v := ?_) (a' := ?_) #[false, true, true, true, false, false, false, false, true, true, true, false, false] rfl rfl (by kernel_rfl) (fun _ _ _ h => h) (Or.inl ⟨by rfl, ?_⟩) ?_ ?_
          rotate_left
          · intro w'
            go_simp
            with_reducible rfl
          rotate_left
          · simp only [Act.put, List.setIfInBounds_toArray, List.set_cons_zero, List.set_cons_succ, i64_w, i32_w]
            rfl
          refine take_ (i := 5) (N := some 58) (v := ?_) (a' := ?_) #[false, true, true, true, false, true, false, false, true, true, true, false, false] rfl rfl (by kernel_rfl) (fun _ _ _ h => h) (Or.inl ⟨by rfl, ?_⟩) hHeld ?_ ?_
          rotate_left
          · rintro w' ⟨s0, s1, s2⟩
            go_simp
            with_reducible rfl
          rotate_left
          · simp only [Act.put, List.setIfInBounds_toArray, List.set_cons_zero, List.set_cons_succ, i64_w, i32_w]
            rfl
          refine join_ (σ := Nat × Value × Nat) 3 #[true, true, true, true, true, true, true, false, true, true, true, false, false] (fun s => [(53, .slice (some ⟨s.1, 0, none⟩) 0 0), (57, s.2.1), (59, .slice (some ⟨s.2.2, 0, none⟩) 1 1)]) (fun s w' => Below wc.heap.size wc w' ∧ w'.ownsRow wc.heap.size 37 3 s.2.1 P (flatO G (lims.length + 1) (ks.take P)) ∧ w'.heap[s.2.2]? = some (.cells #[.string x.f0, .string x.f1, .slice (some ⟨g, 0, none⟩) (lims.length + 1) (lims.length + 1)] 37 (0, 0)) ∧ wc.heap.size ≤ s.2.2 ∧ ¬ (some s.2.2 = s.2.1.ownBlock)) ?_ ?_
          rotate_left
          · intro hCont
            refine two_ (i := 0) (j := 6) (Ni := some 53) (Nj := some 59) #[true, true, true, true, false, true, false, false, true, true, true, false, false] #[false, true, true, true, false, true, true, false, true, true, true, false, false] rfl rfl rfl rfl (by kernel_rfl) (by decide) (by decide) (fun K hK => ?_) (fun K hK => ?_)
            · skip
              refine value_ (w1 := ?_) (v := ?_) (by rfl) rfl ?_ ?_
              rotate_left 2
              · go_simp
                constructor
                · rfl
                · rfl
              have hB0_ := hB_.alloc hB_.size (.cells #[] 37)
              have own0 := empty_own (g := wc.heap.size) (w := wc.drew.alloc (.cells #[] 37)) (base := wc.heap.size) (by omega) (by have h_ := (Go.MapKept.heap_alloc wc.drew (.cells #[] 37)).1; simpa using h_)
              refine hK.out _ _ ⟨(hB0_.cell (p := ⟨bx, 0, none⟩) hbxl).trans b0, (hB0_.cell (p := ⟨bx, 1, none⟩) hbxl).trans b1, (hB0_.cell (p := ⟨bx, 2, none⟩) hbxl).trans b2⟩ (fun hHeld => ?_)
              clear hK K
              refine norm_ (a' := ?_) ?_ ?_
              rotate_left
              · show Act.put _ (some 53) _ = _
                simp only [Act.put, List.setIfInBounds_toArray, List.set_cons_zero, List.set_cons_succ, i64_w, i32_w]
                rfl
              refine two_ (i := 4) (j := 6) (Ni := some 57) (Nj := some 59) #[true, true, true, true, true, true, false, false, true, true, true, false, false] #[true, true, true, true, false, true, true, false, true, true, true, false, false] rfl rfl rfl rfl (by kernel_rfl) (by decide) (by decide) (fun K hK => ?_) (fun K hK => ?_)
              · skip
                refine step_append_any (by rfl) (.tmp 53) (.tmp 56) 28 (by rfl) wc.heap.size 37 i0 _ 3 56 Tryd.underlying28 hi0 hi1 hi2 hi3 rfl (by omega) _ 0 [] (by rfl) own0 _ P _ (flatO G (lims.length + 1) (ks.take P)) (by rfl) (by rw [flatO_length, List.length_take, Nat.min_eq_left hPl]) (SRC.out _ hB0_) one_take (by unfold maxLen; omega) (by omega) hB0_.size ?_
                intro v57 w57 own57 gr57 fr57
                have hB0_4_ := pw_below_grown hB0_ _ hB0_.size gr57 (own_base own0)
                rw [Nat.zero_add, List.nil_append] at own57
                refine hK.out _ _ ⟨(hB0_4_.cell (p := ⟨bx, 0, none⟩) hbxl).trans b0, (hB0_4_.cell (p := ⟨bx, 1, none⟩) hbxl).trans b1, (hB0_4_.cell (p := ⟨bx, 2, none⟩) hbxl).trans b2⟩ (fun hHeld => ?_)
                clear hK K
                refine norm_ (a' := ?_) ?_ ?_
                rotate_left
                · show Act.put _ (some 57) _ = _
                  simp only [Act.put, List.setIfInBounds_toArray, List.set_cons_zero, List.set_cons_succ, i64_w, i32_w]
                  rfl
                refine one_ (i := 6) (N := some 59) #[true, true, true, true, true, true, true, false, true, true, true, false, false] rfl rfl (by kernel_rfl) (by decide) (fun K hK => ?_)
                refine value_ (w1 := ?_) (v := ?_) (by rfl) rfl ?_ ?_
                rotate_left 2
                · go_simp
                  constructor
                  · rfl
                  · rfl
                have hB0_4_6_ := hB0_4_.alloc hB0_4_.size (.cells #[.string x.f0, .string x.f1, .slice (some ⟨g, 0, none⟩) (lims.length + 1) (lims.length + 1)] 37)
                have hg59 := (Go.MapKept.heap_alloc w57 (.cells #[.string x.f0, .string x.f1, .slice (some ⟨g, 0, none⟩) (lims.length + 1) (lims.length + 1)] 37)).1
                refine hK.out _ _ ⟨(hB0_4_6_.cell (p := ⟨bx, 0, none⟩) hbxl).trans b0, (hB0_4_6_.cell (p := ⟨bx, 1, none⟩) hbxl).trans b1, (hB0_4_6_.cell (p := ⟨bx, 2, none⟩) hbxl).trans b2⟩ (fun hHeld => ?_)
                clear hK K
                refine norm_ (a' := ?_) ?_ ?_
                rotate_left
                · show Act.put _ (some 59) _ = _
                  simp only [Act.put, List.setIfInBounds_toArray, List.set_cons_zero, List.set_cons_succ, i64_w, i32_w]
                  rfl
                exact norm_ (by simp only [putAll, Act.put, List.setIfInBounds_toArray, List.set_cons_zero, List.set_cons_succ]) (hCont (wc.heap.size, v57, w57.heap.size) _ ⟨hB0_4_6_, own57.alloc _, hg59, hB0_4_.size, fun he => absurd (own_lt own57 _ (Eq.symm he)) (Nat.lt_irrefl _)⟩)
              · skip
                refine value_ (w1 := ?_) (v := ?_) (by rfl) rfl ?_ ?_
                rotate_left 2
                · go_simp
                  constructor
                  · rfl
                  · rfl
                have hB0_6_ := hB0_.alloc hB0_.size (.cells #[.string x.f0, .string x.f1, .slice (some ⟨g, 0, none⟩) (lims.length + 1) (lims.length + 1)] 37)
                have hg59 := (Go.MapKept.heap_alloc (wc.drew.alloc (.cells #[] 37)) (.cells #[.string x.f0, .string x.f1, .slice (some ⟨g, 0, none⟩) (lims.length + 1) (lims.length + 1)] 37)).1
                refine hK.out _ _ ⟨(hB0_6_.cell (p := ⟨bx, 0, none⟩) hbxl).trans b0, (hB0_6_.cell (p := ⟨bx, 1, none⟩) hbxl).trans b1, (hB0_6_.cell (p := ⟨bx, 2, none⟩) hbxl).trans b2⟩ (fun hHeld => ?_)
                clear hK K
                refine norm_ (a' := ?_) ?_ ?_
                rotate_left
                · show Act.put _ (some 59) _ = _
                  simp only [Act.put, List.setIfInBounds_toArray, List.set_cons_zero, List.set_cons_succ, i64_w, i32_w]
                  rfl
                refine one_ (i := 4) (N := some 57) #[true, true, true, true, true, true, true, false, true, true, true, false, false] rfl rfl (by kernel_rfl) (by decide) (fun K hK => ?_)
                refine step_append_any (by rfl) (.tmp 53) (.tmp 56) 28 (by rfl) wc.heap.size 37 i0 _ 3 56 Tryd.underlying28 hi0 hi1 hi2 hi3 rfl (by omega) _ 0 [] (by rfl) (own0.alloc (.cells #[.string x.f0, .string x.f1, .slice (some ⟨g, 0, none⟩) (lims.length + 1) (lims.length + 1)] 37)) _ P _ (flatO G (lims.length + 1) (ks.take P)) (by rfl) (by rw [flatO_length, List.length_take, Nat.min_eq_left hPl]) (SRC.out _ hB0_6_) one_take (by unfold maxLen; omega) (by omega) hB0_6_.size ?_
                intro v57 w57 own57 gr57 fr57
                have hB0_6_4_ := pw_below_grown hB0_6_ _ hB0_6_.size gr57 (own_base (own0.alloc (.cells #[.string x.f0, .string x.f1, .slice (some ⟨g, 0, none⟩) (lims.length + 1) (lims.length + 1)] 37)))
                rw [Nat.zero_add, List.nil_append] at own57
                refine hK.out _ _ ⟨(hB0_6_4_.cell (p := ⟨bx, 0, none⟩) hbxl).trans b0, (hB0_6_4_.cell (p := ⟨bx, 1, none⟩) hbxl).trans b1, (hB0_6_4_.cell (p := ⟨bx, 2, none⟩) hbxl).trans b2⟩ (fun hHeld => ?_)
                clear hK K
                refine norm_ (a' := ?_) ?_ ?_
                rotate_left
                · show Act.put _ (some 57) _ = _
                  simp only [Act.put, List.setIfInBounds_toArray, List.set_cons_zero, List.set_cons_succ, i64_w, i32_w]
                  rfl
                exact norm_ (by simp only [putAll, Act.put, List.setIfInBounds_toArray, List.set_cons_zero, List.set_cons_succ]) (hCont (wc.heap.size, v57, wc.heap.size + 1) _ ⟨hB0_6_4_, own57, (gr57.block (wc.heap.size + 1) (by rw [show ∀ W : World, W.drew.heap.size = W.heap.size from fun _ => rfl, World.size_alloc, World.size_alloc]; omega) (fun he => by have e : wc.heap.size + 1 = wc.heap.size := Option.some.inj he; omega)).trans (two_new wc (.cells #[] 37) (.cells #[.string x.f0, .string x.f1, .slice (some ⟨g, 0, none⟩) (lims.length + 1) (lims.length + 1)] 37)).2.1, Nat.le_succ _, fun he => fr57.elim (fun h => by have e : wc.heap.size + 1 = wc.heap.size := Option.some.inj (he.trans h); omega) (fun h => by have e : wc.heap.size + 1 = ((wc.alloc (.cells #[] 37)).alloc (.cells #[.string x.f0, .string x.f1, .slice (some ⟨g, 0, none⟩) (lims.length + 1) (lims.length + 1)] 37)).heap.size := Option.some.inj (he.trans h); rw [World.size_alloc, World.size_alloc] at e; omega)⟩)
            · skip
              refine value_ (w1 := ?_) (v := ?_) (by rfl) rfl ?_ ?_
              rotate_left 2
              · go_simp
                constructor
                · rfl
                · rfl
              have hB6_ := hB_.alloc hB_.size (.cells #[.string x.f0, .string x.f1, .slice (some ⟨g, 0, none⟩) (lims.length + 1) (lims.length + 1)] 37)
              have hg59 := (Go.MapKept.heap_alloc wc.drew (.cells #[.string x.f0, .string x.f1, .slice (some ⟨g, 0, none⟩) (lims.length + 1) (lims.length + 1)] 37)).1
              refine hK.out _ _ ⟨(hB6_.cell (p := ⟨bx, 0, none⟩) hbxl).trans b0, (hB6_.cell (p := ⟨bx, 1, none⟩) hbxl).trans b1, (hB6_.cell (p := ⟨bx, 2, none⟩) hbxl).trans b2⟩ (fun hHeld => ?_)
              clear hK K
              refine norm_ (a' := ?_) ?_ ?_
              rotate_left
              · show Act.put _ (some 59) _ = _
                simp only [Act.put, List.setIfInBounds_toArray, List.set_cons_zero, List.set_cons_succ, i64_w, i32_w]
                rfl
              refine one_ (i := 0) (N := some 53) #[true, true, true, true, false, true, true, false, true, true, true, false, false] rfl rfl (by kernel_rfl) (by decide) (fun K hK => ?_)
              refine value_ (w1 := ?_) (v := ?_) (by rfl) rfl ?_ ?_
              rotate_left 2
              · go_simp
                constructor
                · rfl
                · rfl
              have hB6_0_ := hB6_.alloc hB6_.size (.cells #[] 37)
              have own0 := empty_own (g := wc.heap.size + 1) (w := (wc.drew.alloc (.cells #[.string x.f0, .string x.f1, .slice (some ⟨g, 0, none⟩) (lims.length + 1) (lims.length + 1)] 37)).alloc (.cells #[] 37)) (base := wc.heap.size) (by omega) (by have h_ := (Go.MapKept.heap_alloc (wc.drew.alloc (.cells #[.string x.f0, .string x.f1, .slice (some ⟨g, 0, none⟩) (lims.length + 1) (lims.length + 1)] 37)) (.cells #[] 37)).1; simpa using h_)
              refine hK.out _ _ ⟨(hB6_0_.cell (p := ⟨bx, 0, none⟩) hbxl).trans b0, (hB6_0_.cell (p := ⟨bx, 1, none⟩) hbxl).trans b1, (hB6_0_.cell (p := ⟨bx, 2, none⟩) hbxl).trans b2⟩ (fun hHeld => ?_)
              clear hK K
              refine norm_ (a' := ?_) ?_ ?_
              rotate_left
              · show Act.put _ (some 53) _ = _
                simp only [Act.put, List.setIfInBounds_toArray, List.set_cons_zero, List.set_cons_succ, i64_w, i32_w]
                rfl
              refine one_ (i := 4) (N := some 57) #[true, true, true, true, true, true, true, false, true, true, true, false, false] rfl rfl (by kernel_rfl) (by decide) (fun K hK => ?_)
              refine step_append_any (by rfl) (.tmp 53) (.tmp 56) 28 (by rfl) wc.heap.size 37 i0 _ 3 56 Tryd.underlying28 hi0 hi1 hi2 hi3 rfl (by omega) _ 0 [] (by rfl) own0 _ P _ (flatO G (lims.length + 1) (ks.take P)) (by rfl) (by rw [flatO_length, List.length_take, Nat.min_eq_left hPl]) (SRC.out _ hB6_0_) one_take (by unfold maxLen; omega) (by omega) hB6_0_.size ?_
              intro v57 w57 own57 gr57 fr57
              have hB6_0_4_ := pw_below_grown hB6_0_ _ hB6_0_.size gr57 (own_base own0)
              rw [Nat.zero_add, List.nil_append] at own57
              refine hK.out _ _ ⟨(hB6_0_4_.cell (p := ⟨bx, 0, none⟩) hbxl).trans b0, (hB6_0_4_.cell (p := ⟨bx, 1, none⟩) hbxl).trans b1, (hB6_0_4_.cell (p := ⟨bx, 2, none⟩) hbxl).trans b2⟩ (fun hHeld => ?_)
              clear hK K
              refine norm_ (a' := ?_) ?_ ?_
              rotate_left
              · show Act.put _ (some 57) _ = _
                simp only [Act.put, List.setIfInBounds_toArray, List.set_cons_zero, List.set_cons_succ, i64_w, i32_w]
                rfl
              exact norm_ (by simp only [putAll, Act.put, List.setIfInBounds_toArray, List.set_cons_zero, List.set_cons_succ]) (hCont (wc.heap.size + 1, v57, wc.heap.size) _ ⟨hB6_0_4_, own57, (gr57.block wc.heap.size (by rw [show ∀ W : World, W.drew.heap.size = W.heap.size from fun _ => rfl, World.size_alloc, World.size_alloc]; omega) (fun he => by have e : wc.heap.size = wc.heap.size + 1 := Option.some.inj he; omega)).trans (two_new wc (.cells #[.string x.f0, .string x.f1, .slice (some ⟨g, 0, none⟩) (lims.length + 1) (lims.length + 1)] 37) (.cells #[] 37)).1, Nat.le_refl _, fun he => fr57.elim (fun h => by have e : wc.heap.size = wc.heap.size + 1 := Option.some.inj (he.trans h); omega) (fun h => by have e : wc.heap.size = ((wc.alloc (.cells #[.string x.f0, .string x.f1, .slice (some ⟨g, 0, none⟩) (lims.length + 1) (lims.length + 1)] 37)).alloc (.cells #[] 37)).heap.size := Option.some.inj (he.trans h); rw [World.size_alloc, World.size_alloc] at e; omega)⟩)
          rintro ⟨g53, v57, g59⟩ w1 ⟨hB1, own1, hg59, hz59, hne59⟩
          have hHeld : w1.cell? ⟨bx, 0, none⟩ = some (.string x.f0) ∧ w1.cell? ⟨bx, 1, none⟩ = some (.string x.f1) ∧ w1.cell? ⟨bx, 2, none⟩ = some (.slice (some ⟨g, 0, none⟩) (lims.length + 1) (lims.length + 1)) := ⟨(hB1.cell (p := ⟨bx, 0, none⟩) hbxl).trans b0, (hB1.cell (p := ⟨bx, 1, none⟩) hbxl).trans b1, (hB1.cell (p := ⟨bx, 2, none⟩) hbxl).trans b2⟩
          refine norm_ (a' := ?_) ?_ ?_
          rotate_left
          · simp only [putAll, Act.put, List.setIfInBounds_toArray, List.set_cons_zero, List.set_cons_succ]
            rfl
          refine one_ (i := 7) (N := some 60) #[true, true, true, true, true, true, true, true, true, true, true, false, false] rfl rfl (by kernel_rfl) (by decide) (fun K hK => ?_)
          refine step_append_any (by rfl) (.tmp 57) (.tmp 59) 28 (by rfl) wc.heap.size 37 i0 _ 3 56 Tryd.underlying28 hi0 hi1 hi2 hi3 rfl (by omega) v57 P (flatO G (lims.length + 1) (ks.take P)) (by rfl) own1 _ 1 _ [.string x.f0, .string x.f1, .slice (some ⟨g, 0, none⟩) (lims.length + 1) (lims.length + 1)] (by rfl) rfl (fun j u hu => ⟨_, rfl, World.news_of_block hg59 j u hu⟩) (by intro u hu; simp at hu; rcases hu with rfl | rfl | rfl <;> rfl) (by unfold maxLen; omega) (by omega) hB1.size ?_
          intro v60 w60 own60 gr60 fr60
          have hB2 := pw_below_grown hB1 _ hB1.size gr60 (own_base own1)
          refine hK.out _ _ ⟨(hB2.cell (p := ⟨bx, 0, none⟩) hbxl).trans b0, (hB2.cell (p := ⟨bx, 1, none⟩) hbxl).trans b1, (hB2.cell (p := ⟨bx, 2, none⟩) hbxl).trans b2⟩ (fun hHeld => ?_)
          clear hK K
          refine norm_ (a' := ?_) ?_ ?_
          rotate_left
          · show Act.put _ (some 60) _ = _
            simp only [Act.put, List.setIfInBounds_toArray, List.set_cons_zero, List.set_cons_succ, i64_w, i32_w]
            rfl
          refine one_ (i := 11) (N := some 64) #[true, true, true, true, true, true, true, true, true, true, true, true, false] rfl rfl (by kernel_rfl) (by decide) (fun K hK => ?_)
          refine step_append_any (by rfl) (.tmp 60) (.tmp 63) 28 (by rfl) wc.heap.size 37 i0 _ 3 56 Tryd.underlying28 hi0 hi1 hi2 hi3 rfl (by omega) v60 (P + 1) (flatO G (lims.length + 1) (ks.take P) ++ [.string x.f0, .string x.f1, .slice (some ⟨g, 0, none⟩) (lims.length + 1) (lims.length + 1)]) (by rfl) own60 _ (ks.length - P) _ (flatO G (lims.length + 1) (ks.drop P)) (by rfl) (by rw [flatO_length, List.length_drop]) (SRD.out _ hB2) one_drop (by unfold maxLen; omega) (by omega) hB2.size ?_
          intro v64 w64 own64 gr64 fr64
          have hB3 := pw_below_grown hB2 _ hB2.size gr64 (own_base own60)
          refine hK.out _ _ ⟨(hB3.cell (p := ⟨bx, 0, none⟩) hbxl).trans b0, (hB3.cell (p := ⟨bx, 1, none⟩) hbxl).trans b1, (hB3.cell (p := ⟨bx, 2, none⟩) hbxl).trans b2⟩ (fun hHeld => ?_)
          clear hK K
          refine norm_ (a' := ?_) ?_ ?_
          rotate_left
          · show Act.put _ (some 64) _ = _
            simp only [Act.put, List.setIfInBounds_toArray, List.set_cons_zero, List.set_cons_succ, i64_w, i32_w]
            rfl
          refine pure_ (i := 12) (N := some 9) (v := ?_) (a' := ?_) #[true, true, true, true, true, true, true, true, true, true, true, true, true] rfl rfl (by kernel_rfl) (fun _ _ _ h => h) (Or.inl ⟨by rfl, ?_⟩) ?_ ?_
          rotate_left
          · intro w'
            go_simp
            with_reducible rfl
          rotate_left
          · simp only [Act.put, List.setIfInBounds_toArray, List.set_cons_zero, List.set_cons_succ, i64_w, i32_w]
            rfl
          refine done_ (by kernel_rfl) ?_
          go_wp2
          all_goals
            go_meet
            have hS' := putS_self S x.own (List.replicate (lims.length + 1) 0)
            have hold : ∀ y s, S y = some s → w64.heap[G y]? = w2.heap[G y]? := fun y s hy => by
              have h1 := HR2.out.lt hy
              rw [hB3.block _ (by have := hbc.size; omega), hbc.block _ h1]
            have hbase := own_base own64
            have hlo : w2.heap.size ≤ wc.heap.size := hbc.size
            rw [show P + 1 + (ks.length - P) = ks.length + 1 by omega] at own64
            have hins := RefAt.ins (W := w64) (g := g) (v' := v64) (k := x.own) HR2.out hS hzg (by omega) hold ((hB3.block g hgl).trans hg) (fun he => by have := hbase g he.symm; omega) (fun y s hy he => by have h1 := HR2.out.lt hy; have := hbase _ he.symm; omega) (by rw [HP.out]; exact own_lower_ own64 hsz)
            refine ⟨insG ownLt ks x.own, _, _, _, hb2'.trans ((hbc.trans (hB3.mono hlo)).mono hz2'), by rw [insG_length]; omega, hS', ?_, hbc.trans (hB3.mono hlo), Lib.hid hins, Lib.hid (fun bb amt => by unfold stepS; rw [putS_putS, hS]; rfl)⟩
            unfold insG
            rw [HP.out, List.getElem?_append_right (by rw [List.length_take]; omega), List.length_take, Nat.min_eq_left hPl, Nat.sub_self]
            rfl
      case rest =>
        obtain ⟨ks', G', S', s', hBy, hkl', hSs, hkP, hBy2, HRy, HST⟩ := hcut
        obtain ⟨hpw', hmem', hown', hsum', hinj'⟩ := HRy.out
        obtain ⟨hsl, hsB, hsne, hsc⟩ := hsum' _ _ hSs
        have hPk : P < ks'.length := (List.getElem?_eq_some_iff.1 hkP).1
        rcases hown'.2 with ⟨hv, h0⟩ | ⟨blk, cap, cur, rfl, hB', hh', hnc', hcm', hcs', htk'⟩
        · omega
        · have q2 : wc.cell? ⟨blk, P * 3 + 2, none⟩ = some (.slice (some ⟨G' x.own, 0, none⟩) (lims.length + 1) (lims.length + 1)) := by
            have h1 := flatO_at G' (lims.length + 1) ks' P 2 hPk (by omega)
            rw [(List.getElem?_eq_some_iff.1 hkP).2] at h1
            have h2 : (flatO G' (lims.length + 1) ks')[P * 3 + 2]? = some (.slice (some ⟨G' x.own, 0, none⟩) (lims.length + 1) (lims.length + 1)) := h1
            rw [← htk', List.getElem?_take, if_pos (by omega), Array.getElem?_toList] at h2
            simp [World.cell?, hh', h2]
          have hbw2 : b < w2.heap.size := Nat.lt_of_lt_of_le hbw hz2
          rw [← hBy2.cell (p := ⟨b, _, none⟩) hbw2, ← World.cell?_drew] at p2 p3
          rw [← World.cell?_drew] at q2
          have hcall := HB2.out wc.drew hBy.drew (wrap64 (day - x.f2))
          obtain ⟨bk, hbk⟩ : ∃ bk, bucketN (wrap64 (day - x.f2)) lims = bk := ⟨_, rfl⟩
          have hbl : bk ≤ lims.length := by rw [← hbk]; exact bucketN_le _ _
          rw [hbk] at HT hcall
          have hadd := (HRy.out.blocks (w' := wc.drew) (fun _ _ => rfl) (fun _ _ _ => rfl)).add hSs (b := bk) (by omega) x.f3
          rw [HST.out, ← HT.out] at hadd
          obtain ⟨gg, hgg⟩ : ∃ gg, G' x.own = gg := ⟨_, rfl⟩
          rw [hgg] at q2 hsc hsB hsne hadd
          obtain ⟨z, hz0⟩ : ∃ z, s'.getD bk 0 = z := ⟨_, rfl⟩
          have hcz : wc.drew.cell? ⟨gg, bk, none⟩ = some (.int .i64 z) := by
            rw [← hz0, World.cell?_drew]
            simp [World.cell?, hsc, hsl, List.getD_eq_getElem?_getD, show bk < lims.length + 1 by omega]
          rw [hz0] at hadd
          have hff : wc.drew.frozen? ⟨gg, bk, none⟩ = false := by
            rw [show wc.drew.frozen? ⟨gg, bk, none⟩ = wc.frozen? ⟨gg, bk, none⟩ from rfl]
            simp [World.frozen?, hsc]
          have HADD := Lib.hid hadd
          have hPk' : (P : Int) < (ks'.length : Int) := by omega
          have hBd : Below w.heap.size w wc.drew := hBy.drew
          clear hadd hbk hgg hpw' hmem' hown' hsum' hinj' hsl hsc hh' hcs' htk' HRy HST hSs hkP hsne p0 p1 hz0
          go_upto_region 12 with fail
          go_still_tail 23, (by kernel_rfl)
          have hcall' : Calls Tryd.prog 11 #[.int .i64 (IntKind.i64.wrap (day - x.f2)), .slice A2 lims.length c2] wc.drew (fun e w'' => e = .returned (.int .i64 (bk : Int)) ∧ w'' = wc.drew) := by rw [IntWalk.i64_left]; exact hcall.mono (fun e w' h => ⟨h.1, h.2.symm⟩)
          have hbi : (bk : Int) < (lims.length : Int) + 1 := by omega
          have hwz : IntKind.i64.wrap (z + x.f3) = wrap64 (z + x.f3) := IntWalk.i64_left _
          still_call hcall'
          repeat still_step
          refine wpStill_nil ?_
          change wpList _ _ _ _ _ wc.drew
          obtain ⟨wd, hwd⟩ : ∃ wd, wc.drew = wd := ⟨_, rfl⟩
          rw [hwd] at hBd p2 p3 q2 hcz HADD hff ⊢
          clear hwd hcall hcall'
          go_wp2
          go_roundg (l.length - (k + 1))
          case measure => omega
          case rel => exact ⟨k + 1, ks', G', rfl, by omega, by go_num, hBd.setCell (by simp; omega) _, hkl', Lib.hid HADD.out⟩
    · have hkl2 : k = l.length := by omega
      subst hkl2
      have hnl : lims.length + 1 ≤ maxLen := by unfold maxLen; omega
      have hS := HR.out.kdS hnl
      have hrep := HR.out.rep
      rw [List.take_length] at hS hrep
      rw [hrep.unique (rowsOf_rep l day lims)] at hS
      have HS := Lib.hid hS; clear hS hrep HR
      go_wp2
      go_ret2
      exact ⟨_, rfl, HS.out, hbr⟩

end Go.Proofs.YtohfnpkoheafkaaDoor.PAg
