/- Find. -/
import Derived.Test.YtncbfpigojeekaaDoorC8
namespace Go.Proofs.YtncbfpigojeekaaDoor
open Go.RowKit Go.Lib
open Go.Maps (Keyed)

def Okay (base : ByteArray) (L : List Rate) : Prop := Apart L ∧ L.length ≤ 2000 ∧ ∀ r ∈ L, checkS base r = 0 ∧ r.wf
def findP (L : List Rate) (cur : ByteArray) (kind day : Int) : Option Rate :=
  if lowB (ser L (cur, kind)) (day + 1) = 0 then none else (ser L (cur, kind))[lowB (ser L (cur, kind)) (day + 1) - 1]?
def findS (base : ByteArray) (L : List Rate) (cur : ByteArray) (kind day : Int) : Int × Int × Int :=
  if codeB cur = false then (0, 0, 13) else if (decide (1 ≤ kind) && decide (kind ≤ 3)) = false then (0, 0, 10) else if isDay day = false then (0, 0, 11) else if (cur == base) = true then (1, 1, 0) else
    match findP L cur kind day with
    | none => (0, 0, 20)
    | some r => (r.n, r.d, 0)

/-- two cells of a result -/
def Two (w : World) (b : Nat) (x y : Value) : Prop := w.cell? ⟨b, 0, none⟩ = some x ∧ w.cell? ⟨b, 1, none⟩ = some y ∧ w.frozen? ⟨b, 0, none⟩ = false ∧ w.frozen? ⟨b, 1, none⟩ = false
theorem Two.new (w : World) (x y : Value) (t : TypeId) : Two (w.alloc (.cells #[x, y] t)) w.heap.size x y := ⟨by simp, by simp, by simp, by simp⟩
theorem Two.below {w w' : World} {b : Nat} {x y : Value} (h : Two w b x y) (hb : b < w.heap.size) (hB : Below w.heap.size w w') : Two w' b x y :=
  ⟨((bcell hB).1 b 0 hb).trans h.1, ((bcell hB).1 b 1 hb).trans h.2.1, ((bcell hB).2 b 0 hb).trans h.2.2.1, ((bcell hB).2 b 1 hb).trans h.2.2.2⟩
theorem Two.set {w : World} {b : Nat} {x y : Value} (h : Two w b x y) (u v : Value) : ((w.setCell ⟨b, 0, none⟩ u).setCell ⟨b, 1, none⟩ v).cell? ⟨b, 0, none⟩ = some u ∧ ((w.setCell ⟨b, 0, none⟩ u).setCell ⟨b, 1, none⟩ v).cell? ⟨b, 1, none⟩ = some v := by
  have h1 : (w.setCell ⟨b, 0, none⟩ u).cell? ⟨b, 1, none⟩ = some y := by rw [World.cell?_setCell_other _ _ _ _ (by simp)]; exact h.2.1
  have h0 : (w.setCell ⟨b, 0, none⟩ u).cell? ⟨b, 0, none⟩ = some u := World.cell?_setCell_same' _ _ _ (by rw [h.1]; rfl)
  exact ⟨by rw [World.cell?_setCell_other _ _ _ _ (by simp)]; exact h0, World.cell?_setCell_same' _ _ _ (by rw [h1]; rfl)⟩

set_option maxHeartbeats 1000000 in
theorem fx_Find.nil (cur : ByteArray) (kind day : Int) (w : World) :
    Calls Tryd.prog 16 #[.pointer none, .string cur, .int .i64 kind, .int .i64 day] w fun e w' => e = .returned (.tuple #[.agg #[.int .i64 0, .int .i64 0], .int .i64 1]) ∧ Below w.heap.size w w' := by
  go_enter Tryd.func16, Tryd.ntmps16
  go_wp2
  refine bodyPost_ret (v := .tuple #[.agg #[.int .i64 0, .int .i64 0], .int .i64 1]) (by simp [results, Tryd.results16, go_sem]) rfl ⟨rfl, ?_⟩
  exact (Below.refl _ _).alloc (Nat.le_refl _) _

set_option maxRecDepth 100000 in
set_option maxHeartbeats 4000000 in
theorem fx_Find.calls (base cur : ByteArray) (kind day : Int) (L : List Rate) (B tb : Nat) (n : Int) (w : World) (hl : DaysLaid w) (hcz : cur.size ≤ 140737488351232) (hk : inI kind) (hT : Tab w B tb base n L) (hO : Okay base L) :
    Calls Tryd.prog 16 #[.pointer (some ⟨tb, 0, none⟩), .string cur, .int .i64 kind, .int .i64 day] w fun e w' => e = .returned (.tuple #[.agg #[.int .i64 (findS base L cur kind day).1, .int .i64 (findS base L cur kind day).2.1], .int .i64 (findS base L cur kind day).2.2]) ∧ Below w.heap.size w w' := by
  obtain ⟨hA, hlen, hok⟩ := hO
  obtain ⟨mb, M, hbt, htb, hbm, hmap, hser, hdis⟩ := hT
  clear hdis
  have hrise := hA.rising (cur, kind)
  have hown := Tab.at_ hser (cur, kind)
  obtain ⟨v0, hv0⟩ : ∃ v, (M (cur, kind)).getD (.slice none 0 0) = v := ⟨_, rfl⟩
  rw [hv0] at hown
  have hfp : findP L cur kind day = if lowB (ser L (cur, kind)) (day + 1) = 0 then none else (ser L (cur, kind))[lowB (ser L (cur, kind)) (day + 1) - 1]? := rfl
  obtain ⟨xs, hxs⟩ : ∃ xs, ser L (cur, kind) = xs := ⟨_, rfl⟩
  have hxl : xs.length ≤ 2000 := by rw [← hxs]; exact Nat.le_trans (length_ser L (cur, kind)) hlen
  rw [hxs] at hown hrise hfp
  obtain ⟨kl, hkl⟩ := fx_keyOf (cur, kind) (Nat.le_trans hcz (by unfold maxLen; omega)) hk
  have hlook := fun (w' : World) (hw : Below w.heap.size w w') => (hmap.below hw).lookup fx_keyed encK_inj Tryd.underlying54 (z := .slice none 0 0) (by kernel_rfl) false (cur, kind) hkl
  simp only [hv0, Bool.false_eq_true, if_false, encK] at hlook
  obtain ⟨A, cp, rfl, hAs⟩ := (slr_of_owns hown rfl).shape
  have hslr : ∀ W, Below w.heap.size w W → SlR Rate.cells 5 W (.slice A xs.length cp) xs := fun W hb => (slr_of_owns hown rfl).below hb
  have ht0 : w.cell? ⟨tb, 0, none⟩ = some (.string base) := by simp [World.cell?, htb]
  have ht2 : w.cell? ⟨tb, 2, none⟩ = some (.map (some mb)) := by simp [World.cell?, htb]
  have htw : tb < w.heap.size := (Array.getElem?_eq_some_iff.1 htb).1
  have hle : ∀ W, Below w.heap.size w W → DaysLaid W := fun W hB => hl.below hB
  have htc : ∀ W, Below w.heap.size w W → W.cell? ⟨tb, 0, none⟩ = some (.string base) ∧ W.cell? ⟨tb, 2, none⟩ = some (.map (some mb)) := fun W hB => ⟨((bcell hB).1 _ _ htw).trans ht0, ((bcell hB).1 _ _ htw).trans ht2⟩
  have HTC := Lib.hid htc; clear htc
  have HL := Lib.hid hle
  have HAS := Lib.hid hAs; have HSL := Lib.hid hslr; have HLK := Lib.hid hlook; have HRI := Lib.hid hrise
  clear hl hle hAs hslr hlook hrise hown hmap hser htb hv0
  have e1 : (cur == base) = (cur.toList == base.toList) := beq_toListBytes _ _
  obtain ⟨a, hA⟩ : ∃ a, codeB cur = a := ⟨_, rfl⟩
  obtain ⟨b, hB⟩ : ∃ b, (cur.toList == base.toList) = b := ⟨_, rfl⟩
  obtain ⟨K, hK⟩ : ∃ K, (decide (1 ≤ kind) && decide (kind ≤ 3)) = K := ⟨_, rfl⟩
  obtain ⟨D, hD⟩ : ∃ D, isDay day = D := ⟨_, rfl⟩
  have HA := Lib.hid hA; have HK := Lib.hid hK; have HD := Lib.hid hD
  have HE := Lib.hid (e1.trans hB)
  have HFP := Lib.hid hfp
  clear hA hK hD e1 hfp
  cases a with
  | false =>
    have HS := Lib.hid (show findS base L cur kind day = (0, 0, 13) by unfold findS; rw [HA.out]; rfl)
    go_enter Tryd.func16, Tryd.ntmps16
    go_wp2_with (first
      | (go_at_call 23; refine (money_Code.calls _ _ hcz).mono ?_; rintro e w1 ⟨rfl, hb1⟩; rw [HA.out]; obtain ⟨hcc1, hff1⟩ := bcell hb1; have z1 := (Two.new w (.int .i64 0) (.int .i64 0) _).below (by simp) hb1)
      | (go_at_call 28; refine (fx_known.calls _ _).mono ?_; rintro e w' ⟨rfl, rfl⟩; rw [HK.out])
      | (go_at_call 29; refine (fx_day.calls _ _ (HL.out _ (bc1 _ _ _ hb1))).mono ?_; rintro e w2 ⟨rfl, hb2⟩; rw [HD.out]; obtain ⟨hcc2, hff2⟩ := bcell hb2; have hz2 : w.heap.size < w1.heap.size := (by have := hb1.size; simp at this; omega); have z2 := z1.below hz2 hb2; obtain ⟨zt0, zt2⟩ := HTC.out _ (bc2 _ _ _ _ hb1 hb2); have zl := HLK.out _ (bc2 _ _ _ _ hb1 hb2)))
    obtain ⟨y0, y1⟩ := z1.set (.int .i64 0) (.int .i64 0)
    refine bodyPost_ret (v := .tuple #[.agg #[.int .i64 0, .int .i64 0], .int .i64 13]) (by simp [results, Tryd.results16, go_sem, y0, y1]) rfl ⟨by rw [HS.out], ((bc1 _ _ _ hb1).setCell (by simp) _).setCell (by simp) _⟩
  | true =>
  cases K with
  | false =>
    have HS := Lib.hid (show findS base L cur kind day = (0, 0, 10) by unfold findS; rw [HA.out, HK.out]; rfl)
    go_enter Tryd.func16, Tryd.ntmps16
    go_wp2_with (first
      | (go_at_call 23; refine (money_Code.calls _ _ hcz).mono ?_; rintro e w1 ⟨rfl, hb1⟩; rw [HA.out]; obtain ⟨hcc1, hff1⟩ := bcell hb1; have z1 := (Two.new w (.int .i64 0) (.int .i64 0) _).below (by simp) hb1)
      | (go_at_call 28; refine (fx_known.calls _ _).mono ?_; rintro e w' ⟨rfl, rfl⟩; rw [HK.out])
      | (go_at_call 29; refine (fx_day.calls _ _ (HL.out _ (bc1 _ _ _ hb1))).mono ?_; rintro e w2 ⟨rfl, hb2⟩; rw [HD.out]; obtain ⟨hcc2, hff2⟩ := bcell hb2; have hz2 : w.heap.size < w1.heap.size := (by have := hb1.size; simp at this; omega); have z2 := z1.below hz2 hb2; obtain ⟨zt0, zt2⟩ := HTC.out _ (bc2 _ _ _ _ hb1 hb2); have zl := HLK.out _ (bc2 _ _ _ _ hb1 hb2)))
    obtain ⟨y0, y1⟩ := z1.set (.int .i64 0) (.int .i64 0)
    refine bodyPost_ret (v := .tuple #[.agg #[.int .i64 0, .int .i64 0], .int .i64 10]) (by simp [results, Tryd.results16, go_sem, y0, y1]) rfl ⟨by rw [HS.out], ((bc1 _ _ _ hb1).setCell (by simp) _).setCell (by simp) _⟩
  | true =>
  cases D with
  | false =>
    have HS := Lib.hid (show findS base L cur kind day = (0, 0, 11) by unfold findS; rw [HA.out, HK.out, HD.out]; rfl)
    go_enter Tryd.func16, Tryd.ntmps16
    go_wp2_with (first
      | (go_at_call 23; refine (money_Code.calls _ _ hcz).mono ?_; rintro e w1 ⟨rfl, hb1⟩; rw [HA.out]; obtain ⟨hcc1, hff1⟩ := bcell hb1; have z1 := (Two.new w (.int .i64 0) (.int .i64 0) _).below (by simp) hb1)
      | (go_at_call 28; refine (fx_known.calls _ _).mono ?_; rintro e w' ⟨rfl, rfl⟩; rw [HK.out])
      | (go_at_call 29; refine (fx_day.calls _ _ (HL.out _ (bc1 _ _ _ hb1))).mono ?_; rintro e w2 ⟨rfl, hb2⟩; rw [HD.out]; obtain ⟨hcc2, hff2⟩ := bcell hb2; have hz2 : w.heap.size < w1.heap.size := (by have := hb1.size; simp at this; omega); have z2 := z1.below hz2 hb2; obtain ⟨zt0, zt2⟩ := HTC.out _ (bc2 _ _ _ _ hb1 hb2); have zl := HLK.out _ (bc2 _ _ _ _ hb1 hb2)))
    obtain ⟨y0, y1⟩ := z2.set (.int .i64 0) (.int .i64 0)
    refine bodyPost_ret (v := .tuple #[.agg #[.int .i64 0, .int .i64 0], .int .i64 11]) (by simp [results, Tryd.results16, go_sem, y0, y1]) rfl ⟨by rw [HS.out], ((bc2 _ _ _ _ hb1 hb2).setCell (by simp) _).setCell (by simp) _⟩
  | true =>
  cases b with
  | true =>
    have HS := Lib.hid (show findS base L cur kind day = (1, 1, 0) by unfold findS; rw [HA.out, HK.out, HD.out, HE.out]; rfl)
    go_enter Tryd.func16, Tryd.ntmps16
    go_wp2_with (first
      | (go_at_call 23; refine (money_Code.calls _ _ hcz).mono ?_; rintro e w1 ⟨rfl, hb1⟩; rw [HA.out]; obtain ⟨hcc1, hff1⟩ := bcell hb1; have z1 := (Two.new w (.int .i64 0) (.int .i64 0) _).below (by simp) hb1)
      | (go_at_call 28; refine (fx_known.calls _ _).mono ?_; rintro e w' ⟨rfl, rfl⟩; rw [HK.out])
      | (go_at_call 29; refine (fx_day.calls _ _ (HL.out _ (bc1 _ _ _ hb1))).mono ?_; rintro e w2 ⟨rfl, hb2⟩; rw [HD.out]; obtain ⟨hcc2, hff2⟩ := bcell hb2; have hz2 : w.heap.size < w1.heap.size := (by have := hb1.size; simp at this; omega); have z2 := z1.below hz2 hb2; obtain ⟨zt0, zt2⟩ := HTC.out _ (bc2 _ _ _ _ hb1 hb2); have zl := HLK.out _ (bc2 _ _ _ _ hb1 hb2)))
    obtain ⟨y0, y1⟩ := z2.set (.int .i64 1) (.int .i64 1)
    refine bodyPost_ret (v := .tuple #[.agg #[.int .i64 1, .int .i64 1], .int .i64 0]) (by simp [results, Tryd.results16, go_sem, y0, y1]) rfl ⟨by rw [HS.out], ((bc2 _ _ _ _ hb1 hb2).setCell (by simp) _).setCell (by simp) _⟩
  | false =>
    have hdr : 0 ≤ day ∧ day ≤ 109572 := by have := HD.out; simpa [isDay] using this
    obtain ⟨d0, d1⟩ := hdr
    have hd64 : IntKind.i64.wrap (day + 1) = day + 1 := by rw [IntKind.wrap_i64]; omega
    obtain ⟨lb, hlb⟩ : ∃ lb, lowB xs (day + 1) = lb := ⟨_, rfl⟩
    have hlbn : lb ≤ xs.length := by rw [← hlb]; exact List.countP_le_length
    have HLB := Lib.hid hlb; clear hlb
    by_cases h0 : lb = 0
    · subst h0
      have HS := Lib.hid (show findS base L cur kind day = (0, 0, 20) by unfold findS; rw [HA.out, HK.out, HD.out, HE.out, HFP.out, HLB.out]; rfl)
      go_enter Tryd.func16, Tryd.ntmps16
      go_wp2_with (first
        | (go_at_call 23; refine (money_Code.calls _ _ hcz).mono ?_; rintro e w1 ⟨rfl, hb1⟩; rw [HA.out]; obtain ⟨hcc1, hff1⟩ := bcell hb1; have z1 := (Two.new w (.int .i64 0) (.int .i64 0) _).below (by simp) hb1)
        | (go_at_call 28; refine (fx_known.calls _ _).mono ?_; rintro e w' ⟨rfl, rfl⟩; rw [HK.out])
        | (go_at_call 29; refine (fx_day.calls _ _ (HL.out _ (bc1 _ _ _ hb1))).mono ?_; rintro e w2 ⟨rfl, hb2⟩; rw [HD.out]; obtain ⟨hcc2, hff2⟩ := bcell hb2; have hz2 : w.heap.size < w1.heap.size := (by have := hb1.size; simp at this; omega); have z2 := z1.below hz2 hb2; obtain ⟨zt0, zt2⟩ := HTC.out _ (bc2 _ _ _ _ hb1 hb2); have zl := HLK.out _ (bc2 _ _ _ _ hb1 hb2))
        | (go_at_call 30; refine (fx_search.calls xs _ (day + 1) _ (HSL.out _ (bc2 _ _ _ _ hb1 hb2)) HRI.out (by omega)).mono ?_; rintro e w3 ⟨rfl, hb3⟩; rw [HLB.out]; obtain ⟨hcc3, hff3⟩ := bcell hb3; have hz3 := hb2.size; have z3 := z2.below (by omega) hb3; obtain ⟨za, zb, zc, zd⟩ := id z3))
      obtain ⟨y0, y1⟩ := z3.set (.int .i64 0) (.int .i64 0)
      refine bodyPost_ret (v := .tuple #[.agg #[.int .i64 0, .int .i64 0], .int .i64 20]) (by simp [results, Tryd.results16, go_sem, y0, y1]) rfl ⟨by rw [HS.out], ((bc3 _ _ _ _ _ hb1 hb2 hb3).setCell (by simp) _).setCell (by simp) _⟩
    · obtain ⟨b, o, rfl, hbw, hc⟩ := HAS.out (lb - 1) (by omega)
      obtain ⟨r, hr⟩ : ∃ r, xs[lb - 1]? = some r := ⟨_, List.getElem?_eq_getElem (by omega)⟩
      have hr' : xs[lb - 1]'(by omega) = r := (List.getElem?_eq_some_iff.1 hr).2
      rw [hr'] at hc
      have hqc : ∀ W, Below w.heap.size w W → _ := fun W hB => Rate.five (fun j u hu => (hB.cell (p := ⟨b, o + (lb - 1) * 5 + j, none⟩) hbw).trans (hc j u hu))
      have HQC := Lib.hid hqc; clear hqc hc
      have HS := Lib.hid (show findS base L cur kind day = (r.n, r.d, 0) by unfold findS; rw [HA.out, HK.out, HD.out, HE.out, HFP.out, HLB.out, if_neg h0, hr]; rfl)
      clear hr hr'
      go_enter Tryd.func16, Tryd.ntmps16
      go_wp2_with (first
        | (go_at_call 23; refine (money_Code.calls _ _ hcz).mono ?_; rintro e w1 ⟨rfl, hb1⟩; rw [HA.out]; obtain ⟨hcc1, hff1⟩ := bcell hb1; have z1 := (Two.new w (.int .i64 0) (.int .i64 0) _).below (by simp) hb1)
        | (go_at_call 28; refine (fx_known.calls _ _).mono ?_; rintro e w' ⟨rfl, rfl⟩; rw [HK.out])
        | (go_at_call 29; refine (fx_day.calls _ _ (HL.out _ (bc1 _ _ _ hb1))).mono ?_; rintro e w2 ⟨rfl, hb2⟩; rw [HD.out]; obtain ⟨hcc2, hff2⟩ := bcell hb2; have hz2 : w.heap.size < w1.heap.size := (by have := hb1.size; simp at this; omega); have z2 := z1.below hz2 hb2; obtain ⟨zt0, zt2⟩ := HTC.out _ (bc2 _ _ _ _ hb1 hb2); have zl := HLK.out _ (bc2 _ _ _ _ hb1 hb2))
        | (go_at_call 30; refine (fx_search.calls xs _ (day + 1) _ (HSL.out _ (bc2 _ _ _ _ hb1 hb2)) HRI.out (by omega)).mono ?_; rintro e w3 ⟨rfl, hb3⟩; rw [HLB.out]; obtain ⟨hcc3, hff3⟩ := bcell hb3; have hz3 := hb2.size; have z3 := z2.below (by omega) hb3; obtain ⟨za, zb, zc, zd⟩ := id z3; obtain ⟨_, _, _, q3, q4⟩ := HQC.out _ (bc3 _ _ _ _ _ hb1 hb2 hb3); replace q4 : w3.cell? ⟨b, o + (lb - 1) * 5 + 3 + 1, none⟩ = some (.int .i64 r.d) := q4))
      obtain ⟨y0, y1⟩ := z3.set (.int .i64 r.n) (.int .i64 r.d)
      refine bodyPost_ret (v := .tuple #[.agg #[.int .i64 r.n, .int .i64 r.d], .int .i64 0]) (by simp [results, Tryd.results16, go_sem, y0, y1]) rfl ⟨by rw [HS.out], ((bc3 _ _ _ _ _ hb1 hb2 hb3).setCell (by simp) _).setCell (by simp) _⟩

end Go.Proofs.YtncbfpigojeekaaDoor
