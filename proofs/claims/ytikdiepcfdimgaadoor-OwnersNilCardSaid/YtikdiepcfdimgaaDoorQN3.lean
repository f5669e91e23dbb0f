/- A part of the proof. -/
import Derived.Test.YtikdiepcfdimgaaDoorQN2
import Derived.Test.YtikdiepcfdimgaaDoorRows
import Derived.Test.YtikdiepcfdimgaaDoorTie
import Derived.Test.YtikdiepcfdimgaaDoorCards
import Derived.SevenTiedAt
set_option linter.all false
namespace Go.Proofs.YtikdiepcfdimgaaDoor.POw
open Go.RowKit Go.Proofs.YtikdiepcfdimgaaDoorW.PrintWords Go.Proofs.YtikdiepcfdimgaaDoorW.PrintLast Go.Proofs.YtikdiepcfdimgaaDoorW.PrintMore
def rsh (a b : ByteArray) (day : Int) : List Hold → Int → Frc → Frc
  | [], _, f => f
  | h :: hs, m, f => if h.f0 = a ∧ h.f1 = b ∧ h.f3 ≤ day ∧ m < h.f3 then rsh a b day hs h.f3 h.f2 else rsh a b day hs m f
theorem rsh_is (a b : ByteArray) (day : Int) : ∀ (l pre : List Hold) (m : Int) (f : Frc), (∀ h ∈ pre ++ l, 0 ≤ h.f3) →
    ((f = ⟨0, 1⟩ ∧ m = -1 ∧ ∀ h ∈ pre, h.pr = (a, b) → day < h.f3) ∨ ∃ h ∈ pre, h.pr = (a, b) ∧ h.f3 ≤ day ∧ (∀ q ∈ pre, q.pr = (a, b) → q.f3 ≤ day → q.f3 ≤ h.f3) ∧ m = h.f3 ∧ f = h.f2) →
    ShareIs (fun h => h ∈ pre ++ l ∧ h.pr = (a, b)) day (rsh a b day l m f)
  | [], pre, m, f, h0, hs => by
    rw [List.append_nil]
    rcases hs with ⟨e, _, h1⟩ | ⟨h, hm, hp, hl, hx, _, e⟩
    · exact .inl ⟨e, fun h hh => h1 h hh.1 hh.2⟩
    · exact .inr ⟨h, ⟨hm, hp⟩, hl, fun q hq hle => hx q hq.1 hq.2 hle, e⟩
  | x :: l, pre, m, f, h0, hs => by
    have hpr : x.pr = (a, b) ↔ x.f0 = a ∧ x.f1 = b := by unfold Hold.pr; simp
    have step : ∀ m' f', ((f' = ⟨0, 1⟩ ∧ m' = -1 ∧ ∀ h ∈ pre ++ [x], h.pr = (a, b) → day < h.f3) ∨ ∃ h ∈ pre ++ [x], h.pr = (a, b) ∧ h.f3 ≤ day ∧ (∀ q ∈ pre ++ [x], q.pr = (a, b) → q.f3 ≤ day → q.f3 ≤ h.f3) ∧ m' = h.f3 ∧ f' = h.f2) →
        ShareIs (fun h => h ∈ pre ++ x :: l ∧ h.pr = (a, b)) day (rsh a b day l m' f') := fun m' f' h => by
      have := rsh_is a b day l (pre ++ [x]) m' f' (by rw [List.append_assoc]; exact h0) h
      rw [List.append_assoc] at this
      exact this
    have hx0 := h0 x (by simp)
    rw [rsh]
    by_cases c : x.f0 = a ∧ x.f1 = b ∧ x.f3 ≤ day ∧ m < x.f3
    · rw [if_pos c]
      refine step _ _ (.inr ⟨x, by simp, hpr.2 ⟨c.1, c.2.1⟩, c.2.2.1, fun q hq hqp hqd => ?_, rfl, rfl⟩)
      rcases List.mem_append.1 hq with hq | hq
      · rcases hs with ⟨_, _, h1⟩ | ⟨h, hm, hp, hl, hx, e, _⟩
        · have := h1 q hq hqp; omega
        · have := hx q hq hqp hqd; omega
      · rw [List.mem_singleton.1 hq]; omega
    · rw [if_neg c]
      refine step _ _ ?_
      rcases hs with ⟨e, em, h1⟩ | ⟨h, hm, hp, hl, hx, e, ef⟩
      · refine .inl ⟨e, em, fun q hq hqp => ?_⟩
        rcases List.mem_append.1 hq with hq | hq
        · exact h1 q hq hqp
        · rw [List.mem_singleton.1 hq] at hqp ⊢
          have := hpr.1 hqp
          refine Int.not_le.1 (fun hle => c ⟨this.1, this.2, hle, by omega⟩)
      · refine .inr ⟨h, List.mem_append_left _ hm, hp, hl, fun q hq hqp hqd => ?_, e, ef⟩
        rcases List.mem_append.1 hq with hq | hq
        · exact hx q hq hqp hqd
        · rw [List.mem_singleton.1 hq] at hqp hqd ⊢
          have := hpr.1 hqp
          rw [← e]
          exact Int.not_lt.1 (fun hlt => c ⟨this.1, this.2, hqd, hlt⟩)
end Go.Proofs.YtikdiepcfdimgaaDoor.POw
namespace Go.Proofs.YtikdiepcfdimgaaDoor.POw
open Go.RowKit Go.Proofs.YtikdiepcfdimgaaDoorW.PrintWords Go.Proofs.YtikdiepcfdimgaaDoorW.PrintLast Go.Proofs.YtikdiepcfdimgaaDoorW.PrintMore
def inL (l : List ByteArray) (s : ByteArray) : Bool := l.any fun x => decide (x = s)
theorem inL_iff (l : List ByteArray) (s : ByteArray) : inL l s = true ↔ s ∈ l := by
  unfold inL; rw [List.any_eq_true]
  exact ⟨fun ⟨x, hx, h⟩ => by rw [← of_decide_eq_true h]; exact hx, fun h => ⟨s, h, by simp⟩⟩
end Go.Proofs.YtikdiepcfdimgaaDoor.POw
namespace Go.Proofs.YtikdiepcfdimgaaDoor.POw
open Go.RowKit Go.Proofs.YtikdiepcfdimgaaDoorW.PrintWords Go.Proofs.YtikdiepcfdimgaaDoorW.PrintLast Go.Proofs.YtikdiepcfdimgaaDoorW.PrintMore
inductive Leads (ow : ByteArray → List ByteArray) (b : ByteArray) : ByteArray → Prop
  | base : Leads ow b b
  | step {a x : ByteArray} : a ∈ ow x → Leads ow b x → Leads ow b a
end Go.Proofs.YtikdiepcfdimgaaDoor.POw
namespace Go.Proofs.YtikdiepcfdimgaaDoor.POw
open Go.RowKit Go.Proofs.YtikdiepcfdimgaaDoorW.PrintWords Go.Proofs.YtikdiepcfdimgaaDoorW.PrintLast Go.Proofs.YtikdiepcfdimgaaDoorW.PrintMore
def Edge (l : List Hold) (y z : ByteArray) : Prop := ∃ h ∈ l, h.f0 = y ∧ h.f1 = z
inductive Fwd (l : List Hold) (a : ByteArray) : ByteArray → Prop
  | base : Fwd l a a
  | step {y z : ByteArray} : Fwd l a y → Edge l y z → Fwd l a z
end Go.Proofs.YtikdiepcfdimgaaDoor.POw
namespace Go.Proofs.YtikdiepcfdimgaaDoor.POw
open Go.RowKit Go.Proofs.YtikdiepcfdimgaaDoorW.PrintWords Go.Proofs.YtikdiepcfdimgaaDoorW.PrintLast Go.Proofs.YtikdiepcfdimgaaDoorW.PrintMore
structure Good (L : List Hold) : Prop where
  len : L.length ≤ 200
  gr : GrN L.length (grOf L gr0)
  ok : ∀ h ∈ L, wcodeB h.f0 = true ∧ wcodeB h.f1 = true ∧ fitH h = true ∧ isDay h.f3 = true
section
variable {L : List Hold}
theorem Good.day (g : Good L) : ∀ h ∈ L, 0 ≤ h.f3 ∧ h.f3 ≤ 109572 := fun h hh => by
  have := (g.ok h hh).2.2.2
  unfold isDay at this
  simpa using this
theorem Good.part (g : Good L) : ∀ h ∈ L, Part h.f2 := fun h hh => by
  have h1 := (g.ok h hh).2.2.1
  unfold fitH at h1
  simp only [Bool.and_eq_true, decide_eq_true_eq] at h1
  have := rightB_bounds h1.1.1
  unfold Part
  omega
theorem Good.one (g : Good L) (k : Pr) : ∀ a b, (a ∈ L ∧ a.pr = k) → (b ∈ L ∧ b.pr = k) → a.f3 = b.f3 → a = b := by
  intro a b ha hb he
  have hs := g.gr.sho k
  have ha' := (mem_shL a k L gr0).2 (.inr ha)
  have hb' := (mem_shL b k L gr0).2 (.inr hb)
  obtain ⟨i, hi, rfl⟩ := List.getElem_of_mem ha'
  obtain ⟨j, hj, rfl⟩ := List.getElem_of_mem hb'
  rcases Nat.lt_trichotomy i j with h | h | h
  · have := List.pairwise_iff_getElem.1 hs i j hi hj h; omega
  · subst h; rfl
  · have := List.pairwise_iff_getElem.1 hs j i hj hi h; omega
theorem Good.share (g : Good L) (o x : ByteArray) (day : Int) : shareL ((grOf L gr0).shL (o, x)) day = rsh o x day L (-1) ⟨0, 1⟩ := by
  have h1 := shareL_is _ day (g.gr.sho (o, x))
  have h2 := rsh_is o x day L [] (-1) ⟨0, 1⟩ (by simpa using fun h hh => (g.day h hh).1) (.inl ⟨rfl, rfl, by simp⟩)
  rw [List.nil_append] at h2
  have e : (fun h => h ∈ (grOf L gr0).shL (o, x)) = fun h => h ∈ L ∧ h.pr = (o, x) := by
    funext h
    apply propext
    rw [mem_shL]
    constructor
    · rintro (h | h)
      · simp [gr0, Gr.shL] at h
      · exact h
    · exact .inr
  rw [e] at h1
  exact ShareIs.unique (g.one (o, x)) h1 h2
end
end Go.Proofs.YtikdiepcfdimgaaDoor.POw
namespace Go.Proofs.YtikdiepcfdimgaaDoor.POw
open Go.RowKit Go.Proofs.YtikdiepcfdimgaaDoorW.PrintWords Go.Proofs.YtikdiepcfdimgaaDoorW.PrintLast Go.Proofs.YtikdiepcfdimgaaDoorW.PrintMore
section
variable {L : List Hold}
theorem Good.part_share (g : Good L) (o x : ByteArray) (day : Int) : Part (rsh o x day L (-1) ⟨0, 1⟩) := by
  have h2 := rsh_is o x day L [] (-1) ⟨0, 1⟩ (by simpa using fun h hh => (g.day h hh).1) (.inl ⟨rfl, rfl, by simp⟩)
  rcases h2 with ⟨e, _⟩ | ⟨h, ⟨h1, _⟩, _, _, e⟩
  · rw [e]; unfold Part; simp
  · rw [e]; exact g.part h (by simpa using h1)
def moreB (L : List Hold) (p : ByteArray → Bool) (x : ByteArray) (day a b : Int) : Bool :=
  decide (a * (exF ((((grOf L gr0).owL x).filter p).map fun o => shareL ((grOf L gr0).shL (o, x)) day) 0 1).2 < b * (exF ((((grOf L gr0).owL x).filter p).map fun o => shareL ((grOf L gr0).shL (o, x)) day) 0 1).1)
theorem Good.more_prog (g : Good L) (p : ByteArray → Bool) (x : ByteArray) (day a b : Int) (ha : 0 ≤ a ∧ a ≤ 1000000) (hb : 0 ≤ b ∧ b ≤ 1000000) : Ev (fun k => (sumF k p (grOf L gr0) x day).bind fun st => owners_sum_exceeds.f k st.1 st.2 a b) (moreB L p x day a b) := by
  obtain ⟨st, ⟨k1, E1⟩, ⟨k2, E2⟩⟩ := sumF_ev p (grOf L gr0) x day (fun o _ => by rw [g.share]; exact g.part_share o x day) (by have := g.gr.owl x; have := g.len; omega) a b ha hb
  refine ⟨k1 + k2, fun k hk => ?_⟩
  have F1 := E1 k (by omega)
  have F2 := E2 k (by omega)
  simp only at F1 F2
  show (sumF k p (grOf L gr0) x day).bind _ = _
  rw [F1, Option.bind_some, F2]
  rfl
end
end Go.Proofs.YtikdiepcfdimgaaDoor.POw
namespace Go.Proofs.YtikdiepcfdimgaaDoor.POw
open Go.RowKit Go.Proofs.YtikdiepcfdimgaaDoorW.PrintWords Go.Proofs.YtikdiepcfdimgaaDoorW.PrintLast Go.Proofs.YtikdiepcfdimgaaDoorW.PrintMore
section
variable {L : List Hold}
theorem Good.overE (g : Good L) (day : Int) : ∀ xs : List ByteArray, Ev (fun k => overE k (grOf L gr0) day xs) (xs.any fun x => moreB L (fun _ => true) x day 1 1)
  | [] => ⟨0, fun _ _ => rfl⟩
  | x :: xs => by
    obtain ⟨k1, E1⟩ := g.more_prog (fun _ => true) x day 1 1 (by omega) (by omega)
    obtain ⟨k2, E2⟩ := Good.overE g day xs
    refine ⟨k1 + k2, fun k hk => ?_⟩
    have F1 := E1 k (by omega)
    have F2 := E2 k (by omega)
    simp only at F1 F2
    show POw.overE k (grOf L gr0) day (x :: xs) = _
    rw [POw.overE]
    obtain ⟨st, hst, hb⟩ := Option.bind_eq_some_iff.1 F1
    rw [hst, Option.bind_some, hb, Option.bind_some, List.any_cons]
    cases moreB L (fun _ => true) x day 1 1 with
    | true => rfl
    | false => rw [if_neg (by simp), F2]; rfl
theorem Good.overD (g : Good L) : ∀ ds : List Int, Ev (fun k => POw.overD k (grOf L gr0) ds) (ds.any fun d => (grOf L gr0).en.any fun x => moreB L (fun _ => true) x d 1 1)
  | [] => ⟨0, fun _ _ => rfl⟩
  | d :: ds => by
    obtain ⟨k1, E1⟩ := g.overE d (grOf L gr0).en
    obtain ⟨k2, E2⟩ := Good.overD g ds
    refine ⟨k1 + k2, fun k hk => ?_⟩
    have F1 := E1 k (by omega)
    have F2 := E2 k (by omega)
    simp only at F1 F2
    show POw.overD k (grOf L gr0) (d :: ds) = _
    rw [POw.overD, F1, Option.bind_some, List.any_cons]
    cases (grOf L gr0).en.any fun x => moreB L (fun _ => true) x d 1 1 with
    | true => rfl
    | false => rw [if_neg (by simp), F2]; rfl
end
structure Group (L : List Hold) : Prop where
  good : Good L
  ev : Ev (fun k => newL k L 0 gr0) (.inr (grOf L gr0))
  over : (L.any fun h => moreB L (fun _ => true) h.f1 h.f3 1 1) = false
end Go.Proofs.YtikdiepcfdimgaaDoor.POw
namespace Go.Proofs.YtikdiepcfdimgaaDoor.POw
open Go.RowKit Go.Proofs.YtikdiepcfdimgaaDoorW.PrintWords Go.Proofs.YtikdiepcfdimgaaDoorW.PrintLast Go.Proofs.YtikdiepcfdimgaaDoorW.PrintMore
section
variable {L : List Hold}
def Clo (L : List Hold) (day : Int) (p : ByteArray → Bool) : Prop := ∀ x ∈ entL L [], p x = false → moreB L p x day 1 2 = false
structure Least (L : List Hold) (day : Int) (top : ByteArray) (P : ByteArray → Bool) : Prop where
  tp : P top = true
  clo : Clo L day P
  sub : ∀ x, P x = true → x = top ∨ x ∈ entL L []
  min : ∀ Q : ByteArray → Bool, Clo L day Q → Q top = true → ∀ x, P x = true → Q x = true
end
end Go.Proofs.YtikdiepcfdimgaaDoor.POw
namespace Go.Proofs.YtikdiepcfdimgaaDoor.POw
open Go.RowKit Go.Proofs.YtikdiepcfdimgaaDoorW.PrintWords Go.Proofs.YtikdiepcfdimgaaDoorW.PrintLast Go.Proofs.YtikdiepcfdimgaaDoorW.PrintMore
abbrev SortedS (l : List ByteArray) : Prop := l.Pairwise (fun a b => sLt a b = true)
section
variable {L : List Hold}
def ListIs (res : List ByteArray) (r : Option (ByteArray → Bool)) : Prop := SortedS res ∧ ∀ x, x ∈ res ↔ ∃ p, r = some p ∧ p x = true
end
end Go.Proofs.YtikdiepcfdimgaaDoor.POw
namespace Go.Proofs.YtikdiepcfdimgaaDoor.POw
open Go.RowKit Go.Lib Go.Proofs.YtikdiepcfdimgaaDoorW.PrintWords Go.Proofs.YtikdiepcfdimgaaDoorW.PrintLast Go.Proofs.YtikdiepcfdimgaaDoorW.PrintMore
def sinceL (kf : Nat) (s : Gr) (top ent : ByteArray) (day : Int) : List Int → Option (Int × Bool)
  | [] => some (0, true)
  | c :: cs => if c ≤ day ∧ 0 < c then (membF kf s top (c - 1)).bind fun r => if inB r ent = true then sinceL kf s top ent day cs else some (c, true) else sinceL kf s top ent day cs
def sinceF (kf : Nat) (s : Gr) (top ent : ByteArray) (day : Int) : Option (Int × Bool) :=
  (membF kf s top day).bind fun r => if inB r ent = true then sinceL kf s top ent day s.ch.reverse else some (0, false)
theorem look_memb {W W' : World} {B : Nat} {mv : Value} {r : Option (ByteArray → Bool)} (ent : ByteArray) (he : ent.size ≤ 1000) (h : MembPost B W' mv r) : (Instr.lookup 44 mv (.string ent) false).run Tryd.prog W' = .ok (.bool (inB r ent)) W' ∧ ∃ o, mv = .map o := by
  cases r with
  | none => simp only [MembPost] at h; subst h; exact ⟨set_nil_look ent he W', _, rfl⟩
  | some p =>
    obtain ⟨mb, rfl, hs, _⟩ := h
    exact ⟨hs.look ent he, _, rfl⟩
section
variable {w : World} {B g m1 m2 : Nat} {V : Pr → Value} {U : ByteArray → Value} {vE vC : Value} {s : Gr}
set_option maxRecDepth 100000 in
set_option maxHeartbeats 8000000 in
theorem go_Since_none (gv : Value) (top ent : ByteArray) (day : Int) (r : Option (ByteArray → Bool)) (he : ent.size ≤ 1000) (hr : inB r ent = false)
    (hm : Calls Tryd.prog 14 #[gv, .string top, .int .i64 day] w fun e w' => ∃ mv, e = .returned mv ∧ MembPost w.heap.size w' mv r ∧ Below w.heap.size w w') :
    Calls Tryd.prog 7 #[gv, .string top, .string ent, .int .i64 day] w fun e w' => e = .returned (.tuple #[.int .i64 0, .bool false]) ∧ Below w.heap.size w w' := by
  have HM := Lib.hid hm; have HR := Lib.hid hr; have HEZ := Lib.hid he
  clear hm hr
  go_enter Tryd.func7, Tryd.ntmps7
  go_wp2_with (go_at_call 14; refine HM.out.mono ?_; rintro e w1 ⟨mv, rfl, hmv, hb2⟩; obtain ⟨hlk, o, ho⟩ := look_memb (W := w) ent HEZ.out hmv; subst ho; rw [HR.out] at hlk; clear hmv)
  go_ret2
  exact ⟨rfl, hb2⟩
set_option maxRecDepth 100000 in
set_option maxHeartbeats 8000000 in
theorem go_Since (hG : GrAt w B g m1 m2 V U vE vC s) (ok : GrOk s) (hcI : ∀ c ∈ s.ch, inI c) (kf : Nat) (top ent : ByteArray) (day : Int) (res : Int × Bool) (ht : top.size ≤ 1000) (he : ent.size ≤ 1000) (hL : DaysLaid w) (hF : sinceF kf s top ent day = some res) :
    Calls Tryd.prog 7 #[.pointer (some ⟨g, 0, none⟩), .string top, .string ent, .int .i64 day] w fun e w' => e = .returned (.tuple #[.int .i64 res.1, .bool res.2]) ∧ Below w.heap.size w w' := by
  unfold sinceF at hF
  obtain ⟨r, hm, hF⟩ := Option.bind_eq_some_iff.1 hF
  by_cases hin : inB r ent = true
  · rw [if_pos hin] at hF
    have hM := go_members hG ok kf top day r ht hL hm
    have hM2 := fun (W : World) (hW : Below w.heap.size w W) (c : Int) (r : Option (ByteArray → Bool)) (h : membF kf s top (c - 1) = some r) => go_members (hG.below hW) ok kf top (c - 1) r ht (hL.below hW) h
    obtain ⟨A, c, hvC, hlc, hnil, hcm⟩ := own_form hG.chr
    subst hvC
    have hchr := hG.chr
    have hcell := fun (W : World) (hW : Below w.heap.size w W) => (hG.below hW).facts.2.2.2
    have hchl := ok.chl
    have hgl := hG.lt
    obtain ⟨l, hle⟩ : ∃ l, s.ch = l := ⟨_, rfl⟩
    rw [hle] at hF hchr hcell hchl hcI hlc hnil
    obtain ⟨r1, r2⟩ := res
    have HM := Lib.hid hM; have HM2 := Lib.hid hM2; have HCHR := Lib.hid hchr; have HCELL := Lib.hid hcell; have HF := Lib.hid hF; have HCI := Lib.hid hcI; have HIN := Lib.hid hin; have HEZ := Lib.hid he
    clear hM hM2 hchr hcell hF hcI hin hG ok hL hm hnil hle hcm
    go_enter Tryd.func7, Tryd.ntmps7
    go_upto_region 3 with (go_at_call 14; refine HM.out.mono ?_; rintro e w1 ⟨mv, rfl, hmv, hb1⟩; obtain ⟨hlk, o, ho⟩ := look_memb (W := w) ent HEZ.out hmv; subst ho; rw [HIN.out] at hlk; clear hmv)
    have hc1 := HCELL.out w1 hb1
    have hg1 := Nat.lt_of_lt_of_le hgl hb1.size
    clear hlk
    go_wp2
    clear hc1
    go_loopg [10, 11, 8, 9] l.length (fun n t10 t11 t8 t9 wr => ∃ k : Nat, n = k ∧ k ≤ l.length ∧ t10 = .int .i64 ((k : Int) - 1) ∧ Below w.heap.size w wr ∧ Hid (sinceL kf s top ent day (l.take k).reverse = some (r1, r2)))
    case atStart => exact ⟨l.length, rfl, Nat.le_refl _, by go_num, hb1, by rw [List.take_length]; exact HF⟩
    case round =>
      obtain ⟨k, rfl, hk, rfl, hbr, HR⟩ := hrel
      have hgr := Nat.lt_of_lt_of_le hgl hbr.size
      cases gk with
      | zero =>
        have hR := HR.out
        simp only [List.take_zero, List.reverse_nil, sinceL, Option.some.injEq, Prod.mk.injEq] at hR
        obtain ⟨rfl, rfl⟩ := hR
        clear HR
        go_wp2
        go_ret2
        exact ⟨rfl, hbr⟩
      | succ k =>
        have hlt : k < l.length := by omega
        have hR := HR.out
        rw [List.take_succ_eq_append_getElem hlt, List.reverse_append, List.reverse_singleton, List.singleton_append] at hR
        simp only [sinceL] at hR
        have hc1 := HCELL.out wr hbr
        obtain ⟨gb, rfl, hgb, q0⟩ := own_int_at (pw_own_below HCHR.out hbr) k hlt
        obtain ⟨x, hx⟩ : ∃ x, l[k] = x := ⟨_, rfl⟩
        have hxI := HCI.out x (hx ▸ List.getElem_mem hlt)
        rw [hx] at hR q0
        clear hx
        have hki : (k : Int) < (l.length : Int) := by omega
        have HXI := Lib.hid hxI
        clear hxI
        by_cases hc : x ≤ day
        · by_cases hp : 0 < x
          · rw [if_pos ⟨hc, hp⟩] at hR
            obtain ⟨rx, hrx, hR⟩ := Option.bind_eq_some_iff.1 hR
            have hM3 := HM2.out wr hbr x rx hrx
            have HM3 := Lib.hid hM3
            have hw1 : IntKind.i64.wrap (x - 1) = x - 1 := by have := HXI.out; unfold inI at this; exact IntWalk.i64_in _ (by omega)
            clear hM3 hrx
            by_cases hy : inB rx ent = true
            · rw [if_pos hy] at hR
              have HY := Lib.hid hy; have HR2 := Lib.hid hR
              clear hy hR HR
              go_wp2_with (go_at_call 14; (try simp only [hw1]); refine HM3.out.mono ?_; rintro e w1 ⟨mv, rfl, hmv, hb3⟩; obtain ⟨hlk, o, ho⟩ := look_memb (W := w) ent HEZ.out hmv; subst ho; rw [HY.out] at hlk; clear hmv)
              go_roundg k
              case measure => omega
              case rel => exact ⟨k, rfl, by omega, by go_num, hbr.trans (hb3.mono hbr.size), HR2⟩
            · rw [if_neg hy] at hR
              have hyf : inB rx ent = false := by simpa using hy
              have HY := Lib.hid hyf
              simp only [Option.some.injEq, Prod.mk.injEq] at hR
              obtain ⟨rfl, rfl⟩ := hR
              clear hy hyf HR
              go_wp2_with (go_at_call 14; (try simp only [hw1]); refine HM3.out.mono ?_; rintro e w1 ⟨mv, rfl, hmv, hb3⟩; obtain ⟨hlk, o, ho⟩ := look_memb (W := w) ent HEZ.out hmv; subst ho; rw [HY.out] at hlk; clear hmv)
              go_ret2
              exact ⟨rfl, hbr.trans (hb3.mono hbr.size)⟩
          · rw [if_neg (fun h => hp h.2)] at hR
            have HR2 := Lib.hid hR
            have hp2 : x ≤ 0 := by omega
            clear hR HR hp
            go_wp2
            go_roundg k
            case measure => omega
            case rel => exact ⟨k, rfl, by omega, by go_num, hbr, HR2⟩
        · rw [if_neg (fun h => hc h.1)] at hR
          have HR2 := Lib.hid hR
          have hc2 : day < x := by omega
          clear hR HR hc
          go_wp2
          go_roundg k
          case measure => omega
          case rel => exact ⟨k, rfl, by omega, by go_num, hbr, HR2⟩
  · rw [if_neg hin, Option.some.injEq] at hF
    subst hF
    exact go_Since_none _ top ent day r he (by simpa using hin) (go_members hG ok kf top day r ht hL hm)
theorem go_Since_nil (top ent : ByteArray) (day : Int) (he : ent.size ≤ 1000) : Calls Tryd.prog 7 #[.pointer none, .string top, .string ent, .int .i64 day] w fun e w' => e = .returned (.tuple #[.int .i64 0, .bool false]) ∧ Below w.heap.size w w' :=
  go_Since_none _ top ent day none he rfl ((go_members_nil top day w).mono (fun e w' h => ⟨_, h.1, rfl, h.2⟩))
end
end Go.Proofs.YtikdiepcfdimgaaDoor.POw
namespace Go.Proofs.YtikdiepcfdimgaaDoor.POw
open Go.RowKit Go.Proofs.YtikdiepcfdimgaaDoorW.PrintWords Go.Proofs.YtikdiepcfdimgaaDoorW.PrintLast Go.Proofs.YtikdiepcfdimgaaDoorW.PrintMore
def Im (L : List Hold) (top ent : ByteArray) (d : Int) : Prop := wcodeB top = true ∧ isDay d = true ∧ ∃ P, Least L d top P ∧ P ent = true
theorem ListIs.inB {res : List ByteArray} {r : Option (ByteArray → Bool)} (h : ListIs res r) (ent : ByteArray) : inL res ent = POw.inB r ent := by
  rw [Bool.eq_iff_iff, inL_iff, h.2]
  cases r with
  | none => simp [POw.inB]
  | some p => simp [POw.inB]
theorem Im.day {L : List Hold} {top ent : ByteArray} {d : Int} (h : Im L top ent d) : 0 ≤ d ∧ d ≤ 109572 := by
  have := h.2.1
  unfold isDay at this
  simpa using this
structure SinceIs (L : List Hold) (top ent : ByteArray) (day : Int) (res : Int × Bool) : Prop where
  out : ¬ Im L top ent day → res = (0, false)
  yes : Im L top ent day → res.2 = true ∧ 0 ≤ res.1 ∧ res.1 ≤ day ∧ (∀ d, res.1 ≤ d → d ≤ day → Im L top ent d) ∧ ¬ Im L top ent (res.1 - 1)
end Go.Proofs.YtikdiepcfdimgaaDoor.POw
namespace Go.Proofs.YtikdiepcfdimgaaDoor.POw
open Go.RowKit Go.Proofs.YtikdiepcfdimgaaDoorW.PrintWords Go.Proofs.YtikdiepcfdimgaaDoorW.PrintLast Go.Proofs.YtikdiepcfdimgaaDoorW.PrintMore
def Rank (L : List Hold) (r : ByteArray → Nat) : Prop := ∀ o x, Edge L o x → r o < r x
theorem Edge.mono {l l' : List Hold} (hs : ∀ h ∈ l, h ∈ l') {a x : ByteArray} (h : Edge l a x) : Edge l' a x := by
  obtain ⟨q, h1, h2⟩ := h
  exact ⟨q, hs q h1, h2⟩
theorem Fwd.mono {l l' : List Hold} (hs : ∀ h ∈ l, h ∈ l') {a x : ByteArray} (h : Fwd l a x) : Fwd l' a x := by
  induction h with
  | base => exact .base
  | step _ he ih => exact .step ih (he.mono hs)
open Classical in
theorem Rank.add {l : List Hold} {r : ByteArray → Nat} (h : Rank l r) (x : Hold) (hn : ¬ Fwd l x.f1 x.f0) : ∃ r', Rank (l ++ [x]) r' := by
  refine ⟨fun y => if Fwd l x.f1 y then r y + r x.f0 + 1 else r y, ?_⟩
  rintro o y ⟨q, hq, rfl, rfl⟩
  simp only
  rcases List.mem_append.1 hq with hq | hq
  · have hr := h q.f0 q.f1 ⟨q, hq, rfl, rfl⟩
    by_cases c : Fwd l x.f1 q.f0
    · rw [if_pos c, if_pos (.step c ⟨q, hq, rfl, rfl⟩)]; omega
    · rw [if_neg c]; split <;> omega
  · rw [List.mem_singleton.1 hq, if_neg hn, if_pos .base]; omega
end Go.Proofs.YtikdiepcfdimgaaDoor.POw
namespace Go.Proofs.YtikdiepcfdimgaaDoor.POw
open Go.RowKit Go.Proofs.YtikdiepcfdimgaaDoorW.PrintWords Go.Proofs.YtikdiepcfdimgaaDoorW.PrintLast Go.Proofs.YtikdiepcfdimgaaDoorW.PrintMore
abbrev Tri := Int × Int × Int
section
variable {L : List Hold}
def DnOk (top : ByteArray) (E : ByteArray → Tri) (d : Dn) : Prop := (∀ y f, d y = some f → E y = (f.f0, f.f1, 0)) ∧ (d top).isSome = true
theorem DnOk.put {top : ByteArray} {E : ByteArray → Tri} {d : Dn} (h : DnOk top E d) {x : ByteArray} {f : Frc} (hx : E x = (f.f0, f.f1, 0)) : DnOk top E (putD d x f) := by
  refine ⟨fun y q hq => ?_, ?_⟩
  · unfold putD at hq
    by_cases c : y = x
    · rw [if_pos c] at hq; cases hq; rw [c]; exact hx
    · rw [if_neg c] at hq; exact h.1 y q hq
  · unfold putD
    split
    · rfl
    · exact h.2
end
end Go.Proofs.YtikdiepcfdimgaaDoor.POw
namespace Go.Proofs.YtikdiepcfdimgaaDoor.POw
open Go.RowKit Go.Proofs.YtikdiepcfdimgaaDoorW.PrintWords Go.Proofs.YtikdiepcfdimgaaDoorW.PrintLast Go.Proofs.YtikdiepcfdimgaaDoorW.PrintMore
def bP : ByteArray := ⟨#[112]⟩
def bA : ByteArray := ⟨#[97]⟩
def bB : ByteArray := ⟨#[98]⟩
def bQ : ByteArray := ⟨#[113]⟩
def ex1 : List Hold := [⟨bP, bA, ⟨4, 5⟩, 10⟩, ⟨bP, bB, ⟨1, 5⟩, 10⟩, ⟨bA, bB, ⟨2, 5⟩, 20⟩, ⟨bP, bA, ⟨0, 1⟩, 30⟩]
def ex2 : List Hold := [⟨bP, bA, ⟨1, 2⟩, 0⟩, ⟨bA, bP, ⟨1, 2⟩, 0⟩]
def ex3 : List Hold := [⟨bP, bA, ⟨1, 2⟩, 0⟩, ⟨bQ, bA, ⟨2, 3⟩, 5⟩]
def exG : Gr := addG (addG (addG (addG gr0 ⟨bP, bA, ⟨4, 5⟩, 10⟩) ⟨bP, bB, ⟨1, 5⟩, 10⟩) ⟨bA, bB, ⟨2, 5⟩, 20⟩) ⟨bP, bA, ⟨0, 1⟩, 30⟩
theorem ex3_new : newF 20 ex3 = some (0, 4, none) := by kernel_rfl
theorem ex2_new : newF 20 ex2 = some (1, 24, none) := by kernel_rfl
theorem ex1_new : newF 20 ex1 = some (0, 0, some exG) := by kernel_rfl
theorem ex1_m25 : membF 20 exG bP 25 = some (some (putB (putB (putB (fun _ => false) bP) bA) bB)) := by kernel_rfl
theorem ex1_m15 : membF 20 exG bP 15 = some (some (putB (putB (fun _ => false) bP) bA)) := by kernel_rfl
theorem ex1_m30 : membF 20 exG bP 30 = some (some (putB (fun _ => false) bP)) := by kernel_rfl
theorem ex1_e25 : effectiveF 20 20 exG bP bB 25 = some (13, 25, 0) := by kernel_rfl
theorem ex1_e15 : effectiveF 20 20 exG bP bB 15 = some (0, 0, 1) := by kernel_rfl
theorem ex1_s25 : sinceF 20 exG bP bB 25 = some (20, true) := by kernel_rfl
theorem ex1_h9 : shareL (exG.shL (bP, bA)) 9 = ⟨0, 1⟩ := by kernel_rfl
theorem ex1_h12 : shareL (exG.shL (bP, bA)) 12 = ⟨4, 5⟩ := by kernel_rfl
end Go.Proofs.YtikdiepcfdimgaaDoor.POw
namespace Go.Proofs.YtikdiepcfdimgaaDoor.POw
open Go.RowKit Go.Lib Go.Proofs.YtikdiepcfdimgaaDoorW.PrintWords Go.Proofs.YtikdiepcfdimgaaDoorW.PrintLast Go.Proofs.YtikdiepcfdimgaaDoorW.PrintMore
def hcs (h : Hold) : List Value := [.string h.f0, .string h.f1, .int .i64 h.f2.f0, .int .i64 h.f2.f1, .int .i64 h.f3]
theorem reps_holds (w : World) (base : Nat) (ok : Nat → Prop) : ∀ l : List Hold, Reps (k41.M w base ok) 5 l (l.flatMap hcs)
  | [] => ⟨by simp, fun j p hj => by simp at hj⟩
  | h :: l => by
    obtain ⟨h1, h2⟩ := reps_holds w base ok l
    refine ⟨by rw [List.flatMap_cons, List.length_append, h1]; simp [hcs]; omega, fun j p hj => ?_⟩
    rw [List.flatMap_cons]
    cases j with
    | zero =>
      have e : h = p := by simpa using hj
      subst e
      have : ((hcs h ++ l.flatMap hcs).drop (0 * 5)).take 5 = hcs h := by
        rw [Nat.zero_mul, List.drop_zero, List.take_left' (by simp [hcs])]
      rw [this]
      exact k41_mkM w base ok h
    | succ j =>
      have hj' : l[j]? = some p := by simpa using hj
      have : (hcs h ++ l.flatMap hcs).drop ((j + 1) * 5) = (l.flatMap hcs).drop (j * 5) := by
        rw [List.drop_append, List.drop_eq_nil_of_le (by simp [hcs]; omega), List.nil_append]
        congr 1
        simp [hcs]; omega
      rw [this]
      exact h2 j p hj'
theorem holds_lit (w : World) (e : TypeId) (l : List Hold) (hl : l.length ≤ 1000) : Kd.C k41 (w.alloc (.cells (l.flatMap hcs).toArray e)) (some ⟨w.heap.size, 0, none⟩) l.length l := by
  have hr := reps_holds (w.alloc (.cells (l.flatMap hcs).toArray e)) 0 (fun k => True ∧ some k ≠ (Value.slice (some ⟨w.heap.size, 0, none⟩) l.length l.length).ownBlock) l
  have h2 := World.ownsRow_lit (base := 0) (e := e) (size := 5) w (l.flatMap hcs).toArray l.length (by omega) (by unfold maxLen; omega) (by simpa using hr.1)
  have : Kd.R k41 e (w.alloc (.cells (l.flatMap hcs).toArray e)) 0 (fun _ => True) (.slice (some ⟨w.heap.size, 0, none⟩) l.length l.length) l :=
    ⟨fun _ _ => trivial, l.flatMap hcs, by have h3 : (k41).sz = 5 := rfl; rw [h3]; simpa using h2, hr⟩
  exact (Kd.R_reads' this).2.2
theorem strs_lit (w : World) (l : List ByteArray) (hl : l.length ≤ 1000) : Kd.C Kd.string (w.alloc (.cells (strs l).toArray 9)) (some ⟨w.heap.size, 0, none⟩) l.length l := by
  have h2 := World.ownsRow_lit (base := 0) (e := 9) (size := 1) w (strs l).toArray l.length (by omega) (by unfold maxLen; omega) (by simp [strs])
  obtain ⟨A, c, e, _, h⟩ := strs_C (w := w.alloc (.cells (strs l).toArray 9)) (B := 0) (v := .slice (some ⟨w.heap.size, 0, none⟩) l.length l.length) (l := l) (by simpa using h2)
  injection e with e1 _ _
  rw [e1]
  exact h
theorem list_of {l m : List ByteArray} {r : Option (ByteArray → Bool)} (h : ListP l r) (hs : m.Pairwise (fun a b => sLt a b = true)) (hm : ∀ x, x ∈ m ↔ ∃ p, r = some p ∧ p x = true) : l = m :=
  sorted_ext_ sO h.1 hs (fun x => by rw [h.2, hm])
def GrP (w : World) (g : Nat) (s : Gr) : Prop := ∃ B m1 m2 V U vE vC, GrAt w B g m1 m2 V U vE vC s
theorem GrP.below {w W : World} {g : Nat} {s : Gr} (h : GrP w g s) (hb : Below w.heap.size w W) : GrP W g s := by
  obtain ⟨B, m1, m2, V, U, vE, vC, h⟩ := h
  exact ⟨B, m1, m2, V, U, vE, vC, h.below hb⟩
structure Fit (s : Gr) : Prop where
  grok : GrOk s
  inS : ∀ k (day : Int), inI (shareL (s.shL k) day).f0 ∧ inI (shareL (s.shL k) day).f1
  inC : ∀ c ∈ s.ch, inI c
section
variable {w : World} {s : Gr} {g : Nat}
theorem gq_Members (h : GrP w g s) (gd : Fit s) (kf : Nat) (top : ByteArray) (day : Int) (r : Option (ByteArray → Bool)) (ht : top.size ≤ 1000) (hL : DaysLaid w) (hF : membF kf s top day = some r) :
    Calls Tryd.prog 10 #[.pointer (some ⟨g, 0, none⟩), .string top, .int .i64 day] w fun e w' => ∃ A c l, e = .returned (.slice A (List.length l) c) ∧ Kd.C Kd.string w' A (List.length l) l ∧ List.length l ≤ c ∧ ListP l r ∧ Below w.heap.size w w' := by
  obtain ⟨B, m1, m2, V, U, vE, vC, h⟩ := h
  refine (go_Members h gd.grok kf top day r ht hL hF).mono ?_
  rintro e w' ⟨v, l, rfl, hown, hl, hb⟩
  obtain ⟨A, c, rfl, hc, hC⟩ := strs_C hown
  exact ⟨A, c, l, rfl, hC, hc, hl, hb⟩
theorem gq_Effective (h : GrP w g s) (gd : Fit s) (kf n : Nat) (top ent : ByteArray) (day : Int) (res : Int × Int × Int) (ht : top.size ≤ 1000) (he : ent.size ≤ 1000) (hL : DaysLaid w) (hF : effectiveF kf n s top ent day = some res) :
    Calls Tryd.prog 6 #[.pointer (some ⟨g, 0, none⟩), .string top, .string ent, .int .i64 day] w fun e w' => e = .returned (.tuple #[.agg #[.int .i64 res.1, .int .i64 res.2.1], .int .i64 res.2.2]) ∧ Below w.heap.size w w' := by
  obtain ⟨B, m1, m2, V, U, vE, vC, h⟩ := h
  exact go_Effective h gd.grok gd.inS kf n top ent day res ht he hL hF
theorem gq_Since (h : GrP w g s) (gd : Fit s) (kf : Nat) (top ent : ByteArray) (day : Int) (res : Int × Bool) (ht : top.size ≤ 1000) (he : ent.size ≤ 1000) (hL : DaysLaid w) (hF : sinceF kf s top ent day = some res) :
    Calls Tryd.prog 7 #[.pointer (some ⟨g, 0, none⟩), .string top, .string ent, .int .i64 day] w fun e w' => e = .returned (.tuple #[.int .i64 res.1, .bool res.2]) ∧ Below w.heap.size w w' := by
  obtain ⟨B, m1, m2, V, U, vE, vC, h⟩ := h
  exact go_Since h gd.grok gd.inC kf top ent day res ht he hL hF
theorem gq_Share (h : GrP w g s) (gd : Fit s) (a b : ByteArray) (day : Int) (ha : a.size ≤ 1000) (hb : b.size ≤ 1000) (f : Frc) (hf : shareL (s.shL (a, b)) day = f) :
    Calls Tryd.prog 9 #[.pointer (some ⟨g, 0, none⟩), .string a, .string b, .int .i64 day] w fun e w' => e = .returned (.agg #[.int .i64 f.f0, .int .i64 f.f1]) ∧ Below w.heap.size w w' := by
  obtain ⟨B, m1, m2, V, U, vE, vC, h⟩ := h
  subst hf
  exact go_Share h a b day ha hb (by have := gd.grok.shl (a, b); omega)
end
def NewP (w : World) (p : Value) (og : Option Gr) : Prop := match og with
  | none => p = .pointer none
  | some s => ∃ g, p = .pointer (some ⟨g, 0, none⟩) ∧ GrP w g s
theorem gp_New (kf : Nat) (A0 : Option Addr) (c0 : Nat) (l : List Hold) (a e : Int) (og : Option Gr) (w : World) (hC : Kd.C k41 w A0 l.length l) (hsz : l.length ≤ 200 → ∀ h ∈ l, h.f0.size ≤ 100 ∧ h.f1.size ≤ 100 ∧ inI h.f2.f0 ∧ inI h.f2.f1) (hL : DaysLaid w) (hF : newF kf l = some (a, e, og)) :
    Calls Tryd.prog 11 #[.slice A0 l.length c0] w fun r w' => ∃ p, r = .returned (.tuple #[p, .int .i64 a, .int .i64 e]) ∧ NewP w' p og ∧ Below w.heap.size w w' := by
  refine (go_New kf A0 c0 l a e og w hC hsz hL hF).mono ?_
  rintro r w' ⟨p, rfl, hp, hb⟩
  refine ⟨p, rfl, ?_, hb⟩
  cases og with
  | none => exact hp
  | some s =>
    obtain ⟨g, m1, m2, V, U, vE, vC, rfl, _, hG⟩ := hp
    exact ⟨g, rfl, _, m1, m2, V, U, vE, vC, hG⟩
theorem new_lit (kf : Nat) (l : List Hold) (a e : Int) (og : Option Gr) (w : World) (hl : l.length ≤ 200) (hsz : ∀ h ∈ l, h.f0.size ≤ 100 ∧ h.f1.size ≤ 100 ∧ inI h.f2.f0 ∧ inI h.f2.f1) (hL : DaysLaid w) (hF : newF kf l = some (a, e, og)) :
    Calls Tryd.prog 11 #[.slice (some ⟨w.heap.size, 0, none⟩) l.length l.length] (w.alloc (.cells (l.flatMap hcs).toArray 41)) fun r w' => ∃ p, r = .returned (.tuple #[p, .int .i64 a, .int .i64 e]) ∧ NewP w' p og ∧ Below w.heap.size w w' := by
  have hb := (Below.refl w.heap.size w).alloc (Nat.le_refl _) (.cells (l.flatMap hcs).toArray 41)
  refine (gp_New kf _ _ l a e og _ (holds_lit w 41 l (by omega)) (fun _ => hsz) (hL.below hb) hF).mono ?_
  rintro r w' ⟨p, rfl, hp, hb2⟩
  exact ⟨p, rfl, hp, hb.trans (hb2.mono hb.size)⟩
theorem same_lit {k : Nat} {l m : List ByteArray} (h : accountingref15_SameTexts.f k l m = some true) (hm : m.length ≤ 1000) {A : Option Addr} {c : Nat} {w : World} (hC : Kd.C Kd.string w A l.length l) (hc : l.length ≤ c) :
    Calls Tryd.prog 13 #[.slice A l.length c, .slice (some ⟨w.heap.size, 0, none⟩) m.length m.length] (w.alloc (.cells (strs m).toArray 9)) fun e w' => e = .returned (.bool true) ∧ Below w.heap.size w w' := by
  have hb := (Below.refl w.heap.size w).alloc (Nat.le_refl _) (.cells (strs m).toArray 9)
  refine (accountingref15_SameTexts.calls k A c l _ _ m true _ (Kd.C_below hC hb) hc (strs_lit w m hm) (Nat.le_refl _) h).mono ?_
  rintro e w' ⟨rfl, hd⟩
  exact ⟨rfl, hb.trans (hd.below.mono hb.size)⟩
theorem shareL_mem (day : Int) : ∀ (l : List Hold) (f : Frc), l.foldl (fun f h => if h.f3 ≤ day then h.f2 else f) f = f ∨ ∃ h ∈ l, l.foldl (fun f h => if h.f3 ≤ day then h.f2 else f) f = h.f2
  | [], _ => .inl rfl
  | x :: l, f => by
    rw [List.foldl_cons]
    rcases shareL_mem day l (if x.f3 ≤ day then x.f2 else f) with e | ⟨h, hm, e⟩
    · rw [e]
      by_cases c : x.f3 ≤ day
      · rw [if_pos c]; exact .inr ⟨x, List.mem_cons_self .., rfl⟩
      · rw [if_neg c]; exact .inl rfl
    · exact .inr ⟨h, List.mem_cons_of_mem _ hm, e⟩
def AllI (s : Gr) : Prop := ∀ k, ∀ h ∈ s.shL k, inI h.f2.f0 ∧ inI h.f2.f1
theorem AllI.add {s : Gr} (hs : AllI s) (x : Hold) (h0 : inI x.f2.f0) (h1 : inI x.f2.f1) : AllI (addG s x) := by
  intro k h hh
  rw [addG_shL] at hh
  by_cases c : k = x.pr
  · rw [if_pos c] at hh
    rcases List.mem_append.1 ((insH_perm _ _).mem_iff.1 hh) with h2 | h2
    · exact hs _ h h2
    · rw [List.mem_singleton.1 h2]; exact ⟨h0, h1⟩
  · rw [if_neg c] at hh; exact hs k h hh
theorem ex1_fit : Fit exG where
  grok := (newL_ok (show ∀ h ∈ ex1, h.f0.size ≤ 100 ∧ h.f1.size ≤ 100 by decide) (show newL 20 ex1 0 gr0 = some (.inr exG) by kernel_rfl) GrN.start).ok (by decide)
  inS := fun k day => by
    have h0 : AllI gr0 := fun k h hh => by simp [gr0, Gr.shL] at hh
    have hA : AllI exG := (((h0.add _ ⟨by decide, by decide⟩ ⟨by decide, by decide⟩).add _ ⟨by decide, by decide⟩ ⟨by decide, by decide⟩).add _ ⟨by decide, by decide⟩ ⟨by decide, by decide⟩).add _ ⟨by decide, by decide⟩ ⟨by decide, by decide⟩
    unfold shareL
    rcases shareL_mem day (exG.shL k) ⟨0, 1⟩ with e | ⟨h, hm, e⟩
    · rw [e]; exact ⟨⟨by decide, by decide⟩, ⟨by decide, by decide⟩⟩
    · rw [e]; exact hA k h hm
  inC := fun c hc => by
    have : exG.ch = [10, 20, 30] := by kernel_rfl
    rw [this] at hc
    simp only [List.mem_cons, List.not_mem_nil, or_false] at hc
    unfold inI
    omega
end Go.Proofs.YtikdiepcfdimgaaDoor.POw
namespace Go.Proofs.YtikdiepcfdimgaaDoor.POw
open Go.RowKit Go.Lib Go.Proofs.YtikdiepcfdimgaaDoorW.PrintWords Go.Proofs.YtikdiepcfdimgaaDoorW.PrintLast Go.Proofs.YtikdiepcfdimgaaDoorW.PrintMore
theorem exq : ∀ h ∈ ex1 ++ ex2 ++ ex3, h.f0.size ≤ 100 ∧ h.f1.size ≤ 100 ∧ inI h.f2.f0 ∧ inI h.f2.f1 := by
  have : ((ex1 ++ ex2 ++ ex3).all fun h => decide (h.f0.size ≤ 100) && decide (h.f1.size ≤ 100) && decide (-9223372036854775808 ≤ h.f2.f0) && decide (h.f2.f0 ≤ 9223372036854775807) && decide (-9223372036854775808 ≤ h.f2.f1) && decide (h.f2.f1 ≤ 9223372036854775807)) = true := by kernel_rfl
  intro h hm
  have := List.all_eq_true.1 this h hm
  simp only [Bool.and_eq_true, decide_eq_true_eq] at this
  unfold inI
  omega
theorem m25_is {l : List ByteArray} (h : ListP l (some (putB (putB (putB (fun _ => false) bP) bA) bB))) : l = [bA, bB, bP] := by
  refine list_of h (by decide) (fun x => ?_)
  unfold putB
  simp only [List.mem_cons, List.not_mem_nil, or_false, Option.some.injEq, exists_eq_left', Bool.or_eq_true, decide_eq_true_eq, Bool.false_eq_true]
  constructor
  · rintro (h | h | h) <;> simp [h]
  · rintro (h | h | h) <;> simp [h]
theorem m15_is {l : List ByteArray} (h : ListP l (some (putB (putB (fun _ => false) bP) bA))) : l = [bA, bP] := by
  refine list_of h (by decide) (fun x => ?_)
  unfold putB
  simp only [List.mem_cons, List.not_mem_nil, or_false, Option.some.injEq, exists_eq_left', Bool.or_eq_true, decide_eq_true_eq, Bool.false_eq_true]
theorem m30_is {l : List ByteArray} (h : ListP l (some (putB (fun _ => false) bP))) : l = [bP] := by
  refine list_of h (by decide) (fun x => ?_)
  unfold putB
  simp only [List.mem_cons, List.not_mem_nil, or_false, Option.some.injEq, exists_eq_left', Bool.or_eq_true, decide_eq_true_eq, Bool.false_eq_true]
theorem zP : bP.size ≤ 1000 := by decide
theorem zA : bA.size ≤ 1000 := by decide
theorem zB : bB.size ≤ 1000 := by decide
section
variable {w : World} {g : Nat}
theorem ex_m25 (h : GrP w g exG) (hL : DaysLaid w) : Calls Tryd.prog 10 #[.pointer (some ⟨g, 0, none⟩), .string ⟨#[112]⟩, .int .i64 25] w fun e w' => ∃ A c, e = .returned (.slice A 3 c) ∧ Kd.C Kd.string w' A 3 [bA, bB, bP] ∧ 3 ≤ c ∧ Below w.heap.size w w' := by
  refine (gq_Members h ex1_fit 20 bP 25 _ zP hL ex1_m25).mono ?_
  rintro e w' ⟨A, c, l, rfl, hC, hc, hl, hb⟩
  obtain rfl := m25_is hl
  exact ⟨A, c, rfl, hC, hc, hb⟩
theorem ex_m15 (h : GrP w g exG) (hL : DaysLaid w) : Calls Tryd.prog 10 #[.pointer (some ⟨g, 0, none⟩), .string ⟨#[112]⟩, .int .i64 15] w fun e w' => ∃ A c, e = .returned (.slice A 2 c) ∧ Kd.C Kd.string w' A 2 [bA, bP] ∧ 2 ≤ c ∧ Below w.heap.size w w' := by
  refine (gq_Members h ex1_fit 20 bP 15 _ zP hL ex1_m15).mono ?_
  rintro e w' ⟨A, c, l, rfl, hC, hc, hl, hb⟩
  obtain rfl := m15_is hl
  exact ⟨A, c, rfl, hC, hc, hb⟩
theorem ex_m30 (h : GrP w g exG) (hL : DaysLaid w) : Calls Tryd.prog 10 #[.pointer (some ⟨g, 0, none⟩), .string ⟨#[112]⟩, .int .i64 30] w fun e w' => ∃ A c, e = .returned (.slice A 1 c) ∧ Kd.C Kd.string w' A 1 [bP] ∧ 1 ≤ c ∧ Below w.heap.size w w' := by
  refine (gq_Members h ex1_fit 20 bP 30 _ zP hL ex1_m30).mono ?_
  rintro e w' ⟨A, c, l, rfl, hC, hc, hl, hb⟩
  obtain rfl := m30_is hl
  exact ⟨A, c, rfl, hC, hc, hb⟩
theorem ex_e25 (h : GrP w g exG) (hL : DaysLaid w) : Calls Tryd.prog 6 #[.pointer (some ⟨g, 0, none⟩), .string ⟨#[112]⟩, .string ⟨#[98]⟩, .int .i64 25] w fun e w' => e = .returned (.tuple #[.agg #[.int .i64 13, .int .i64 25], .int .i64 0]) ∧ Below w.heap.size w w' :=
  gq_Effective h ex1_fit 20 20 bP bB 25 _ zP zB hL ex1_e25
theorem ex_e15 (h : GrP w g exG) (hL : DaysLaid w) : Calls Tryd.prog 6 #[.pointer (some ⟨g, 0, none⟩), .string ⟨#[112]⟩, .string ⟨#[98]⟩, .int .i64 15] w fun e w' => e = .returned (.tuple #[.agg #[.int .i64 0, .int .i64 0], .int .i64 1]) ∧ Below w.heap.size w w' :=
  gq_Effective h ex1_fit 20 20 bP bB 15 _ zP zB hL ex1_e15
theorem ex_s25 (h : GrP w g exG) (hL : DaysLaid w) : Calls Tryd.prog 7 #[.pointer (some ⟨g, 0, none⟩), .string ⟨#[112]⟩, .string ⟨#[98]⟩, .int .i64 25] w fun e w' => e = .returned (.tuple #[.int .i64 20, .bool true]) ∧ Below w.heap.size w w' :=
  gq_Since h ex1_fit 20 bP bB 25 _ zP zB hL ex1_s25
theorem ex_h9 (h : GrP w g exG) : Calls Tryd.prog 9 #[.pointer (some ⟨g, 0, none⟩), .string ⟨#[112]⟩, .string ⟨#[97]⟩, .int .i64 9] w fun e w' => e = .returned (.agg #[.int .i64 0, .int .i64 1]) ∧ Below w.heap.size w w' :=
  gq_Share h ex1_fit bP bA 9 zP zA ⟨0, 1⟩ ex1_h9
theorem ex_h12 (h : GrP w g exG) : Calls Tryd.prog 9 #[.pointer (some ⟨g, 0, none⟩), .string ⟨#[112]⟩, .string ⟨#[97]⟩, .int .i64 12] w fun e w' => e = .returned (.agg #[.int .i64 4, .int .i64 5]) ∧ Below w.heap.size w w' :=
  gq_Share h ex1_fit bP bA 12 zP zA ⟨4, 5⟩ ex1_h12
theorem ex_n1 (hL : DaysLaid w) : Calls Tryd.prog 11 #[.slice (some ⟨w.heap.size, 0, none⟩) 4 4] (w.alloc (.cells #[.string ⟨#[112]⟩, .string ⟨#[97]⟩, .int .i64 4, .int .i64 5, .int .i64 10, .string ⟨#[112]⟩, .string ⟨#[98]⟩, .int .i64 1, .int .i64 5, .int .i64 10, .string ⟨#[97]⟩, .string ⟨#[98]⟩, .int .i64 2, .int .i64 5, .int .i64 20, .string ⟨#[112]⟩, .string ⟨#[97]⟩, .int .i64 0, .int .i64 1, .int .i64 30] 41)) fun r w' => ∃ g, r = .returned (.tuple #[.pointer (some ⟨g, 0, none⟩), .int .i64 0, .int .i64 0]) ∧ GrP w' g exG ∧ Below w.heap.size w w' := by
  refine (new_lit 20 ex1 0 0 (some exG) w (by decide) (fun h hm => exq h (by simp [hm])) hL ex1_new).mono ?_
  rintro r w' ⟨p, rfl, ⟨g, rfl, hg⟩, hb⟩
  exact ⟨g, rfl, hg, hb⟩
theorem ex_n2 (hL : DaysLaid w) : Calls Tryd.prog 11 #[.slice (some ⟨w.heap.size, 0, none⟩) 2 2] (w.alloc (.cells #[.string ⟨#[112]⟩, .string ⟨#[97]⟩, .int .i64 1, .int .i64 2, .int .i64 0, .string ⟨#[97]⟩, .string ⟨#[112]⟩, .int .i64 1, .int .i64 2, .int .i64 0] 41)) fun r w' => r = .returned (.tuple #[.pointer none, .int .i64 1, .int .i64 24]) ∧ Below w.heap.size w w' := by
  refine (new_lit 20 ex2 1 24 none w (by decide) (fun h hm => exq h (by simp [hm])) hL ex2_new).mono ?_
  rintro r w' ⟨p, rfl, rfl, hb⟩
  exact ⟨rfl, hb⟩
theorem ex_n3 (hL : DaysLaid w) : Calls Tryd.prog 11 #[.slice (some ⟨w.heap.size, 0, none⟩) 2 2] (w.alloc (.cells #[.string ⟨#[112]⟩, .string ⟨#[97]⟩, .int .i64 1, .int .i64 2, .int .i64 0, .string ⟨#[113]⟩, .string ⟨#[97]⟩, .int .i64 2, .int .i64 3, .int .i64 5] 41)) fun r w' => r = .returned (.tuple #[.pointer none, .int .i64 0, .int .i64 4]) ∧ Below w.heap.size w w' := by
  refine (new_lit 20 ex3 0 4 none w (by decide) (fun h hm => exq h (by simp [hm])) hL ex3_new).mono ?_
  rintro r w' ⟨p, rfl, rfl, hb⟩
  exact ⟨rfl, hb⟩
theorem ex_t3 {A : Option Addr} {c : Nat} (hC : Kd.C Kd.string w A 3 [bA, bB, bP]) (hc : 3 ≤ c) : Calls Tryd.prog 13 #[.slice A 3 c, .slice (some ⟨w.heap.size, 0, none⟩) 3 3] (w.alloc (.cells #[.string ⟨#[97]⟩, .string ⟨#[98]⟩, .string ⟨#[112]⟩] 9)) fun e w' => e = .returned (.bool true) ∧ Below w.heap.size w w' :=
  same_lit (k := 9) (l := [bA, bB, bP]) (m := [bA, bB, bP]) (by kernel_rfl) (by decide) hC hc
theorem ex_t2 {A : Option Addr} {c : Nat} (hC : Kd.C Kd.string w A 2 [bA, bP]) (hc : 2 ≤ c) : Calls Tryd.prog 13 #[.slice A 2 c, .slice (some ⟨w.heap.size, 0, none⟩) 2 2] (w.alloc (.cells #[.string ⟨#[97]⟩, .string ⟨#[112]⟩] 9)) fun e w' => e = .returned (.bool true) ∧ Below w.heap.size w w' :=
  same_lit (k := 9) (l := [bA, bP]) (m := [bA, bP]) (by kernel_rfl) (by decide) hC hc
theorem ex_t1 {A : Option Addr} {c : Nat} (hC : Kd.C Kd.string w A 1 [bP]) (hc : 1 ≤ c) : Calls Tryd.prog 13 #[.slice A 1 c, .slice (some ⟨w.heap.size, 0, none⟩) 1 1] (w.alloc (.cells #[.string ⟨#[112]⟩] 9)) fun e w' => e = .returned (.bool true) ∧ Below w.heap.size w w' :=
  same_lit (k := 9) (l := [bP]) (m := [bP]) (by kernel_rfl) (by decide) hC hc
end
end Go.Proofs.YtikdiepcfdimgaaDoor.POw
namespace Go.Proofs.YtikdiepcfdimgaaDoor.POw
open Go.RowKit Go.Lib Go.Proofs.YtikdiepcfdimgaaDoorW.PrintWords Go.Proofs.YtikdiepcfdimgaaDoorW.PrintLast Go.Proofs.YtikdiepcfdimgaaDoorW.PrintMore
set_option maxRecDepth 100000 in
set_option maxHeartbeats 8000000 in
theorem go_lives (w : World) (hL : DaysLaid w) : Calls Tryd.prog 5 #[] w fun e w' => e = .returned (.bool true) ∧ Below w.heap.size w w' := by
  have HL := Lib.hid hL
  have HB := Lib.hid (Below.refl w.heap.size w)
  clear hL
  go_enter Tryd.func5, Tryd.ntmps5
  go_upto_region 2 with (first
    | (go_at_call 12; refine (accountinglaw43_hold.calls _ _ _ _ _ _ _ _ _ _ _ rfl).mono ?_; rintro e w1 ⟨rfl, hb⟩; replace HB := Lib.hid (HB.out.trans (hb.mono HB.out.size)); clear hb)
    | (go_at_call 11; refine (ex_n1 (HL.out.below HB.out)).mono ?_; rintro e w2 ⟨g, rfl, hG, hb⟩; replace HB := Lib.hid (HB.out.trans (hb.mono HB.out.size)); have HG := Lib.hid hG; clear hb hG))
  go_upto_region 5 with (first
    | (go_at_call 6; refine (ex_e25 HG.out (HL.out.below HB.out)).mono ?_; rintro e w3 ⟨rfl, hb⟩; replace HB := Lib.hid (HB.out.trans (hb.mono HB.out.size)); replace HG := Lib.hid (HG.out.below hb); clear hb))
  have HFR := Lib.hid (FrcAt.made w3 ⟨13, 25⟩)
  have hba := (Below.refl w3.heap.size w3).alloc (Nat.le_refl _) (.cells #[.int .i64 13, .int .i64 25] 28)
  replace HB := Lib.hid (HB.out.trans (hba.mono HB.out.size))
  replace HG := Lib.hid (HG.out.below hba)
  obtain ⟨z, hz⟩ : ∃ z, w3.heap.size = z := ⟨_, rfl⟩
  obtain ⟨w4, hw4⟩ : ∃ W, w3.alloc (.cells #[.int .i64 13, .int .i64 25] 28) = W := ⟨_, rfl⟩
  simp only at HFR
  rw [hw4] at HFR HB HG ⊢
  rw [hz] at HFR ⊢
  clear hz hw4 hba
  go_upto_region 6 with (first
    | (go_at_call 7; refine (ex_s25 HG.out (HL.out.below HB.out)).mono ?_; rintro e w5 ⟨rfl, hb⟩; replace HB := Lib.hid (HB.out.trans (hb.mono HB.out.size)); replace HG := Lib.hid (HG.out.below hb); replace HFR := Lib.hid (HFR.out.below hb); clear hb))
  go_upto_region 7 with (first
    | (go_at_call 6; refine (ex_e15 HG.out (HL.out.below HB.out)).mono ?_; rintro e w5 ⟨rfl, hb⟩; replace HB := Lib.hid (HB.out.trans (hb.mono HB.out.size)); replace HG := Lib.hid (HG.out.below hb); replace HFR := Lib.hid (HFR.out.below hb); clear hb))
  have hba := (Below.refl w5.heap.size w5).alloc (Nat.le_refl _) (.cells #[.int .i64 0, .int .i64 0] 28)
  obtain ⟨w6, hw6⟩ : ∃ W, w5.alloc (.cells #[.int .i64 0, .int .i64 0] 28) = W := ⟨_, rfl⟩
  rw [hw6] at hba ⊢
  replace HB := Lib.hid (HB.out.trans (hba.mono HB.out.size)); replace HG := Lib.hid (HG.out.below hba); replace HFR := Lib.hid (HFR.out.below hba)
  clear hw6 hba
  go_upto_region 8 with (first
    | (go_at_call 12; refine (accountinglaw43_hold.calls _ _ _ _ _ _ _ _ _ _ _ rfl).mono ?_; rintro e w1 ⟨rfl, hb⟩; replace HB := Lib.hid (HB.out.trans (hb.mono HB.out.size)); replace HG := Lib.hid (HG.out.below hb); replace HFR := Lib.hid (HFR.out.below hb); clear hb)
    | (go_at_call 11; refine (ex_n2 (HL.out.below HB.out)).mono ?_; rintro e w7 ⟨rfl, hb⟩; replace HB := Lib.hid (HB.out.trans (hb.mono HB.out.size)); replace HG := Lib.hid (HG.out.below hb); replace HFR := Lib.hid (HFR.out.below hb); clear hb))
  go_upto_region 9 with (first
    | (go_at_call 12; refine (accountinglaw43_hold.calls _ _ _ _ _ _ _ _ _ _ _ rfl).mono ?_; rintro e w1 ⟨rfl, hb⟩; replace HB := Lib.hid (HB.out.trans (hb.mono HB.out.size)); replace HG := Lib.hid (HG.out.below hb); replace HFR := Lib.hid (HFR.out.below hb); clear hb)
    | (go_at_call 11; refine (ex_n3 (HL.out.below HB.out)).mono ?_; rintro e w7 ⟨rfl, hb⟩; replace HB := Lib.hid (HB.out.trans (hb.mono HB.out.size)); replace HG := Lib.hid (HG.out.below hb); replace HFR := Lib.hid (HFR.out.below hb); clear hb))
  have HS1 := Lib.hid trivial; have HS2 := Lib.hid trivial; have HS3 := Lib.hid trivial; have HS4 := Lib.hid trivial
  go_wp2_with (first
    | (go_at_call 10; have q := HS3; clear q HS3; refine (ex_m25 HG.out (HL.out.below HB.out)).mono ?_; rintro e w7 ⟨A, c, rfl, hC, hc, hb⟩; replace HB := Lib.hid (HB.out.trans (hb.mono HB.out.size)); replace HG := Lib.hid (HG.out.below hb); replace HFR := Lib.hid (HFR.out.below hb); clear hb; have HC3 := Lib.hid hC; have HD3 := Lib.hid hc; clear hC hc)
    | (go_at_call 13; refine (ex_t3 HC3.out HD3.out).mono ?_; rintro e w7 ⟨rfl, hb⟩; replace HB := Lib.hid (HB.out.trans (hb.mono HB.out.size)); replace HG := Lib.hid (HG.out.below hb); replace HFR := Lib.hid (HFR.out.below hb); clear hb; clear HC3 HD3)
    | (go_at_call 10; have q := HS2; clear q HS2; refine (ex_m15 HG.out (HL.out.below HB.out)).mono ?_; rintro e w7 ⟨A, c, rfl, hC, hc, hb⟩; replace HB := Lib.hid (HB.out.trans (hb.mono HB.out.size)); replace HG := Lib.hid (HG.out.below hb); replace HFR := Lib.hid (HFR.out.below hb); clear hb; have HC2 := Lib.hid hC; have HD2 := Lib.hid hc; clear hC hc)
    | (go_at_call 13; refine (ex_t2 HC2.out HD2.out).mono ?_; rintro e w7 ⟨rfl, hb⟩; replace HB := Lib.hid (HB.out.trans (hb.mono HB.out.size)); replace HG := Lib.hid (HG.out.below hb); replace HFR := Lib.hid (HFR.out.below hb); clear hb; clear HC2 HD2)
    | (go_at_call 10; have q := HS1; clear q HS1; refine (ex_m30 HG.out (HL.out.below HB.out)).mono ?_; rintro e w7 ⟨A, c, rfl, hC, hc, hb⟩; replace HB := Lib.hid (HB.out.trans (hb.mono HB.out.size)); replace HG := Lib.hid (HG.out.below hb); replace HFR := Lib.hid (HFR.out.below hb); clear hb; have HC1 := Lib.hid hC; have HD1 := Lib.hid hc; clear hC hc)
    | (go_at_call 13; refine (ex_t1 HC1.out HD1.out).mono ?_; rintro e w7 ⟨rfl, hb⟩; replace HB := Lib.hid (HB.out.trans (hb.mono HB.out.size)); replace HG := Lib.hid (HG.out.below hb); replace HFR := Lib.hid (HFR.out.below hb); clear hb; clear HC1 HD1; obtain ⟨f0, f1, _, _, _⟩ := HFR.out.facts)
    | (go_at_call 9; have q := HS4; clear q HS4; refine (ex_h9 HG.out).mono ?_; rintro e w7 ⟨rfl, hb⟩; replace HB := Lib.hid (HB.out.trans (hb.mono HB.out.size)); replace HG := Lib.hid (HG.out.below hb); replace HFR := Lib.hid (HFR.out.below hb); clear hb)
    | (go_at_call 9; refine (ex_h12 HG.out).mono ?_; rintro e w7 ⟨rfl, hb⟩; replace HB := Lib.hid (HB.out.trans (hb.mono HB.out.size)); replace HG := Lib.hid (HG.out.below hb); replace HFR := Lib.hid (HFR.out.below hb); clear hb))
  go_ret
  exact ⟨rfl, HB.out⟩
end Go.Proofs.YtikdiepcfdimgaaDoor.POw
namespace Go.Proofs.YtikdiepcfdimgaaDoor.POw
open Go.RowKit Go.Lib Go.Proofs.YtikdiepcfdimgaaDoorW.PrintWords Go.Proofs.YtikdiepcfdimgaaDoorW.PrintLast Go.Proofs.YtikdiepcfdimgaaDoorW.PrintMore
section
variable {L : List Hold}
theorem Good.inS (g : Good L) (k : Pr) (day : Int) : inI (shareL ((grOf L gr0).shL k) day).f0 ∧ inI (shareL ((grOf L gr0).shL k) day).f1 := by
  obtain ⟨o, x⟩ := k
  rw [g.share]
  have := g.part_share o x day
  unfold Part at this
  unfold inI
  omega
theorem Good.inC (g : Good L) : ∀ c ∈ (grOf L gr0).ch, inI c := fun c hc => by
  rcases (mem_ch c L gr0).1 hc with h | ⟨h, hm, rfl⟩
  · cases h
  · have := g.day h hm
    unfold inI
    omega
theorem Good.grok (g : Good L) : GrOk (grOf L gr0) := g.gr.ok (by have := g.len; omega)
end
end Go.Proofs.YtikdiepcfdimgaaDoor.POw
namespace Go.Proofs.YtikdiepcfdimgaaDoor.POw
open Go.RowKit Go.Lib Go.Proofs.YtikdiepcfdimgaaDoorW.PrintWords Go.Proofs.YtikdiepcfdimgaaDoorW.PrintLast Go.Proofs.YtikdiepcfdimgaaDoorW.PrintMore
def HI (l : List Hold) : Prop := ∀ h ∈ l, inI h.f2.f0 ∧ inI h.f2.f1
def PBox (w : World) (z : Nat) (t e : ByteArray) (d : Int) : Prop := w.heap[z]? = some (.cells #[.string t, .string e, .int .i64 d] 23 (0, 0))
theorem PBox.made (w : World) (t e : ByteArray) (d : Int) : PBox (w.alloc (.cells #[.string t, .string e, .int .i64 d] 23)) w.heap.size t e d := (Go.MapKept.heap_alloc w _).1
theorem PBox.below {w W : World} {z : Nat} {t e : ByteArray} {d : Int} (h : PBox w z t e d) (hb : Below w.heap.size w W) : PBox W z t e d := (hb.block z (Array.getElem?_eq_some_iff.1 h).1).trans h
theorem PBox.facts {w : World} {z : Nat} {t e : ByteArray} {d : Int} (h : PBox w z t e d) : w.cell? ⟨z, 0, none⟩ = some (.string t) ∧ w.cell? ⟨z, 1, none⟩ = some (.string e) ∧ w.cell? ⟨z, 2, none⟩ = some (.int .i64 d) :=
  ⟨blk_cell h 0, blk_cell h 1, blk_cell h 2⟩
def shortB (t e : ByteArray) : Bool := decide (t.size ≤ 100) && decide (e.size ≤ 100)
theorem go_short (t e : ByteArray) (d : Int) (w : World) : Calls Tryd.prog 4 #[.agg #[.string t, .string e, .int .i64 d]] w fun x w' => x = .returned (.bool (shortB t e)) ∧ Below w.heap.size w w' := by
  refine accountinglaw43_short.calls t e d (shortB t e) w ?_
  unfold accountinglaw43_short.f shortB
  by_cases h : t.size ≤ 100
  · rw [if_pos (by omega), decide_eq_true h, Bool.true_and]
    congr 1
    rw [Bool.eq_iff_iff, decide_eq_true_eq, decide_eq_true_eq]
    omega
  · rw [if_neg (by omega), decide_eq_false h, Bool.false_and]
end Go.Proofs.YtikdiepcfdimgaaDoor.POw
namespace Go.Proofs.YtikdiepcfdimgaaDoor
open Go.RowKit Go.Lib Go.ChangeShapes Go.WideShapes Go.ChangeAt
theorem gDays : Tryd.prog.globalNamed "accounting/days.lengths" = some 0 := by kernel_rfl
theorem tDays : (Tryd.prog.globals[0]?).map (·.type) = some 124 := by kernel_rfl
theorem days_met (os : Os) (args : Array Value) : laidMetH Tryd.prog [("accounting/days.lengths", Rows.laid_accounting_days_lengths)] ((World.doorLaid Tryd.prog 400 os).forCall (fun _ _ => 0) ⟨#[], args, []⟩).memory :=
  laidMetH_of_parts3 (fuel := 8) (laidMet_of_run' 8 (by kernel_rfl) (by kernel_rfl)) (by kernel_rfl) (by kernel_rfl)
theorem days_of_laid {W : World} (h : laidMetH Tryd.prog [("accounting/days.lengths", Rows.laid_accounting_days_lengths)] W) : DaysLaid W := by
  rw [MakeChecks.laidMetH_plain _ _ _ (by kernel_rfl)] at h
  obtain ⟨ps, ⟨g0, t0, cs0, f0, p0, q0, hg0, ht0, hv0, hd0, _, _⟩, _, _⟩ := h
  obtain rfl := Option.some.inj (gDays.symm.trans hg0)
  obtain rfl := Option.some.inj (tDays.symm.trans ht0)
  obtain ⟨xs, m1, rfl, hx1, hlen, hn, hel⟩ := DataW.trod_array Tryd.underlying124 hd0
  have c3 : Tryd.prog.cellsOf 3 = 1 := by kernel_rfl
  have hx2 : xs.map (·.1) = lenL.map (fun n => DataW.lit (.int .i64 n)) := by
    simp only [Prod.mk.injEq] at hx1
    have := hx1.1
    unfold Rows.laid_accounting_days_lengths at this
    simp only [DataW.agg.injEq] at this
    rw [← this]; rfl
  intro i hi
  have h0 := hel i hi
  have hxi : i < xs.length := by rw [hn]; exact hi
  rw [List.getElem?_eq_getElem hxi] at h0
  obtain ⟨k, e1, e2, _⟩ := DataW.trod_int Tryd.underlying3 h0
  have hk : (xs.map (·.1))[i]? = some (DataW.lit (.int .i64 k)) := by rw [List.getElem?_map, List.getElem?_eq_getElem hxi, e2]; rfl
  rw [hx2, List.getElem?_map] at hk
  have hk2 : lenL[i]? = some k := by
    cases hl : lenL[i]? with
    | none => rw [hl] at hk; cases hk
    | some z => rw [hl] at hk; simp at hk; rw [hk]
  have hv := World.var?_cell hg0 hv0 i
  rw [hv]
  rw [c3] at e1
  have : cs0[i]? = some (.int .i64 k) := by
    have e3 := congrArg (·[0]?) e1
    simp at e3
    simpa using e3
  rw [this]
  simp [List.getD, hk2]
end Go.Proofs.YtikdiepcfdimgaaDoor
namespace Go.Proofs.YtikdiepcfdimgaaDoor.POw
open Go.RowKit Go.Lib Go.ChangeShapes Go.WideShapes Go.ChangeAt Go.Proofs.YtikdiepcfdimgaaDoorW.PrintWords Go.Proofs.YtikdiepcfdimgaaDoorW.PrintLast Go.Proofs.YtikdiepcfdimgaaDoorW.PrintMore
section
variable {H : Type} {enc : TypeId × Value → H}
set_option maxRecDepth 100000 in
theorem open_place {W : World} {v : Value} {d : DataW H} {ps : List MemPlace} (h : DataW.Trod enc Tryd.prog W 0 (fun _ => true) true 23 v d ps) :
    ∃ (t e : ByteArray) (n : Int), v = .agg #[.string t, .string e, .int .i64 n] := by
  have cA : Tryd.prog.cellsOf 23 = 3 := by kernel_rfl
  have c9 : Tryd.prog.cellsOf 9 = 1 := by kernel_rfl
  have c3 : Tryd.prog.cellsOf 3 = 1 := by kernel_rfl
  obtain ⟨fuel, hf⟩ := h
  obtain ⟨xs, k, rfl, hx, hlen, hxl, hel⟩ := DataW.trod_struct Tryd.underlying23 hf
  rw [cA] at hlen
  obtain ⟨cs, rfl⟩ : ∃ cs, v = .agg cs := by
    cases v <;> first | exact ⟨_, rfl⟩ | (simp [Value.cells] at hlen)
  simp only [Value.cells] at hlen hel
  obtain ⟨l⟩ := cs
  match xs, hxl, l, hlen with
  | [y0, y1, y2], _, [v0, v1, v2], _ =>
    have g0 := hel 0 _ rfl
    have g1 := hel 1 _ rfl
    have g2 := hel 2 _ rfl
    simp [c9, c3] at g0 g1 g2
    obtain ⟨s0, e0, rfl, _⟩ := DataW.trod_string Tryd.underlying9 g0
    obtain ⟨s1, e1, rfl, _⟩ := DataW.trod_string Tryd.underlying9 g1
    obtain ⟨n2, e2, rfl, _⟩ := DataW.trod_int Tryd.underlying3 g2
    simp at e0 e1 e2
    subst e0 e1 e2
    exact ⟨s0, s1, n2, rfl⟩
end
end Go.Proofs.YtikdiepcfdimgaaDoor.POw
namespace Go.Proofs.YtikdiepcfdimgaaDoor.POw
open Go.RowKit Go.Lib Go.Proofs.YtikdiepcfdimgaaDoorW.PrintWords Go.Proofs.YtikdiepcfdimgaaDoorW.PrintLast Go.Proofs.YtikdiepcfdimgaaDoorW.PrintMore
theorem gq_Members_nil (top : ByteArray) (day : Int) (w : World) : Calls Tryd.prog 10 #[.pointer none, .string top, .int .i64 day] w fun e w' => ∃ A c, e = .returned (.slice A 0 c) ∧ Below w.heap.size w w' := by
  refine (go_Members_nil top day).mono ?_
  rintro e w' ⟨v, l, rfl, hown, hl, hb⟩
  obtain rfl : l = [] := List.eq_nil_iff_forall_not_mem.2 (fun x hx => by
    obtain ⟨p, h, _⟩ := (hl.2 x).1 hx
    cases h)
  obtain ⟨A, c, rfl, _, _⟩ := strs_C hown
  exact ⟨A, c, rfl, hb⟩
set_option maxRecDepth 100000 in
set_option maxHeartbeats 8000000 in
theorem go_law_Nil (top ent : ByteArray) (day : Int) (w : World) (hL : DaysLaid w) :
    Calls Tryd.prog 3 #[.agg #[.string top, .string ent, .int .i64 day]] w fun e w' => e = .returned (.bool true) ∧ Below w.heap.size w w' := by
  have hba := (Below.refl w.heap.size w).alloc (Nat.le_refl _) (.cells #[.string top, .string ent, .int .i64 day] 23)
  have HP := Lib.hid (PBox.made w top ent day)
  have HB := Lib.hid hba
  obtain ⟨f0, f1, f2⟩ := HP.out.facts
  have HLV := Lib.hid (fun (W : World) (hW : Below w.heap.size w W) => go_lives W (hL.below hW))
  have HSH := Lib.hid (fun (W : World) => go_short top ent day W)
  by_cases hsh : shortB top ent = true
  · rw [hsh] at HSH
    unfold shortB at hsh
    simp only [Bool.and_eq_true, decide_eq_true_eq] at hsh
    have HEZ := Lib.hid hsh.2
    clear hsh hL hba
    go_enter Tryd.func3, Tryd.ntmps3
    go_upto_region 5 with (first
      | (go_at_call 4; refine (HSH.out _).mono ?_; rintro e w2 ⟨rfl, hb2⟩; replace HB := Lib.hid (HB.out.trans (hb2.mono HB.out.size)); replace HP := Lib.hid (HP.out.below hb2); obtain ⟨g0, g1, g2⟩ := HP.out.facts; clear hb2)
      | (go_at_call 6; refine (go_Effective_nil top ent day (by have := HEZ.out; omega)).mono ?_; rintro e w3 ⟨rfl, hb3⟩; replace HB := Lib.hid (HB.out.trans (hb3.mono HB.out.size)); replace HP := Lib.hid (HP.out.below hb3); clear hb3))
    have hba3 := (Below.refl w3.heap.size w3).alloc (Nat.le_refl _) (.cells #[.int .i64 0, .int .i64 0] 28)
    have HF3 := Lib.hid (FrcAt.made w3 ⟨0, 0⟩)
    obtain ⟨z3, hz3⟩ : ∃ z, w3.heap.size = z := ⟨_, rfl⟩
    obtain ⟨W3, hW3⟩ : ∃ W, w3.alloc (.cells #[.int .i64 0, .int .i64 0] 28) = W := ⟨_, rfl⟩
    simp only at HF3
    rw [hW3] at hba3 HF3 ⊢
    replace HB := Lib.hid (HB.out.trans (hba3.mono HB.out.size)); replace HP := Lib.hid (HP.out.below hba3)
    rw [hz3] at HF3 ⊢
    clear hba3 hW3 hz3 g0 g1 g2
    obtain ⟨g0, g1, g2⟩ := HP.out.facts
    go_wp2_with (first
      | (go_at_call 7; refine (go_Since_nil top ent day (by have := HEZ.out; omega)).mono ?_; rintro e w4 ⟨rfl, hb4⟩; replace HB := Lib.hid (HB.out.trans (hb4.mono HB.out.size)); replace HP := Lib.hid (HP.out.below hb4); replace HF3 := Lib.hid (HF3.out.below hb4); clear hb4)
      | (go_at_call 8; refine go_Entities_nil.mono ?_; rintro e w5 ⟨rfl, hb5⟩; replace HB := Lib.hid (HB.out.trans (hb5.mono HB.out.size)); replace HP := Lib.hid (HP.out.below hb5); replace HF3 := Lib.hid (HF3.out.below hb5); obtain ⟨p0, p1, p2⟩ := HP.out.facts; clear hb5)
      | (go_at_call 9; refine (go_Share_nil top ent day _).mono ?_; rintro e w6 ⟨rfl, hb6⟩; replace HB := Lib.hid (HB.out.trans (hb6.mono HB.out.size)); replace HP := Lib.hid (HP.out.below hb6); replace HF3 := Lib.hid (HF3.out.below hb6); obtain ⟨r0, r1, r2⟩ := HP.out.facts; clear hb6)
      | (go_at_call 10; refine (gq_Members_nil top day _).mono ?_; rintro e w7 ⟨Am, cm, rfl, hb7⟩; replace HB := Lib.hid (HB.out.trans (hb7.mono HB.out.size)); replace HF3 := Lib.hid (HF3.out.below hb7); obtain ⟨a0, a1, _⟩ := HF3.out.facts; simp only at a0 a1; clear hb7)
      | (go_at_call 5; refine (HLV.out _ HB.out).mono ?_; rintro e w8 ⟨rfl, hb8⟩; replace HB := Lib.hid (HB.out.trans (hb8.mono HB.out.size)); clear hb8))
    go_ret
    exact ⟨rfl, HB.out⟩
  · have hs0 : shortB top ent = false := by simpa using hsh
    rw [hs0] at HSH
    clear hsh hs0 hL hba
    go_enter Tryd.func3, Tryd.ntmps3
    go_wp2_with (first
      | (go_at_call 4; refine (HSH.out _).mono ?_; rintro e w2 ⟨rfl, hb2⟩; replace HB := Lib.hid (HB.out.trans (hb2.mono HB.out.size)); clear hb2)
      | (go_at_call 5; refine (HLV.out _ HB.out).mono ?_; rintro e w8 ⟨rfl, hb8⟩; replace HB := Lib.hid (HB.out.trans (hb8.mono HB.out.size)); clear hb8))
    go_ret
    exact ⟨rfl, HB.out⟩
end Go.Proofs.YtikdiepcfdimgaaDoor.POw
namespace Go.Proofs.YtikdiepcfdimgaaDoor.RowOwnersNil
open Go.RowKit Go.Lib Go.ChangeShapes Go.WideShapes Go.ChangeAt Go.Proofs.YtikdiepcfdimgaaDoorW.PrintWords Go.Proofs.YtikdiepcfdimgaaDoorW.PrintLast Go.Proofs.YtikdiepcfdimgaaDoorW.PrintMore
open POw (open_place)
theorem own : ownKnob Tryd.prog.godebug = none := by kernel_rfl
theorem laidOut : laidOutB Tryd.prog = true := by kernel_rfl
set_option maxRecDepth 100000 in
theorem lifted (os : Os) (started : os.Started) (H : Type) (enc : TypeId × Value → H) :
    ReturnsInHanded {} Tryd.checked os 3 .any (fun w args => (Rows.ownersNilSpec.pre enc Tryd.prog Tryd.f3 [] false w args ∧ laidMetH Tryd.prog [("accounting/days.lengths", Rows.laid_accounting_days_lengths)] w) ∧ sizedMet enc Tryd.prog Tryd.f3 (OpenSpec.ofChange Rows.ownersNilSpec) false w args)
      (Rows.ownersNilSpec.post enc Tryd.prog Tryd.f3 false true false false) := by
  refine returnsInHanded_of_change_and (C := Tryd.checked) (X := fun w _ => laidMetH Tryd.prog [("accounting/days.lengths", Rows.laid_accounting_days_lengths)] w) (fun _ _ _ hh h => h.of_heap hh) own started (by kernel_rfl) Tryd.func3
    (ChangeSpec.witness_shaped (enc := enc) (C := Tryd.checked) (os := os) (X := fun w _ => laidMetH Tryd.prog [("accounting/days.lengths", Rows.laid_accounting_days_lengths)] w) false (World.doorLaid Tryd.prog 400 os) #[.agg #[.string ByteArray.empty, .string ByteArray.empty, .int .i64 0]] 8 rfl (World.shaped_of_RefB (by kernel_rfl) (by kernel_rfl)) (by kernel_rfl) (by kernel_rfl) (by kernel_rfl) (days_met os _)) ?_
  intro W base args ds gs before hval0 hW _ hsz0 hL _
  have hsz : (DataW.weightsEach Tryd.prog (Tryd.f3.params.toList ++ Rows.ownersNilSpec.plain.varTypes Tryd.prog) (ds ++ gs)).all (· ≤ reachBytes) = true := hsz0
  have hval : ∀ (j : Nat) t v, Tryd.f3.params[j]? = some t → args[j]? = some v → Value.okWide Tryd.prog W .any base t v := hval0
  have hW' := hW
  obtain ⟨p, q, hA0, hV, rfl, hfz, hnd⟩ := hW
  have hA : DataW.TrodAll enc Tryd.prog W 0 (fun _ => true) true Tryd.f3.params.toList args.toList ds p := hA0
  rw [Tryd.params3] at hA hval hsz
  obtain ⟨v0, vs0, d0, ds0, p0, q0, hargs, rfl, rfl, h0, r0⟩ := trodAll_cons hA
  obtain ⟨rfl, rfl, rfl⟩ := trodAll_nil r0
  obtain rfl : args = #[v0] := by cases args; simp_all
  obtain ⟨rfl, rfl⟩ := trodVars_none hV
  have lt0 : ∀ x ∈ p0, x.block < W.heap.size := by obtain ⟨m, hm⟩ := h0; exact DataW.trod_lt m _ _ _ hm
  obtain ⟨top, ent, day, rfl⟩ := open_place h0
  have hdl := days_of_laid hL
  clear hA0 hval0 hsz0 hsz
  refine (POw.go_law_Nil top ent day W hdl).mono fun e W' ⟨he, bel⟩ => ?_
  subst he
  exact ⟨_, rfl, _, _, _, [], _, [], hW', trodAll_mk1 (shut_bool Tryd.underlying4 _), (trodAll_cons_mk (Below.trod laidOut (by kernel_rfl) (of_decide_eq_true (by kernel_rfl)) h0 bel lt0) trodAll_mk0), rfl, bel.frame _, fun h => by cases h⟩
theorem row_holds : Rows.OwnersNilSaid :=
  OpenClaim.holds_of_wide 3 Tryd.f3 rfl rfl rfl rfl rfl rfl rfl ⟨rfl, rfl, rfl, rfl, rfl⟩ rfl rfl rfl rfl rfl (by kernel_rfl) Tryd.func3 (by kernel_rfl)
    (of_decide_eq_true (by kernel_rfl)) (by unfold Func.isWrapper; first | (rw [if_pos (by decide +kernel)]; kernel_rfl) | (rw [if_neg (by decide +kernel)]; exact ⟨rfl, rfl⟩))
    (fun os started H enc _ => lifted os started H enc)
end Go.Proofs.YtikdiepcfdimgaaDoor.RowOwnersNil
namespace Go.Proofs.YtikdiepcfdimgaaDoor
open Go
theorem ownersNil_card : Rows.OwnersNilCardSaid :=
  Claim7.holds_tied_plain_at .later [] [.data] true Rows.ownersNilCard.stood.harness false
    RowOwnersNil.row_holds (fun _ h => by cases h) (by kernel_rfl) (fun _ h => by cases h) ownersNil_row_tie rfl ⟨rfl, rfl⟩ (by kernel_rfl) rfl
    (fun f fn hf hfn => by
      obtain rfl : f = 3 := Option.some.inj ((show Tryd.prog.funcNamed "accounting/accountinglaw43.OwnersNil" = some 3 by kernel_rfl).symm.trans hf) |>.symm
      obtain rfl : fn = Tryd.f3 := (Option.some.inj (Tryd.func3.symm.trans hfn)).symm
      exact ⟨by kernel_rfl, fun j t ht => by
        rw [Tryd.params3] at ht
        have hm : t ∈ [23] := by simpa using Array.mem_of_getElem? ht
        have hall : ([23].all fun u => !Tryd.prog.wantsStandIn u) = true := by kernel_rfl
        exact (show Tryd.prog.wantsStandIn t = false by simpa using List.all_eq_true.1 hall t hm)⟩)
    (by kernel_rfl)
#print axioms ownersNil_card
end Go.Proofs.YtikdiepcfdimgaaDoor
