/- The rows of an ageing as a row of the call's own. -/
import Derived.Test.YtohfnpkoheafkaaDoorG8
namespace Go.Proofs.YtohfnpkoheafkaaDoor.PAg
open Go.RowKit Go.Proofs.YtohfnpkoheafkaaDoorW.PrintWords Go.Proofs.YtohfnpkoheafkaaDoorW.PrintLast Go.Proofs.YtohfnpkoheafkaaDoorW.PrintMore

theorem ints_R {w : World} {base : Nat} {ok : Nat → Prop} {g n : Nat} {s : List Int} (hl : s.length = n) (hn : n ≤ maxLen) (hg : base ≤ g) (hok : ok g) (hh : w.heap[g]? = some (.cells (s.map (Value.int .i64)).toArray 3 (0, 0))) :
    (Kd.int .i64).R 3 w base ok (.slice (some ⟨g, 0, none⟩) n n) s := by
  have hz : (Kd.int .i64).sz = 1 := rfl
  refine ⟨fun k hk => by simp [Value.ownBlock] at hk; subst hk; exact hok, s.map (Value.int .i64), ⟨by simp [hz], .inr ⟨g, n, _, by rw [hl], hg, hh, by omega, hn, by simp [hl, hz], by rw [List.take_of_length_le (by simp [hz])]⟩⟩, by simp [hz], fun j p hj => ?_⟩
  have hj' : j < s.length := (List.getElem?_eq_some_iff.1 hj).1
  show _ = [Value.int .i64 p]
  have e : ((s.map (Value.int .i64)).drop (j * 1)).take 1 = [Value.int .i64 p] := by
    rw [Nat.mul_one, List.drop_eq_getElem_cons (by simpa using hj')]
    simp [(List.getElem?_eq_some_iff.1 hj).2]
  exact e

theorem rows_S {w : World} {B base n : Nat} {G : Own → Nat} {S : Own → Option (List Int)} {ks : List Own} {v : Value} (hown : w.ownsRow base 37 3 v ks.length (flatO G n ks)) (hB : B ≤ base) (hn : n ≤ maxLen) (hnd : ks.Nodup)
    (hS : ∀ k ∈ ks, ∃ s, S k = some s ∧ s.length = n ∧ B ≤ G k ∧ G k < base ∧ w.heap[G k]? = some (.cells (s.map (Value.int .i64)).toArray 3 (0, 0))) (hinj : ∀ k ∈ ks, ∀ k' ∈ ks, G k = G k' → k = k') :
    Kd.S k37 37 w B (fun _ => True) v (ks.map fun k => (⟨k.1, k.2, (S k).getD []⟩ : Aged)) := by
  refine ⟨fun g => ks.findIdx (fun k => decide (G k = g)), fun _ _ => trivial, flatO G n ks, ?_, ?_, fun j p hj => ?_⟩
  · rw [List.length_zipIdx, List.length_map]
    exact own_weaken hown hB
  · rw [List.length_zipIdx, List.length_map, flatO_length]; rfl
  · rw [List.getElem?_zipIdx, List.getElem?_map] at hj
    cases hk : ks[j]? with
    | none => rw [hk] at hj; cases hj
    | some k =>
      rw [hk] at hj
      simp only [Option.map_some, Nat.zero_add, Option.some.injEq] at hj
      subst hj
      obtain ⟨hjl, hke⟩ := List.getElem?_eq_some_iff.1 hk
      have hkm : k ∈ ks := hke ▸ List.getElem_mem hjl
      obtain ⟨s, hs, hsl, hBG, hGb, hh⟩ := hS k hkm
      have e : ((flatO G n ks).drop (j * 3)).take 3 = cellsO G n k := by
        apply List.ext_getElem?
        intro t
        rw [List.getElem?_take, List.getElem?_drop]
        by_cases ht : t < 3
        · rw [if_pos ht, flatO_at G n ks j t hjl ht, hke]
        · rw [if_neg ht, List.getElem?_eq_none (by simp [cellsO]; omega)]
      show k37.M w B _ _ (((flatO G n ks).drop (j * 3)).take 3)
      rw [e, hs]
      refine k37_mkM w B _ _ (ints_R hsl hn hBG ⟨⟨trivial, ?_⟩, ?_⟩ hh)
      · intro he
        rcases hown.2 with ⟨rfl, _⟩ | ⟨g, cap, cur, rfl, hg, _⟩
        · simp [Value.ownBlock] at he
        · simp [Value.ownBlock] at he; omega
      · show ks.findIdx _ = j
        rw [List.findIdx_eq hjl]
        refine ⟨by simp [hke], fun i hij => ?_⟩
        simp only [decide_eq_false_iff_not]
        intro he
        have := hinj ks[i] (List.getElem_mem _) k hkm he
        rw [← hke] at this
        exact absurd ((List.getElem_inj hnd).1 this) (by omega)

theorem rep_of_keys {S : Own → Option (List Int)} {ks : List Own} (h : ks.Pairwise (fun a b => ownLt a b = true)) (hm : ∀ k, k ∈ ks ↔ (S k).isSome = true) : Rep (ks.map fun k => (⟨k.1, k.2, (S k).getD []⟩ : Aged)) S := by
  refine ⟨List.pairwise_map.2 h, fun r => ⟨fun hr => ?_, fun hr => ?_⟩⟩
  · obtain ⟨k, hk, rfl⟩ := List.mem_map.1 hr
    obtain ⟨s, hs⟩ := Option.isSome_iff_exists.1 ((hm k).1 hk)
    show S k = _
    rw [hs]; rfl
  · refine List.mem_map.2 ⟨r.own, (hm _).2 (by rw [hr]; rfl), ?_⟩
    exact Aged.ext' rfl (by simp [hr])

end Go.Proofs.YtohfnpkoheafkaaDoor.PAg
