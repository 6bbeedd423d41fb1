/-
  Contracts of functions of the program, over the engine.
  No condition.
-/
import Derived.Test.YtlailhdmgehniaaCLSU12V1V2V3
import Derived.Test.YtlailhdmgehniaaCR10R11CLR12
import Derived.Test.YtlailhdmgehniaaCC20C21C22C23C24
import Derived.Test.YtlailhdmgehniaaCC9C10C11C12C13C14C15C16C17C19
import Derived.Test.YtlailhdmgehniaaCC4C5C6C7C8
import Derived.Test.YtlailhdmgehniaaCS5S6S7S8S9S10
import Derived.Test.YtlailhdmgehniaaCQ0P11Q2Q3
import Derived.Test.YtlailhdmgehniaaCFMP12Q7P13
import Derived.Test.YtlailhdmgehniaaCC0C1C2C3
namespace Go.Proofs.Ytlailhdmgehniaa
open Go.Eng
set_option linter.all false
attribute [local irreducible] DCallsG SWp Fct CallQ XCallQ LCallQ XLCallQ drun xrun

theorem raiseW_ok {p : Plan} {l : List (List Int)} (h : exC p l) : rowsOk l := by
  have h200 := (planB_in h.pl).2.2.2.1
  have hln := h.len
  refine ⟨by omega, fun r hr => ?_⟩
  obtain ⟨k, hk, rfl⟩ := mem_getD (d := default) hr
  obtain ⟨h1, h8⟩ := h.row k hk
  obtain ⟨q1, q2, _⟩ := rowB_in h1
  have hin := planB_in h.pl
  refine ⟨by omega, fun z hz => ?_⟩
  obtain ⟨m, hm, rfl⟩ := mem_getD (d := default) hz
  unfold i64ok
  rcases row_odd q1 hm with ⟨j, hj, rfl⟩ | ⟨j, hj, rfl⟩
  · have := (q2 j hj).1; omega
  · have := (q2 j hj).2; omega
theorem line_exC {p : Plan} (hp : planB p = true) (hf : fewA p 0 p.start p.inf.length = true) : exC p ((List.range (p.inf.length + 1)).map (lineV p)) := by
  have hin := planB_in hp
  have hil := hin.2.2.2.1
  have hgt : ∀ k, k < p.inf.length + 1 → ((List.range (p.inf.length + 1)).map (lineV p)).getD k default = lineV p k := fun k hk => by
    rw [List.getD_eq_getElem?_getD, List.getElem?_map, List.getElem?_range hk]; rfl
  have hll : ((List.range (p.inf.length + 1)).map (lineV p)).length = p.inf.length + 1 := by simp
  have hln : ∀ k, (lineV p k).length = 2 * (rowI p 0 p.start k).length := fun k => pairI_len _ _ (Nat.le_refl _)
  have hlg : ∀ k j, j < (rowI p 0 p.start k).length → (lineV p k).getD (2 * j) default = (rowI p 0 p.start k).getD j default ∧ (lineV p k).getD (2 * j + 1) default = (vO p (p.inf.length - k) ((rowI p 0 p.start k).getD j default)).getD (-1) := fun k j hj => pairI_get _ _ (Nat.le_refl _) j hj
  have hfl : ∀ k, k < p.inf.length + 1 → (rowI p 0 p.start k).length ≤ 4000 := fun k hk => rowI_len (n := k) (by
    unfold fewA at hf ⊢
    rw [List.all_eq_true] at hf ⊢
    intro x hx
    exact hf x (List.mem_range.2 (by have := List.mem_range.1 hx; omega)))
  have hri := @rowI_in p 0 p.start hp hin.2.2.1
  refine ⟨hp, hll, fun k hk => ?_, ?_, fun k hk j hj i hi hpo => ?_, fun k hk j hj => ?_⟩
  · rw [hll] at hk
    rw [hgt k hk]
    have h1 := hln k
    have h2 := hfl k hk
    refine ⟨?_, by omega⟩
    unfold rowB
    simp only [Bool.and_eq_true, decide_eq_true_eq, List.all_eq_true, List.mem_range]
    refine ⟨by omega, fun j hj => ?_⟩
    obtain ⟨q1, q2⟩ := hlg k j (by omega)
    have hz := hri k _ (getD_mem (show j < (rowI p 0 p.start k).length by omega))
    unfold rowC
    rw [q1, q2]
    simp only [Bool.and_eq_true, Bool.or_eq_true, decide_eq_true_eq]
    have hb : -1 ≤ (vO p (p.inf.length - k) ((rowI p 0 p.start k).getD j default)).getD (-1) ∧ (vO p (p.inf.length - k) ((rowI p 0 p.start k).getD j default)).getD (-1) ≤ 1152921504606846976 := by
      cases hc : vO p (p.inf.length - k) ((rowI p 0 p.start k).getD j default) with
      | none => exact ⟨by decide, by decide⟩
      | some c =>
        have := vO_in hp _ (by omega) _ hz c hc
        show -1 ≤ c ∧ c ≤ 1152921504606846976
        omega
    refine ⟨⟨⟨⟨hz.1, hz.2⟩, ?_⟩, hb.1⟩, hb.2⟩
    by_cases e : j = 0
    · exact .inl (by omega)
    · refine .inr ?_
      rw [show 2 * j - 2 = 2 * (j - 1) by omega, (hlg k (j - 1) (by omega)).1]
      exact asc_lt (rowI_asc p 0 p.start k) (by omega) (by omega)
  · rw [hgt 0 (by omega)]
    exact atR_has (j := 0) (by rw [hln, show rowI p 0 p.start 0 = [p.start] from rfl]; simp) ((hlg 0 0 (by rw [show rowI p 0 p.start 0 = [p.start] from rfl]; simp)).1)
  · rw [hgt k (by omega)] at hj hpo ⊢
    rw [hln] at hj
    obtain ⟨q1, _⟩ := hlg k j (by omega)
    rw [q1] at hpo ⊢
    have hm := row_step (s := 0) (v := p.start) (n := k) (getD_mem (show j < (rowI p 0 p.start k).length by omega)) hi (by rw [Nat.zero_add]; exact hpo)
    rw [Nat.zero_add] at hm
    obtain ⟨j2, h2, e2⟩ := mem_getD (d := default) hm
    rw [hgt (k + 1) (by omega)]
    exact atR_has (j := j2) (by rw [hln]; omega) (by rw [(hlg (k + 1) j2 h2).1, e2])
  · rw [hll] at hk
    rw [hgt k hk] at hj ⊢
    rw [hln] at hj
    obtain ⟨q1, q2⟩ := hlg k j (by omega)
    rw [q1, q2]
def zeroR (r : List Int) : List Int := partRow r (fun _ => 0) (r.length / 2)
theorem zeroR_len (r : List Int) : (zeroR r).length = r.length := partRow_len _ _ _
theorem zeroR_vol {r : List Int} {j : Nat} (h : j < r.length / 2) : (zeroR r).getD (2 * j) default = r.getD (2 * j) default := by
  unfold zeroR
  rw [partRow_get _ _ _ (by omega), if_neg (by omega)]
theorem zeroR_val {r : List Int} {j : Nat} (h : j < r.length / 2) : (zeroR r).getD (2 * j + 1) default = 0 := by
  unfold zeroR
  rw [partRow_get _ _ _ (by omega), if_pos ⟨by omega, by omega⟩]
section
variable {p : Plan} {R : List (List Int)}
theorem zeros_get {k : Nat} (hk : k < R.length) : (R.map zeroR).getD k default = zeroR (R.getD k default) := by
  rw [List.getD_eq_getElem?_getD, List.getD_eq_getElem?_getD, List.getElem?_map, List.getElem?_eq_getElem hk]; rfl
theorem zeros_at {k : Nat} (hk : k < R.length) (z : Int) : (atR ((R.map zeroR).getD k default) z).2 = (atR (R.getD k default) z).2 := by
  rw [zeros_get hk]
  exact atR_vol (zeroR_len _) (fun j hj => zeroR_vol (by rw [zeroR_len] at hj; exact hj)) z
theorem zeros_given (h : exC p R) : givenE p (R.map zeroR) = 0 := by
  have hlen : (R.map zeroR).length = R.length := List.length_map ..
  have hmem : ∀ r, r ∈ R.map zeroR → ∃ k, k < R.length ∧ zeroR (R.getD k default) = r := fun r hr => by
    obtain ⟨x, hx, rfl⟩ := List.mem_map.1 hr
    obtain ⟨k, hk, rfl⟩ := mem_getD (d := default) hx
    exact ⟨k, hk, rfl⟩
  unfold givenE
  rw [if_neg (by rw [h.pl]; decide), if_neg, if_neg]
  · intro q
    have : shapedB p (R.map zeroR) = true := by
      unfold shapedB
      simp only [Bool.and_eq_true, decide_eq_true_eq, List.all_eq_true]
      refine ⟨by rw [hlen]; exact h.len, fun r hr => ?_⟩
      obtain ⟨k, hk, rfl⟩ := hmem r hr
      obtain ⟨q1, q2, q3⟩ := rowB_in (h.row k hk).1
      unfold rowB
      simp only [Bool.and_eq_true, decide_eq_true_eq, List.all_eq_true, List.mem_range, zeroR_len]
      refine ⟨q1, fun j hj => ?_⟩
      unfold rowC
      rw [zeroR_vol hj, zeroR_val hj]
      simp only [Bool.and_eq_true, Bool.or_eq_true, decide_eq_true_eq]
      have hz := (q2 j hj).1
      refine ⟨⟨⟨⟨hz.1, hz.2⟩, ?_⟩, by decide⟩, by decide⟩
      by_cases e : j = 0
      · exact .inl (by omega)
      · refine .inr ?_
        rw [show 2 * j - 2 = 2 * (j - 1) by omega, zeroR_vol (by omega)]
        exact q3 (j - 1) j (by omega) hj
    rw [this] at q; cases q
  · intro q
    obtain ⟨r, hr, hb⟩ := List.any_eq_true.1 q
    obtain ⟨k, hk, rfl⟩ := hmem r hr
    have := (h.row k hk).2
    unfold bigB at hb
    have := of_decide_eq_true hb
    rw [zeroR_len] at this
    omega
theorem zeros_holds (h : exC p R) {k : Nat} (hk : k < R.length) : holdsB p (R.map zeroR) k = true := by
  have hlen := h.len
  unfold holdsB
  rw [zeros_get hk, List.length_map, zeroR_len]
  simp only [Bool.and_eq_true, Bool.or_eq_true, Bool.not_eq_true', decide_eq_false_iff_not, List.all_eq_true, List.mem_range]
  refine ⟨?_, fun j hj => ?_⟩
  · by_cases e : k = 0
    · subst e
      refine .inr ?_
      rw [← zeros_get hk, zeros_at hk]; exact h.start
    · exact .inl e
  · rw [zeroR_val hj, zeroR_vol hj]
    by_cases e : k + 1 = R.length
    · rw [if_pos e]; rfl
    · rw [if_neg e, List.all_eq_true]
      intro r hr
      obtain ⟨i, hi, rfl⟩ := mem_getD (d := default) hr
      unfold stB
      cases hpo : possB p k ((R.getD k default).getD (2 * j) default) (p.rel.getD i default)
      · rfl
      · have hs := h.step k (by omega) j hj i hi hpo
        have hs2 : (atR ((R.map zeroR).getD (k + 1) default) (aftI p k ((R.getD k default).getD (2 * j) default) (p.rel.getD i default))).2 = true := by rw [zeros_at (by omega)]; exact hs
        have hs1 : (atR ((R.map zeroR).getD (k + 1) default) (aftI p k ((R.getD k default).getD (2 * j) default) (p.rel.getD i default))).1 = 0 := by
          obtain ⟨j2, r1, r2, r3⟩ := atR_some hs2
          rw [zeros_get (by omega), zeroR_len] at r1
          rw [r3, zeros_get (by omega)]
          exact zeroR_val r1
        have hz := ((rowB_in (h.row k hk).1).2.1 j hj).1
        have hin := planB_in h.pl
        have hc := (cost_in h.pl (by omega : k < p.inf.length) (v := (R.getD k default).getD (2 * j) default) (by omega) hi).2.2.2
        rw [Bool.not_true, Bool.false_or]
        unfold relB
        rw [hs2, hs1, Bool.true_and]
        simp only [Bool.or_eq_true, Bool.and_eq_true, Bool.not_eq_true', decide_eq_true_eq, decide_eq_false_iff_not]
        omega
theorem zeros_bound (h : exC p R) : boundR p (R.map zeroR) = (0, 0) := by
  have hlen := h.len
  have hf : ¬ failK p (R.map zeroR) < (R.map zeroR).length := fun q => by
    have q1 : failK p (R.map zeroR) < R.length := by rwa [List.length_map] at q
    have h2 := zeros_holds h q1
    unfold failK at q h2
    have := List.findIdx_getElem (xs := List.range (R.map zeroR).length) (p := fun k => !holdsB p (R.map zeroR) k) (w := by rw [List.length_range]; exact q)
    rw [List.getElem_range, h2] at this
    cases this
  have hs : (atR ((R.map zeroR).getD 0 default) p.start).1 = 0 := by
    have hs2 : (atR ((R.map zeroR).getD 0 default) p.start).2 = true := by rw [zeros_at (by omega)]; exact h.start
    obtain ⟨j2, r1, r2, r3⟩ := atR_some hs2
    rw [zeros_get (by omega), zeroR_len] at r1
    rw [r3, zeros_get (by omega)]
    exact zeroR_val r1
  unfold boundR
  rw [if_neg (fun q => q (zeros_given h)), if_neg hf, hs]; rfl
end
theorem lineV_zero (p : Plan) : lineV p 0 = [p.start, (vO p p.inf.length p.start).getD (-1)] := rfl
def linesR (p : Plan) : List (List Int) := (List.range (p.inf.length + 1)).map (lineV p)
theorem lines_len (p : Plan) : (linesR p).length = p.inf.length + 1 := by simp [linesR]
theorem lines_get (p : Plan) {k : Nat} (hk : k < p.inf.length + 1) : (linesR p).getD k default = lineV p k := by
  unfold linesR
  rw [List.getD_eq_getElem?_getD, List.getElem?_map, List.getElem?_range hk]; rfl
theorem lines_zero (p : Plan) : (linesR p).getD 0 default = [p.start, (vO p p.inf.length p.start).getD (-1)] := by rw [lines_get p (by omega), lineV_zero]
theorem lines_cons (p : Plan) : linesR p = lineV p 0 :: (List.range p.inf.length).map fun i => lineV p (i + 1) := by
  unfold linesR
  rw [List.range_succ_eq_map, List.map_cons, List.map_map]; rfl
theorem tight_gap {p : Plan} {R : List (List Int)} (h : exC p R) {c : Int} (hv : vO p p.inf.length p.start = some c) : gapR p R (goV p p.inf.length).1 = (0, 0) := by
  have hb := h.bound
  rw [hv] at hb
  have hb : boundR p R = (c, 0) := hb
  have hc := costR_sch h.pl (goV_sch hv)
  rw [goV_len, goV_cost hv] at hc
  have hc : costR p (goV p p.inf.length).1 = (c, _, 0) := hc
  unfold gapR
  rw [hb, hc, if_neg (fun q => q rfl), if_neg (fun q => q rfl)]
  show (c - c, (0 : Int)) = (0, 0)
  rw [Int.sub_self]
theorem tight_weak {p : Plan} {R : List (List Int)} (h : exC p R) : weakR (R.map zeroR) R = (true, 0) := by
  have hlen : (R.map zeroR).length = R.length := List.length_map ..
  have h200 := (planB_in h.pl).2.2.2.1
  have hl := h.len
  have hf : ∀ r : List (List Int), r.length ≤ 201 → (∀ k, k < r.length → (r.getD k default).length ≤ 8000) → fullB r 201 = false := fun r h1 h2 => by
    unfold fullB
    simp only [Bool.or_eq_false_iff, decide_eq_false_iff_not, List.any_eq_false]
    refine ⟨by omega, fun x hx => ?_⟩
    obtain ⟨k, hk, rfl⟩ := mem_getD (d := default) hx
    have := h2 k hk
    unfold bigB
    simp only [decide_eq_true_eq]; omega
  have hs : sizesB (R.map zeroR) R = true := by
    unfold sizesB
    simp only [Bool.and_eq_true, decide_eq_true_eq, List.all_eq_true, List.mem_range]
    exact ⟨hlen, fun k hk => by rw [zeros_get (by omega), zeroR_len]⟩
  have ho : (R.map zeroR).any oddB = false := by
    rw [List.any_eq_false]
    intro r hr
    obtain ⟨x, hx, rfl⟩ := List.mem_map.1 hr
    obtain ⟨k, hk, rfl⟩ := mem_getD (d := default) hx
    have := (rowB_in (h.row k hk).1).1
    unfold oddB
    rw [zeroR_len]
    simp only [decide_eq_true_eq]; omega
  have hm : ((List.range (R.map zeroR).length).any fun i => evM ((R.map zeroR).getD i default) (R.getD i default)) = false := by
    rw [List.any_eq_false]
    intro k hk
    have hk := List.mem_range.1 hk
    have : evM ((R.map zeroR).getD k default) (R.getD k default) = false := by
      unfold evM
      rw [List.any_eq_false]
      intro j hj
      have hj := List.mem_range.1 hj
      rw [zeros_get (by omega), zeroR_len] at hj
      rw [zeros_get (by omega), zeroR_vol hj]; simp
    rw [this]; decide
  have hw : ((List.range (R.map zeroR).length).all fun i => evW ((R.map zeroR).getD i default) (R.getD i default)) = true := by
    rw [List.all_eq_true]
    intro k hk
    have hk := List.mem_range.1 hk
    unfold evW
    rw [List.all_eq_true]
    intro j hj
    have hj := List.mem_range.1 hj
    rw [zeros_get (by omega), zeroR_len] at hj
    rw [zeros_get (by omega), zeroR_val hj]
    have := ((rowB_in (h.row k (by omega)).1).2.1 j hj).2.1
    unfold wkP
    simp only [Bool.or_eq_true, Bool.and_eq_true, Bool.not_eq_true', decide_eq_true_eq, decide_eq_false_iff_not]
    omega
  unfold weakR
  rw [if_neg (by rw [hf (R.map zeroR) (by omega) (fun k hk => by rw [zeros_get (by omega), zeroR_len]; exact (h.row k (by omega)).2), hf R (by omega) (fun k hk => (h.row k hk).2)]; decide), if_neg (by rw [hs]; decide), if_neg (by rw [ho]; decide), if_neg (by rw [hm]; decide), hw]
theorem more_get {R : List (List Int)} {r : List Int} (h0 : 0 < R.length) (k : Nat) : (R.set 0 r).getD k default = if k = 0 then r else R.getD k default := by
  by_cases e : k = 0
  · subst e
    rw [if_pos rfl, List.getD_eq_getElem?_getD, List.getElem?_set, if_pos rfl, if_pos h0]; rfl
  · rw [if_neg e, List.getD_eq_getElem?_getD, List.getElem?_set_ne (fun q => e q.symm), ← List.getD_eq_getElem?_getD]
theorem more_row {p : Plan} {R : List (List Int)} (h : exC p R) {c : Int} (hv : vO p p.inf.length p.start = some c) : rowB p [p.start, c + 1] = true ∧ 0 ≤ c ∧ c ≤ 879609302220800000 := by
  have hin := planB_in h.pl
  have hc := vO_in h.pl _ (Nat.le_refl _) p.start hin.2.2.1 c hv
  have h200 := hin.2.2.2.1
  refine ⟨?_, by omega, by omega⟩
  unfold rowB
  simp only [Bool.and_eq_true, decide_eq_true_eq, List.all_eq_true, List.mem_range]
  refine ⟨by simp, fun j hj => ?_⟩
  obtain rfl : j = 0 := by simpa using hj
  show rowC p [p.start, c + 1] 0 = true
  unfold rowC
  simp only [Bool.and_eq_true, Bool.or_eq_true, decide_eq_true_eq]
  refine ⟨⟨⟨⟨hin.2.2.1.1, hin.2.2.1.2⟩, .inl trivial⟩, ?_⟩, ?_⟩
  · show -1 ≤ c + 1
    omega
  · show c + 1 ≤ 1152921504606846976
    omega
theorem more_given {p : Plan} {R : List (List Int)} (h : exC p R) {c : Int} (hv : vO p p.inf.length p.start = some c) : givenE p (R.set 0 [p.start, c + 1]) = 0 := by
  have hl := h.len
  obtain ⟨hr, hc0, hc1⟩ := more_row h hv
  have hrow : ∀ r, r ∈ R.set 0 [p.start, c + 1] → rowB p r = true ∧ r.length ≤ 8000 := fun r hm => by
    obtain ⟨k, hk, rfl⟩ := mem_getD (d := default) hm
    rw [List.length_set] at hk
    rw [more_get (by omega)]
    by_cases e : k = 0
    · rw [if_pos e]; exact ⟨hr, by simp⟩
    · rw [if_neg e]; exact h.row k hk
  unfold givenE
  rw [if_neg (by rw [h.pl]; decide), if_neg, if_neg]
  · intro q
    have : shapedB p (R.set 0 [p.start, c + 1]) = true := by
      unfold shapedB
      simp only [Bool.and_eq_true, decide_eq_true_eq, List.all_eq_true]
      exact ⟨by rw [List.length_set]; exact hl, fun r hm => (hrow r hm).1⟩
    rw [this] at q; cases q
  · intro q
    obtain ⟨r, hm, hb⟩ := List.any_eq_true.1 q
    have := (hrow r hm).2
    unfold bigB at hb
    have := of_decide_eq_true hb
    omega
theorem more_holds {p : Plan} {R : List (List Int)} (h : exC p R) {c : Int} (hv : vO p p.inf.length p.start = some c) : holdsB p (R.set 0 [p.start, c + 1]) 0 = false := by
  have hl := h.len
  obtain ⟨hr, hc0, hc1⟩ := more_row h hv
  rw [Bool.eq_false_iff]
  intro q
  unfold holdsB at q
  rw [more_get (by omega), if_pos rfl, List.length_set] at q
  simp only [Bool.and_eq_true, List.all_eq_true, List.mem_range] at q
  have q2 := q.2 0 (by simp)
  by_cases e : 0 + 1 = R.length
  · rw [if_pos e] at q2
    have q3 : c + 1 = 0 := of_decide_eq_true q2
    omega
  · rw [if_neg e, more_get (by omega), if_neg (by decide)] at q2
    have hn : 0 < p.inf.length := by omega
    obtain ⟨d, hd⟩ : ∃ d, p.inf.length = d + 1 := ⟨p.inf.length - 1, by omega⟩
    rw [hd, vO, show p.inf.length - (d + 1) = 0 by omega] at hv
    obtain ⟨⟨i, c2⟩, h1, h2⟩ := Option.map_eq_some_iff.1 hv
    have h2 : c2 = c := h2
    subst h2
    obtain ⟨g1, g2, x, g3, g4⟩ := bestU_some _ h1
    have hz := planB_in h.pl
    have hr0 := h.start
    obtain ⟨j0, j1, j2, j3⟩ := atR_some hr0
    have hs := h.step 0 hn j0 j1 i g1 (by rw [j2]; exact g2)
    rw [j2] at hs
    have ha := h.at (k := 0 + 1) (by omega) hs
    rw [show p.inf.length - (0 + 1) = d by omega, g3] at ha
    have ha : (atR (R.getD (0 + 1) default) (aftI p 0 p.start (p.rel.getD i default))).1 = x := ha
    have hx := (vO_in h.pl d (by omega) _ (aft_in h.pl g2) x g3).1
    have q3 := List.all_eq_true.1 q2 _ (getD_mem g1)
    unfold stB at q3
    have q3 : (!possB p 0 p.start (p.rel.getD i default) || relB (c2 + 1) (atR (R.getD (0 + 1) default) (aftI p 0 p.start (p.rel.getD i default))) (costI p 0 p.start (p.rel.getD i default))) = true := q3
    rw [g2] at q3
    unfold relB at q3
    rw [hs, ha] at q3
    simp only [Bool.not_true, Bool.false_or, Bool.true_and, Bool.or_eq_true, Bool.and_eq_true, Bool.not_eq_true', decide_eq_true_eq, decide_eq_false_iff_not] at q3
    omega
theorem tight_more {p : Plan} {R : List (List Int)} (h : exC p R) {c : Int} (hv : vO p p.inf.length p.start = some c) : checkR p (R.set 0 [p.start, c + 1]) = (false, 0, 0) := by
  have hl := h.len
  have hf : failK p (R.set 0 [p.start, c + 1]) = 0 := by
    unfold failK
    rw [List.length_set, hl, List.range_succ_eq_map, List.findIdx_cons, more_holds h hv]; rfl
  unfold checkR
  rw [if_neg (fun q => q (more_given h hv)), if_pos (by rw [hf, List.length_set]; omega), hf]; rfl
theorem zeros_ok {p : Plan} {R : List (List Int)} (h : exC p R) : rowsOk (R.map zeroR) := by
  have hw := raiseW_ok h
  refine ⟨by rw [List.length_map]; exact hw.1, fun r hr => ?_⟩
  obtain ⟨x, hx, rfl⟩ := List.mem_map.1 hr
  obtain ⟨k, hk, rfl⟩ := mem_getD (d := default) hx
  obtain ⟨q1, _⟩ := rowB_in (h.row k hk).1
  have hxo := hw.2 _ hx
  refine ⟨by rw [zeroR_len]; exact hxo.1, fun z hz => ?_⟩
  obtain ⟨m, hm, rfl⟩ := mem_getD (d := default) hz
  rw [zeroR_len] at hm
  rcases row_odd q1 hm with ⟨j, hj, rfl⟩ | ⟨j, hj, rfl⟩
  · rw [zeroR_vol hj]; exact hxo.2 _ (getD_mem hm)
  · rw [zeroR_val hj]; unfold i64ok; decide
theorem more_ok {p : Plan} {R : List (List Int)} (h : exC p R) {c : Int} (hv : vO p p.inf.length p.start = some c) : rowsOk (R.set 0 [p.start, c + 1]) := by
  have hw := raiseW_ok h
  obtain ⟨hr, hc0, hc1⟩ := more_row h hv
  have hin := planB_in h.pl
  refine ⟨by rw [List.length_set]; exact hw.1, fun r hm => ?_⟩
  rcases List.mem_or_eq_of_mem_set hm with q | rfl
  · exact hw.2 _ q
  · refine ⟨by simp, fun z hz => ?_⟩
    unfold i64ok
    simp only [List.mem_cons, List.not_mem_nil, or_false] at hz
    rcases hz with rfl | rfl <;> omega
theorem own_uses (U : Nat → Prop) (k : Nat) (R : List (List Int)) (h : U k) : DV.usesL U (([DV.gl k] :: rows ilRow R).flatten) := ⟨h, uses_rows ilRow U R⟩
theorem app_own (k : Nat) (l : List (List Int)) (r : List Int) : ([DV.gl k] :: rows ilRow l) ++ [[.p (.dat 1 (r.map inRow))]] = [DV.gl k] :: rows ilRow (l ++ [r]) := by simp [rows, ilRow]
theorem frz_own (o k : Nat) (x : FV) (l : List (List Int)) (h : k ≠ o) : ([DV.gl k] :: rows ilRow l).map (DV.frzL o x) = [DV.gl k] :: rows ilRow l := by
  rw [List.map_cons, frz_rows]
  simp [DV.frzL, DV.frz, h]
def tailR (p : Plan) (n : Nat) : List (List Int) := (List.range n).map fun i => lineV p (i + 1)
theorem tail_next (p : Plan) (n : Nat) : tailR p (n + 1) = tailR p n ++ [lineV p (n + 1)] := by unfold tailR; rw [List.range_succ, List.map_append]; rfl
theorem tail_len (p : Plan) (n : Nat) : (tailR p n).length = n := by simp [tailR]
theorem lines_tail (p : Plan) : linesR p = lineV p 0 :: tailR p p.inf.length := lines_cons p
set_option maxRecDepth 20000 in
set_option maxHeartbeats 16000000 in
theorem values_own (p : Plan) (m : Nat) (hq : planOk p) (hp : planB p = true) (hf : fewA p 0 p.start p.inf.length = true) : DCallsG Try.prog 16 [] [planD p] (hget []) m (.tup [.gl m, li 0]) (hget [(m, .lst 22 1 ([DV.gl (m + 1)] :: rows ilRow (tailR p p.inf.length))), (m + 1, inLt (lineV p 0))]) := by
  have hin := planB_in hp
  have ct := fun m => tank_f p m hq hp
  have cr := fun m => reach_f p 0 p.start m hp (by omega) hin.2.2.1
  have hrr : reachR p 0 p.start = if fewA p 0 p.start p.inf.length then (rowsN p 0 p.start p.inf.length, true) else ([], false) := rfl
  rw [hrr] at cr
  clear hrr
  simp only [hf, if_true] at cr
  have cv := fun m => val_f p 0 p.start p.inf.length m hp (by omega) hin.2.2.1 hf
  have hxl := valsX_len p 0 p.start p.inf.length
  have hxg := fun i => @valsX_get p 0 p.start p.inf.length i
  have hrl := rowsN_len p 0 p.start p.inf.length
  have hrg := rowsN_get p 0 p.start p.inf.length
  have hlk : ∀ j, j ≤ p.inf.length → ∀ z, z ∈ rowI p 0 p.start j → (valsD p 0 (rowsN p 0 p.start p.inf.length) (p.inf.length - j)).lookup z = vO p (p.inf.length - j) z := fun j hj z hz => by
    rw [valsD_look (s := 0) (v := p.start) (N := p.inf.length) (by omega) _ (by omega), show p.inf.length - (p.inf.length - j) = j by omega, if_pos hz]
  have hfl : ∀ j, j ≤ p.inf.length → (rowI p 0 p.start j).length ≤ 4000 := fun j hj => rowI_len (n := j) (by
    unfold fewA at hf ⊢
    rw [List.all_eq_true] at hf ⊢
    intro x hx
    exact hf x (List.mem_range.2 (by have := List.mem_range.1 hx; omega)))
  have hil := hin.2.2.2.1
  generalize rowsN p 0 p.start p.inf.length = RS at *
  generalize valsX p 0 p.start p.inf.length = XS at *
  have hxr : ∀ j, j < p.inf.length + 1 → RS.getD j default = rowI p 0 p.start j := fun j hj => hrg j (by omega)
  have hvx : ∀ j, j < p.inf.length + 1 → ∀ z, z ∈ rowI p 0 p.start j → hasI (XS.getD j default) z = (vO p (p.inf.length - j) z).isSome ∧ valI (XS.getD j default) z = (vO p (p.inf.length - j) z).getD 0 := fun j hj z hz => by
    rw [hasI_eq, valI_eq, hxg j hj, hlk j (by omega) z hz]; exact ⟨rfl, rfl⟩
  clear hxg hlk hrg
  refine contract (n := 71) (rs := [.tmp 2, .tmp 3]) (ts := [29, 30]) Try.func16 rfl (by decide) 0 0 [] [] [248, 249] (.tup [.gl 248, li 0]) [(248, .lst 22 1 ([DV.gl 249] :: rows ilRow (tailR p p.inf.length))), (249, inLt (lineV p 0))] (by (exact SD)) (by (exact SD)) ?_
  (repeat' (first | refine swp_seq [0, 1, 2, 3, 4, 5, 6, 7, 8, 9, 10, 11, 13, 14, 15, 22, 31, 35, 36, 37, 38, 42, 43, 44, 45, 58] ?_ | refine st2 ?_ | (show CallQ ..; first | refine cQ (fun hcc => (by first | exact ct _)) ?_ | (refine lP ?_; refine lQ (fun hcc m => (by first | exact ct _)) ?_)) | (show Fct ..; refine fctI (fun hf => ?_)) | (show SWp _ _ _ (.cond _ _ _) _ _ _ _; first | refine cB (fun hc => ?_) (fun hc => ?_) | refine cU ?_ ?_)))
  (refine cQT [32] (fun hcc => (cr _)) ?_)
  (repeat' (first | refine swp_seq [0, 1, 2, 3, 4, 5, 6, 7, 8, 9, 10, 11, 13, 14, 15, 22, 31, 35, 36, 37, 38, 42, 43, 44, 45, 58] ?_ | refine st2 ?_ | (show Fct ..; refine fctI (fun hf => ?_)) | (show SWp _ _ _ (.cond _ _ _) _ _ _ _; first | refine cB (fun hc => ?_) (fun hc => ?_) | refine cU ?_ ?_)))
  (refine cQT [32] (fun hcc => (cv _)) ?_)
  (repeat' (first | refine swp_seq [0, 1, 2, 3, 4, 5, 6, 7, 8, 9, 10, 11, 13, 14, 15, 22, 31, 35, 36, 37, 38, 42, 43, 44, 45, 58] ?_ | refine st2 ?_ | (show Fct ..; refine fctI (fun hf => ?_)) | (show SWp _ _ _ (.cond _ _ _) _ _ _ _; first | refine cB (fun hc => ?_) (fun hc => ?_) | refine cU ?_ ?_)))
  (refine sN 8 22 1 ?_)
  refine loop_swp [6, 7, 8, 35, 36, 37] [0, 32, 248, 249] 257 (fun q A H => ∃ (i : Nat), i ≤ p.inf.length + 1 ∧ q = p.inf.length + 1 - i ∧ A = [(6, .p (.dat 1 (RS.map ilRow))), (7, .p (.dat 1 (XS.map valRow))), (8, .gl 248), (35, .p (.dat 1 (RS.map ilRow))), (36, li RS.length), (37, li i)] ∧ ((i = 0 ∧ H = [(0, .blk 26 (planC p)), (32, .blk 73 (tkC p (ints (p.rel.map (floorT p.pen))))), (248, .lst 22 1 [])]) ∨ ∃ t, i = t + 1 ∧ H = [(0, .blk 26 (planC p)), (32, .blk 73 (tkC p (ints (p.rel.map (floorT p.pen))))), (248, .lst 22 1 ([DV.gl 249] :: rows ilRow (tailR p t))), (249, inLt (lineV p 0))])) (by omega) ?_ ?_ ?_
  · rintro q A H ⟨i, g1, g2, rfl, ⟨rfl, rfl⟩ | ⟨t, rfl, rfl⟩⟩
    · exact ⟨by (exact SD), by (exact SD)⟩
    · exact ⟨by (exact SD), by omega, by (exact SD), by omega, by (exact SD), by omega, own_uses _ _ _ (by omega), by omega, by (exact SD), trivial⟩
  · refine ⟨_, 0, by omega, rfl, ?_, .inl ⟨rfl, ?_⟩⟩
    · exact DVR
    · exact DVR
  rintro q A H ⟨i, g1, g2, rfl, hor⟩
  by_cases hi : i < p.inf.length + 1
  · have hi2 : i < RS.length := by omega
    have hi3 : (i : Int) < (RS.length : Int) := by omega
    have hi4 : i < XS.length := by omega
    have hxi := hxr i hi
    have hvi := hvx i hi
    have hfi := hfl i (by omega)
    have hle : lineV p i = pairI (vO p (p.inf.length - i)) (rowI p 0 p.start i) (rowI p 0 p.start i).length := rfl
    have hpn := fun j => @pairI_next (vO p (p.inf.length - i)) (rowI p 0 p.start i) j
    have hpl := fun j => @pairI_len (vO p (p.inf.length - i)) (rowI p 0 p.start i) j
    generalize vO p (p.inf.length - i) = f at *
    rw [← hxi] at hle hvi hfi hpn hpl
    (have := Nonempty.intro hi2)
    (have := Nonempty.intro hi3)
    (have := Nonempty.intro hi4)
    rcases hor with ⟨hi0, rfl⟩ | ⟨t, hit, rfl⟩
    · (repeat' (first | refine swp_seq [0, 1, 2, 3, 4, 5, 6, 7, 8, 9, 10, 11, 13, 14, 15, 22, 31, 35, 36, 37, 38, 42, 43, 44, 45, 58] ?_ | refine st2 ?_ | (show Fct ..; refine fctI (fun hf => ?_)) | (show SWp _ _ _ (.cond _ _ _) _ _ _ _; first | refine cB (fun hc => ?_) (fun hc => ?_) | refine cU ?_ ?_)))
      (refine sN 11 3 1 ?_)
      generalize RS.getD i default = row at *
      refine loop_swp [6, 7, 8, 9, 11, 35, 36, 37, 42, 43, 44] [0, 32, 248, 337] 338 (fun q A H => ∃ (j : Nat), j ≤ row.length ∧ q = row.length - j ∧ A = [(6, .p (.dat 1 (RS.map ilRow))), (7, .p (.dat 1 (XS.map valRow))), (8, .gl 248), (9, li i), (11, .gl 337), (35, .p (.dat 1 (RS.map ilRow))), (36, li RS.length), (37, li i), (42, ints row), (43, li row.length), (44, li j)] ∧ H = [(0, .blk 26 (planC p)), (32, .blk 73 (tkC p (ints (p.rel.map (floorT p.pen))))), (248, .lst 22 1 []), (337, inLt (pairI f row j))]) (by omega) ?_ ?_ ?_
      · rintro q A H ⟨j, k1, k2, rfl, rfl⟩
        exact ⟨by (exact SD), by (exact SD)⟩
      · refine ⟨_, 0, by omega, rfl, ?_, ?_⟩
        · exact DVR
        · exact DVR
      rintro q A H ⟨j, k1, k2, rfl, rfl⟩
      by_cases hj : j < row.length
      · have hj3 : (j : Int) < (row.length : Int) := by omega
        have hpj := hpn j hj
        have hplj := hpl j (by omega)
        have hvj := hvi (row.getD j default) (getD_mem hj)
        generalize pairI f row j = PJ at *
        (have := Nonempty.intro hj)
        (have := Nonempty.intro hj3)
        cases hfj : f (row.getD j default) with
        | none =>
          rw [hfj] at hvj hpj
          have hh : hasI (XS.getD i default) (row.getD j default) = false := hvj.1
          have hpj : pairI f row (j + 1) = PJ ++ [row.getD j default, -1] := hpj
          (have := Nonempty.intro hh)
          (repeat' (first | refine swp_seq [0, 1, 2, 3, 4, 5, 6, 7, 8, 9, 10, 11, 13, 14, 15, 22, 31, 35, 36, 37, 38, 42, 43, 44, 45, 58] ?_ | refine st2 ?_ | (show Fct ..; refine fctI (fun hf => ?_)) | (show SWp _ _ _ (.cond _ _ _) _ _ _ _; first | refine cB (fun hc => ?_) (fun hc => ?_) | refine cU ?_ ?_)))
          rw [← hpj]
          (refine lN [0, 32, 248, 337] ?_)
          exact ⟨_, by omega, j + 1, by omega, rfl, rfl, rfl⟩
        | some c =>
          rw [hfj] at hvj hpj
          have hh : hasI (XS.getD i default) (row.getD j default) = true := hvj.1
          have hpj : pairI f row (j + 1) = PJ ++ [row.getD j default, valI (XS.getD i default) (row.getD j default)] := by rw [hvj.2]; exact hpj
          (have := Nonempty.intro hh)
          (repeat' (first | refine swp_seq [0, 1, 2, 3, 4, 5, 6, 7, 8, 9, 10, 11, 13, 14, 15, 22, 31, 35, 36, 37, 38, 42, 43, 44, 45, 58] ?_ | refine st2 ?_ | (show Fct ..; refine fctI (fun hf => ?_)) | (show SWp _ _ _ (.cond _ _ _) _ _ _ _; first | refine cB (fun hc => ?_) (fun hc => ?_) | refine cU ?_ ?_)))
          rw [← hpj]
          (refine lN [0, 32, 248, 337] ?_)
          exact ⟨_, by omega, j + 1, by omega, rfl, rfl, rfl⟩
      obtain rfl : j = row.length := by omega
      have hj3 : ¬ (row.length : Int) < (row.length : Int) := by omega
      (have := Nonempty.intro hj3)
      rw [← hle]
      have hplj := hpl row.length (by omega)
      rw [← hle] at hplj
      subst hi0
      generalize hLV : lineV p 0 = LV at *
      (repeat' (first | refine swp_seq [0, 1, 2, 3, 4, 5, 6, 7, 8, 9, 10, 11, 13, 14, 15, 22, 31, 35, 36, 37, 38, 42, 43, 44, 45, 58] ?_ | refine st2 ?_ | (show Fct ..; refine fctI (fun hf => ?_)) | (show SWp _ _ _ (.cond _ _ _) _ _ _ _; first | refine cB (fun hc => ?_) (fun hc => ?_) | refine cU ?_ ?_)))
      (refine lR 337 249 [0, 32, 248, 337] ?_)
      exact ⟨_, by omega, 0 + 1, by omega, rfl, rfl, .inr ⟨0, rfl, rfl⟩⟩
    · have hTn : tailR p (t + 1) = tailR p t ++ [lineV p i] := by rw [tail_next, hit]
      have hTl := tail_len p t
      generalize hTR2 : tailR p (t + 1) = TR2 at *
      generalize tailR p t = TR at *
      generalize hLV0 : lineV p 0 = LV0 at *
      (repeat' (first | refine swp_seq [0, 1, 2, 3, 4, 5, 6, 7, 8, 9, 10, 11, 13, 14, 15, 22, 31, 35, 36, 37, 38, 42, 43, 44, 45, 58] ?_ | refine st2 ?_ | (show Fct ..; refine fctI (fun hf => ?_)) | (show SWp _ _ _ (.cond _ _ _) _ _ _ _; first | refine cB (fun hc => ?_) (fun hc => ?_) | refine cU ?_ ?_)))
      (refine sN 11 3 1 ?_)
      generalize RS.getD i default = row at *
      refine loop_swp [6, 7, 8, 9, 11, 35, 36, 37, 42, 43, 44] [0, 32, 248, 249, 337] 338 (fun q A H => ∃ (j : Nat), j ≤ row.length ∧ q = row.length - j ∧ A = [(6, .p (.dat 1 (RS.map ilRow))), (7, .p (.dat 1 (XS.map valRow))), (8, .gl 248), (9, li i), (11, .gl 337), (35, .p (.dat 1 (RS.map ilRow))), (36, li RS.length), (37, li i), (42, ints row), (43, li row.length), (44, li j)] ∧ H = [(0, .blk 26 (planC p)), (32, .blk 73 (tkC p (ints (p.rel.map (floorT p.pen))))), (248, .lst 22 1 ([DV.gl 249] :: rows ilRow TR)), (249, inLt LV0), (337, inLt (pairI f row j))]) (by omega) ?_ ?_ ?_
      · rintro q A H ⟨j, k1, k2, rfl, rfl⟩
        exact ⟨by (exact SD), by omega, by (exact SD), by omega, by (exact SD), by omega, own_uses _ _ _ (by omega), by omega, by (exact SD), by omega, by (exact SD), trivial⟩
      · refine ⟨_, 0, by omega, rfl, ?_, ?_⟩
        · exact DVR
        · exact DVR
      rintro q A H ⟨j, k1, k2, rfl, rfl⟩
      by_cases hj : j < row.length
      · have hj3 : (j : Int) < (row.length : Int) := by omega
        have hpj := hpn j hj
        have hplj := hpl j (by omega)
        have hvj := hvi (row.getD j default) (getD_mem hj)
        generalize pairI f row j = PJ at *
        (have := Nonempty.intro hj)
        (have := Nonempty.intro hj3)
        cases hfj : f (row.getD j default) with
        | none =>
          rw [hfj] at hvj hpj
          have hh : hasI (XS.getD i default) (row.getD j default) = false := hvj.1
          have hpj : pairI f row (j + 1) = PJ ++ [row.getD j default, -1] := hpj
          (have := Nonempty.intro hh)
          (repeat' (first | refine swp_seq [0, 1, 2, 3, 4, 5, 6, 7, 8, 9, 10, 11, 13, 14, 15, 22, 31, 35, 36, 37, 38, 42, 43, 44, 45, 58] ?_ | refine st2 ?_ | (show Fct ..; refine fctI (fun hf => ?_)) | (show SWp _ _ _ (.cond _ _ _) _ _ _ _; first | refine cB (fun hc => ?_) (fun hc => ?_) | refine cU ?_ ?_)))
          rw [← hpj]
          (refine lN [0, 32, 248, 249, 337] ?_)
          exact ⟨_, by omega, j + 1, by omega, rfl, rfl, rfl⟩
        | some c =>
          rw [hfj] at hvj hpj
          have hh : hasI (XS.getD i default) (row.getD j default) = true := hvj.1
          have hpj : pairI f row (j + 1) = PJ ++ [row.getD j default, valI (XS.getD i default) (row.getD j default)] := by rw [hvj.2]; exact hpj
          (have := Nonempty.intro hh)
          (repeat' (first | refine swp_seq [0, 1, 2, 3, 4, 5, 6, 7, 8, 9, 10, 11, 13, 14, 15, 22, 31, 35, 36, 37, 38, 42, 43, 44, 45, 58] ?_ | refine st2 ?_ | (show Fct ..; refine fctI (fun hf => ?_)) | (show SWp _ _ _ (.cond _ _ _) _ _ _ _; first | refine cB (fun hc => ?_) (fun hc => ?_) | refine cU ?_ ?_)))
          rw [← hpj]
          (refine lN [0, 32, 248, 249, 337] ?_)
          exact ⟨_, by omega, j + 1, by omega, rfl, rfl, rfl⟩
      obtain rfl : j = row.length := by omega
      have hj3 : ¬ (row.length : Int) < (row.length : Int) := by omega
      (have := Nonempty.intro hj3)
      rw [← hle]
      have hplj := hpl row.length (by omega)
      rw [← hle] at hplj
      generalize lineV p i = LV at *
      (repeat' (first | (show SWp _ _ _ (.region 21 _ _) _ _ _ _; refine (stop_in ?_)) | refine swp_seq [0, 1, 2, 3, 4, 5, 6, 7, 8, 9, 10, 11, 13, 14, 15, 22, 31, 35, 36, 37, 38, 42, 43, 44, 45, 58] ?_ | refine st2 ?_ | (show CallQ ..; first | refine cQ (fun hcc => (by fail)) ?_ | (refine lP ?_; refine lQ (fun hcc m => (by fail)) ?_)) | (show Fct ..; refine fctI (fun hf => ?_)) | (show SWp _ _ _ (.cond _ _ _) _ _ _ _; first | refine cB (fun hc => ?_) (fun hc => ?_) | refine cU ?_ ?_)))
      refine stop_out ?_
      have hfz : ∀ r : List Int, hfrzL 337 (.elems 1 (r.map inRow)) [(0, .blk 26 (planC p)), (32, .blk 73 (tkC p (ints (p.rel.map (floorT p.pen))))), (248, .lst 22 1 ([DV.gl 249] :: rows ilRow TR)), (249, inLt LV0), (337, inLt r)] = [(0, .blk 26 (planC p)), (32, .blk 73 (tkC p (ints (p.rel.map (floorT p.pen))))), (248, .lst 22 1 ([DV.gl 249] :: rows ilRow TR)), (249, inLt LV0)] := fun r => by
        simp only [hfrzL, HV.frz, frz_own 337 249 _ TR (by omega), frz_rows, Nat.reduceEqDiff, reduceIte, if_true, if_false, reduceCtorEq]
        rfl
      refine sF 337 ?_ (v := inLt LV) (x := .elems 1 (LV.map inRow)) (eH := hfz LV)
      (repeat' (first | refine swp_seq [0, 1, 2, 3, 4, 5, 6, 7, 8, 9, 10, 11, 13, 14, 15, 22, 31, 35, 36, 37, 38, 42, 43, 44, 45, 58] ?_ | refine st2 ?_ | (show Fct ..; refine fctI (fun hf => ?_)) | (show SWp _ _ _ (.cond _ _ _) _ _ _ _; first | refine cB (fun hc => ?_) (fun hc => ?_) | refine cU ?_ ?_)))
      rw [app_ilp, ← hTn]
      (refine lN [0, 32, 248, 249] ?_)
      exact ⟨_, by omega, i + 1, by omega, rfl, rfl, .inr ⟨t + 1, by omega, by rw [hTR2]⟩⟩
  · obtain rfl : i = p.inf.length + 1 := by omega
    have hi3 : ¬ ((p.inf.length : Int) + 1 < (RS.length : Int)) := by omega
    (have := Nonempty.intro hi3)
    rcases hor with ⟨hi0, rfl⟩ | ⟨t, hit, rfl⟩
    · omega
    obtain rfl : t = p.inf.length := by omega
    generalize tailR p p.inf.length = TR at *
    generalize lineV p 0 = LV0 at *
    (repeat' (first | refine swp_seq [0, 1, 2, 3, 4, 5, 6, 7, 8, 9, 10, 11, 13, 14, 15, 22, 31, 35, 36, 37, 38, 42, 43, 44, 45, 58] ?_ | refine st2 ?_ | (show Fct ..; refine fctI (fun hf => ?_)) | (show SWp _ _ _ (.cond _ _ _) _ _ _ _; first | refine cB (fun hc => ?_) (fun hc => ?_) | refine cU ?_ ?_)))
    exact DVR
theorem make_v (p : Plan) (m : Nat) (hq : planOk p) : DCalls Try.prog 6 [planD p] (hget []) m (.tup [.p (.dat 1 ((valuesR p).1.map ilRow)), li (valuesR p).2]) (hget []) := by
  have c1 := fun m => values45_f p m hq
  refine pureC (n := 8) (rs := [.tmp 2, .tmp 3]) (ts := [29, 30]) Try.func6 rfl (by decide) [] (by (exact SD)) ?_
  (repeat' (first | refine swp_seq [0, 1, 2, 3] ?_ | refine st2 ?_ | (show CallQ ..; first | refine cQ (fun hcc => (by first | exact c1 _)) ?_ | (refine lP ?_; refine lQ (fun hcc m => (by first | exact c1 _)) ?_)) | (show Fct ..; refine fctI (fun hf => ?_)) | (show SWp _ _ _ (.cond _ _ _) _ _ _ _; first | refine cB (fun hc => ?_) (fun hc => ?_) | refine cU ?_ ?_)))
  exact DVR
theorem make_own (p : Plan) (m : Nat) (hq : planOk p) (hp : planB p = true) (hf : fewA p 0 p.start p.inf.length = true) : DCallsG Try.prog 6 [] [planD p] (hget []) m (.tup [.gl m, li 0]) (hget [(m, .lst 22 1 ([DV.gl (m + 1)] :: rows ilRow (tailR p p.inf.length))), (m + 1, inLt (lineV p 0))]) := by
  have c1 := fun m => values_own p m hq hp hf
  generalize tailR p p.inf.length = TR at *
  generalize lineV p 0 = LV0 at *
  refine contract (n := 8) (rs := [.tmp 2, .tmp 3]) (ts := [29, 30]) Try.func6 rfl (by decide) 0 0 [] [] [32, 33] (.tup [.gl 32, li 0]) [(32, .lst 22 1 ([DV.gl 33] :: rows ilRow TR)), (33, inLt LV0)] (by (exact SD)) (by (exact SD)) ?_
  (repeat' (first | refine swp_seq [0, 1, 2, 3] ?_ | refine st2 ?_ | (show CallQ ..; first | refine cQ (fun hcc => (by first | exact c1 _)) ?_ | (refine lP ?_; refine lQ (fun hcc m => (by first | exact c1 _)) ?_)) | (show Fct ..; refine fctI (fun hf => ?_)) | (show SWp _ _ _ (.cond _ _ _) _ _ _ _; first | refine cB (fun hc => ?_) (fun hc => ?_) | refine cU ?_ ?_)))
  exact DVR

end Go.Proofs.Ytlailhdmgehniaa
