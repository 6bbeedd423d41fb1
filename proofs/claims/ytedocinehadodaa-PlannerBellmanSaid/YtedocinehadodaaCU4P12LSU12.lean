/-
  Contracts of functions of the program, over the engine.
  No condition.
-/
import Derived.Test.YtedocinehadodaaCT2ELU1C18C18U
import Derived.Test.YtedocinehadodaaCFMQ7P13P14
import Derived.Test.YtedocinehadodaaCQ0P11
namespace Go.Proofs.Ytedocinehadodaa
open Go.Eng
set_option linter.all false
attribute [local irreducible] DCallsG SWp Fct CallQ XCallQ LCallQ XLCallQ drun xrun

theorem sch_bound {p : Plan} (hp : planB p = true) {rs : List Int} (h : schB p rs) : ∀ i, i ≤ p.inf.length → ∀ {s v : Int}, pathC p rs i = some (s, v) →
    ∃ S, 0 ≤ S ∧ (i : Int) * floorT p.pen (p.rel.getD 0 default) + p.wei * S ≤ s ∧ p.start + sumI p.inf i ≤ v + S + (i : Int) * p.rel.getD (p.rel.length - 1) default
  | 0, _, s, v, hs => by
    have e : (0, p.start) = (s, v) := Option.some.inj hs
    obtain ⟨e1, e2⟩ := Prod.mk.inj e
    subst e1 e2
    exact ⟨0, by omega, by simp, by simp [sumI]⟩
  | i + 1, hi, s, v, hs => by
    obtain ⟨⟨s0, v0⟩, h0⟩ := path_some (i + 1) hs i (by omega)
    obtain ⟨S, hS, h1, h2⟩ := sch_bound hp h i (by omega) h0
    rw [path_next h0] at hs
    split at hs
    · next hpo =>
      have e := Option.some.inj hs
      obtain ⟨e1, e2⟩ := Prod.mk.inj e
      obtain ⟨j, hj, ej⟩ := h.2 i (by rw [h.1]; omega)
      have hin := planB_in hp
      have hv0 := path_inC hp i h0
      have hc := cost_in hp (by omega : i < p.inf.length) (v := v0) (by omega) hj
      have hR1 : p.rel.getD 0 default ≤ p.rel.getD j default := by
        by_cases e : j = 0
        · rw [e]; exact Int.le_refl _
        · have := rel_asc hp (show 0 < j by omega) hj; omega
      have hR2 : p.rel.getD j default ≤ p.rel.getD (p.rel.length - 1) default := by
        by_cases e : j = p.rel.length - 1
        · rw [e]; exact Int.le_refl _
        · have := rel_asc hp (show j < p.rel.length - 1 by omega) (by omega); omega
      have hF := floorT_mono hin.2.2.2.2.2.2.1 hR1
      rw [← ej] at e1 e2
      unfold costI at e1
      have hl : leftI p i v0 (p.rel.getD j default) = v0 + p.inf.getD i default - p.rel.getD j default := rfl
      have hw := hin.2.2.2.2.2.1
      generalize aftI p i v0 (p.rel.getD j default) = A at *
      generalize leftI p i v0 (p.rel.getD j default) = L at *
      generalize floorT p.pen (p.rel.getD j default) = FJ at *
      generalize floorT p.pen (p.rel.getD 0 default) = F0 at *
      generalize p.rel.getD j default = RJ at *
      generalize p.rel.getD (p.rel.length - 1) default = RM at *
      refine ⟨S + (L - A), by omega, ?_, ?_⟩
      · rw [Int.mul_add, show ((i + 1 : Nat) : Int) = (i : Int) + 1 from rfl, Int.add_mul, Int.one_mul]
        omega
      · rw [sumI, show ((i + 1 : Nat) : Int) = (i : Int) + 1 from rfl, Int.add_mul, Int.one_mul]
        omega
    · cases hs
theorem relP_le {p : Plan} (hp : planB p = true) {c : Int} (h : vO p p.inf.length p.start = some c) : relP p ≤ c := by
  obtain ⟨S, h1, h2, h3⟩ := sch_bound hp (goV_sch h) p.inf.length (Nat.le_refl _) (goV_cost h)
  have hv := path_inC hp _ (goV_cost h)
  have hw := (planB_in hp).2.2.2.2.2.1
  unfold relP
  have := Int.mul_le_mul_of_nonneg_left (show max 0 (p.start - p.cap - (p.inf.length : Int) * p.rel.getD (p.rel.length - 1) default + sumI p.inf p.inf.length) ≤ S by omega) hw.1
  omega
theorem relP_nn {p : Plan} (hp : planB p = true) : 0 ≤ relP p := by
  have hin := planB_in hp
  have hF := hin.2.2.2.2.2.2.2.2.2 (p.rel.getD 0 default)
  have a := Int.mul_nonneg (show (0 : Int) ≤ (p.inf.length : Int) by omega) hF.1
  have b := Int.mul_nonneg hin.2.2.2.2.2.1.1 (show 0 ≤ max 0 (p.start - p.cap - (p.inf.length : Int) * p.rel.getD (p.rel.length - 1) default + sumI p.inf p.inf.length) by omega)
  unfold relP
  omega
theorem goM_sch {p : Plan} : ∀ i, i ≤ p.inf.length → ∀ {s v : Int} {l : List Int}, goM p i = some (s, l, v) → l.length = i ∧ (∀ k, k < i → ∃ j, j < p.rel.length ∧ p.rel.getD j default = l.getD k default) ∧ ∀ rs : List Int, (∀ k, k < i → rs.getD k default = l.getD k default) → pathC p rs i = some (s, v)
  | 0, _, s, v, l, h => by
    simp only [goM, Option.some.injEq, Prod.mk.injEq] at h
    obtain ⟨rfl, rfl, rfl⟩ := h
    exact ⟨rfl, fun k hk => by omega, fun rs _ => rfl⟩
  | i + 1, hi, s, v, l, h => by
    cases h0 : goM p i with
    | none => rw [goM, h0] at h; cases h
    | some a =>
      obtain ⟨s0, l0, v0⟩ := a
      obtain ⟨h1, h2, h3⟩ := goM_sch i (by omega) h0
      rw [goM_next h0] at h
      cases hb : bestO p i v0 zO with
      | none => rw [hb] at h; cases h
      | some b =>
        obtain ⟨k, c⟩ := b
        rw [hb] at h
        obtain ⟨k1, k2, x, k3, k4⟩ := bestU_some _ hb
        simp only [Option.some.injEq, Prod.mk.injEq] at h
        obtain ⟨rfl, rfl, rfl⟩ := h
        have hx : x = 0 := (Option.some.inj k3).symm
        have hlast : (l0 ++ [p.rel.getD k default]).getD i default = p.rel.getD k default := by
          rw [List.getD_eq_getElem?_getD, List.getElem?_append_right (by omega), h1, Nat.sub_self]; rfl
        have hpre : ∀ n, n < i → (l0 ++ [p.rel.getD k default]).getD n default = l0.getD n default := fun n hn => by
          rw [List.getD_eq_getElem?_getD, List.getElem?_append_left (by omega), ← List.getD_eq_getElem?_getD]
        refine ⟨by simp [h1], fun n hn => ?_, fun rs hrs => ?_⟩
        · by_cases e : n = i
          · subst e; exact ⟨k, k1, hlast.symm⟩
          · rw [hpre n (by omega)]; exact h2 n (by omega)
        · have h4 := h3 rs fun n hn => by rw [hrs n (by omega), hpre n hn]
          rw [path_next h4, hrs i (by omega), hlast, if_pos k2, k4, hx, Int.add_zero]
theorem myo_ge {p : Plan} {s v : Int} {l : List Int} (h : goM p p.inf.length = some (s, l, v)) : ∃ x, vO p p.inf.length p.start = some x ∧ x ≤ s := by
  obtain ⟨h1, h2, h3⟩ := goM_sch _ (Nat.le_refl _) h
  exact sch_ge (rs := l) ⟨h1, fun i hi => h2 i (by omega)⟩ (h3 l fun _ _ => rfl)
def capP (p : Plan) (z : Int) : Plan := { p with cap := p.cap + z }
def resP (p : Plan) (z : Int) : Plan := { p with res := if 0 < p.res - z then p.res - z else 0 }
theorem cap_path {p : Plan} {z : Int} (hz : 0 ≤ z) {rs : List Int} : ∀ i {s v : Int}, pathC p rs i = some (s, v) → ∃ D, 0 ≤ D ∧ pathC (capP p z) rs i = some (s - p.wei * D, v + D)
  | 0, s, v, h => by
    have e : (0, p.start) = (s, v) := Option.some.inj h
    obtain ⟨e1, e2⟩ := Prod.mk.inj e
    subst e1 e2
    refine ⟨0, by omega, ?_⟩
    rw [Int.mul_zero]; simp [pathC, capP]
  | i + 1, s, v, h => by
    obtain ⟨⟨s0, v0⟩, h0⟩ := path_some (i + 1) h i (by omega)
    obtain ⟨D, hD, h1⟩ := cap_path hz i h0
    rw [path_next h0] at h
    rw [path_next h1]
    split at h
    · next hpo =>
      have e := Option.some.inj h
      obtain ⟨e1, e2⟩ := Prod.mk.inj e
      have hl : leftI (capP p z) i (v0 + D) (rs.getD i default) = leftI p i v0 (rs.getD i default) + D := by unfold leftI capP; dsimp only; omega
      have hpo2 : possB (capP p z) i (v0 + D) (rs.getD i default) = true := by
        unfold possB at hpo ⊢
        rw [hl]
        have := of_decide_eq_true hpo
        exact decide_eq_true (by show p.res ≤ _; omega)
      rw [if_pos hpo2]
      have ha : aftI (capP p z) i (v0 + D) (rs.getD i default) = if p.cap + z < leftI p i v0 (rs.getD i default) + D then p.cap + z else leftI p i v0 (rs.getD i default) + D := by
        unfold aftI; rw [hl]; rfl
      have hc : costI (capP p z) i (v0 + D) (rs.getD i default) = floorT p.pen (rs.getD i default) + p.wei * (leftI p i v0 (rs.getD i default) + D - aftI (capP p z) i (v0 + D) (rs.getD i default)) := by
        unfold costI; rw [hl]; rfl
      rw [hc]
      unfold costI at e1
      have hge : aftI p i v0 (rs.getD i default) ≤ aftI (capP p z) i (v0 + D) (rs.getD i default) := by
        rw [ha]; unfold aftI; split <;> split <;> omega
      generalize aftI (capP p z) i (v0 + D) (rs.getD i default) = A2 at *
      generalize aftI p i v0 (rs.getD i default) = A at *
      generalize leftI p i v0 (rs.getD i default) = L at *
      generalize floorT p.pen (rs.getD i default) = F at *
      refine ⟨A2 - A, by omega, ?_⟩
      congr 1
      refine Prod.ext ?_ (by show A2 = v + (A2 - A); omega)
      show s0 - p.wei * D + (F + p.wei * (L + D - A2)) = s - p.wei * (A2 - A)
      rw [← e1, show L + D - A2 = L - A + D - (A2 - A) by omega, Int.mul_sub, Int.mul_add]
      omega
    · cases h
theorem cap_le {p : Plan} {z : Int} (hz : 0 ≤ z) (hp : planB p = true) {c : Int} (h : vO p p.inf.length p.start = some c) : ∃ d, vO (capP p z) (capP p z).inf.length (capP p z).start = some d ∧ d ≤ c := by
  obtain ⟨D, hD, hq⟩ := cap_path hz _ (goV_cost h)
  obtain ⟨x, h1, h2⟩ := sch_ge (p := capP p z) (rs := (goV p p.inf.length).1) (goV_sch h) hq
  have := Int.mul_nonneg (planB_in hp).2.2.2.2.2.1.1 hD
  exact ⟨x, h1, by omega⟩
theorem res_path {p : Plan} {z : Int} (hz : 0 ≤ z) (hr : 0 ≤ p.res) {rs : List Int} : ∀ i {s v : Int}, pathC p rs i = some (s, v) → pathC (resP p z) rs i = some (s, v)
  | 0, s, v, h => h
  | i + 1, s, v, h => by
    obtain ⟨⟨s0, v0⟩, h0⟩ := path_some (i + 1) h i (by omega)
    have h1 := res_path hz hr i h0
    rw [path_next h0] at h
    rw [path_next h1]
    split at h
    · next hpo =>
      have hpo2 : possB (resP p z) i v0 (rs.getD i default) = true := by
        unfold possB at hpo ⊢
        have := of_decide_eq_true hpo
        refine decide_eq_true ?_
        show (if 0 < p.res - z then p.res - z else 0) ≤ leftI p i v0 (rs.getD i default)
        split <;> omega
      rw [if_pos hpo2]
      exact h
    · cases h
theorem res_le {p : Plan} {z : Int} (hz : 0 ≤ z) (hp : planB p = true) {c : Int} (h : vO p p.inf.length p.start = some c) : ∃ d, vO (resP p z) (resP p z).inf.length (resP p z).start = some d ∧ d ≤ c :=
  sch_ge (p := resP p z) (rs := (goV p p.inf.length).1) (goV_sch h) (res_path hz (planB_in hp).2.1.1 _ (goV_cost h))
theorem res_ok {p : Plan} {z : Int} (hz : 0 ≤ z) (hp : planB p = true) : planB (resP p z) = true := by
  have hin := planB_in hp
  unfold planB at hp ⊢
  simp only [Bool.and_eq_true] at hp ⊢
  refine ⟨⟨⟨?_, hp.1.1.2⟩, hp.1.2⟩, hp.2⟩
  have h := hp.1.1.1
  unfold headB at h ⊢
  simp only [Bool.and_eq_true, decide_eq_true_eq] at h ⊢
  obtain ⟨⟨⟨⟨⟨⟨h1, h2⟩, h3⟩, h4⟩, h5⟩, h6⟩, h7⟩ := h
  have e : (resP p z).res = if 0 < p.res - z then p.res - z else 0 := rfl
  refine ⟨⟨⟨⟨⟨⟨h1, ?_⟩, ?_⟩, h4⟩, h5⟩, h6⟩, h7⟩
  · rw [e]; show _ ∧ _ ≤ p.cap; split <;> omega
  · rw [e]; show _ ≤ p.start ∧ p.start ≤ p.cap; split <;> omega
theorem few_lens {p : Plan} (hf : fewS p = true) (hp : planB p = true) : p.inf.length ≤ 8 ∧ p.rel.length ≤ 5 := by
  have hin := planB_in hp
  unfold fewS at hf
  simp only [Bool.and_eq_true, Bool.or_eq_true, decide_eq_true_eq] at hf
  omega
theorem solR_few {p : Plan} (hf : fewS p = true) (hp : planB p = true) : solR p = match vO p p.inf.length p.start with
    | none => (0, [], 12)
    | some c => (c, (goV p p.inf.length).1, 0) := by
  have hl := few_lens hf hp
  unfold solR
  rw [if_neg (by rw [hp]; decide), if_neg (by rw [few_all hl.2 hl.1]; decide)]
  cases vO p p.inf.length p.start <;> rfl
def pairI (f : Int → Option Int) (row : List Int) (i : Nat) : List Int := (row.take i).flatMap fun z => [z, (f z).getD (-1)]
theorem pairI_next (f : Int → Option Int) {row : List Int} {i : Nat} (h : i < row.length) : pairI f row (i + 1) = pairI f row i ++ [row.getD i default, (f (row.getD i default)).getD (-1)] := by
  unfold pairI
  rw [take_snoc h, List.flatMap_append]; simp
theorem pairI_len (f : Int → Option Int) {row : List Int} : ∀ i, i ≤ row.length → (pairI f row i).length = 2 * i
  | 0, _ => by simp [pairI]
  | i + 1, h => by rw [pairI_next f (by omega), List.length_append, pairI_len f i (by omega)]; simp; omega
def lineV (p : Plan) (j : Nat) : List Int := pairI (vO p (p.inf.length - j)) (rowI p 0 p.start j) (rowI p 0 p.start j).length
def valuesR (p : Plan) : List (List Int) × Int :=
  if planB p = false then ([], 1) else if fewA p 0 p.start p.inf.length = false then ([], 6) else ((List.range (p.inf.length + 1)).map (lineV p), 0)
def bestP (p : Plan) (s v : Int) : Int × Int :=
  if planB p = false then (0, 1) else if ¬ ((0 ≤ s ∧ s ≤ (p.inf.length : Int) - 1) ∧ p.res ≤ v ∧ v ≤ p.cap) then (0, 2)
  else if fewA p s.toNat v (p.inf.length - s.toNat) = false then (0, 6)
  else match bestO p s.toNat v (vO p (p.inf.length - (s.toNat + 1))) with
    | none => (0, 12)
    | some a => (p.rel.getD a.1 default, 0)
theorem app_ilp (l : List (List Int)) (r : List Int) : rows ilRow l ++ [[.p (.dat 1 (r.map inRow))]] = rows ilRow (l ++ [r]) := by simp [rows, ilRow]
theorem app_in2 (l : List Int) (v c : Int) : rows inRow l ++ [[.p (.lit (.int .i64 v))], [.p (.lit (.int .i64 c))]] = rows inRow (l ++ [v, c]) := by simp [rows, inRow]
attribute [push_cast] app_in2
set_option maxRecDepth 20000 in
set_option maxHeartbeats 16000000 in
theorem values45_f (p : Plan) (m : Nat) (hq : planOk p) : DCalls Try.prog 22 [planD p] (hget []) m (.tup [.p (.dat 1 ((valuesR p).1.map ilRow)), li (valuesR p).2]) (hget []) := by
  cases hp : planB p
  · rw [show valuesR p = ([], 1) by unfold valuesR; rw [if_pos hp]]
    have ct := fun m => tank_no p m hq hp
    refine pureC (n := 71) (rs := [.tmp 2, .tmp 3]) (ts := [39, 29]) Try.func22 rfl (by decide) [] (by (exact SD)) ?_
    (repeat' (first | refine swp_seq [0, 1, 2, 3, 4, 5, 6, 7, 8, 9, 10, 11, 13, 14, 15, 22, 31, 35, 36, 37, 38, 42, 43, 44, 45, 58] ?_ | refine st2 ?_ | (show CallQ ..; first | refine cQ (fun hcc => (by first | exact ct _)) ?_ | (refine lP ?_; refine lQ (fun hcc m => (by first | exact ct _)) ?_)) | (show Fct ..; refine fctI (fun hf => ?_)) | (show SWp _ _ _ (.cond _ _ _) _ _ _ _; first | refine cB (fun hc => ?_) (fun hc => ?_) | refine cU ?_ ?_)))
    exact DVR
  unfold valuesR
  rw [if_neg (by rw [hp]; decide)]
  have hin := planB_in hp
  have ct := fun m => tank_f p m hq hp
  have cr := fun m => reach_f p 0 p.start m hp (by omega) hin.2.2.1
  have hrr : reachR p 0 p.start = if fewA p 0 p.start p.inf.length then (rowsN p 0 p.start p.inf.length, true) else ([], false) := rfl
  rw [hrr] at cr
  clear hrr
  cases hf : fewA p 0 p.start p.inf.length
  · rw [if_pos rfl]
    simp only [hf, Bool.false_eq_true, if_false] at cr
    refine pureC (n := 71) (rs := [.tmp 2, .tmp 3]) (ts := [39, 29]) Try.func22 rfl (by decide) [] (by (exact SD)) ?_
    (repeat' (first | refine swp_seq [0, 1, 2, 3, 4, 5, 6, 7, 8, 9, 10, 11, 13, 14, 15, 22, 31, 35, 36, 37, 38, 42, 43, 44, 45, 58] ?_ | refine st2 ?_ | (show CallQ ..; first | refine cQ (fun hcc => (by first | exact ct _)) ?_ | (refine lP ?_; refine lQ (fun hcc m => (by first | exact ct _)) ?_)) | (show Fct ..; refine fctI (fun hf => ?_)) | (show SWp _ _ _ (.cond _ _ _) _ _ _ _; first | refine cB (fun hc => ?_) (fun hc => ?_) | refine cU ?_ ?_)))
    (refine cQT [32] (fun hcc => (cr _)) ?_)
    (repeat' (first | refine swp_seq [0, 1, 2, 3, 4, 5, 6, 7, 8, 9, 10, 11, 13, 14, 15, 22, 31, 35, 36, 37, 38, 42, 43, 44, 45, 58] ?_ | refine st2 ?_ | (show Fct ..; refine fctI (fun hf => ?_)) | (show SWp _ _ _ (.cond _ _ _) _ _ _ _; first | refine cB (fun hc => ?_) (fun hc => ?_) | refine cU ?_ ?_)))
    exact DVR
  rw [if_neg (by decide)]
  simp only [hf, if_true] at cr
  have cv := fun m => val_f p 0 p.start p.inf.length m hp (by omega) hin.2.2.1 hf
  have hxl := valsX_len p 0 p.start p.inf.length
  have hxg := fun i => @valsX_get p 0 p.start p.inf.length i
  have hrl := rowsN_len p 0 p.start p.inf.length
  have hrg := rowsN_get p 0 p.start p.inf.length
  have hlk : ∀ j, j ≤ p.inf.length → ∀ z, z ∈ rowI p 0 p.start j → (valsD p 0 (rowsN p 0 p.start p.inf.length) (p.inf.length - j)).lookup z = vO p (p.inf.length - j) z := fun j hj z hz => by
    rw [valsD_look (s := 0) (v := p.start) (N := p.inf.length) (by omega) _ (by omega), show p.inf.length - (p.inf.length - j) = j by omega, if_pos hz]
  have hfl : ∀ j, j ≤ p.inf.length → (rowI p 0 p.start j).length ≤ 4000 := fun j hj => rowI_len (n := j) (by
    unfold fewA at hf ⊢
    rw [List.all_eq_true] at hf ⊢
    intro x hx
    exact hf x (List.mem_range.2 (by have := List.mem_range.1 hx; omega)))
  have hil := hin.2.2.2.1
  generalize rowsN p 0 p.start p.inf.length = RS at *
  generalize valsX p 0 p.start p.inf.length = XS at *
  have hxr : ∀ j, j < p.inf.length + 1 → RS.getD j default = rowI p 0 p.start j := fun j hj => hrg j (by omega)
  have hvx : ∀ j, j < p.inf.length + 1 → ∀ z, z ∈ rowI p 0 p.start j → hasI (XS.getD j default) z = (vO p (p.inf.length - j) z).isSome ∧ valI (XS.getD j default) z = (vO p (p.inf.length - j) z).getD 0 := fun j hj z hz => by
    rw [hasI_eq, valI_eq, hxg j hj, hlk j (by omega) z hz]; exact ⟨rfl, rfl⟩
  clear hxg hlk hrg
  refine pureC (n := 71) (rs := [.tmp 2, .tmp 3]) (ts := [39, 29]) Try.func22 rfl (by decide) [248] (by (exact SD)) ?_
  (repeat' (first | refine swp_seq [0, 1, 2, 3, 4, 5, 6, 7, 8, 9, 10, 11, 13, 14, 15, 22, 31, 35, 36, 37, 38, 42, 43, 44, 45, 58] ?_ | refine st2 ?_ | (show CallQ ..; first | refine cQ (fun hcc => (by first | exact ct _)) ?_ | (refine lP ?_; refine lQ (fun hcc m => (by first | exact ct _)) ?_)) | (show Fct ..; refine fctI (fun hf => ?_)) | (show SWp _ _ _ (.cond _ _ _) _ _ _ _; first | refine cB (fun hc => ?_) (fun hc => ?_) | refine cU ?_ ?_)))
  (refine cQT [32] (fun hcc => (cr _)) ?_)
  (repeat' (first | refine swp_seq [0, 1, 2, 3, 4, 5, 6, 7, 8, 9, 10, 11, 13, 14, 15, 22, 31, 35, 36, 37, 38, 42, 43, 44, 45, 58] ?_ | refine st2 ?_ | (show Fct ..; refine fctI (fun hf => ?_)) | (show SWp _ _ _ (.cond _ _ _) _ _ _ _; first | refine cB (fun hc => ?_) (fun hc => ?_) | refine cU ?_ ?_)))
  (refine cQT [32] (fun hcc => (cv _)) ?_)
  (repeat' (first | refine swp_seq [0, 1, 2, 3, 4, 5, 6, 7, 8, 9, 10, 11, 13, 14, 15, 22, 31, 35, 36, 37, 38, 42, 43, 44, 45, 58] ?_ | refine st2 ?_ | (show Fct ..; refine fctI (fun hf => ?_)) | (show SWp _ _ _ (.cond _ _ _) _ _ _ _; first | refine cB (fun hc => ?_) (fun hc => ?_) | refine cU ?_ ?_)))
  (refine sN 8 22 1 ?_)
  refine loop_swp [6, 7, 8, 35, 36, 37] [0, 32, 248] 249 (fun q A H => ∃ (i : Nat), i ≤ p.inf.length + 1 ∧ q = p.inf.length + 1 - i ∧ A = [(6, .p (.dat 1 (RS.map ilRow))), (7, .p (.dat 1 (XS.map valRow))), (8, .gl 248), (35, .p (.dat 1 (RS.map ilRow))), (36, li RS.length), (37, li i)] ∧ H = [(0, .blk 26 (planC p)), (32, .blk 90 (tkC p (ints (p.rel.map (floorT p.pen))))), (248, .lst 22 1 (rows ilRow ((List.range i).map (lineV p))))]) (by omega) ?_ ?_ ?_
  · rintro q A H ⟨i, g1, g2, rfl, rfl⟩
    exact ⟨by (exact SD), by (exact SD)⟩
  · refine ⟨_, 0, by omega, rfl, ?_, ?_⟩
    · exact DVR
    · exact DVR
  rintro q A H ⟨i, g1, g2, rfl, rfl⟩
  by_cases hi : i < p.inf.length + 1
  · have hi2 : i < RS.length := by omega
    have hi3 : (i : Int) < (RS.length : Int) := by omega
    have hi4 : i < XS.length := by omega
    have hxi := hxr i hi
    have hvi := hvx i hi
    have hfi := hfl i (by omega)
    have hln : (List.range (i + 1)).map (lineV p) = (List.range i).map (lineV p) ++ [lineV p i] := by rw [List.range_succ, List.map_append]; rfl
    have hle : lineV p i = pairI (vO p (p.inf.length - i)) (rowI p 0 p.start i) (rowI p 0 p.start i).length := rfl
    have hpn := fun j => @pairI_next (vO p (p.inf.length - i)) (rowI p 0 p.start i) j
    have hpl := fun j => @pairI_len (vO p (p.inf.length - i)) (rowI p 0 p.start i) j
    generalize vO p (p.inf.length - i) = f at *
    generalize hLS : (List.range i).map (lineV p) = LS at *
    have hLl : LS.length = i := by rw [← hLS]; simp
    rw [← hxi] at hle hvi hfi hpn hpl
    (have := Nonempty.intro hi2)
    (have := Nonempty.intro hi3)
    (have := Nonempty.intro hi4)
    (repeat' (first | refine swp_seq [0, 1, 2, 3, 4, 5, 6, 7, 8, 9, 10, 11, 13, 14, 15, 22, 31, 35, 36, 37, 38, 42, 43, 44, 45, 58] ?_ | refine st2 ?_ | (show Fct ..; refine fctI (fun hf => ?_)) | (show SWp _ _ _ (.cond _ _ _) _ _ _ _; first | refine cB (fun hc => ?_) (fun hc => ?_) | refine cU ?_ ?_)))
    (refine sN 11 3 1 ?_)
    generalize RS.getD i default = row at *
    refine loop_swp [6, 7, 8, 9, 11, 35, 36, 37, 42, 43, 44] [0, 32, 248, 329] 330 (fun q A H => ∃ (j : Nat), j ≤ row.length ∧ q = row.length - j ∧ A = [(6, .p (.dat 1 (RS.map ilRow))), (7, .p (.dat 1 (XS.map valRow))), (8, .gl 248), (9, li i), (11, .gl 329), (35, .p (.dat 1 (RS.map ilRow))), (36, li RS.length), (37, li i), (42, ints row), (43, li row.length), (44, li j)] ∧ H = [(0, .blk 26 (planC p)), (32, .blk 90 (tkC p (ints (p.rel.map (floorT p.pen))))), (248, .lst 22 1 (rows ilRow LS)), (329, inLt (pairI f row j))]) (by omega) ?_ ?_ ?_
    · rintro q A H ⟨j, k1, k2, rfl, rfl⟩
      exact ⟨by (exact SD), by (exact SD)⟩
    · refine ⟨_, 0, by omega, rfl, ?_, ?_⟩
      · exact DVR
      · exact DVR
    rintro q A H ⟨j, k1, k2, rfl, rfl⟩
    by_cases hj : j < row.length
    · have hj3 : (j : Int) < (row.length : Int) := by omega
      have hpj := hpn j hj
      have hplj := hpl j (by omega)
      have hvj := hvi (row.getD j default) (getD_mem hj)
      generalize pairI f row j = PJ at *
      (have := Nonempty.intro hj)
      (have := Nonempty.intro hj3)
      cases hfj : f (row.getD j default) with
      | none =>
        rw [hfj] at hvj hpj
        have hh : hasI (XS.getD i default) (row.getD j default) = false := hvj.1
        have hpj : pairI f row (j + 1) = PJ ++ [row.getD j default, -1] := hpj
        (have := Nonempty.intro hh)
        (repeat' (first | refine swp_seq [0, 1, 2, 3, 4, 5, 6, 7, 8, 9, 10, 11, 13, 14, 15, 22, 31, 35, 36, 37, 38, 42, 43, 44, 45, 58] ?_ | refine st2 ?_ | (show Fct ..; refine fctI (fun hf => ?_)) | (show SWp _ _ _ (.cond _ _ _) _ _ _ _; first | refine cB (fun hc => ?_) (fun hc => ?_) | refine cU ?_ ?_)))
        rw [← hpj]
        (refine lN [0, 32, 248, 329] ?_)
        exact ⟨_, by omega, j + 1, by omega, rfl, rfl, rfl⟩
      | some c =>
        rw [hfj] at hvj hpj
        have hh : hasI (XS.getD i default) (row.getD j default) = true := hvj.1
        have hpj : pairI f row (j + 1) = PJ ++ [row.getD j default, valI (XS.getD i default) (row.getD j default)] := by rw [hvj.2]; exact hpj
        (have := Nonempty.intro hh)
        (repeat' (first | refine swp_seq [0, 1, 2, 3, 4, 5, 6, 7, 8, 9, 10, 11, 13, 14, 15, 22, 31, 35, 36, 37, 38, 42, 43, 44, 45, 58] ?_ | refine st2 ?_ | (show Fct ..; refine fctI (fun hf => ?_)) | (show SWp _ _ _ (.cond _ _ _) _ _ _ _; first | refine cB (fun hc => ?_) (fun hc => ?_) | refine cU ?_ ?_)))
        rw [← hpj]
        (refine lN [0, 32, 248, 329] ?_)
        exact ⟨_, by omega, j + 1, by omega, rfl, rfl, rfl⟩
    · obtain rfl : j = row.length := by omega
      have hj3 : ¬ (row.length : Int) < (row.length : Int) := by omega
      (have := Nonempty.intro hj3)
      rw [← hle]
      have hplj := hpl row.length (by omega)
      rw [← hle] at hplj
      generalize lineV p i = LV at *
      (repeat' (first | (show SWp _ _ _ (.region 21 _ _) _ _ _ _; refine (stop_in ?_)) | refine swp_seq [0, 1, 2, 3, 4, 5, 6, 7, 8, 9, 10, 11, 13, 14, 15, 22, 31, 35, 36, 37, 38, 42, 43, 44, 45, 58] ?_ | refine st2 ?_ | (show CallQ ..; first | refine cQ (fun hcc => (by fail)) ?_ | (refine lP ?_; refine lQ (fun hcc m => (by fail)) ?_)) | (show Fct ..; refine fctI (fun hf => ?_)) | (show SWp _ _ _ (.cond _ _ _) _ _ _ _; first | refine cB (fun hc => ?_) (fun hc => ?_) | refine cU ?_ ?_)))
      refine stop_out ?_
      (refine sF 329 ?_)
      (repeat' (first | refine swp_seq [0, 1, 2, 3, 4, 5, 6, 7, 8, 9, 10, 11, 13, 14, 15, 22, 31, 35, 36, 37, 38, 42, 43, 44, 45, 58] ?_ | refine st2 ?_ | (show Fct ..; refine fctI (fun hf => ?_)) | (show SWp _ _ _ (.cond _ _ _) _ _ _ _; first | refine cB (fun hc => ?_) (fun hc => ?_) | refine cU ?_ ?_)))
      rw [app_ilp, ← hln]
      (refine lN [0, 32, 248] ?_)
      exact ⟨_, by omega, i + 1, by omega, rfl, rfl, rfl⟩
  · obtain rfl : i = p.inf.length + 1 := by omega
    have hi3 : ¬ ((p.inf.length : Int) + 1 < (RS.length : Int)) := by omega
    (have := Nonempty.intro hi3)
    (repeat' (first | refine swp_seq [0, 1, 2, 3, 4, 5, 6, 7, 8, 9, 10, 11, 13, 14, 15, 22, 31, 35, 36, 37, 38, 42, 43, 44, 45, 58] ?_ | refine st2 ?_ | (show Fct ..; refine fctI (fun hf => ?_)) | (show SWp _ _ _ (.cond _ _ _) _ _ _ _; first | refine cB (fun hc => ?_) (fun hc => ?_) | refine cU ?_ ?_)))
    exact DVR
def lsI : Option (Nat × Int) → Int
  | none => -1
  | some a => a.2
theorem vO_ls (p : Plan) {t : Nat} (ht : t < p.inf.length) (z : Int) : (vO p (p.inf.length - t) z).getD (-1) = lsI (bestO p t z (vO p (p.inf.length - (t + 1)))) := by
  rw [show p.inf.length - t = (p.inf.length - (t + 1)) + 1 by omega, vO, show p.inf.length - (p.inf.length - (t + 1) + 1) = t by omega]
  cases bestO p t z (vO p (p.inf.length - (t + 1))) <;> rfl
theorem pairI_get (f : Int → Option Int) {row : List Int} : ∀ n, n ≤ row.length → ∀ j, j < n → (pairI f row n).getD (2 * j) default = row.getD j default ∧ (pairI f row n).getD (2 * j + 1) default = (f (row.getD j default)).getD (-1)
  | 0, _, j, h => by omega
  | n + 1, hn, j, h => by
    have hl := pairI_len f (row := row) n (by omega)
    rw [pairI_next f (show n < row.length by omega)]
    by_cases e : j = n
    · subst e
      constructor
      · rw [List.getD_eq_getElem?_getD, List.getElem?_append_right (by omega), hl, Nat.sub_self]; rfl
      · rw [List.getD_eq_getElem?_getD, List.getElem?_append_right (by omega), hl, show 2 * j + 1 - 2 * j = 1 by omega]; rfl
    · have ih := pairI_get f (row := row) n (by omega) j (by omega)
      constructor
      · rw [List.getD_eq_getElem?_getD, List.getElem?_append_left (by omega), ← List.getD_eq_getElem?_getD]; exact ih.1
      · rw [List.getD_eq_getElem?_getD, List.getElem?_append_left (by omega), ← List.getD_eq_getElem?_getD]; exact ih.2
def lineM (f : Int → Option Int) (row : List Int) (j : Nat) : List (Int × Int) := (List.range j).foldl (fun l i => insV l (row.getD i default) ((f (row.getD i default)).getD (-1))) []
theorem lineM_next (f : Int → Option Int) (row : List Int) (j : Nat) : lineM f row (j + 1) = insV (lineM f row j) (row.getD j default) ((f (row.getD j default)).getD (-1)) := by
  unfold lineM; rw [List.range_succ, List.foldl_append]; rfl
theorem lineM_look (f : Int → Option Int) (row : List Int) (z : Int) : ∀ j, j ≤ row.length → (lineM f row j).lookup z = if z ∈ row.take j then some ((f z).getD (-1)) else none
  | 0, _ => by simp [lineM]
  | j + 1, h => by
    rw [lineM_next, insV_look, lineM_look f row z j (by omega), take_snoc (by omega : j < row.length)]
    simp only [List.mem_append, List.mem_singleton]
    by_cases h1 : z = row.getD j default
    · rw [if_pos h1, if_pos (.inr h1), ← h1]
    · rw [if_neg h1]
      by_cases h2 : z ∈ row.take j
      · rw [if_pos h2, if_pos (.inl h2)]
      · rw [if_neg h2, if_neg (fun h => h.elim h2 h1)]
def oneP (p : Plan) (t : Nat) (z : Int) : Plan := { p with start := z, inf := [p.inf.getD t default] }
theorem oneP_ok {p : Plan} (hp : planB p = true) {t : Nat} (ht : t < p.inf.length) {z : Int} (hz : p.res ≤ z ∧ z ≤ p.cap) : planB (oneP p t z) = true := by
  have hii := (planB_in hp).2.2.2.2.2.2.2.1 t ht
  unfold planB at hp ⊢
  simp only [Bool.and_eq_true] at hp ⊢
  refine ⟨⟨⟨?_, ?_⟩, hp.1.2⟩, hp.2⟩
  · have h := hp.1.1.1
    unfold headB at h ⊢
    simp only [Bool.and_eq_true, decide_eq_true_eq] at h ⊢
    obtain ⟨⟨⟨⟨⟨⟨h1, h2⟩, h3⟩, h4⟩, h5⟩, h6⟩, h7⟩ := h
    exact ⟨⟨⟨⟨⟨⟨h1, h2⟩, hz⟩, by show 1 ≤ 200; decide⟩, h5⟩, h6⟩, h7⟩
  · rw [List.all_eq_true]
    intro i hi
    have hi := List.mem_range.1 hi
    obtain rfl : i = 0 := by
      have : (oneP p t z).inf.length = 1 := rfl
      omega
    show volP (p.inf.getD t default) = true
    unfold volP
    simp only [Bool.and_eq_true, decide_eq_true_eq]
    exact hii
theorem oneP_cost {p : Plan} (hp : planB p = true) {t : Nat} (ht : t < p.inf.length) {z : Int} (hz : p.res ≤ z ∧ z ≤ p.cap) {i : Nat} (hi : i < p.rel.length) :
    costR (oneP p t z) [p.rel.getD i default] = if possB p t z (p.rel.getD i default) = true then (costI p t z (p.rel.getD i default), [aftI p t z (p.rel.getD i default)], 0) else (0, [], 27) := by
  have hs : schB (oneP p t z) [p.rel.getD i default] := ⟨rfl, fun k hk => by
    obtain rfl : k = 0 := by simpa using hk
    exact ⟨i, hi, rfl⟩⟩
  rw [costR_sch (oneP_ok hp ht hz) hs]
  have h0 : pathC (oneP p t z) [p.rel.getD i default] 0 = some (0, z) := rfl
  have h1 := path_next h0
  have e1 : possB (oneP p t z) 0 z ([p.rel.getD i default].getD 0 default) = possB p t z (p.rel.getD i default) := rfl
  have e2 : aftI (oneP p t z) 0 z ([p.rel.getD i default].getD 0 default) = aftI p t z (p.rel.getD i default) := rfl
  have e3 : costI (oneP p t z) 0 z ([p.rel.getD i default].getD 0 default) = costI p t z (p.rel.getD i default) := rfl
  rw [e1, e2, e3] at h1
  show (match pathC (oneP p t z) [p.rel.getD i default] (0 + 1) with
    | none => ((0 : Int), ([] : List Int), (27 : Int))
    | some a => (a.1, volsC (oneP p t z) [p.rel.getD i default] (0 + 1), 0)) = _
  cases hpo : possB p t z (p.rel.getD i default)
  · rw [hpo, if_neg (by decide)] at h1
    rw [h1, if_neg (by decide)]
  · rw [hpo, if_pos rfl] at h1
    rw [h1, if_pos rfl, vols_next h1, Int.zero_add]; rfl
theorem idx_sub2 {α : Type} [Inhabited α] (f : α → List PV) (l : List α) (k : Nat) [h : Nonempty (k - 2 < l.length)] : idx (l.map f) ((k : Int) - 2) = f (l.getD (k - 2) default) := by
  have h2 := h.elim id
  rw [idx_mapT f l ((k : Int) - 2) (by omega), show ((k : Int) - 2).toNat = k - 2 by omega]
theorem nz_and {p q : Prop} [Decidable p] [Decidable q] [h : Nonempty (¬ (p ∧ q))] : (decide p && decide q) = false := by
  have := h.elim id
  rw [Bool.and_eq_false_iff, decide_eq_false_iff_not, decide_eq_false_iff_not]
  exact Classical.not_and_iff_not_or_not.1 this
theorem nz_en {a b c d : Int} [h : Nonempty (¬ (a = b ∧ ¬ c = d))] : (a == b && c != d) = false := by
  have := h.elim id
  rw [Bool.and_eq_false_iff, beq_eq_false_iff_ne, bne_eq_false_iff_eq]
  omega
theorem nz_nn {a b c d : Int} [h : Nonempty (¬ (¬ a = b ∧ ¬ c = d))] : (a != b && c != d) = false := by
  have := h.elim id
  rw [Bool.and_eq_false_iff, bne_eq_false_iff_eq, bne_eq_false_iff_eq]
  omega
theorem drop_at45 {l : List Int} {i : Nat} (h : i < l.length) : l.drop i = l.getD i default :: l.drop (i + 1) := by
  rw [List.drop_eq_getElem_cons h, List.getD_eq_getElem?_getD, List.getElem?_eq_getElem h]; rfl
attribute [push_cast] idx_sub2 nz_and nz_en nz_nn

end Go.Proofs.Ytedocinehadodaa
