/-
  Contracts of functions of the program, over the engine.
  No condition.
-/
import Derived.Test.YtedocinehadodaaCT2ELU1C18C18U
import Derived.Test.YtedocinehadodaaCFMQ7P13P14
namespace Go.Proofs.Ytedocinehadodaa
open Go.Eng
set_option linter.all false
attribute [local irreducible] DCallsG SWp Fct CallQ XCallQ LCallQ XLCallQ drun xrun

theorem sch_bound {p : Plan} (hp : planB p = true) {rs : List Int} (h : schB p rs) : ∀ i, i ≤ p.inf.length → ∀ {s v : Int}, pathC p rs i = some (s, v) →
    ∃ S, 0 ≤ S ∧ (i : Int) * floorT p.pen (p.rel.getD 0 default) + p.wei * S ≤ s ∧ p.start + sumI p.inf i ≤ v + S + (i : Int) * p.rel.getD (p.rel.length - 1) default
  | 0, _, s, v, hs => by
    have e : (0, p.start) = (s, v) := Option.some.inj hs
    obtain ⟨e1, e2⟩ := Prod.mk.inj e
    subst e1 e2
    exact ⟨0, by omega, by simp, by simp [sumI]⟩
  | i + 1, hi, s, v, hs => by
    obtain ⟨⟨s0, v0⟩, h0⟩ := path_some (i + 1) hs i (by omega)
    obtain ⟨S, hS, h1, h2⟩ := sch_bound hp h i (by omega) h0
    rw [path_next h0] at hs
    split at hs
    · next hpo =>
      have e := Option.some.inj hs
      obtain ⟨e1, e2⟩ := Prod.mk.inj e
      obtain ⟨j, hj, ej⟩ := h.2 i (by rw [h.1]; omega)
      have hin := planB_in hp
      have hv0 := path_inC hp i h0
      have hc := cost_in hp (by omega : i < p.inf.length) (v := v0) (by omega) hj
      have hR1 : p.rel.getD 0 default ≤ p.rel.getD j default := by
        by_cases e : j = 0
        · rw [e]; exact Int.le_refl _
        · have := rel_asc hp (show 0 < j by omega) hj; omega
      have hR2 : p.rel.getD j default ≤ p.rel.getD (p.rel.length - 1) default := by
        by_cases e : j = p.rel.length - 1
        · rw [e]; exact Int.le_refl _
        · have := rel_asc hp (show j < p.rel.length - 1 by omega) (by omega); omega
      have hF := floorT_mono hin.2.2.2.2.2.2.1 hR1
      rw [← ej] at e1 e2
      unfold costI at e1
      have hl : leftI p i v0 (p.rel.getD j default) = v0 + p.inf.getD i default - p.rel.getD j default := rfl
      have hw := hin.2.2.2.2.2.1
      generalize aftI p i v0 (p.rel.getD j default) = A at *
      generalize leftI p i v0 (p.rel.getD j default) = L at *
      generalize floorT p.pen (p.rel.getD j default) = FJ at *
      generalize floorT p.pen (p.rel.getD 0 default) = F0 at *
      generalize p.rel.getD j default = RJ at *
      generalize p.rel.getD (p.rel.length - 1) default = RM at *
      refine ⟨S + (L - A), by omega, ?_, ?_⟩
      · rw [Int.mul_add, show ((i + 1 : Nat) : Int) = (i : Int) + 1 from rfl, Int.add_mul, Int.one_mul]
        omega
      · rw [sumI, show ((i + 1 : Nat) : Int) = (i : Int) + 1 from rfl, Int.add_mul, Int.one_mul]
        omega
    · cases hs
theorem relP_le {p : Plan} (hp : planB p = true) {c : Int} (h : vO p p.inf.length p.start = some c) : relP p ≤ c := by
  obtain ⟨S, h1, h2, h3⟩ := sch_bound hp (goV_sch h) p.inf.length (Nat.le_refl _) (goV_cost h)
  have hv := path_inC hp _ (goV_cost h)
  have hw := (planB_in hp).2.2.2.2.2.1
  unfold relP
  have := Int.mul_le_mul_of_nonneg_left (show max 0 (p.start - p.cap - (p.inf.length : Int) * p.rel.getD (p.rel.length - 1) default + sumI p.inf p.inf.length) ≤ S by omega) hw.1
  omega
theorem relP_nn {p : Plan} (hp : planB p = true) : 0 ≤ relP p := by
  have hin := planB_in hp
  have hF := hin.2.2.2.2.2.2.2.2.2 (p.rel.getD 0 default)
  have a := Int.mul_nonneg (show (0 : Int) ≤ (p.inf.length : Int) by omega) hF.1
  have b := Int.mul_nonneg hin.2.2.2.2.2.1.1 (show 0 ≤ max 0 (p.start - p.cap - (p.inf.length : Int) * p.rel.getD (p.rel.length - 1) default + sumI p.inf p.inf.length) by omega)
  unfold relP
  omega
theorem goM_sch {p : Plan} : ∀ i, i ≤ p.inf.length → ∀ {s v : Int} {l : List Int}, goM p i = some (s, l, v) → l.length = i ∧ (∀ k, k < i → ∃ j, j < p.rel.length ∧ p.rel.getD j default = l.getD k default) ∧ ∀ rs : List Int, (∀ k, k < i → rs.getD k default = l.getD k default) → pathC p rs i = some (s, v)
  | 0, _, s, v, l, h => by
    simp only [goM, Option.some.injEq, Prod.mk.injEq] at h
    obtain ⟨rfl, rfl, rfl⟩ := h
    exact ⟨rfl, fun k hk => by omega, fun rs _ => rfl⟩
  | i + 1, hi, s, v, l, h => by
    cases h0 : goM p i with
    | none => rw [goM, h0] at h; cases h
    | some a =>
      obtain ⟨s0, l0, v0⟩ := a
      obtain ⟨h1, h2, h3⟩ := goM_sch i (by omega) h0
      rw [goM_next h0] at h
      cases hb : bestO p i v0 zO with
      | none => rw [hb] at h; cases h
      | some b =>
        obtain ⟨k, c⟩ := b
        rw [hb] at h
        obtain ⟨k1, k2, x, k3, k4⟩ := bestU_some _ hb
        simp only [Option.some.injEq, Prod.mk.injEq] at h
        obtain ⟨rfl, rfl, rfl⟩ := h
        have hx : x = 0 := (Option.some.inj k3).symm
        have hlast : (l0 ++ [p.rel.getD k default]).getD i default = p.rel.getD k default := by
          rw [List.getD_eq_getElem?_getD, List.getElem?_append_right (by omega), h1, Nat.sub_self]; rfl
        have hpre : ∀ n, n < i → (l0 ++ [p.rel.getD k default]).getD n default = l0.getD n default := fun n hn => by
          rw [List.getD_eq_getElem?_getD, List.getElem?_append_left (by omega), ← List.getD_eq_getElem?_getD]
        refine ⟨by simp [h1], fun n hn => ?_, fun rs hrs => ?_⟩
        · by_cases e : n = i
          · subst e; exact ⟨k, k1, hlast.symm⟩
          · rw [hpre n (by omega)]; exact h2 n (by omega)
        · have h4 := h3 rs fun n hn => by rw [hrs n (by omega), hpre n hn]
          rw [path_next h4, hrs i (by omega), hlast, if_pos k2, k4, hx, Int.add_zero]
theorem myo_ge {p : Plan} {s v : Int} {l : List Int} (h : goM p p.inf.length = some (s, l, v)) : ∃ x, vO p p.inf.length p.start = some x ∧ x ≤ s := by
  obtain ⟨h1, h2, h3⟩ := goM_sch _ (Nat.le_refl _) h
  exact sch_ge (rs := l) ⟨h1, fun i hi => h2 i (by omega)⟩ (h3 l fun _ _ => rfl)
def capP (p : Plan) (z : Int) : Plan := { p with cap := p.cap + z }
def resP (p : Plan) (z : Int) : Plan := { p with res := if 0 < p.res - z then p.res - z else 0 }
theorem cap_path {p : Plan} {z : Int} (hz : 0 ≤ z) {rs : List Int} : ∀ i {s v : Int}, pathC p rs i = some (s, v) → ∃ D, 0 ≤ D ∧ pathC (capP p z) rs i = some (s - p.wei * D, v + D)
  | 0, s, v, h => by
    have e : (0, p.start) = (s, v) := Option.some.inj h
    obtain ⟨e1, e2⟩ := Prod.mk.inj e
    subst e1 e2
    refine ⟨0, by omega, ?_⟩
    rw [Int.mul_zero]; simp [pathC, capP]
  | i + 1, s, v, h => by
    obtain ⟨⟨s0, v0⟩, h0⟩ := path_some (i + 1) h i (by omega)
    obtain ⟨D, hD, h1⟩ := cap_path hz i h0
    rw [path_next h0] at h
    rw [path_next h1]
    split at h
    · next hpo =>
      have e := Option.some.inj h
      obtain ⟨e1, e2⟩ := Prod.mk.inj e
      have hl : leftI (capP p z) i (v0 + D) (rs.getD i default) = leftI p i v0 (rs.getD i default) + D := by unfold leftI capP; dsimp only; omega
      have hpo2 : possB (capP p z) i (v0 + D) (rs.getD i default) = true := by
        unfold possB at hpo ⊢
        rw [hl]
        have := of_decide_eq_true hpo
        exact decide_eq_true (by show p.res ≤ _; omega)
      rw [if_pos hpo2]
      have ha : aftI (capP p z) i (v0 + D) (rs.getD i default) = if p.cap + z < leftI p i v0 (rs.getD i default) + D then p.cap + z else leftI p i v0 (rs.getD i default) + D := by
        unfold aftI; rw [hl]; rfl
      have hc : costI (capP p z) i (v0 + D) (rs.getD i default) = floorT p.pen (rs.getD i default) + p.wei * (leftI p i v0 (rs.getD i default) + D - aftI (capP p z) i (v0 + D) (rs.getD i default)) := by
        unfold costI; rw [hl]; rfl
      rw [hc]
      unfold costI at e1
      have hge : aftI p i v0 (rs.getD i default) ≤ aftI (capP p z) i (v0 + D) (rs.getD i default) := by
        rw [ha]; unfold aftI; split <;> split <;> omega
      generalize aftI (capP p z) i (v0 + D) (rs.getD i default) = A2 at *
      generalize aftI p i v0 (rs.getD i default) = A at *
      generalize leftI p i v0 (rs.getD i default) = L at *
      generalize floorT p.pen (rs.getD i default) = F at *
      refine ⟨A2 - A, by omega, ?_⟩
      congr 1
      refine Prod.ext ?_ (by show A2 = v + (A2 - A); omega)
      show s0 - p.wei * D + (F + p.wei * (L + D - A2)) = s - p.wei * (A2 - A)
      rw [← e1, show L + D - A2 = L - A + D - (A2 - A) by omega, Int.mul_sub, Int.mul_add]
      omega
    · cases h
theorem cap_le {p : Plan} {z : Int} (hz : 0 ≤ z) (hp : planB p = true) {c : Int} (h : vO p p.inf.length p.start = some c) : ∃ d, vO (capP p z) (capP p z).inf.length (capP p z).start = some d ∧ d ≤ c := by
  obtain ⟨D, hD, hq⟩ := cap_path hz _ (goV_cost h)
  obtain ⟨x, h1, h2⟩ := sch_ge (p := capP p z) (rs := (goV p p.inf.length).1) (goV_sch h) hq
  have := Int.mul_nonneg (planB_in hp).2.2.2.2.2.1.1 hD
  exact ⟨x, h1, by omega⟩
theorem res_path {p : Plan} {z : Int} (hz : 0 ≤ z) (hr : 0 ≤ p.res) {rs : List Int} : ∀ i {s v : Int}, pathC p rs i = some (s, v) → pathC (resP p z) rs i = some (s, v)
  | 0, s, v, h => h
  | i + 1, s, v, h => by
    obtain ⟨⟨s0, v0⟩, h0⟩ := path_some (i + 1) h i (by omega)
    have h1 := res_path hz hr i h0
    rw [path_next h0] at h
    rw [path_next h1]
    split at h
    · next hpo =>
      have hpo2 : possB (resP p z) i v0 (rs.getD i default) = true := by
        unfold possB at hpo ⊢
        have := of_decide_eq_true hpo
        refine decide_eq_true ?_
        show (if 0 < p.res - z then p.res - z else 0) ≤ leftI p i v0 (rs.getD i default)
        split <;> omega
      rw [if_pos hpo2]
      exact h
    · cases h
theorem res_le {p : Plan} {z : Int} (hz : 0 ≤ z) (hp : planB p = true) {c : Int} (h : vO p p.inf.length p.start = some c) : ∃ d, vO (resP p z) (resP p z).inf.length (resP p z).start = some d ∧ d ≤ c :=
  sch_ge (p := resP p z) (rs := (goV p p.inf.length).1) (goV_sch h) (res_path hz (planB_in hp).2.1.1 _ (goV_cost h))
theorem res_ok {p : Plan} {z : Int} (hz : 0 ≤ z) (hp : planB p = true) : planB (resP p z) = true := by
  have hin := planB_in hp
  unfold planB at hp ⊢
  simp only [Bool.and_eq_true] at hp ⊢
  refine ⟨⟨⟨?_, hp.1.1.2⟩, hp.1.2⟩, hp.2⟩
  have h := hp.1.1.1
  unfold headB at h ⊢
  simp only [Bool.and_eq_true, decide_eq_true_eq] at h ⊢
  obtain ⟨⟨⟨⟨⟨⟨h1, h2⟩, h3⟩, h4⟩, h5⟩, h6⟩, h7⟩ := h
  have e : (resP p z).res = if 0 < p.res - z then p.res - z else 0 := rfl
  refine ⟨⟨⟨⟨⟨⟨h1, ?_⟩, ?_⟩, h4⟩, h5⟩, h6⟩, h7⟩
  · rw [e]; show _ ∧ _ ≤ p.cap; split <;> omega
  · rw [e]; show _ ≤ p.start ∧ p.start ≤ p.cap; split <;> omega
theorem few_lens {p : Plan} (hf : fewS p = true) (hp : planB p = true) : p.inf.length ≤ 8 ∧ p.rel.length ≤ 5 := by
  have hin := planB_in hp
  unfold fewS at hf
  simp only [Bool.and_eq_true, Bool.or_eq_true, decide_eq_true_eq] at hf
  omega
theorem solR_few {p : Plan} (hf : fewS p = true) (hp : planB p = true) : solR p = match vO p p.inf.length p.start with
    | none => (0, [], 12)
    | some c => (c, (goV p p.inf.length).1, 0) := by
  have hl := few_lens hf hp
  unfold solR
  rw [if_neg (by rw [hp]; decide), if_neg (by rw [few_all hl.2 hl.1]; decide)]
  cases vO p p.inf.length p.start <;> rfl
set_option maxRecDepth 20000 in
set_option maxHeartbeats 16000000 in
theorem pbounds_f (p : Plan) (a b : Int) (m : Nat) (hq : planOk p) (ha : 0 ≤ a ∧ a ≤ 65535) (hb : 0 ≤ b ∧ b ≤ 65535) : DCalls Try.prog 9 [planD p, lv (.int .u16 a), lv (.int .u16 b)] (hget []) m (lb true) (hget []) := by
  have cw := fun m => few45_f p m hq
  cases hfw : fewS p <;> simp only [hfw] at cw
  · refine pureC (n := 130) (rs := [.tmp 6]) (ts := [4]) Try.func9 rfl (by decide) [] (by (exact SD)) ?_
    (repeat' (first | refine swp_seq [0, 1, 2, 3, 6, 7, 9, 10, 11, 12, 14, 15, 16, 18, 20, 23, 42, 76, 104] ?_ | refine st2 ?_ | (show CallQ ..; first | refine cQ (fun hcc => (by first | exact awake45_f _ | exact cw _)) ?_ | (refine lP ?_; refine lQ (fun hcc m => (by first | exact awake45_f _ | exact cw _)) ?_)) | (show Fct ..; refine fctI (fun hf => ?_)) | (show SWp _ _ _ (.cond _ _ _) _ _ _ _; first | refine cB (fun hc => ?_) (fun hc => ?_) | refine cU ?_ ?_)))
    exact DVR
  have c1 := fun m => solve_f p m hq
  have c2 := fun m => relax_f p m hq
  have c3 := fun m => myopic_f p m hq
  cases hp : planB p
  · rw [show solR p = (0, [], 1) by unfold solR; rw [if_pos hp]] at c1
    rw [show relxR p = (0, 1) by unfold relxR; rw [if_pos hp]] at c2
    rw [show myoR p = (0, [], 1) by unfold myoR; rw [if_pos hp]] at c3
    refine pureC (n := 130) (rs := [.tmp 6]) (ts := [4]) Try.func9 rfl (by decide) [] (by (exact SD)) ?_
    (repeat' (first | refine swp_seq [0, 1, 2, 3, 6, 7, 9, 10, 11, 12, 14, 15, 16, 18, 20, 23, 42, 76, 104] ?_ | refine st2 ?_ | (show CallQ ..; first | refine cQ (fun hcc => (by first | exact awake45_f _ | exact cw _ | exact c1 _ | exact c2 _ | exact c3 _)) ?_ | (refine lP ?_; refine lQ (fun hcc m => (by first | exact awake45_f _ | exact cw _ | exact c1 _ | exact c2 _ | exact c3 _)) ?_)) | (show Fct ..; refine fctI (fun hf => ?_)) | (show SWp _ _ _ (.cond _ _ _) _ _ _ _; first | refine cB (fun hc => ?_) (fun hc => ?_) | refine cU ?_ ?_)))
    exact DVR
  have hin := planB_in hp
  have hR := relP_nn hp
  have hRn : ¬ relP p < 0 := by omega
  have hrc := fun c => @relP_le p hp c
  rw [show relxR p = (relP p, 0) by unfold relxR; rw [if_neg (by rw [hp]; decide)]] at c2
  rw [solR_few hfw hp] at c1
  have hmy : myoR p = match goM p p.inf.length with
    | none => (0, [], 12)
    | some (s, l, _) => (s, l, 0) := by
    unfold myoR
    rw [if_neg (by rw [hp]; decide)]
    cases goM p p.inf.length <;> rfl
  rw [hmy] at c3
  have hmg := fun s v l => @myo_ge p s v l
  have hok1 : planOk (capP p a) := by
    obtain ⟨k0, k1, k2, k3, k4, k5, k6⟩ := hq
    refine ⟨k0, ?_, k2, k3, k4, k5, k6⟩
    show i64ok (p.cap + a)
    unfold i64ok; omega
  have hok2 : planOk (resP p b) := by
    obtain ⟨k0, k1, k2, k3, k4, k5, k6⟩ := hq
    refine ⟨k0, k1, ?_, k3, k4, k5, k6⟩
    show i64ok (if 0 < p.res - b then p.res - b else 0)
    unfold i64ok; split <;> omega
  have hfw1 : fewS (capP p a) = true := hfw
  have hfw2 : fewS (resP p b) = true := hfw
  have d1 := fun m => solve_f (capP p a) m hok1
  have d2 := fun m => solve_f (resP p b) m hok2
  rw [solR_few hfw2 (res_ok hb.1 hp)] at d2
  have hcl := fun c => @cap_le p a ha.1 hp c
  have hrl := fun c => @res_le p b hb.1 hp c
  have e2 : List.take 2 (planC p ++ List.drop 7 (planC p)) ++ [DV.p (.lit (.int .i64 (if 0 < p.res - b then p.res - b else 0)))] ++ List.drop 3 (planC p ++ List.drop 7 (planC p)) = planC (resP p b) := rfl
  generalize relP p = RE at *
  (have := Nonempty.intro hRn)
  cases hv : vO p p.inf.length p.start with
  | none =>
    rw [hv] at c1
    cases hg : goM p p.inf.length with
    | some x =>
      obtain ⟨s, l, v⟩ := x
      obtain ⟨y, h1, h2⟩ := hmg s v l hg
      rw [hv] at h1; cases h1
    | none =>
      rw [hg] at c3
      generalize solR (capP p a) = Q1 at *
      obtain ⟨q1, r1, f1⟩ := Q1
      generalize (match vO (resP p b) (resP p b).inf.length (resP p b).start with
        | none => ((0 : Int), ([] : List Int), (12 : Int))
        | some c => (c, (goV (resP p b) (resP p b).inf.length).1, 0)) = Q2 at *
      obtain ⟨q2, r2, f2⟩ := Q2
      refine pureC (n := 130) (rs := [.tmp 6]) (ts := [4]) Try.func9 rfl (by decide) [] (by (exact SD)) ?_
      (repeat' (first | refine swp_seq [0, 1, 2, 3, 6, 7, 9, 10, 11, 12, 14, 15, 16, 18, 20, 23, 42, 76, 104] ?_ | refine st2 ?_ | (show CallQ ..; first | refine cQ (fun hcc => (by first | exact awake45_f _ | exact cw _ | exact c1 _ | exact c2 _ | exact c3 _ | exact d1 _)) ?_ | (refine lP ?_; refine lQ (fun hcc m => (by first | exact awake45_f _ | exact cw _ | exact c1 _ | exact c2 _ | exact c3 _ | exact d1 _)) ?_)) | (show Fct ..; refine fctI (fun hf => ?_)) | (show SWp _ _ _ (.cond _ _ _) _ _ _ _; first | refine cB (fun hc => ?_) (fun hc => ?_) | refine cU ?_ ?_)))
      rw [e2]
      (repeat' (first | refine swp_seq [0, 1, 2, 3, 6, 7, 9, 10, 11, 12, 14, 15, 16, 18, 20, 23, 42, 76, 104] ?_ | refine st2 ?_ | (show CallQ ..; first | refine cQ (fun hcc => (by first | exact d2 _)) ?_ | (refine lP ?_; refine lQ (fun hcc m => (by first | exact d2 _)) ?_)) | (show Fct ..; refine fctI (fun hf => ?_)) | (show SWp _ _ _ (.cond _ _ _) _ _ _ _; first | refine cB (fun hc => ?_) (fun hc => ?_) | refine cU ?_ ?_)))
      exact DVR
  | some c =>
    rw [hv] at c1
    have hRc := hrc c hv
    have hRc2 : ¬ c < RE := by omega
    (have := Nonempty.intro hRc2)
    obtain ⟨d, hd, hdc⟩ := hrl c hv
    rw [hd] at d2
    obtain ⟨d', hd', hdc'⟩ := hcl c hv
    have hdc2 : ¬ c < d' := by omega
    (have := Nonempty.intro hdc)
    (have := Nonempty.intro hdc2)
    have hQ : solR (capP p a) = (0, [], 1) ∨ solR (capP p a) = (d', (goV (capP p a) (capP p a).inf.length).1, 0) := by
      cases hp1 : planB (capP p a)
      · exact .inl (by unfold solR; rw [if_pos hp1])
      · exact .inr (by rw [solR_few hfw1 hp1, hd'])
    have hM : (myoR p = (0, [], 12) ∧ goM p p.inf.length = none) ∨ ∃ s l v, goM p p.inf.length = some (s, l, v) := by
      cases hg : goM p p.inf.length with
      | none => exact .inl ⟨by rw [hmy, hg], rfl⟩
      | some x => exact .inr ⟨x.1, x.2.1, x.2.2, rfl⟩
    clear hmy
    rcases hM with ⟨_, hg⟩ | ⟨s, l, v, hg⟩
    · rw [hg] at c3
      rcases hQ with hQ | hQ <;> rw [hQ] at d1
      · refine pureC (n := 130) (rs := [.tmp 6]) (ts := [4]) Try.func9 rfl (by decide) [] (by (exact SD)) ?_
        (repeat' (first | refine swp_seq [0, 1, 2, 3, 6, 7, 9, 10, 11, 12, 14, 15, 16, 18, 20, 23, 42, 76, 104] ?_ | refine st2 ?_ | (show CallQ ..; first | refine cQ (fun hcc => (by first | exact awake45_f _ | exact cw _ | exact c1 _ | exact c2 _ | exact c3 _ | exact d1 _)) ?_ | (refine lP ?_; refine lQ (fun hcc m => (by first | exact awake45_f _ | exact cw _ | exact c1 _ | exact c2 _ | exact c3 _ | exact d1 _)) ?_)) | (show Fct ..; refine fctI (fun hf => ?_)) | (show SWp _ _ _ (.cond _ _ _) _ _ _ _; first | refine cB (fun hc => ?_) (fun hc => ?_) | refine cU ?_ ?_)))
        rw [e2]
        (repeat' (first | refine swp_seq [0, 1, 2, 3, 6, 7, 9, 10, 11, 12, 14, 15, 16, 18, 20, 23, 42, 76, 104] ?_ | refine st2 ?_ | (show CallQ ..; first | refine cQ (fun hcc => (by first | exact d2 _)) ?_ | (refine lP ?_; refine lQ (fun hcc m => (by first | exact d2 _)) ?_)) | (show Fct ..; refine fctI (fun hf => ?_)) | (show SWp _ _ _ (.cond _ _ _) _ _ _ _; first | refine cB (fun hc => ?_) (fun hc => ?_) | refine cU ?_ ?_)))
        exact DVR
      · refine pureC (n := 130) (rs := [.tmp 6]) (ts := [4]) Try.func9 rfl (by decide) [] (by (exact SD)) ?_
        (repeat' (first | refine swp_seq [0, 1, 2, 3, 6, 7, 9, 10, 11, 12, 14, 15, 16, 18, 20, 23, 42, 76, 104] ?_ | refine st2 ?_ | (show CallQ ..; first | refine cQ (fun hcc => (by first | exact awake45_f _ | exact cw _ | exact c1 _ | exact c2 _ | exact c3 _ | exact d1 _)) ?_ | (refine lP ?_; refine lQ (fun hcc m => (by first | exact awake45_f _ | exact cw _ | exact c1 _ | exact c2 _ | exact c3 _ | exact d1 _)) ?_)) | (show Fct ..; refine fctI (fun hf => ?_)) | (show SWp _ _ _ (.cond _ _ _) _ _ _ _; first | refine cB (fun hc => ?_) (fun hc => ?_) | refine cU ?_ ?_)))
        rw [e2]
        (repeat' (first | refine swp_seq [0, 1, 2, 3, 6, 7, 9, 10, 11, 12, 14, 15, 16, 18, 20, 23, 42, 76, 104] ?_ | refine st2 ?_ | (show CallQ ..; first | refine cQ (fun hcc => (by first | exact d2 _)) ?_ | (refine lP ?_; refine lQ (fun hcc m => (by first | exact d2 _)) ?_)) | (show Fct ..; refine fctI (fun hf => ?_)) | (show SWp _ _ _ (.cond _ _ _) _ _ _ _; first | refine cB (fun hc => ?_) (fun hc => ?_) | refine cU ?_ ?_)))
        exact DVR
    · rw [hg] at c3
      obtain ⟨y, h1, h2⟩ := hmg s v l hg
      rw [hv] at h1
      obtain rfl := Option.some.inj h1
      have h2n : ¬ s < c := by omega
      (have := Nonempty.intro h2n)
      rcases hQ with hQ | hQ <;> rw [hQ] at d1
      · refine pureC (n := 130) (rs := [.tmp 6]) (ts := [4]) Try.func9 rfl (by decide) [] (by (exact SD)) ?_
        (repeat' (first | refine swp_seq [0, 1, 2, 3, 6, 7, 9, 10, 11, 12, 14, 15, 16, 18, 20, 23, 42, 76, 104] ?_ | refine st2 ?_ | (show CallQ ..; first | refine cQ (fun hcc => (by first | exact awake45_f _ | exact cw _ | exact c1 _ | exact c2 _ | exact c3 _ | exact d1 _)) ?_ | (refine lP ?_; refine lQ (fun hcc m => (by first | exact awake45_f _ | exact cw _ | exact c1 _ | exact c2 _ | exact c3 _ | exact d1 _)) ?_)) | (show Fct ..; refine fctI (fun hf => ?_)) | (show SWp _ _ _ (.cond _ _ _) _ _ _ _; first | refine cB (fun hc => ?_) (fun hc => ?_) | refine cU ?_ ?_)))
        rw [e2]
        (repeat' (first | refine swp_seq [0, 1, 2, 3, 6, 7, 9, 10, 11, 12, 14, 15, 16, 18, 20, 23, 42, 76, 104] ?_ | refine st2 ?_ | (show CallQ ..; first | refine cQ (fun hcc => (by first | exact d2 _)) ?_ | (refine lP ?_; refine lQ (fun hcc m => (by first | exact d2 _)) ?_)) | (show Fct ..; refine fctI (fun hf => ?_)) | (show SWp _ _ _ (.cond _ _ _) _ _ _ _; first | refine cB (fun hc => ?_) (fun hc => ?_) | refine cU ?_ ?_)))
        exact DVR
      · refine pureC (n := 130) (rs := [.tmp 6]) (ts := [4]) Try.func9 rfl (by decide) [] (by (exact SD)) ?_
        (repeat' (first | refine swp_seq [0, 1, 2, 3, 6, 7, 9, 10, 11, 12, 14, 15, 16, 18, 20, 23, 42, 76, 104] ?_ | refine st2 ?_ | (show CallQ ..; first | refine cQ (fun hcc => (by first | exact awake45_f _ | exact cw _ | exact c1 _ | exact c2 _ | exact c3 _ | exact d1 _)) ?_ | (refine lP ?_; refine lQ (fun hcc m => (by first | exact awake45_f _ | exact cw _ | exact c1 _ | exact c2 _ | exact c3 _ | exact d1 _)) ?_)) | (show Fct ..; refine fctI (fun hf => ?_)) | (show SWp _ _ _ (.cond _ _ _) _ _ _ _; first | refine cB (fun hc => ?_) (fun hc => ?_) | refine cU ?_ ?_)))
        rw [e2]
        (repeat' (first | refine swp_seq [0, 1, 2, 3, 6, 7, 9, 10, 11, 12, 14, 15, 16, 18, 20, 23, 42, 76, 104] ?_ | refine st2 ?_ | (show CallQ ..; first | refine cQ (fun hcc => (by first | exact d2 _)) ?_ | (refine lP ?_; refine lQ (fun hcc m => (by first | exact d2 _)) ?_)) | (show Fct ..; refine fctI (fun hf => ?_)) | (show SWp _ _ _ (.cond _ _ _) _ _ _ _; first | refine cB (fun hc => ?_) (fun hc => ?_) | refine cU ?_ ?_)))
        exact DVR

end Go.Proofs.Ytedocinehadodaa
