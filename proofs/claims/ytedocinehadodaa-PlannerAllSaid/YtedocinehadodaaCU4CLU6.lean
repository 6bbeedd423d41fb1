/-
  Contracts of functions of the program, over the engine.
  No condition.
-/
import Derived.Test.YtedocinehadodaaCT2ELU1C18C18U
import Derived.Test.YtedocinehadodaaCFMQ7P13P14
import Derived.Test.YtedocinehadodaaCC0C1
import Derived.Test.YtedocinehadodaaCS9R1R2
namespace Go.Proofs.Ytedocinehadodaa
open Go.Eng
set_option linter.all false
attribute [local irreducible] DCallsG SWp Fct CallQ XCallQ LCallQ XLCallQ drun xrun

theorem sch_bound {p : Plan} (hp : planB p = true) {rs : List Int} (h : schB p rs) : ∀ i, i ≤ p.inf.length → ∀ {s v : Int}, pathC p rs i = some (s, v) →
    ∃ S, 0 ≤ S ∧ (i : Int) * floorT p.pen (p.rel.getD 0 default) + p.wei * S ≤ s ∧ p.start + sumI p.inf i ≤ v + S + (i : Int) * p.rel.getD (p.rel.length - 1) default
  | 0, _, s, v, hs => by
    have e : (0, p.start) = (s, v) := Option.some.inj hs
    obtain ⟨e1, e2⟩ := Prod.mk.inj e
    subst e1 e2
    exact ⟨0, by omega, by simp, by simp [sumI]⟩
  | i + 1, hi, s, v, hs => by
    obtain ⟨⟨s0, v0⟩, h0⟩ := path_some (i + 1) hs i (by omega)
    obtain ⟨S, hS, h1, h2⟩ := sch_bound hp h i (by omega) h0
    rw [path_next h0] at hs
    split at hs
    · next hpo =>
      have e := Option.some.inj hs
      obtain ⟨e1, e2⟩ := Prod.mk.inj e
      obtain ⟨j, hj, ej⟩ := h.2 i (by rw [h.1]; omega)
      have hin := planB_in hp
      have hv0 := path_inC hp i h0
      have hc := cost_in hp (by omega : i < p.inf.length) (v := v0) (by omega) hj
      have hR1 : p.rel.getD 0 default ≤ p.rel.getD j default := by
        by_cases e : j = 0
        · rw [e]; exact Int.le_refl _
        · have := rel_asc hp (show 0 < j by omega) hj; omega
      have hR2 : p.rel.getD j default ≤ p.rel.getD (p.rel.length - 1) default := by
        by_cases e : j = p.rel.length - 1
        · rw [e]; exact Int.le_refl _
        · have := rel_asc hp (show j < p.rel.length - 1 by omega) (by omega); omega
      have hF := floorT_mono hin.2.2.2.2.2.2.1 hR1
      rw [← ej] at e1 e2
      unfold costI at e1
      have hl : leftI p i v0 (p.rel.getD j default) = v0 + p.inf.getD i default - p.rel.getD j default := rfl
      have hw := hin.2.2.2.2.2.1
      generalize aftI p i v0 (p.rel.getD j default) = A at *
      generalize leftI p i v0 (p.rel.getD j default) = L at *
      generalize floorT p.pen (p.rel.getD j default) = FJ at *
      generalize floorT p.pen (p.rel.getD 0 default) = F0 at *
      generalize p.rel.getD j default = RJ at *
      generalize p.rel.getD (p.rel.length - 1) default = RM at *
      refine ⟨S + (L - A), by omega, ?_, ?_⟩
      · rw [Int.mul_add, show ((i + 1 : Nat) : Int) = (i : Int) + 1 from rfl, Int.add_mul, Int.one_mul]
        omega
      · rw [sumI, show ((i + 1 : Nat) : Int) = (i : Int) + 1 from rfl, Int.add_mul, Int.one_mul]
        omega
    · cases hs
theorem relP_le {p : Plan} (hp : planB p = true) {c : Int} (h : vO p p.inf.length p.start = some c) : relP p ≤ c := by
  obtain ⟨S, h1, h2, h3⟩ := sch_bound hp (goV_sch h) p.inf.length (Nat.le_refl _) (goV_cost h)
  have hv := path_inC hp _ (goV_cost h)
  have hw := (planB_in hp).2.2.2.2.2.1
  unfold relP
  have := Int.mul_le_mul_of_nonneg_left (show max 0 (p.start - p.cap - (p.inf.length : Int) * p.rel.getD (p.rel.length - 1) default + sumI p.inf p.inf.length) ≤ S by omega) hw.1
  omega
theorem relP_nn {p : Plan} (hp : planB p = true) : 0 ≤ relP p := by
  have hin := planB_in hp
  have hF := hin.2.2.2.2.2.2.2.2.2 (p.rel.getD 0 default)
  have a := Int.mul_nonneg (show (0 : Int) ≤ (p.inf.length : Int) by omega) hF.1
  have b := Int.mul_nonneg hin.2.2.2.2.2.1.1 (show 0 ≤ max 0 (p.start - p.cap - (p.inf.length : Int) * p.rel.getD (p.rel.length - 1) default + sumI p.inf p.inf.length) by omega)
  unfold relP
  omega
theorem goM_sch {p : Plan} : ∀ i, i ≤ p.inf.length → ∀ {s v : Int} {l : List Int}, goM p i = some (s, l, v) → l.length = i ∧ (∀ k, k < i → ∃ j, j < p.rel.length ∧ p.rel.getD j default = l.getD k default) ∧ ∀ rs : List Int, (∀ k, k < i → rs.getD k default = l.getD k default) → pathC p rs i = some (s, v)
  | 0, _, s, v, l, h => by
    simp only [goM, Option.some.injEq, Prod.mk.injEq] at h
    obtain ⟨rfl, rfl, rfl⟩ := h
    exact ⟨rfl, fun k hk => by omega, fun rs _ => rfl⟩
  | i + 1, hi, s, v, l, h => by
    cases h0 : goM p i with
    | none => rw [goM, h0] at h; cases h
    | some a =>
      obtain ⟨s0, l0, v0⟩ := a
      obtain ⟨h1, h2, h3⟩ := goM_sch i (by omega) h0
      rw [goM_next h0] at h
      cases hb : bestO p i v0 zO with
      | none => rw [hb] at h; cases h
      | some b =>
        obtain ⟨k, c⟩ := b
        rw [hb] at h
        obtain ⟨k1, k2, x, k3, k4⟩ := bestU_some _ hb
        simp only [Option.some.injEq, Prod.mk.injEq] at h
        obtain ⟨rfl, rfl, rfl⟩ := h
        have hx : x = 0 := (Option.some.inj k3).symm
        have hlast : (l0 ++ [p.rel.getD k default]).getD i default = p.rel.getD k default := by
          rw [List.getD_eq_getElem?_getD, List.getElem?_append_right (by omega), h1, Nat.sub_self]; rfl
        have hpre : ∀ n, n < i → (l0 ++ [p.rel.getD k default]).getD n default = l0.getD n default := fun n hn => by
          rw [List.getD_eq_getElem?_getD, List.getElem?_append_left (by omega), ← List.getD_eq_getElem?_getD]
        refine ⟨by simp [h1], fun n hn => ?_, fun rs hrs => ?_⟩
        · by_cases e : n = i
          · subst e; exact ⟨k, k1, hlast.symm⟩
          · rw [hpre n (by omega)]; exact h2 n (by omega)
        · have h4 := h3 rs fun n hn => by rw [hrs n (by omega), hpre n hn]
          rw [path_next h4, hrs i (by omega), hlast, if_pos k2, k4, hx, Int.add_zero]
theorem myo_ge {p : Plan} {s v : Int} {l : List Int} (h : goM p p.inf.length = some (s, l, v)) : ∃ x, vO p p.inf.length p.start = some x ∧ x ≤ s := by
  obtain ⟨h1, h2, h3⟩ := goM_sch _ (Nat.le_refl _) h
  exact sch_ge (rs := l) ⟨h1, fun i hi => h2 i (by omega)⟩ (h3 l fun _ _ => rfl)
def capP (p : Plan) (z : Int) : Plan := { p with cap := p.cap + z }
def resP (p : Plan) (z : Int) : Plan := { p with res := if 0 < p.res - z then p.res - z else 0 }
theorem cap_path {p : Plan} {z : Int} (hz : 0 ≤ z) {rs : List Int} : ∀ i {s v : Int}, pathC p rs i = some (s, v) → ∃ D, 0 ≤ D ∧ pathC (capP p z) rs i = some (s - p.wei * D, v + D)
  | 0, s, v, h => by
    have e : (0, p.start) = (s, v) := Option.some.inj h
    obtain ⟨e1, e2⟩ := Prod.mk.inj e
    subst e1 e2
    refine ⟨0, by omega, ?_⟩
    rw [Int.mul_zero]; simp [pathC, capP]
  | i + 1, s, v, h => by
    obtain ⟨⟨s0, v0⟩, h0⟩ := path_some (i + 1) h i (by omega)
    obtain ⟨D, hD, h1⟩ := cap_path hz i h0
    rw [path_next h0] at h
    rw [path_next h1]
    split at h
    · next hpo =>
      have e := Option.some.inj h
      obtain ⟨e1, e2⟩ := Prod.mk.inj e
      have hl : leftI (capP p z) i (v0 + D) (rs.getD i default) = leftI p i v0 (rs.getD i default) + D := by unfold leftI capP; dsimp only; omega
      have hpo2 : possB (capP p z) i (v0 + D) (rs.getD i default) = true := by
        unfold possB at hpo ⊢
        rw [hl]
        have := of_decide_eq_true hpo
        exact decide_eq_true (by show p.res ≤ _; omega)
      rw [if_pos hpo2]
      have ha : aftI (capP p z) i (v0 + D) (rs.getD i default) = if p.cap + z < leftI p i v0 (rs.getD i default) + D then p.cap + z else leftI p i v0 (rs.getD i default) + D := by
        unfold aftI; rw [hl]; rfl
      have hc : costI (capP p z) i (v0 + D) (rs.getD i default) = floorT p.pen (rs.getD i default) + p.wei * (leftI p i v0 (rs.getD i default) + D - aftI (capP p z) i (v0 + D) (rs.getD i default)) := by
        unfold costI; rw [hl]; rfl
      rw [hc]
      unfold costI at e1
      have hge : aftI p i v0 (rs.getD i default) ≤ aftI (capP p z) i (v0 + D) (rs.getD i default) := by
        rw [ha]; unfold aftI; split <;> split <;> omega
      generalize aftI (capP p z) i (v0 + D) (rs.getD i default) = A2 at *
      generalize aftI p i v0 (rs.getD i default) = A at *
      generalize leftI p i v0 (rs.getD i default) = L at *
      generalize floorT p.pen (rs.getD i default) = F at *
      refine ⟨A2 - A, by omega, ?_⟩
      congr 1
      refine Prod.ext ?_ (by show A2 = v + (A2 - A); omega)
      show s0 - p.wei * D + (F + p.wei * (L + D - A2)) = s - p.wei * (A2 - A)
      rw [← e1, show L + D - A2 = L - A + D - (A2 - A) by omega, Int.mul_sub, Int.mul_add]
      omega
    · cases h
theorem cap_le {p : Plan} {z : Int} (hz : 0 ≤ z) (hp : planB p = true) {c : Int} (h : vO p p.inf.length p.start = some c) : ∃ d, vO (capP p z) (capP p z).inf.length (capP p z).start = some d ∧ d ≤ c := by
  obtain ⟨D, hD, hq⟩ := cap_path hz _ (goV_cost h)
  obtain ⟨x, h1, h2⟩ := sch_ge (p := capP p z) (rs := (goV p p.inf.length).1) (goV_sch h) hq
  have := Int.mul_nonneg (planB_in hp).2.2.2.2.2.1.1 hD
  exact ⟨x, h1, by omega⟩
theorem res_path {p : Plan} {z : Int} (hz : 0 ≤ z) (hr : 0 ≤ p.res) {rs : List Int} : ∀ i {s v : Int}, pathC p rs i = some (s, v) → pathC (resP p z) rs i = some (s, v)
  | 0, s, v, h => h
  | i + 1, s, v, h => by
    obtain ⟨⟨s0, v0⟩, h0⟩ := path_some (i + 1) h i (by omega)
    have h1 := res_path hz hr i h0
    rw [path_next h0] at h
    rw [path_next h1]
    split at h
    · next hpo =>
      have hpo2 : possB (resP p z) i v0 (rs.getD i default) = true := by
        unfold possB at hpo ⊢
        have := of_decide_eq_true hpo
        refine decide_eq_true ?_
        show (if 0 < p.res - z then p.res - z else 0) ≤ leftI p i v0 (rs.getD i default)
        split <;> omega
      rw [if_pos hpo2]
      exact h
    · cases h
theorem res_le {p : Plan} {z : Int} (hz : 0 ≤ z) (hp : planB p = true) {c : Int} (h : vO p p.inf.length p.start = some c) : ∃ d, vO (resP p z) (resP p z).inf.length (resP p z).start = some d ∧ d ≤ c :=
  sch_ge (p := resP p z) (rs := (goV p p.inf.length).1) (goV_sch h) (res_path hz (planB_in hp).2.1.1 _ (goV_cost h))
theorem res_ok {p : Plan} {z : Int} (hz : 0 ≤ z) (hp : planB p = true) : planB (resP p z) = true := by
  have hin := planB_in hp
  unfold planB at hp ⊢
  simp only [Bool.and_eq_true] at hp ⊢
  refine ⟨⟨⟨?_, hp.1.1.2⟩, hp.1.2⟩, hp.2⟩
  have h := hp.1.1.1
  unfold headB at h ⊢
  simp only [Bool.and_eq_true, decide_eq_true_eq] at h ⊢
  obtain ⟨⟨⟨⟨⟨⟨h1, h2⟩, h3⟩, h4⟩, h5⟩, h6⟩, h7⟩ := h
  have e : (resP p z).res = if 0 < p.res - z then p.res - z else 0 := rfl
  refine ⟨⟨⟨⟨⟨⟨h1, ?_⟩, ?_⟩, h4⟩, h5⟩, h6⟩, h7⟩
  · rw [e]; show _ ∧ _ ≤ p.cap; split <;> omega
  · rw [e]; show _ ≤ p.start ∧ p.start ≤ p.cap; split <;> omega
theorem few_lens {p : Plan} (hf : fewS p = true) (hp : planB p = true) : p.inf.length ≤ 8 ∧ p.rel.length ≤ 5 := by
  have hin := planB_in hp
  unfold fewS at hf
  simp only [Bool.and_eq_true, Bool.or_eq_true, decide_eq_true_eq] at hf
  omega
theorem solR_few {p : Plan} (hf : fewS p = true) (hp : planB p = true) : solR p = match vO p p.inf.length p.start with
    | none => (0, [], 12)
    | some c => (c, (goV p p.inf.length).1, 0) := by
  have hl := few_lens hf hp
  unfold solR
  rw [if_neg (by rw [hp]; decide), if_neg (by rw [few_all hl.2 hl.1]; decide)]
  cases vO p p.inf.length p.start <;> rfl
set_option maxHeartbeats 1000000 in
theorem cloneI_f (l : List Int) (m : Nat) (hl : l.length ≤ 1048576) : DCallsG Try.prog 24 [] [ints l] (hget []) m (.gl m) (hget [(m, inLt l)]) := by
  refine contract (n := 8) (rs := [.tmp 2]) (ts := [22]) Try.func24 rfl (by decide) 0 0 [] [] [24] (.gl 24) [(24, inLt l)] (by (exact SD)) (by (exact SD)) ?_
  cases l with
  | nil =>
    (repeat' (first | refine swp_seq [0, 2, 4] ?_ | (first | refine rF (fun hf => ?_) | refine tN ?_ | refine swp_skip ?_ | refine swp_block ?_ | refine swp_scope ?_ | refine blockK_normal ?_ | refine scopeK_normal ?_ | (refine cB (fun hc => ?_) (fun hc => ?_) <;> first | exact False.elim hc | exact absurd hc Bool.false_ne_true | exact absurd hc.symm Bool.false_ne_true | skip) | refine cU ?_ ?_)))
    · (refine sN 2 3 1 ?_)
      (refine sR 32 24 ?_)
      (repeat' (first | refine swp_seq [0, 2, 4] ?_ | (first | refine rF (fun hf => ?_) | refine tN ?_ | refine swp_skip ?_ | refine swp_ret ?_ | refine swp_exit ?_ | refine swp_block ?_ | refine swp_scope ?_ | refine thenK_ret ?_ | refine thenK_exit ?_ | refine blockK_normal ?_ | refine blockK_ret ?_ | refine blockK_here ?_ | refine bX ?_ | refine scopeK_normal ?_ | refine scopeK_ret ?_ | refine scopeK_exit ?_ | refine loopK_ret ?_ | refine loopK_exit ?_ | refine dF mixed ?_ | (refine cB (fun hc => ?_) (fun hc => ?_) <;> first | exact False.elim hc | exact absurd hc Bool.false_ne_true | exact absurd hc.symm Bool.false_ne_true | skip) | refine cU ?_ ?_)))
      exact DVS
    · (repeat' (first | refine swp_seq [0, 2, 4] ?_ | (first | refine rF (fun hf => ?_) | refine tN ?_ | refine swp_skip ?_ | refine swp_ret ?_ | refine swp_exit ?_ | refine swp_block ?_ | refine swp_scope ?_ | refine thenK_ret ?_ | refine thenK_exit ?_ | refine blockK_normal ?_ | refine blockK_ret ?_ | refine blockK_here ?_ | refine bX ?_ | refine scopeK_normal ?_ | refine scopeK_ret ?_ | refine scopeK_exit ?_ | refine loopK_ret ?_ | refine loopK_exit ?_ | refine dF mixed ?_ | (refine cB (fun hc => ?_) (fun hc => ?_) <;> first | exact False.elim hc | exact absurd hc Bool.false_ne_true | exact absurd hc.symm Bool.false_ne_true | skip) | refine cU ?_ ?_)))
      exact DVS
  | cons b l =>
    (repeat' (first | refine swp_seq [0, 2, 4] ?_ | (first | refine rF (fun hf => ?_) | refine tN ?_ | refine swp_skip ?_ | refine swp_ret ?_ | refine swp_exit ?_ | refine swp_block ?_ | refine swp_scope ?_ | refine thenK_ret ?_ | refine thenK_exit ?_ | refine blockK_normal ?_ | refine blockK_ret ?_ | refine blockK_here ?_ | refine bX ?_ | refine scopeK_normal ?_ | refine scopeK_ret ?_ | refine scopeK_exit ?_ | refine loopK_ret ?_ | refine loopK_exit ?_ | refine dF mixed ?_ | (refine cB (fun hc => ?_) (fun hc => ?_) <;> first | exact False.elim hc | exact absurd hc Bool.false_ne_true | exact absurd hc.symm Bool.false_ne_true | skip) | refine cU ?_ ?_)))
    exact DVS
theorem naN_f (a : Int) (m : Nat) : DCalls Try.prog 83 [li a] (hget []) m (lb false) (hget []) := by
  have ha : a = a := rfl
  (have := Nonempty.intro ha)
  refine pureC (n := 6) (rs := [.tmp 2]) (ts := [4]) Try.func83 rfl (by decide) [] (by (exact SD)) ?_
  (repeat' (first | refine swp_seq [0, 2] ?_ | refine st2 ?_ | (show Fct ..; refine fctI (fun hf => ?_)) | (show SWp _ _ _ (.cond _ _ _) _ _ _ _; first | refine cB (fun hc => ?_) (fun hc => ?_) | refine cU ?_ ?_)))
  exact DVR
def cmp1 (a b : Int) : Int := if a < b then -1 else if b < a then 1 else 0
set_option maxHeartbeats 1000000 in
theorem cmp1_f (a b : Int) (m : Nat) : DCalls Try.prog 57 [li a, li b] (hget []) m (li (cmp1 a b)) (hget []) := by
  unfold cmp1
  by_cases h1 : a < b
  · (have := Nonempty.intro h1)
    rw [if_pos h1]
    refine pureC (n := 20) (rs := [.tmp 4]) (ts := [3]) Try.func57 rfl (by decide) [] (by (exact SD)) ?_
    (repeat' (first | refine swp_seq [0, 1, 4, 5, 6, 11, 12, 13, 16, 19] ?_ | refine st2 ?_ | (show CallQ ..; first | refine cQ (fun hcc => (by first | exact naN_f _ _)) ?_ | (refine lP ?_; refine lQ (fun hcc m => (by first | exact naN_f _ _)) ?_)) | (show Fct ..; refine fctI (fun hf => ?_)) | (show SWp _ _ _ (.cond _ _ _) _ _ _ _; first | refine cB (fun hc => ?_) (fun hc => ?_) | refine cU ?_ ?_)))
    exact DVR
  rw [if_neg h1]
  (have := Nonempty.intro h1)
  by_cases h2 : b < a
  · (have := Nonempty.intro h2)
    rw [if_pos h2]
    refine pureC (n := 20) (rs := [.tmp 4]) (ts := [3]) Try.func57 rfl (by decide) [] (by (exact SD)) ?_
    (repeat' (first | refine swp_seq [0, 1, 4, 5, 6, 11, 12, 13, 16, 19] ?_ | refine st2 ?_ | (show CallQ ..; first | refine cQ (fun hcc => (by first | exact naN_f _ _)) ?_ | (refine lP ?_; refine lQ (fun hcc m => (by first | exact naN_f _ _)) ?_)) | (show Fct ..; refine fctI (fun hf => ?_)) | (show SWp _ _ _ (.cond _ _ _) _ _ _ _; first | refine cB (fun hc => ?_) (fun hc => ?_) | refine cU ?_ ?_)))
    exact DVR
  · (have := Nonempty.intro h2)
    rw [if_neg h2]
    refine pureC (n := 20) (rs := [.tmp 4]) (ts := [3]) Try.func57 rfl (by decide) [] (by (exact SD)) ?_
    (repeat' (first | refine swp_seq [0, 1, 4, 5, 6, 11, 12, 13, 16, 19] ?_ | refine st2 ?_ | (show CallQ ..; first | refine cQ (fun hcc => (by first | exact naN_f _ _)) ?_ | (refine lP ?_; refine lQ (fun hcc m => (by first | exact naN_f _ _)) ?_)) | (show Fct ..; refine fctI (fun hf => ?_)) | (show SWp _ _ _ (.cond _ _ _) _ _ _ _; first | refine cB (fun hc => ?_) (fun hc => ?_) | refine cU ?_ ?_)))
    exact DVR
def lexI : List Int → List Int → Int
  | [], [] => 0
  | [], _ :: _ => -1
  | _ :: _, [] => 1
  | a :: l, b :: k => if cmp1 a b = 0 then lexI l k else cmp1 a b
theorem drop_at {l : List Int} {i : Nat} (h : i < l.length) : l.drop i = l.getD i default :: l.drop (i + 1) := by
  rw [List.drop_eq_getElem_cons h, List.getD_eq_getElem?_getD, List.getElem?_eq_getElem h]; rfl
theorem lexI_lt : ∀ {l k : List Int}, l.length = k.length → lexI l k < 0 → ∃ i, i < l.length ∧ (∀ j, j < i → l.getD j default = k.getD j default) ∧ l.getD i default < k.getD i default
  | [], [], _, h => by simp [lexI] at h
  | [], _ :: _, hl, _ => by simp at hl
  | _ :: _, [], hl, _ => by simp at hl
  | a :: l, b :: k, hl, h => by
    rw [lexI] at h
    by_cases e : cmp1 a b = 0
    · rw [if_pos e] at h
      obtain ⟨i, h1, h2, h3⟩ := lexI_lt (by simpa using hl) h
      have eab : a = b := by unfold cmp1 at e; split at e <;> (try split at e) <;> omega
      refine ⟨i + 1, by simpa using h1, fun j hj => ?_, h3⟩
      cases j with
      | zero => exact eab
      | succ j => exact h2 j (by omega)
    · rw [if_neg e] at h
      refine ⟨0, by simp, fun j hj => by omega, ?_⟩
      show a < b
      unfold cmp1 at h
      split at h
      · assumption
      · split at h <;> omega
set_option maxRecDepth 20000 in
set_option maxHeartbeats 4000000 in
theorem cmp_f45 (l k : List Int) (m : Nat) (hl : l.length ≤ 1048576) (hk : l.length = k.length) : DCalls Try.prog 23 [ints l, ints k] (hget []) m (li (lexI l k)) (hget []) := by
  refine pureC (n := 36) (rs := [.tmp 4]) (ts := [3]) Try.func23 rfl (by decide) [] (by (exact SD)) ?_
  (repeat' (first | refine swp_seq [0, 1, 4, 5, 6, 7, 8, 9, 10, 11, 12, 19, 28, 35] ?_ | refine st2 ?_ | (show Fct ..; refine fctI (fun hf => ?_)) | (show SWp _ _ _ (.cond _ _ _) _ _ _ _; first | refine cB (fun hc => ?_) (fun hc => ?_) | refine cU ?_ ?_)))
  refine loop_swp [0, 1, 9, 10, 11] [] 0 (fun q A H => ∃ i : Nat, i ≤ l.length ∧ q = l.length - i ∧ lexI l k = lexI (l.drop i) (k.drop i) ∧ A = [(0, ints l), (1, ints k), (9, ints l), (10, li l.length), (11, li i)] ∧ H = []) (by omega) ?_ ?_ ?_
  · rintro q A H ⟨i, h1, h2, h3, rfl, rfl⟩
    exact ⟨by (exact SD), by (exact SD)⟩
  · refine ⟨_, 0, by omega, rfl, rfl, ?_, ?_⟩
    · exact DVR
    · exact DVR
  rintro q A H ⟨i, h1, h2, h3, rfl, rfl⟩
  by_cases hi : i < l.length
  · have hi3 : (i : Int) < (l.length : Int) := by omega
    have hik : i < k.length := by omega
    have hik3 : ¬ (k.length : Int) ≤ (i : Int) := by omega
    have hcm := fun m => cmp1_f (l.getD i default) (k.getD i default) m
    rw [drop_at hi, drop_at hik, lexI] at h3
    generalize cmp1 (l.getD i default) (k.getD i default) = C at *
    (have := Nonempty.intro hi)
    (have := Nonempty.intro hi3)
    (have := Nonempty.intro hik)
    (have := Nonempty.intro hik3)
    by_cases h0 : C = 0
    · rw [if_pos h0] at h3
      (have := Nonempty.intro h0)
      (repeat' (first | refine swp_seq [0, 1, 4, 5, 6, 7, 8, 9, 10, 11, 12, 19, 28, 35] ?_ | refine st2 ?_ | (show CallQ ..; first | refine cQ (fun hcc => (by first | exact hcm _)) ?_ | (refine lP ?_; refine lQ (fun hcc m => (by first | exact hcm _)) ?_)) | (show Fct ..; refine fctI (fun hf => ?_)) | (show SWp _ _ _ (.cond _ _ _) _ _ _ _; first | refine cB (fun hc => ?_) (fun hc => ?_) | refine cU ?_ ?_)))
      (refine lN [] ?_)
      exact ⟨_, by omega, i + 1, by omega, rfl, h3, rfl, rfl⟩
    · rw [if_neg h0] at h3
      (have := Nonempty.intro h0)
      (repeat' (first | refine swp_seq [0, 1, 4, 5, 6, 7, 8, 9, 10, 11, 12, 19, 28, 35] ?_ | refine st2 ?_ | (show CallQ ..; first | refine cQ (fun hcc => (by first | exact hcm _)) ?_ | (refine lP ?_; refine lQ (fun hcc m => (by first | exact hcm _)) ?_)) | (show Fct ..; refine fctI (fun hf => ?_)) | (show SWp _ _ _ (.cond _ _ _) _ _ _ _; first | refine cB (fun hc => ?_) (fun hc => ?_) | refine cU ?_ ?_)))
      rw [h3]
      exact DVR
  · obtain rfl : i = l.length := by omega
    have hi3 : ¬ (l.length : Int) < (l.length : Int) := by omega
    have hlk : ¬ (l.length : Int) < (k.length : Int) := by omega
    (have := Nonempty.intro hi3)
    (have := Nonempty.intro hlk)
    rw [List.drop_length, hk, List.drop_length] at h3
    rw [h3]
    (repeat' (first | refine swp_seq [0, 1, 4, 5, 6, 7, 8, 9, 10, 11, 12, 19, 28, 35] ?_ | refine st2 ?_ | (show Fct ..; refine fctI (fun hf => ?_)) | (show SWp _ _ _ (.cond _ _ _) _ _ _ _; first | refine cB (fun hc => ?_) (fun hc => ?_) | refine cU ?_ ?_)))
    exact DVR
def chI8 (a : List UInt8) (i : Nat) : Int := if i < a.length then ((a.getD i default).toNat : Int) else 0
def givI (p : Plan) (a : List UInt8) (n : Nat) : List Int := (List.range n).map fun i => p.rel.getD (tmM (chI8 a i) p.rel.length) default
theorem givI_next (p : Plan) (a : List UInt8) (n : Nat) : givI p a (n + 1) = givI p a n ++ [p.rel.getD (tmM (chI8 a n) p.rel.length) default] := by
  unfold givI; rw [List.range_succ, List.map_append]; rfl
theorem givI_len (p : Plan) (a : List UInt8) (n : Nat) : (givI p a n).length = n := by simp [givI]
theorem givI_sch {p : Plan} (hp : planB p = true) (a : List UInt8) : schB p (givI p a p.inf.length) := by
  refine ⟨givI_len _ _ _, fun i hi => ?_⟩
  rw [givI_len] at hi
  refine ⟨tmM (chI8 a i) p.rel.length, Nat.mod_lt _ (by have := (planB_in hp).2.2.2.2.1; omega), ?_⟩
  unfold givI
  rw [List.getD_eq_getElem?_getD (l := List.map _ _), List.getElem?_map, List.getElem?_range hi]; rfl
theorem sch_some {p : Plan} (hp : planB p = true) {rs : List Int} (h : schB p rs) : (∃ c v, pathC p rs p.inf.length = some (c, v) ∧ costR p rs = (c, volsC p rs p.inf.length, 0) ∧ ∃ x, vO p p.inf.length p.start = some x ∧ x ≤ c) ∨ costR p rs = (0, [], 27) := by
  have e := costR_sch hp h
  rw [h.1] at e
  cases hq : pathC p rs p.inf.length with
  | none => rw [hq] at e; exact .inr e
  | some a =>
    obtain ⟨c, v⟩ := a
    rw [hq] at e
    exact .inl ⟨c, v, rfl, e, sch_ge h hq⟩
theorem sch_set {p : Plan} {rs : List Int} (h : schB p rs) {i j : Nat} (hj : j < p.rel.length) : schB p (rs.set i (p.rel.getD j default)) := by
  refine ⟨by rw [List.length_set]; exact h.1, fun k hk => ?_⟩
  rw [List.length_set] at hk
  by_cases e : i = k
  · subst e
    refine ⟨j, hj, ?_⟩
    rw [List.getD_eq_getElem?_getD (l := rs.set _ _), List.getElem?_set_self hk]; rfl
  · obtain ⟨j2, h1, h2⟩ := h.2 k hk
    refine ⟨j2, h1, ?_⟩
    rw [h2, List.getD_eq_getElem?_getD (l := rs.set _ _), List.getElem?_set_ne e, ← List.getD_eq_getElem?_getD]

end Go.Proofs.Ytedocinehadodaa
