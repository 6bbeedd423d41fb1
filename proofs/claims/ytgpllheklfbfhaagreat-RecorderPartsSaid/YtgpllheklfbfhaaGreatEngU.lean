/-
  A part of the engine that reckons calls at the level of data.
  No condition.
-/

import Derived.Test.YtgpllheklfbfhaaGreatEngT
namespace Go.Eng
set_option linter.all false
open Go.RowKit
theorem hnil_no {i : Nat} {v : HV} (h : hget [] i = some v) : False := by cases h
def litD : DV -> Bool
  | .p (.lit _) => true
  | _ => false
def litR : DV -> Bool
  | .tup l => l.all litD
  | d => litD d
theorem litD_rel {ρ ρ' : Nat -> Hd} {S S' : Nat -> Prop} {w w' : World} {d : DV} {v : Value} (h : litD d = true) (hr : Rel ρ S w d v) : Rel ρ' S' w' d v := by
  unfold litD at h;split at h
  · next x =>
    simp only [Rel] at hr ⊢;cases hr with
    | lit v hv => exact .lit v hv
  · cases h
theorem litL_rel {ρ ρ' : Nat -> Hd} {S S' : Nat -> Prop} {w w' : World} : ∀ {l : List DV} {vs : List Value}, l.all litD = true -> RelL ρ S w l vs -> RelL ρ' S' w' l vs
  | [], [], _, _ => trivial
  | d :: l, v :: vs, h, hr => by
    simp only [List.all_cons, Bool.and_eq_true] at h;exact ⟨litD_rel h.1 hr.1, litL_rel h.2 hr.2⟩
  | [], _ :: _, _, h => h.elim
  | _ :: _, [], _, h => h.elim
theorem litR_rel {ρ ρ' : Nat -> Hd} {S S' : Nat -> Prop} {w w' : World} {d : DV} {v : Value} (h : litR d = true) (hr : Rel ρ S w d v) : Rel ρ' S' w' d v := by
  unfold litR at h;split at h
  · next l =>
    simp only [Rel] at hr ⊢;obtain ⟨vs, rfl, hr⟩ := hr;exact ⟨vs, rfl, litL_rel h hr⟩
  · exact litD_rel h hr
theorem litR_uses {U : Nat -> Prop} {d : DV} (h : litR d = true) : d.uses U := by
  unfold litR at h;split at h
  · next l =>
    refine usesL_iff.2 fun x hx => ?_
    have := List.all_eq_true.1 h x hx;unfold litD at this;split at this
    · trivial
    · cases this
  · next x _ =>
    unfold litD at h;split at h
    · trivial
    · cases h
section
variable {P : Program}
theorem DCallsG.lend1 {g : FuncId} {args : List DV} {d : DV} {m o : Nat} {hv : HV} {x : FV} (hx : hv.fv = some x) (hc : ∀ m, DCalls P g (DV.frzL o x args) (hget []) m d (hget [])) (hl : litR d = true) :
    DCalls P g args (hget [(o, hv)]) m d (hget [(o, hv)]) := by
  refine ⟨(hc 0).1, fun U ρ S w vs H0 hmU hr huU => ?_⟩;have ho : hget [(o, hv)] o = some hv := by simp [hget]
  have hO := H0.heap o hv ho;have hr1 : RelL ρ (Sfrz S (hblk (ρ o) hv)) w (DV.frzL o x args) vs := RelL.frz hx hO args vs hr;have hS1 : ∀ b, Sfrz S (hblk (ρ o) hv) b -> b < w.heap.size := fun b hb => by
    rcases hb with hb | hb
    · exact H0.sIn b hb
    · exact hblk_lt hO hb
  have H1 : HSat0 U ρ (Sfrz S (hblk (ρ o) hv)) w (hget []) := ⟨fun _ _ k => (hnil_no k).elim, fun _ _ k => (hnil_no k).elim, fun _ _ _ _ _ k => (hnil_no k).elim, fun _ _ _ k => (hnil_no k).elim, hS1⟩;refine ((hc m).2 U ρ _ w vs H1 hmU hr1 (usesL_frz args huU)).mono ?_;rintro e w' ⟨v, ρ', S', rfl, HS, hr', hu'⟩;have hkeep : ∀ b, b < w.heap.size -> w'.heap[b]? = w.heap[b]? := fun b hb => HS.keep b hb (fun i ⟨_, _, v, k, _⟩ => hnil_no k) (fun ⟨i, v, k, _⟩ => by cases k)
  refine ⟨v, ρ, S, rfl, ?_, litR_rel hl hr', litR_uses hl⟩;have G : HSat (Base.of (fun i => i ∈ []) U ρ S w (hget [(o, hv)])) U ρ S w (hget [(o, hv)]) := HSat0.to H0 (fun i v hi => .inr (H0.heapU i v hi).1);exact (G.grow hkeep HS.size HS.os HS.tape HS.output).used fun _ k => .inl k
variable [Dfr]
theorem swp_nil {N pin nx nx' : Nat} {A : LE} {H : LH} {Q : Exit -> LE -> LH -> Nat -> Prop} {c : Code} (s : Nat) (t : TypeId) (n : Nat) (hs : eget A s = .p (.lit (.slice none 0 0))) (hn : nx + 8 = nx')
    (h : SWp P N pin c Q ((s, .gl nx) :: A) ((nx, .lst t n []) :: H) nx') : SWp P N pin c Q A H nx := fun hp B hB a w hS => by
  subst hn;obtain ⟨ρ, S, HS, ES⟩ := hS;refine h (by omega) B hB a w ⟨upd ρ nx { a := none, len := 0, cap := 0 }, S, ?_, ?_⟩
  · have hfr := St.fresh HS;have := HS.install (w' := w) (ρ' := upd ρ nx { a := none, len := 0, cap := 0 }) nx (.lst t n []) w.heap.size (fun i hi => upd_ne _ _ (by omega)) (fun i hi => upd_ne _ _ (by have := hB i hi; omega)) (fun _ _ _ => rfl) (Nat.le_refl _) rfl rfl rfl
      (fun hS => by have := HS.sIn _ hS; omega) (.inr (.inr HS.size)) (fun j u _ hj e => by have := hblk_lt (HS.heap j u hj) e; omega) (fun b hb => by simp [hblk] at hb)
      (by simp only [HRel, upd_same]; exact ⟨rfl, by simp [BL], by simp, by simp, .inl trivial⟩) trivial
    have e : hget ((nx, .lst t n []) :: H) = upd (hget H) nx (some (.lst t n [])) := by funext i; simp [hget, upd]
    rw [e];exact this.used fun i k => by omega
  · have E1 : ESat N (fun i => i < nx + 8) (upd ρ nx { a := none, len := 0, cap := 0 }) S w (eget A) a := ES.mono (fun i hi => upd_ne _ _ (by omega)) (fun _ k => k) (fun _ _ => rfl) fun i k => by omega
    refine ⟨E1.size, E1.defers, fun t' => ?_, fun t' => ?_⟩
    · by_cases e : t' = s
      · subst e;have hv := ES.env t';rw [hs] at hv;have := rel_lit hv;simp only [eget, if_true, Rel, upd_same]; exact this
      · simp only [eget, if_neg e]; exact E1.env t'
    · by_cases e : t' = s
      · subst e; simp only [eget, if_true, DV.uses]; omega
      · simp only [eget, if_neg e]; exact E1.envU t'
end
end Go.Eng
