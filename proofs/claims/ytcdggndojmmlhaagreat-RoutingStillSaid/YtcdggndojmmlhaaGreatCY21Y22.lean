/-
  Contracts of functions of the program, over the engine.
  No condition.
-/
import Derived.Test.YtcdggndojmmlhaaGreatCY15
import Derived.Test.YtcdggndojmmlhaaGreatCY17Y18
namespace Go.Proofs.YtcdggndojmmlhaaGreat
open Go.Eng
set_option linter.all false
attribute [local irreducible] DCallsG SWp Fct CallQ XCallQ LCallQ XLCallQ drun xrun
section
open Go.Eng
theorem swp_nilC {D : Dfr} {P : Program} {N pin nx nx' : Nat} {c : Code} {Q : Exit → LE → LH → Nat → Prop} {A : LE} {H : LH} (b : Nat) (t te : TypeId) (n : Nat) (cs1 cs2 : List DV) (hn : nx + 8 = nx')
    (h : @SWp D P N pin c Q A ((b, .blk t (cs1 ++ .gl nx :: cs2)) :: (nx, .lst te n []) :: H) nx') : @SWp D P N pin c Q A ((b, .blk t (cs1 ++ .p (.lit (.slice none 0 0)) :: cs2)) :: H) nx := by
  subst hn
  unfold SWp at h ⊢
  intro hp B hB a w hS
  obtain ⟨ρ, S, HS, ES⟩ := hS
  have h0 : hget ((b, HV.blk t (cs1 ++ .p (.lit (.slice none 0 0)) :: cs2)) :: H) b = some (.blk t (cs1 ++ .p (.lit (.slice none 0 0)) :: cs2)) := by simp [hget]
  have hbU := (HS.heapU b _ h0).1
  have hbn : b ≠ nx := by omega
  obtain ⟨ρ', hρ'⟩ : ∃ ρ' : Nat → Hd, ρ' = upd ρ nx { a := none, len := 0, cap := 0 } := ⟨_, rfl⟩
  have hlt : ∀ i, i < nx → ρ' i = ρ i := fun i hi => by subst hρ'; exact upd_ne _ _ (by omega)
  have hnx : ρ' nx = { a := none, len := 0, cap := 0 } := by subst hρ'; exact upd_same ..
  have key : ∀ (l : List DV) (vs : List Value), RelL ρ' S w (l ++ .p (.lit (.slice none 0 0)) :: cs2) vs → RelL ρ' S w (l ++ .gl nx :: cs2) vs := fun l => by
    induction l with
    | nil =>
      intro vs k
      cases vs with
      | nil => exact k.elim
      | cons v vs =>
        refine ⟨?_, k.2⟩
        have := rel_lit k.1
        simp only [Rel]
        rw [hnx]; exact this
    | cons d l ih =>
      intro vs k
      cases vs with
      | nil => exact k.elim
      | cons v vs => exact ⟨k.1, ih vs k.2⟩
  refine h (by omega) B hB a w ⟨ρ', S, ?_, ?_⟩
  · refine HS.seen (fun i hi => hlt i (by have := hB i hi; omega)) fun i v hi => ?_
    simp only [hget] at hi
    split at hi
    · next e1 =>
      subst e1
      obtain rfl := Option.some.inj hi
      have hU := HS.heapU i _ h0
      have hO := HRel.mono (U := fun i => i < nx) (fun i hi => hlt i hi) (fun _ k => k) (fun _ _ => rfl) hU.1 hU.2 (fun _ _ => rfl) (HS.heap i _ h0)
      refine ⟨?_, by omega, ?_, fun c hc => ⟨_, h0, ?_⟩⟩
      · simp only [HRel] at hO ⊢
        obtain ⟨bb, vs, fz, k1, k2, k3, k4⟩ := hO
        exact ⟨bb, vs, fz, k1, k2, key _ _ k3, k4⟩
      · refine usesL_iff.2 fun d hd => ?_
        have hu := usesL_iff.1 (show DV.usesL _ (cs1 ++ .p (.lit (.slice none 0 0)) :: cs2) from hU.2)
        rcases List.mem_append.1 hd with hd | hd
        · exact uses_mono (fun i k => by omega) _ (hu d (List.mem_append.2 (.inl hd)))
        · rcases List.mem_cons.1 hd with rfl | hd
          · show nx < nx + 8; omega
          · exact uses_mono (fun i k => by omega) _ (hu d (List.mem_append.2 (.inr (List.mem_cons_of_mem _ hd))))
      · simp only [hblk] at hc ⊢
        rw [hlt i hbU] at hc; exact hc
    · next e1 =>
      split at hi
      · next e2 =>
        subst e2
        obtain rfl := Option.some.inj hi
        refine ⟨?_, by omega, trivial, fun c hc => ?_⟩
        · simp only [HRel]
          rw [hnx]
          exact ⟨rfl, by simp [BL], by simp, by simp, .inl rfl⟩
        · simp only [hblk] at hc
          rw [hnx] at hc
          simp at hc
      · next e2 =>
        have hh : hget ((b, HV.blk t (cs1 ++ .p (.lit (.slice none 0 0)) :: cs2)) :: H) i = some v := by simp only [hget, if_neg e1]; exact hi
        have hU := HS.heapU i v hh
        refine ⟨HRel.mono (U := fun i => i < nx) (fun i hi => hlt i hi) (fun _ k => k) (fun _ _ => rfl) hU.1 hU.2 (fun _ _ => rfl) (HS.heap i v hh), by have : i < nx := hU.1; omega, HV.uses_mono (fun i k => by omega) v hU.2, fun c hc => ⟨v, hh, ?_⟩⟩
        rw [hlt i hU.1] at hc; exact hc
  · exact ES.mono (fun i hi => hlt i hi) (fun _ k => k) (fun _ _ => rfl) fun i k => by omega
end
theorem rep_in (k : Nat) : List.replicate k [DV.p (.lit (.int .i64 0))] = rows inRow (List.replicate k 0) := by
  unfold rows; rw [List.map_replicate]; rfl
theorem rep_bo (k : Nat) : List.replicate k [DV.p (.lit (.bool false))] = rows boRow (List.replicate k false) := by
  unfold rows; rw [List.map_replicate]; rfl
attribute [push_cast] rep_in rep_bo
theorem rep0_at (N q : Nat) : (List.replicate N (0 : Int)).getD q default = 0 := by
  rw [List.getD_eq_getElem?_getD, List.getElem?_replicate]
  split <;> rfl
def emptyS (n : Net) : Sta := ⟨List.replicate n.nodes.length 0, List.replicate n.nodes.length 0, List.replicate n.links.length 1000, List.replicate n.links.length false⟩
theorem sta_empty {n : Net} (nb : netB n = true) : staB n (emptyS n) = true := by
  unfold staB lensB
  simp only [Bool.and_eq_true, decide_eq_true_eq, List.all_eq_true, List.mem_range]
  refine ⟨⟨⟨⟨⟨List.length_replicate .., List.length_replicate ..⟩, List.length_replicate ..⟩, List.length_replicate ..⟩, fun q hq => ?_⟩, fun k hk => ?_⟩
  · have hc := capN_in nb hq
    have e1 : (emptyS n).vol.getD q default = 0 := rep0_at _ _
    have e2 : (emptyS n).pon.getD q default = 0 := rep0_at _ _
    unfold okSN btwB volB
    simp only [Bool.and_eq_true, decide_eq_true_eq, Bool.not_eq_true', Bool.and_eq_false_iff, decide_eq_false_iff_not, Bool.not_eq_false', e1, e2]
    exact ⟨⟨⟨by omega, hc.1⟩, by omega, by omega⟩, .inr trivial⟩
  · have e1 : (emptyS n).set.getD k default = 1000 := by
      show (List.replicate n.links.length (1000 : Int)).getD k default = 1000
      rw [List.getD_eq_getElem?_getD, List.getElem?_replicate, if_pos hk]; rfl
    have e2 : (emptyS n).on.getD k default = false := by
      show (List.replicate n.links.length false).getD k default = false
      rw [List.getD_eq_getElem?_getD, List.getElem?_replicate, if_pos hk]; rfl
    unfold okSL
    rw [e1, e2]; rfl
set_option maxRecDepth 20000 in
set_option maxHeartbeats 8000000 in
theorem empty_f (n : Net) (m : Nat) (no : netOk n) : DCalls Tryz.prog 20 [netD n] (hget []) m (if netB n = true then .tup [staD (emptyS n), li 0] else .tup [staD zeroS, li 1]) (hget []) := by
  have cv := fun m => netValid_f n m no
  cases nb : netB n <;> simp only [nb] at cv
  · rw [if_neg (by decide)]
    refine pureC (n := 34) (rs := [.cell 2 30, .tmp 3]) (ts := [30, 37]) Tryz.func20 rfl (by decide) [] (by (exact SD)) ?_
    (repeat' (first | refine swp_seq [0, 1, 2, 3, 4, 7, 24, 25, 26] ?_ | refine st2 ?_ | (show CallQ ..; first | refine cQ (fun hcc => (by first | exact cv _)) ?_ | (refine lP ?_; refine lQ (fun hcc m => (by first | exact cv _)) ?_)) | (show XCallQ ..; first | refine xQ (fun hcc => (by first | exact cv _)) ?_ | (refine xlP ?_; refine xlQ (fun hcc m => (by first | exact cv _)) ?_)) | (show Fct ..; refine fctI (fun hf => ?_)) | (show SWp _ _ _ (.cond _ _ _) _ _ _ _; first | refine cB (fun hc => ?_) (fun hc => ?_) | refine cU ?_ ?_)))
    exact DVR
  rw [if_pos rfl]
  obtain ⟨h300, h400⟩ := netB_len nb
  show DCalls Tryz.prog 20 [netD n] (hget []) m (.tup [.agg [ints (List.replicate n.nodes.length 0), ints (List.replicate n.nodes.length 0), ints (List.replicate n.links.length 1000), bools (List.replicate n.links.length false)], li 0]) (hget [])
  have hz : (List.replicate n.nodes.length (0 : Int)).length = n.nodes.length := List.length_replicate ..
  have hf : (List.replicate n.links.length false).length = n.links.length := List.length_replicate ..
  refine pureC (n := 34) (rs := [.cell 2 30, .tmp 3]) (ts := [30, 37]) Tryz.func20 rfl (by decide) [72, 104, 200, 136] (by (exact SD)) ?_
  (repeat' (first | refine swp_seq [0, 1, 2, 3, 4, 7, 24, 25, 26] ?_ | (show SWp _ _ _ (.region _ _ true) _ _ _ _; refine xG mixed [152] ?_) | refine st2 ?_ | (show CallQ ..; first | refine cQ (fun hcc => (by first | exact cv _)) ?_ | (refine lP ?_; refine lQ (fun hcc m => (by first | exact cv _)) ?_)) | (show XCallQ ..; first | refine xQ (fun hcc => (by first | exact cv _)) ?_ | (refine xlP ?_; refine xlQ (fun hcc m => (by first | exact cv _)) ?_)) | (show Fct ..; refine fctI (fun hf => ?_)) | (show SWp _ _ _ (.cond _ _ _) _ _ _ _; first | refine cB (fun hc => ?_) (fun hc => ?_) | refine cU ?_ ?_)))
  refine swp_hkeep [152, 8, 72, 104, 136] rfl ?_
  change SWp _ _ _ _ _ _ ((152, .blk 30 ([.gl 72, .gl 104] ++ .p (.lit (.slice none 0 0)) :: [.gl 136])) :: _) _
  refine swp_nilC 152 30 3 1 [.gl 72, .gl 104] [.gl 136] rfl ?_
  generalize List.replicate n.nodes.length (0 : Int) = Z at *
  generalize List.replicate n.links.length false = F at *
  refine loop_swp [2, 4, 24, 25] [8, 72, 104, 136, 152, 200] 208 (fun q A H => ∃ k : Nat, k ≤ n.links.length ∧ q = n.links.length - k ∧ A = [(2, .ptr 8 0), (4, .ptr 152 0), (24, li n.links.length), (25, li k)] ∧ H = [(8, .blk 30 [nilS, nilS, nilS, nilS]), (72, inLt Z), (104, inLt Z), (136, boL F), (152, .blk 30 [.gl 72, .gl 104, .gl 200, .gl 136]), (200, inLt (List.replicate k 1000))]) (by omega) ?_ ?_ ?_
  · rintro q A H ⟨k, g1, g2, rfl, rfl⟩
    exact ⟨by (exact SD), by (exact SD)⟩
  · refine ⟨_, 0, by omega, rfl, ?_, ?_⟩
    · exact DVR
    · exact DVR
  rintro q A H ⟨k, g1, g2, rfl, rfl⟩
  by_cases hk : k < n.links.length
  · have hk3 : (k : Int) < (n.links.length : Int) := by omega
    have hnx : List.replicate (k + 1) (1000 : Int) = List.replicate k 1000 ++ [1000] := List.replicate_succ'
    have hti : (List.replicate k (1000 : Int)).length = k := List.length_replicate ..
    generalize List.replicate k (1000 : Int) = X at *
    (have := Nonempty.intro hk)
    (have := Nonempty.intro hk3)
    (repeat' (first | refine swp_seq [0, 1, 2, 3, 4, 7, 24, 25, 26] ?_ | refine st2 ?_ | (show Fct ..; refine fctI (fun hf => ?_)) | (show SWp _ _ _ (.cond _ _ _) _ _ _ _; first | refine cB (fun hc => ?_) (fun hc => ?_) | refine cU ?_ ?_)))
    (refine lN [8, 72, 104, 136, 152, 200] ?_)
    exact ⟨_, by omega, k + 1, by omega, rfl, rfl, by rw [hnx] <;> rfl⟩
  obtain rfl : k = n.links.length := by omega
  have hk3 : ¬ ((n.links.length : Int) < (n.links.length : Int)) := by omega
  (have := Nonempty.intro hk3)
  generalize List.replicate n.links.length (1000 : Int) = X at *
  (repeat' (first | refine swp_seq [0, 1, 2, 3, 4, 7, 24, 25, 26] ?_ | refine st2 ?_ | (show Fct ..; refine fctI (fun hf => ?_)) | (show SWp _ _ _ (.cond _ _ _) _ _ _ _; first | refine cB (fun hc => ?_) (fun hc => ?_) | refine cU ?_ ?_)))
  exact DVR
section
variable {n : Net} {l : List Sect} {sec : Int}
theorem emptyB (nb : netB n = true) {q : Nat} (hq : q < n.nodes.length) : (heldB n (emptyS n) (List.replicate n.nodes.length 0)).getD q default = 0 := by
  rw [heldB_at hq]
  split
  · rfl
  · unfold heldA
    have e1 : (emptyS n).vol.getD q default = 0 := rep0_at _ _
    have e2 : (emptyS n).pon.getD q default = 0 := rep0_at _ _
    rw [inH_at hq, heldL_at _ (by show q < (List.replicate n.nodes.length (0 : Int)).length; rw [List.length_replicate]; exact hq), e1, e2, rep0_at, ite_self]; rfl
theorem emptyE (nb : netB n = true) (no : netOk n) (co : catOk l) : stepE n l (emptyS n) (List.replicate n.nodes.length 0) sec = if catB l = false then 1 else if sec < 1 ∨ 86400 < sec then 2 else if (n.links.any fun x => !knownB l x) = true then 9 else 0 := by
  have hrb : rangB (List.replicate n.nodes.length (0 : Int)) 1125899906842624 = true := by
    unfold rangB
    rw [List.all_eq_true]
    intro i hi
    rw [rep0_at]; rfl
  have sb := sta_empty nb
  have hl : (List.replicate n.nodes.length (0 : Int)).length = n.nodes.length := List.length_replicate ..
  have hft := fit_zero nb (h := heldB n (emptyS n) (List.replicate n.nodes.length 0)) fun q hq => emptyB nb hq
  by_cases hc : catB l = false
  · rw [if_pos hc]
    unfold stepE
    rw [if_pos (by rw [hc, Bool.and_false])]
  rw [if_neg hc]
  have hc : catB l = true := by simpa only [Bool.not_eq_false] using hc
  by_cases hs : sec < 1 ∨ 86400 < sec
  · rw [if_pos hs]
    unfold stepE
    rw [if_neg (by rw [nb, sb, hc]; decide), if_neg (fun q => q hl), if_pos (.inr hs)]
  rw [if_neg hs]
  by_cases hk : (n.links.any fun x => !knownB l x) = true
  · rw [if_pos hk]
    unfold stepE
    rw [if_neg (by rw [nb, sb, hc]; decide), if_neg (fun q => q hl), if_neg (by rw [hrb]; simp; omega), if_pos hk]
  rw [if_neg hk]
  have S : StepIn n l (emptyS n) (List.replicate n.nodes.length 0) sec := ⟨no, co, nb, sb, hc, hl, fun i hi => by rw [rep0_at]; omega, by omega, fun k hk2 => by
    have hk : (n.links.any fun x => !knownB l x) = false := by simpa only [Bool.not_eq_true] using hk
    rw [List.any_eq_false] at hk
    have := hk _ (getD_mem hk2)
    simpa using this⟩
  have hg := fit_zero nb (h := heldD n l (emptyS n) (List.replicate n.nodes.length 0) sec) fun q hq => dry_d S hft (fun q hq => emptyB nb hq) hq
  rw [stepE_mid S, if_neg (by rw [hft]; decide), if_neg (by rw [hg]; decide)]
structure Dry (n : Net) (T : Sta) (A : Ledg) : Prop where
  so : staOk T
  sb : staB n T = true
  hd : sumI (heldL T) T.vol.length = 0
  inn : A.inn = 0
  out : A.out = 0
  len : A.passed.length = n.links.length
  pas : (A.passed.any fun k => !decide (k = 0)) = false
theorem dry_of (nb : netB n = true) (no : netOk n) (co : catOk l) (h : stepE n l (emptyS n) (List.replicate n.nodes.length 0) sec = 0) : Dry n (stepS n l (emptyS n) (List.replicate n.nodes.length 0) sec) (stepL n l (emptyS n) (List.replicate n.nodes.length 0) sec) := by
  obtain ⟨S, hf, hg⟩ := stepE_0 no co h
  have h0 := fun q hq => emptyB nb (q := q) hq
  have fin := S.fin hf hg
  have hl : (pasL n l (emptyS n) (List.replicate n.nodes.length 0) sec).length = n.links.length := limR_len ..
  refine ⟨staOk_of nb fin, fin, ?_, ?_, ?_, hl, ?_⟩
  · rw [stepS_sum, sumN_congr (G := fun _ => 0) _ fun q hq => dry_d S hf h0 hq, sumN_zero]
  · show sumI (List.replicate n.nodes.length 0) n.nodes.length = 0
    rw [sumI_sum _ (by rw [List.length_replicate]; exact Nat.le_refl _), sumN_congr (G := fun _ => 0) _ fun q hq => rep0_at _ _, sumN_zero]
  · show selI (isOut n) (List.replicate n.nodes.length 0) n.nodes.length + selI (toOut n) (pasL n l (emptyS n) (List.replicate n.nodes.length 0) sec) n.links.length = 0
    rw [selI_zero _ fun k hk => rep0_at _ _, selI_zero _ fun k hk => dry_x S hf h0 hk]; rfl
  · show ((pasL n l (emptyS n) (List.replicate n.nodes.length 0) sec).any fun k => !decide (k = 0)) = false
    rw [List.any_eq_false]
    intro x hx
    obtain ⟨k, hk, rfl⟩ := List.mem_iff_getElem.1 hx
    have := dry_x S hf h0 (k := k) (by omega)
    rw [List.getD_eq_getElem?_getD, List.getElem?_eq_getElem hk] at this
    have this : (pasL n l (emptyS n) (List.replicate n.nodes.length 0) sec)[k] = 0 := this
    rw [this]; decide
end
theorem still1_f (k : Int) (m : Nat) : DCalls Tryz.prog 24 [li k] (hget []) m (lb (!decide (k = 0))) (hget []) := by
  refine pureC (n := 5) (rs := [.tmp 2]) (ts := [4]) Tryz.func24 rfl (by decide) [] (by (exact SD)) ?_
  (repeat' (first | refine swp_seq [0, 2] ?_ | refine st2 ?_ | (show Fct ..; refine fctI (fun hf => ?_)) | (show SWp _ _ _ (.cond _ _ _) _ _ _ _; first | refine cB (fun hc => ?_) (fun hc => ?_) | refine cU ?_ ?_)))
  exact DVR
theorem rightCat_f (l : List Sect) (m : Nat) (co : catOk l) : DCalls Tryz.prog 22 [sectL l] (hget []) m (lb (catB l)) (hget []) := by
  refine pureC (n := 5) (rs := [.tmp 2]) (ts := [4]) Tryz.func22 rfl (by decide) [] (by (exact SD)) ?_
  (repeat' (first | refine swp_seq [0, 2] ?_ | refine st2 ?_ | (show CallQ ..; first | refine cQ (fun hcc => (by first | exact rCat_f _ _ co)) ?_ | (refine lP ?_; refine lQ (fun hcc m => (by first | exact rCat_f _ _ co)) ?_)) | (show Fct ..; refine fctI (fun hf => ?_)) | (show SWp _ _ _ (.cond _ _ _) _ _ _ _; first | refine cB (fun hc => ?_) (fun hc => ?_) | refine cU ?_ ?_)))
  exact DVR
set_option maxRecDepth 20000 in
set_option maxHeartbeats 32000000 in
theorem still_f (n : Net) (l : List Sect) (s : Sta) (sec : Int) (m : Nat) (no : netOk n) (co : catOk l) (so : staOk s) : DCalls Tryz.prog 4 [netD n, sectL l, staD s, li sec] (hget []) m (lb true) (hget []) := by
  have eL := fun m => large_f n m no
  have eM := fun m => many_f l m co
  have eG := fun m => long_f s [] m so (by simp) (fun x hx => by cases hx)
  cases hL : largeB n <;> simp only [hL] at eL
  case true =>
    refine pureC (n := 161) (rs := [.tmp 8]) (ts := [4]) Tryz.func4 rfl (by decide) [] (by (exact SD)) ?_
    (repeat' (first | refine swp_seq [0, 1, 2, 3, 4, 6, 8, 9, 10, 11, 12, 13, 14, 15, 16, 17, 18, 19, 20, 21, 22, 23, 25, 35, 51, 87, 94, 109] ?_ | refine st2 ?_ | (show CallQ ..; first | refine cQ (fun hcc => (by first | exact awake_f _ | exact eL _)) ?_ | (refine lP ?_; refine lQ (fun hcc m => (by first | exact awake_f _ | exact eL _)) ?_)) | (show Fct ..; refine fctI (fun hf => ?_)) | (show SWp _ _ _ (.cond _ _ _) _ _ _ _; first | refine cB (fun hc => ?_) (fun hc => ?_) | refine cU ?_ ?_)))
    exact DVR
  cases hM : manyB l <;> simp only [hM] at eM
  case true =>
    refine pureC (n := 161) (rs := [.tmp 8]) (ts := [4]) Tryz.func4 rfl (by decide) [] (by (exact SD)) ?_
    (repeat' (first | refine swp_seq [0, 1, 2, 3, 4, 6, 8, 9, 10, 11, 12, 13, 14, 15, 16, 17, 18, 19, 20, 21, 22, 23, 25, 35, 51, 87, 94, 109] ?_ | refine st2 ?_ | (show CallQ ..; first | refine cQ (fun hcc => (by first | exact awake_f _ | exact eL _ | exact eM _)) ?_ | (refine lP ?_; refine lQ (fun hcc m => (by first | exact awake_f _ | exact eL _ | exact eM _)) ?_)) | (show Fct ..; refine fctI (fun hf => ?_)) | (show SWp _ _ _ (.cond _ _ _) _ _ _ _; first | refine cB (fun hc => ?_) (fun hc => ?_) | refine cU ?_ ?_)))
    exact DVR
  cases hG : longB s [] <;> simp only [hG] at eG
  case true =>
    refine pureC (n := 161) (rs := [.tmp 8]) (ts := [4]) Tryz.func4 rfl (by decide) [] (by (exact SD)) ?_
    (repeat' (first | refine swp_seq [0, 1, 2, 3, 4, 6, 8, 9, 10, 11, 12, 13, 14, 15, 16, 17, 18, 19, 20, 21, 22, 23, 25, 35, 51, 87, 94, 109] ?_ | refine st2 ?_ | (show CallQ ..; first | refine cQ (fun hcc => (by first | exact awake_f _ | exact eL _ | exact eM _ | exact eG _)) ?_ | (refine lP ?_; refine lQ (fun hcc m => (by first | exact awake_f _ | exact eL _ | exact eM _ | exact eG _)) ?_)) | (show Fct ..; refine fctI (fun hf => ?_)) | (show SWp _ _ _ (.cond _ _ _) _ _ _ _; first | refine cB (fun hc => ?_) (fun hc => ?_) | refine cU ?_ ?_)))
    exact DVR
  have h14 : n.nodes.length ≤ 14 := by
    unfold largeB at hL; simp at hL; omega
  have hZl : (List.replicate n.nodes.length (0 : Int)).length = n.nodes.length := List.length_replicate ..
  have kkS := fun m => Step_f n l s (List.replicate n.nodes.length 0) sec m no co so (by omega) h14
  have kkE := fun m => empty_f n m no
  have kkV := fun m => rNetValid_f n m no
  cases nb : netB n
  · rw [nb, if_neg (by decide)] at kkE
    rw [nb] at kkV
    rw [stepR_bad (e := 1) (by unfold stepE; rw [if_pos (by rw [nb]; rfl)]) (by decide)] at kkS
    generalize hZ : List.replicate n.nodes.length (0 : Int) = Z at *
    refine pureC (n := 161) (rs := [.tmp 8]) (ts := [4]) Tryz.func4 rfl (by decide) [] (by (exact SD)) ?_
    (repeat' (first | (show SWp _ _ _ (.seq (.region 6 _ _) _) _ _ _ _; refine (stop_in ?_)) | refine swp_seq [0, 1, 2, 3, 4, 6, 8, 9, 10, 11, 12, 13, 14, 15, 16, 17, 18, 19, 20, 21, 22, 23, 25, 35, 51, 87, 94, 109] ?_ | refine st2 ?_ | (show CallQ ..; first | refine cQ (fun hcc => (by first | exact awake_f _ | exact eL _ | exact eM _ | exact eG _)) ?_ | (refine lP ?_; refine lQ (fun hcc m => (by first | exact awake_f _ | exact eL _ | exact eM _ | exact eG _)) ?_)) | (show Fct ..; refine fctI (fun hf => ?_)) | (show SWp _ _ _ (.cond _ _ _) _ _ _ _; first | refine cB (fun hc => ?_) (fun hc => ?_) | refine cU ?_ ?_)))
    refine stop_out ?_
    rw [hZ]
    (refine sF 144 ?_)
    (repeat' (first | refine swp_seq [0, 1, 2, 3, 4, 6, 8, 9, 10, 11, 12, 13, 14, 15, 16, 17, 18, 19, 20, 21, 22, 23, 25, 35, 51, 87, 94, 109] ?_ | refine st2 ?_ | (show CallQ ..; first | refine cQ (fun hcc => (by first | exact kkS _ | exact kkE _ | exact kkV _)) ?_ | (refine lP ?_; refine lQ (fun hcc m => (by first | exact kkS _ | exact kkE _ | exact kkV _)) ?_)) | (show Fct ..; refine fctI (fun hf => ?_)) | (show SWp _ _ _ (.cond _ _ _) _ _ _ _; first | refine cB (fun hc => ?_) (fun hc => ?_) | refine cU ?_ ?_)))
    exact DVR
  rw [nb, if_pos rfl] at kkE
  rw [nb] at kkV
  have sE := staOk_of nb (sta_empty nb)
  have kkT := fun m => Step_f n l (emptyS n) (List.replicate n.nodes.length 0) sec m no co sE (by omega) h14
  have kkC := fun m => rightCat_f l m co
  have hEE := emptyE (sec := sec) nb no co
  have hB : stepE n l s (List.replicate n.nodes.length 0) sec = 0 → Bal n s (List.replicate n.nodes.length 0) (stepS n l s (List.replicate n.nodes.length 0) sec) (stepL n l s (List.replicate n.nodes.length 0) sec) ∧ staB n s = true := fun h => by
    obtain ⟨S, hf, hg⟩ := stepE_0 no co h
    exact ⟨bal_of S hf hg, S.sb⟩
  have hD := dry_of (sec := sec) (l := l) nb no co
  have hI : sumI (List.replicate n.nodes.length (0 : Int)) n.nodes.length = 0 := by
    rw [sumI_sum _ (by rw [List.length_replicate]; exact Nat.le_refl _), sumN_congr (G := fun _ => 0) _ fun q hq => rep0_at _ _, sumN_zero]
  generalize hZ : List.replicate n.nodes.length (0 : Int) = Z at *
  generalize emptyS n = E at *
  by_cases e0 : stepE n l s Z sec = 0
  · rw [stepR_good e0] at kkS
    obtain ⟨B, sb⟩ := hB e0
    obtain ⟨S, hf, hg⟩ := stepE_0 no co e0
    have eZ : stepE n l E Z sec = 0 := by
      rw [hEE, if_neg (by rw [S.cb]; decide), if_neg (by have := S.sc; omega), if_neg (by
        intro h
        obtain ⟨x, hx, hb⟩ := List.any_eq_true.1 h
        obtain ⟨k, hk, rfl⟩ := List.mem_iff_getElem.1 hx
        have := S.kn k hk
        rw [List.getD_eq_getElem?_getD, List.getElem?_eq_getElem hk] at this
        have this : knownB l n.links[k] = true := this
        rw [this] at hb; cases hb)]
    rw [stepR_good eZ] at kkT
    have D := hD eZ
    have kkH1 := fun m => held_f n s m no so
    have kkH2 := fun m => held_f n (stepS n l s Z sec) m no B.so
    have kkH3 := fun m => held_f n (stepS n l E Z sec) m no D.so
    have kkA := fun m => conInt_f 24 (fun k => !decide (k = 0)) (stepL n l E Z sec).passed m (by have := netB_len nb; have := D.len; omega) (fun x _ m => still1_f x m)
    rw [D.pas] at kkA
    rw [if_pos (by rw [nb, sb]; rfl)] at kkH1
    rw [if_pos B.sb] at kkH2
    rw [if_pos (by rw [nb, D.sb]; rfl), D.hd] at kkH3
    have b1 := B.r1
    have b2 := B.r2
    have b3 := B.tot
    have b4 := B.out
    have b5 := B.inn
    have d3 := D.inn
    have d4 := D.out
    rw [hI] at b5
    clear S hf hg hEE hB hD B D
    generalize stepS n l s Z sec = T at *
    generalize stepL n l s Z sec = A at *
    generalize stepS n l E Z sec = U at *
    generalize stepL n l E Z sec = G at *
    generalize sumI (heldL s) s.vol.length = hb at *
    generalize sumI (heldL T) T.vol.length = ha at *
    have d1 : ¬ hb < ha := by omega
    have d2 : A.out = hb - ha := by omega
    clear b3
    (have := Nonempty.intro d1)
    (have := Nonempty.intro d2)
    (have := Nonempty.intro b5)
    (have := Nonempty.intro d3)
    (have := Nonempty.intro d4)
    refine pureC (n := 161) (rs := [.tmp 8]) (ts := [4]) Tryz.func4 rfl (by decide) [] (by (exact SD)) ?_
    (repeat' (first | (show SWp _ _ _ (.seq (.region 6 _ _) _) _ _ _ _; refine (stop_in ?_)) | refine swp_seq [0, 1, 2, 3, 4, 6, 8, 9, 10, 11, 12, 13, 14, 15, 16, 17, 18, 19, 20, 21, 22, 23, 25, 35, 51, 87, 94, 109] ?_ | refine st2 ?_ | (show CallQ ..; first | refine cQ (fun hcc => (by first | exact awake_f _ | exact eL _ | exact eM _ | exact eG _)) ?_ | (refine lP ?_; refine lQ (fun hcc m => (by first | exact awake_f _ | exact eL _ | exact eM _ | exact eG _)) ?_)) | (show Fct ..; refine fctI (fun hf => ?_)) | (show SWp _ _ _ (.cond _ _ _) _ _ _ _; first | refine cB (fun hc => ?_) (fun hc => ?_) | refine cU ?_ ?_)))
    refine stop_out ?_
    rw [hZ]
    (refine sF 144 ?_)
    (repeat' (first | refine swp_seq [0, 1, 2, 3, 4, 6, 8, 9, 10, 11, 12, 13, 14, 15, 16, 17, 18, 19, 20, 21, 22, 23, 25, 35, 51, 87, 94, 109] ?_ | refine st2 ?_ | (show CallQ ..; first | refine cQ (fun hcc => (by first | exact kkS _ | exact kkH1 _ | exact kkH2 _ | exact kkE _ | exact kkT _ | exact kkH3 _ | exact kkA _)) ?_ | (refine lP ?_; refine lQ (fun hcc m => (by first | exact kkS _ | exact kkH1 _ | exact kkH2 _ | exact kkE _ | exact kkT _ | exact kkH3 _ | exact kkA _)) ?_)) | (show Fct ..; refine fctI (fun hf => ?_)) | (show SWp _ _ _ (.cond _ _ _) _ _ _ _; first | refine cB (fun hc => ?_) (fun hc => ?_) | refine cU ?_ ?_)))
    exact DVR
  rw [stepR_bad rfl e0] at kkS
  generalize stepE n l s Z sec = e at *
  (have := Nonempty.intro e0)
  clear hB
  cases hc : catB l
  · rw [hc] at kkC
    rw [stepR_bad (e := 1) (by rw [hEE, if_pos hc]) (by decide)] at kkT
    clear hEE hD
    refine pureC (n := 161) (rs := [.tmp 8]) (ts := [4]) Tryz.func4 rfl (by decide) [] (by (exact SD)) ?_
    (repeat' (first | (show SWp _ _ _ (.seq (.region 6 _ _) _) _ _ _ _; refine (stop_in ?_)) | refine swp_seq [0, 1, 2, 3, 4, 6, 8, 9, 10, 11, 12, 13, 14, 15, 16, 17, 18, 19, 20, 21, 22, 23, 25, 35, 51, 87, 94, 109] ?_ | refine st2 ?_ | (show CallQ ..; first | refine cQ (fun hcc => (by first | exact awake_f _ | exact eL _ | exact eM _ | exact eG _)) ?_ | (refine lP ?_; refine lQ (fun hcc m => (by first | exact awake_f _ | exact eL _ | exact eM _ | exact eG _)) ?_)) | (show Fct ..; refine fctI (fun hf => ?_)) | (show SWp _ _ _ (.cond _ _ _) _ _ _ _; first | refine cB (fun hc => ?_) (fun hc => ?_) | refine cU ?_ ?_)))
    refine stop_out ?_
    rw [hZ]
    (refine sF 144 ?_)
    (repeat' (first | refine swp_seq [0, 1, 2, 3, 4, 6, 8, 9, 10, 11, 12, 13, 14, 15, 16, 17, 18, 19, 20, 21, 22, 23, 25, 35, 51, 87, 94, 109] ?_ | refine st2 ?_ | (show CallQ ..; first | refine cQ (fun hcc => (by first | exact kkS _ | exact kkE _ | exact kkT _ | exact kkC _)) ?_ | (refine lP ?_; refine lQ (fun hcc m => (by first | exact kkS _ | exact kkE _ | exact kkT _ | exact kkC _)) ?_)) | (show Fct ..; refine fctI (fun hf => ?_)) | (show SWp _ _ _ (.cond _ _ _) _ _ _ _; first | refine cB (fun hc => ?_) (fun hc => ?_) | refine cU ?_ ?_)))
    exact DVR
  rw [hc, if_neg (by decide)] at hEE
  by_cases hs : sec < 1 ∨ 86400 < sec
  · rw [stepR_bad (e := 2) (by rw [hEE, if_pos hs]) (by decide)] at kkT
    clear hEE hD
    by_cases h1 : sec < 1
    · (have := Nonempty.intro h1)
      refine pureC (n := 161) (rs := [.tmp 8]) (ts := [4]) Tryz.func4 rfl (by decide) [] (by (exact SD)) ?_
      (repeat' (first | (show SWp _ _ _ (.seq (.region 6 _ _) _) _ _ _ _; refine (stop_in ?_)) | refine swp_seq [0, 1, 2, 3, 4, 6, 8, 9, 10, 11, 12, 13, 14, 15, 16, 17, 18, 19, 20, 21, 22, 23, 25, 35, 51, 87, 94, 109] ?_ | refine st2 ?_ | (show CallQ ..; first | refine cQ (fun hcc => (by first | exact awake_f _ | exact eL _ | exact eM _ | exact eG _)) ?_ | (refine lP ?_; refine lQ (fun hcc m => (by first | exact awake_f _ | exact eL _ | exact eM _ | exact eG _)) ?_)) | (show Fct ..; refine fctI (fun hf => ?_)) | (show SWp _ _ _ (.cond _ _ _) _ _ _ _; first | refine cB (fun hc => ?_) (fun hc => ?_) | refine cU ?_ ?_)))
      refine stop_out ?_
      rw [hZ]
      (refine sF 144 ?_)
      (repeat' (first | refine swp_seq [0, 1, 2, 3, 4, 6, 8, 9, 10, 11, 12, 13, 14, 15, 16, 17, 18, 19, 20, 21, 22, 23, 25, 35, 51, 87, 94, 109] ?_ | refine st2 ?_ | (show CallQ ..; first | refine cQ (fun hcc => (by first | exact kkS _ | exact kkE _ | exact kkT _)) ?_ | (refine lP ?_; refine lQ (fun hcc m => (by first | exact kkS _ | exact kkE _ | exact kkT _)) ?_)) | (show Fct ..; refine fctI (fun hf => ?_)) | (show SWp _ _ _ (.cond _ _ _) _ _ _ _; first | refine cB (fun hc => ?_) (fun hc => ?_) | refine cU ?_ ?_)))
      exact DVR
    · have h2 : 86400 < sec := by omega
      (have := Nonempty.intro h1)
      (have := Nonempty.intro h2)
      refine pureC (n := 161) (rs := [.tmp 8]) (ts := [4]) Tryz.func4 rfl (by decide) [] (by (exact SD)) ?_
      (repeat' (first | (show SWp _ _ _ (.seq (.region 6 _ _) _) _ _ _ _; refine (stop_in ?_)) | refine swp_seq [0, 1, 2, 3, 4, 6, 8, 9, 10, 11, 12, 13, 14, 15, 16, 17, 18, 19, 20, 21, 22, 23, 25, 35, 51, 87, 94, 109] ?_ | refine st2 ?_ | (show CallQ ..; first | refine cQ (fun hcc => (by first | exact awake_f _ | exact eL _ | exact eM _ | exact eG _)) ?_ | (refine lP ?_; refine lQ (fun hcc m => (by first | exact awake_f _ | exact eL _ | exact eM _ | exact eG _)) ?_)) | (show Fct ..; refine fctI (fun hf => ?_)) | (show SWp _ _ _ (.cond _ _ _) _ _ _ _; first | refine cB (fun hc => ?_) (fun hc => ?_) | refine cU ?_ ?_)))
      refine stop_out ?_
      rw [hZ]
      (refine sF 144 ?_)
      (repeat' (first | refine swp_seq [0, 1, 2, 3, 4, 6, 8, 9, 10, 11, 12, 13, 14, 15, 16, 17, 18, 19, 20, 21, 22, 23, 25, 35, 51, 87, 94, 109] ?_ | refine st2 ?_ | (show CallQ ..; first | refine cQ (fun hcc => (by first | exact kkS _ | exact kkE _ | exact kkT _)) ?_ | (refine lP ?_; refine lQ (fun hcc m => (by first | exact kkS _ | exact kkE _ | exact kkT _)) ?_)) | (show Fct ..; refine fctI (fun hf => ?_)) | (show SWp _ _ _ (.cond _ _ _) _ _ _ _; first | refine cB (fun hc => ?_) (fun hc => ?_) | refine cU ?_ ?_)))
      exact DVR
  rw [if_neg hs] at hEE
  by_cases hk : (n.links.any fun x => !knownB l x) = true
  · rw [stepR_bad (e := 9) (by rw [hEE, if_pos hk]) (by decide)] at kkT
    clear hEE hD
    refine pureC (n := 161) (rs := [.tmp 8]) (ts := [4]) Tryz.func4 rfl (by decide) [] (by (exact SD)) ?_
    (repeat' (first | (show SWp _ _ _ (.seq (.region 6 _ _) _) _ _ _ _; refine (stop_in ?_)) | refine swp_seq [0, 1, 2, 3, 4, 6, 8, 9, 10, 11, 12, 13, 14, 15, 16, 17, 18, 19, 20, 21, 22, 23, 25, 35, 51, 87, 94, 109] ?_ | refine st2 ?_ | (show CallQ ..; first | refine cQ (fun hcc => (by first | exact awake_f _ | exact eL _ | exact eM _ | exact eG _)) ?_ | (refine lP ?_; refine lQ (fun hcc m => (by first | exact awake_f _ | exact eL _ | exact eM _ | exact eG _)) ?_)) | (show Fct ..; refine fctI (fun hf => ?_)) | (show SWp _ _ _ (.cond _ _ _) _ _ _ _; first | refine cB (fun hc => ?_) (fun hc => ?_) | refine cU ?_ ?_)))
    refine stop_out ?_
    rw [hZ]
    (refine sF 144 ?_)
    (repeat' (first | refine swp_seq [0, 1, 2, 3, 4, 6, 8, 9, 10, 11, 12, 13, 14, 15, 16, 17, 18, 19, 20, 21, 22, 23, 25, 35, 51, 87, 94, 109] ?_ | refine st2 ?_ | (show CallQ ..; first | refine cQ (fun hcc => (by first | exact kkS _ | exact kkE _ | exact kkT _)) ?_ | (refine lP ?_; refine lQ (fun hcc m => (by first | exact kkS _ | exact kkE _ | exact kkT _)) ?_)) | (show Fct ..; refine fctI (fun hf => ?_)) | (show SWp _ _ _ (.cond _ _ _) _ _ _ _; first | refine cB (fun hc => ?_) (fun hc => ?_) | refine cU ?_ ?_)))
    exact DVR
  rw [if_neg hk] at hEE
  rw [stepR_good hEE] at kkT
  have D := hD hEE
  have kkH3 := fun m => held_f n (stepS n l E Z sec) m no D.so
  have kkA := fun m => conInt_f 24 (fun k => !decide (k = 0)) (stepL n l E Z sec).passed m (by have := netB_len nb; have := D.len; omega) (fun x _ m => still1_f x m)
  rw [D.pas] at kkA
  rw [if_pos (by rw [nb, D.sb]; rfl), D.hd] at kkH3
  have d3 := D.inn
  have d4 := D.out
  clear hEE hD D
  generalize stepS n l E Z sec = U at *
  generalize stepL n l E Z sec = G at *
  (have := Nonempty.intro d3)
  (have := Nonempty.intro d4)
  refine pureC (n := 161) (rs := [.tmp 8]) (ts := [4]) Tryz.func4 rfl (by decide) [] (by (exact SD)) ?_
  (repeat' (first | (show SWp _ _ _ (.seq (.region 6 _ _) _) _ _ _ _; refine (stop_in ?_)) | refine swp_seq [0, 1, 2, 3, 4, 6, 8, 9, 10, 11, 12, 13, 14, 15, 16, 17, 18, 19, 20, 21, 22, 23, 25, 35, 51, 87, 94, 109] ?_ | refine st2 ?_ | (show CallQ ..; first | refine cQ (fun hcc => (by first | exact awake_f _ | exact eL _ | exact eM _ | exact eG _)) ?_ | (refine lP ?_; refine lQ (fun hcc m => (by first | exact awake_f _ | exact eL _ | exact eM _ | exact eG _)) ?_)) | (show Fct ..; refine fctI (fun hf => ?_)) | (show SWp _ _ _ (.cond _ _ _) _ _ _ _; first | refine cB (fun hc => ?_) (fun hc => ?_) | refine cU ?_ ?_)))
  refine stop_out ?_
  rw [hZ]
  (refine sF 144 ?_)
  (repeat' (first | refine swp_seq [0, 1, 2, 3, 4, 6, 8, 9, 10, 11, 12, 13, 14, 15, 16, 17, 18, 19, 20, 21, 22, 23, 25, 35, 51, 87, 94, 109] ?_ | refine st2 ?_ | (show CallQ ..; first | refine cQ (fun hcc => (by first | exact kkS _ | exact kkE _ | exact kkT _ | exact kkH3 _ | exact kkA _)) ?_ | (refine lP ?_; refine lQ (fun hcc m => (by first | exact kkS _ | exact kkE _ | exact kkT _ | exact kkH3 _ | exact kkA _)) ?_)) | (show Fct ..; refine fctI (fun hf => ?_)) | (show SWp _ _ _ (.cond _ _ _) _ _ _ _; first | refine cB (fun hc => ?_) (fun hc => ?_) | refine cU ?_ ?_)))
  exact DVR

end Go.Proofs.YtcdggndojmmlhaaGreat
