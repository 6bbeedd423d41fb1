/-
  Contracts of functions of the program, over the engine.
  No condition.
-/
import Derived.Test.YtcdggndojmmlhaaGreatCY16
import Derived.Test.YtcdggndojmmlhaaGreatCY9Y10Y12Y8Y14
import Derived.Test.YtcdggndojmmlhaaGreatCT16T15T18T20Y0Y5Y1
namespace Go.Proofs.YtcdggndojmmlhaaGreat
open Go.Eng
set_option linter.all false
attribute [local irreducible] DCallsG SWp Fct CallQ XCallQ LCallQ XLCallQ drun xrun
theorem right35_f (n : Net) (s : Sta) (a : Ledg) (m : Nat) (no : netOk n) (so : staOk s) (ha : a.passed.length ≤ 281474976710656) (hv : (netB n && staB n s) = true) (hp : a.passed.length = n.links.length) : DCalls Tryz.prog 30 [netD n, staD s, ledgD a] (hget []) m (lb true) (hget []) := by
  have cv := fun m => staValid_f n s m no so
  rw [hv] at cv
  have hll := no.2.1
  have h1 : (a.passed.length : Int) = (n.links.length : Int) := by omega
  (have := Nonempty.intro h1)
  refine pureC (n := 19) (rs := [.tmp 6]) (ts := [4]) Tryz.func30 rfl (by decide) [] (by (exact SD)) ?_
  (repeat' (first | refine swp_seq [0, 1, 2, 3, 4, 5, 6] ?_ | refine st2 ?_ | (show CallQ ..; first | refine cQ (fun hcc => (by first | exact cv _)) ?_ | (refine lP ?_; refine lQ (fun hcc m => (by first | exact cv _)) ?_)) | (show Fct ..; refine fctI (fun hf => ?_)) | (show SWp _ _ _ (.cond _ _ _) _ _ _ _; first | refine cB (fun hc => ?_) (fun hc => ?_) | refine cU ?_ ?_)))
  exact DVR
theorem stepE_0 {n : Net} {l : List Sect} {s : Sta} {inf : List Int} {sec : Int} (no : netOk n) (co : catOk l) (h : stepE n l s inf sec = 0) : StepIn n l s inf sec ∧ fitS n (heldB n s inf) = true ∧ fitS n (heldD n l s inf sec) = true := by
  unfold stepE at h
  split at h
  · cases h
  next h1 =>
  split at h
  · cases h
  next h2 =>
  split at h
  · cases h
  next h3 =>
  split at h
  · cases h
  next h4 =>
  split at h
  · cases h
  next h5 =>
  split at h
  · cases h
  next h6 =>
  have h1 : (netB n && staB n s && catB l) = true := by simpa only [Bool.not_eq_true, Bool.not_eq_false] using h1
  simp only [Bool.and_eq_true] at h1
  have h2 : inf.length = n.nodes.length := by simpa using h2
  have h7 : rangB inf 1125899906842624 = true := by
    cases hr : rangB inf 1125899906842624
    · exact absurd (.inl hr) h3
    · rfl
  have h8 : 1 ≤ sec ∧ sec ≤ 86400 := by
    have a1 : ¬ sec < 1 := fun q => h3 (.inr (.inl q))
    have a2 : ¬ 86400 < sec := fun q => h3 (.inr (.inr q))
    omega
  refine ⟨⟨no, co, h1.1.1, h1.1.2, h1.2, h2, fun i hi => rang_at h7 i (by omega), h8, fun k hk => ?_⟩, by simpa using h5, by simpa using h6⟩
  have h4 : (n.links.any fun x => !knownB l x) = false := by simpa using h4
  rw [List.any_eq_false] at h4
  have := h4 _ (getD_mem hk)
  simpa using this
theorem stepR_good {n : Net} {l : List Sect} {s : Sta} {inf : List Int} {sec : Int} (h : stepE n l s inf sec = 0) : stepR n l s inf sec = (stepS n l s inf sec, stepL n l s inf sec, 0) := by
  unfold stepR; rw [if_pos h]
theorem Step_f (n : Net) (l : List Sect) (s : Sta) (inf : List Int) (sec : Int) (m : Nat) (no : netOk n) (co : catOk l) (so : staOk s) (hil : inf.length ≤ 281474976710656) (h14 : n.nodes.length ≤ 14) :
    DCalls Tryz.prog 11 [netD n, sectL l, staD s, ints inf, li sec] (hget []) m (.tup [staD (stepR n l s inf sec).1, ledgD (stepR n l s inf sec).2.1, li (stepR n l s inf sec).2.2]) (hget []) := by
  by_cases h : (netB n && staB n s && catB l) = true ∧ inf.length = n.nodes.length ∧ (rangB inf 1125899906842624 = true ∧ 1 ≤ sec ∧ sec ≤ 86400) ∧ (n.links.any fun x => !knownB l x) = false
  · obtain ⟨h1, h2, ⟨h3, h4⟩, h5⟩ := h
    simp only [Bool.and_eq_true] at h1
    refine stepGood_f n l s inf sec m ⟨no, co, h1.1.1, h1.1.2, h1.2, h2, fun i hi => rang_at h3 i (by omega), h4, fun k hk => ?_⟩ so h14
    rw [List.any_eq_false] at h5
    have := h5 _ (getD_mem hk)
    simpa using this
  · exact stepBad_f n l s inf sec m no co so hil h
section
variable {n : Net} {l : List Sect} {s : Sta} {inf : List Int} {sec : Int}
theorem stepS_held {q : Nat} (hq : q < n.nodes.length) : (stepS n l s inf sec).vol.getD q default + (stepS n l s inf sec).pon.getD q default = (heldD n l s inf sec).getD q default := by
  show (vS n (heldD n l s inf sec)).getD q default + (pS n (heldD n l s inf sec)).getD q default = _
  rw [vS_at hq, pS_at hq]
  split <;> omega
theorem stepS_sum : sumI (heldL (stepS n l s inf sec)) (stepS n l s inf sec).vol.length = sumN (fun q => (heldD n l s inf sec).getD q default) n.nodes.length := by
  have h1 : (stepS n l s inf sec).vol.length = n.nodes.length := vS_len _
  rw [sumI_sum _ (by rw [heldL_len]; exact Nat.le_refl _), h1]
  refine sumN_congr _ fun q hq => ?_
  rw [heldL_at _ (by omega), stepS_held hq]
theorem passE_0 (S : StepIn n l s inf sec) (hf : fitS n (heldB n s inf) = true) {i : Nat} (hi : i < n.nodes.length) : passE n i (pasL n l s inf sec) = 0 := by
  have W := S.pass hf
  have E := ends_of S.nb
  have hl : (pasL n l s inf sec).length = n.links.length := limR_len ..
  unfold passE
  rw [if_neg (by rw [S.nb]; decide), if_neg (by omega), if_neg (fun q => q hl), if_neg]
  intro q
  have : rangB (pasL n l s inf sec) 9007199254740992 = true := by
    unfold rangB
    rw [List.all_eq_true]
    intro k hk
    have hk := List.mem_range.1 hk
    have := W.x E (k := k) (by omega)
    unfold btwB
    simp only [Bool.and_eq_true, decide_eq_true_eq]
    have this : 0 ≤ (pasL n l s inf sec).getD k default ∧ (pasL n l s inf sec).getD k default ≤ 1125899906842624 := this
    omega
  rw [this] at q; cases q
end
structure Bal (n : Net) (s : Sta) (inf : List Int) (T : Sta) (A : Ledg) : Prop where
  so : staOk T
  sb : (netB n && staB n T) = true
  al : A.passed.length = n.links.length
  vl : T.vol.length = n.nodes.length
  pl : T.pon.length = n.nodes.length
  inn : A.inn = sumI inf n.nodes.length
  out : 0 ≤ A.out
  tot : sumI (heldL T) T.vol.length + A.out = sumI (heldL s) s.vol.length + A.inn
  r1 : 0 ≤ sumI (heldL s) s.vol.length ∧ sumI (heldL s) s.vol.length ≤ 700000000000000000
  r2 : 0 ≤ sumI (heldL T) T.vol.length
  pas : ∀ i, i < n.nodes.length → passE n i A.passed = 0
  io : ∀ i, i < n.nodes.length → (0 ≤ selI (tilQ n i) A.passed n.links.length ∧ selI (tilQ n i) A.passed n.links.length ≤ 450359962737049600) ∧ 0 ≤ selI (froQ n i) A.passed n.links.length ∧ selI (froQ n i) A.passed n.links.length ≤ 450359962737049600
  out0 : ∀ i, i < n.nodes.length → isOut n i = true → selI (froQ n i) A.passed n.links.length = 0
  node : ∀ i, i < n.nodes.length → isOut n i = false → T.vol.getD i default + T.pon.getD i default = s.vol.getD i default + s.pon.getD i default + inf.getD i default + selI (tilQ n i) A.passed n.links.length - selI (froQ n i) A.passed n.links.length ∧ selI (froQ n i) A.passed n.links.length ≤ s.vol.getD i default + s.pon.getD i default + inf.getD i default
  left : leftN n A.passed inf n.nodes.length = A.out
theorem bal_of {n : Net} {l : List Sect} {s : Sta} {inf : List Int} {sec : Int} (S : StepIn n l s inf sec) (hf : fitS n (heldB n s inf) = true) (hg : fitS n (heldD n l s inf sec) = true) : Bal n s inf (stepS n l s inf sec) (stepL n l s inf sec) := by
  have W := S.pass hf
  have E := ends_of S.nb
  have fin := S.fin hf hg
  obtain ⟨hh, hlk, l1, l2⟩ := sta_hold S.nb S.sb
  obtain ⟨hh2, hlk2, l3, l4⟩ := sta_hold S.nb fin
  have hl : (pasL n l s inf sec).length = n.links.length := limR_len ..
  have h400 := netB_len S.nb
  have hx : ∀ i, i < (pasL n l s inf sec).length → 0 ≤ (pasL n l s inf sec).getD i default ∧ (pasL n l s inf sec).getD i default ≤ 1125899906842624 := fun i hi => W.x E (by omega)
  have hs : ∀ P, 0 ≤ selI P (pasL n l s inf sec) n.links.length ∧ selI P (pasL n l s inf sec) n.links.length ≤ 450359962737049600 := fun P => by
    have h2 := selI_le (p := P) hx n.links.length (by omega)
    have h4 : (n.links.length : Int) * 1125899906842624 ≤ 400 * 1125899906842624 := Int.mul_le_mul_of_nonneg_right (by omega) (by decide)
    omega
  have h1 := step_total S W
  have hb := sumI_le (l := heldL s) (b := 2251799813685248) (fun i hi => heldL_le hh i (by rw [heldL_len] at hi; exact hi)) s.vol.length (by rw [heldL_len]; exact Nat.le_refl _)
  have h4 : (s.vol.length : Int) * 2251799813685248 ≤ 300 * 2251799813685248 := Int.mul_le_mul_of_nonneg_right (by omega) (by decide)
  have hb2 := sumI_le (l := heldL (stepS n l s inf sec)) (b := 2251799813685248) (fun i hi => heldL_le hh2 i (by rw [heldL_len] at hi; exact hi)) (stepS n l s inf sec).vol.length (by rw [heldL_len]; exact Nat.le_refl _)
  have hfl : ∀ i, i < n.nodes.length → selI (froQ n i) (pasL n l s inf sec) n.links.length ≤ (heldB n s inf).getD i default := fun i hi => W.le E hi
  exact {
    so := staOk_of S.nb fin
    sb := by rw [S.nb, fin]; rfl
    al := hl
    vl := l3
    pl := l4
    inn := rfl
    out := S.out_nn hf
    tot := by
      rw [stepS_sum, h1, held_sum S]; rfl
    r1 := ⟨hb.1, by omega⟩
    r2 := hb2.1
    pas := fun i hi => passE_0 S hf hi
    io := fun i hi => ⟨hs _, hs _⟩
    out0 := fun i hi ho => by
      have a := hfl i hi
      rw [heldB_at hi, if_pos ho] at a
      have b := (hs (froQ n i)).1
      exact Int.le_antisymm a b
    node := fun i hi ho => by
      have a := hfl i hi
      have b := step_node (sec := sec) (l := l) S hi ho
      rw [← stepS_held hi, heldL_at s (by omega)] at b
      refine ⟨b, ?_⟩
      rw [heldB_at hi, ho, if_neg (by decide)] at a
      unfold heldA at a
      rw [inH_at hi, if_pos ⟨hi, ho⟩, heldL_at s (by omega)] at a
      exact a
    left := left_all S }
theorem leftN_in {n : Net} {X inf : List Int} {N : Nat} (hs : ∀ q, q < N → 0 ≤ selI (tilQ n q) X n.links.length ∧ selI (tilQ n q) X n.links.length ≤ 450359962737049600) (hi : ∀ q, q < N → 0 ≤ inf.getD q default ∧ inf.getD q default ≤ 1125899906842624) : ∀ i, i ≤ N → 0 ≤ leftN n X inf i ∧ leftN n X inf i ≤ i * 451485862643892224
  | 0, _ => by simp [leftN, sumN]
  | i + 1, h => by
    have ih := leftN_in hs hi i (by omega)
    have e : leftN n X inf (i + 1) = leftN n X inf i + (if isOut n i then selI (tilQ n i) X n.links.length + inf.getD i default else 0) := rfl
    have a := hs i (by omega)
    have b := hi i (by omega)
    rw [e, show ((i + 1 : Nat) : Int) * 451485862643892224 = i * 451485862643892224 + 451485862643892224 by omega]
    split <;> omega
theorem leftN_1 {n : Net} {X inf : List Int} {i : Nat} (h : isOut n i = true) : leftN n X inf (i + 1) = leftN n X inf i + (selI (tilQ n i) X n.links.length + inf.getD i default) := by
  show leftN n X inf i + (if isOut n i = true then selI (tilQ n i) X n.links.length + inf.getD i default else 0) = _
  rw [if_pos h]
theorem leftN_0 {n : Net} {X inf : List Int} {i : Nat} (h : isOut n i = false) : leftN n X inf (i + 1) = leftN n X inf i := by
  show leftN n X inf i + (if isOut n i = true then selI (tilQ n i) X n.links.length + inf.getD i default else 0) = _
  rw [h, if_neg (by decide), Int.add_zero]
set_option maxRecDepth 20000 in
set_option maxHeartbeats 32000000 in
theorem balance_f (n : Net) (l : List Sect) (s : Sta) (inf : List Int) (sec : Int) (m : Nat) (no : netOk n) (co : catOk l) (so : staOk s) (hi : intsOk inf) : DCalls Tryz.prog 6 [netD n, sectL l, staD s, ints inf, li sec] (hget []) m (lb true) (hget []) := by
  have hil := hi.1
  have eL := fun m => large_f n m no
  have eM := fun m => many_f l m co
  have eG := fun m => long_f s [inf] m so (by simp) (fun x hx => by simp at hx; subst hx; exact hil)
  cases hL : largeB n <;> simp only [hL] at eL
  case true =>
    refine pureC (n := 201) (rs := [.tmp 10]) (ts := [4]) Tryz.func6 rfl (by decide) [] (by (exact SD)) ?_
    (repeat' (first | refine swp_seq [0, 1, 2, 3, 4, 5, 7, 10, 11, 12, 13, 14, 15, 16, 17, 18, 19, 20, 21, 22, 23, 24, 26, 38, 50, 99, 101, 102, 103, 104, 124, 127, 137, 189] ?_ | refine st2 ?_ | (show CallQ ..; first | refine cQ (fun hcc => (by first | exact awake_f _ | exact eL _)) ?_ | (refine lP ?_; refine lQ (fun hcc m => (by first | exact awake_f _ | exact eL _)) ?_)) | (show XCallQ ..; first | refine xQ (fun hcc => (by first | exact awake_f _ | exact eL _)) ?_ | (refine xlP ?_; refine xlQ (fun hcc m => (by first | exact awake_f _ | exact eL _)) ?_)) | (show Fct ..; refine fctI (fun hf => ?_)) | (show SWp _ _ _ (.cond _ _ _) _ _ _ _; first | refine cB (fun hc => ?_) (fun hc => ?_) | refine cU ?_ ?_)))
    exact DVR
  cases hM : manyB l <;> simp only [hM] at eM
  case true =>
    refine pureC (n := 201) (rs := [.tmp 10]) (ts := [4]) Tryz.func6 rfl (by decide) [] (by (exact SD)) ?_
    (repeat' (first | refine swp_seq [0, 1, 2, 3, 4, 5, 7, 10, 11, 12, 13, 14, 15, 16, 17, 18, 19, 20, 21, 22, 23, 24, 26, 38, 50, 99, 101, 102, 103, 104, 124, 127, 137, 189] ?_ | refine st2 ?_ | (show CallQ ..; first | refine cQ (fun hcc => (by first | exact awake_f _ | exact eL _ | exact eM _)) ?_ | (refine lP ?_; refine lQ (fun hcc m => (by first | exact awake_f _ | exact eL _ | exact eM _)) ?_)) | (show XCallQ ..; first | refine xQ (fun hcc => (by first | exact awake_f _ | exact eL _ | exact eM _)) ?_ | (refine xlP ?_; refine xlQ (fun hcc m => (by first | exact awake_f _ | exact eL _ | exact eM _)) ?_)) | (show Fct ..; refine fctI (fun hf => ?_)) | (show SWp _ _ _ (.cond _ _ _) _ _ _ _; first | refine cB (fun hc => ?_) (fun hc => ?_) | refine cU ?_ ?_)))
    exact DVR
  cases hG : longB s [inf] <;> simp only [hG] at eG
  case true =>
    refine pureC (n := 201) (rs := [.tmp 10]) (ts := [4]) Tryz.func6 rfl (by decide) [] (by (exact SD)) ?_
    (repeat' (first | refine swp_seq [0, 1, 2, 3, 4, 5, 7, 10, 11, 12, 13, 14, 15, 16, 17, 18, 19, 20, 21, 22, 23, 24, 26, 38, 50, 99, 101, 102, 103, 104, 124, 127, 137, 189] ?_ | refine st2 ?_ | (show CallQ ..; first | refine cQ (fun hcc => (by first | exact awake_f _ | exact eL _ | exact eM _ | exact eG _)) ?_ | (refine lP ?_; refine lQ (fun hcc m => (by first | exact awake_f _ | exact eL _ | exact eM _ | exact eG _)) ?_)) | (show XCallQ ..; first | refine xQ (fun hcc => (by first | exact awake_f _ | exact eL _ | exact eM _ | exact eG _)) ?_ | (refine xlP ?_; refine xlQ (fun hcc m => (by first | exact awake_f _ | exact eL _ | exact eM _ | exact eG _)) ?_)) | (show Fct ..; refine fctI (fun hf => ?_)) | (show SWp _ _ _ (.cond _ _ _) _ _ _ _; first | refine cB (fun hc => ?_) (fun hc => ?_) | refine cU ?_ ?_)))
    exact DVR
  have h14 : n.nodes.length ≤ 14 := by
    unfold largeB at hL; simp at hL; omega
  have kkS := fun m => Step_f n l s inf sec m no co so hil h14
  by_cases e0 : stepE n l s inf sec = 0
  case neg =>
    rw [stepR_bad rfl e0] at kkS
    have kkN := fun m => none_f zeroS zeroL m zeroS_ok (by decide)
    rw [show (decide (zeroS = zeroS) && decide (zeroL = zeroL)) = true by rw [decide_eq_true rfl, decide_eq_true rfl]; rfl] at kkN
    generalize stepE n l s inf sec = e at *
    (have := Nonempty.intro e0)
    refine pureC (n := 201) (rs := [.tmp 10]) (ts := [4]) Tryz.func6 rfl (by decide) [] (by (exact SD)) ?_
    (repeat' (first | refine swp_seq [0, 1, 2, 3, 4, 5, 7, 10, 11, 12, 13, 14, 15, 16, 17, 18, 19, 20, 21, 22, 23, 24, 26, 38, 50, 99, 101, 102, 103, 104, 124, 127, 137, 189] ?_ | refine st2 ?_ | (show CallQ ..; first | refine cQ (fun hcc => (by first | exact awake_f _ | exact eL _ | exact eM _ | exact eG _ | exact kkS _ | exact kkN _)) ?_ | (refine lP ?_; refine lQ (fun hcc m => (by first | exact awake_f _ | exact eL _ | exact eM _ | exact eG _ | exact kkS _ | exact kkN _)) ?_)) | (show XCallQ ..; first | refine xQ (fun hcc => (by first | exact awake_f _ | exact eL _ | exact eM _ | exact eG _ | exact kkS _ | exact kkN _)) ?_ | (refine xlP ?_; refine xlQ (fun hcc m => (by first | exact awake_f _ | exact eL _ | exact eM _ | exact eG _ | exact kkS _ | exact kkN _)) ?_)) | (show Fct ..; refine fctI (fun hf => ?_)) | (show SWp _ _ _ (.cond _ _ _) _ _ _ _; first | refine cB (fun hc => ?_) (fun hc => ?_) | refine cU ?_ ?_)))
    exact DVR
  obtain ⟨S, hf, hg⟩ := stepE_0 no co e0
  rw [stepR_good e0] at kkS
  have B := bal_of S hf hg
  generalize stepS n l s inf sec = T at *
  generalize stepL n l s inf sec = A at *
  have nb := S.nb
  have sb := S.sb
  have kkH1 := fun m => held_f n s m no so
  have kkH2 := fun m => held_f n T m no B.so
  rw [if_pos (by rw [nb, sb]; rfl)] at kkH1
  rw [if_pos B.sb] at kkH2
  have kkR := fun m => right35_f n T A m no B.so (by have := netB_len nb; have := B.al; omega) B.sb B.al
  have b1 := B.r1
  have b2 := B.r2
  have b3 := B.tot
  have b4 := B.out
  have b5 := B.inn
  obtain ⟨hh, hlk, l1, l2⟩ := sta_hold nb sb
  have l3 := S.il
  have l4 := B.vl
  have l5 := B.pl
  have hR := heldL_le hh
  have hRs : ∀ q, q < n.nodes.length → (0 ≤ s.vol.getD q default ∧ s.vol.getD q default ≤ 1125899906842624) ∧ 0 ≤ s.pon.getD q default ∧ s.pon.getD q default ≤ 1125899906842624 := fun q hq => hh.2.2 q (by omega)
  have hRt : ∀ q, q < n.nodes.length → (0 ≤ T.vol.getD q default ∧ T.vol.getD q default ≤ 1125899906842624) ∧ 0 ≤ T.pon.getD q default ∧ T.pon.getD q default ≤ 1125899906842624 := fun q hq => by
    have sbT : staB n T = true := by have := B.sb; rw [nb] at this; simpa using this
    exact (sta_hold nb sbT).1.2.2 q (by omega)
  have hIl : ∀ i, i ≤ n.nodes.length → 0 ≤ sumI inf i ∧ sumI inf i ≤ 15762598695796736 := fun i hi => by
    have h1 := sumI_le (l := inf) (b := 1125899906842624) (fun i hi => S.ir i (by omega)) i (by omega)
    have h4 : (i : Int) * 1125899906842624 ≤ 14 * 1125899906842624 := Int.mul_le_mul_of_nonneg_right (by omega) (by decide)
    omega
  have hLl : ∀ i, i ≤ n.nodes.length → 0 ≤ leftN n A.passed inf i ∧ leftN n A.passed inf i ≤ 6320802077014491136 := fun i hi => by
    have h1 := leftN_in (n := n) (X := A.passed) (inf := inf) (N := n.nodes.length) (fun q hq => (B.io q hq).1) (fun q hq => S.ir q hq) i hi
    have h4 : (i : Int) * 451485862643892224 ≤ 14 * 451485862643892224 := Int.mul_le_mul_of_nonneg_right (by omega) (by decide)
    omega
  have hi0 := (hIl _ (Nat.le_refl n.nodes.length)).1
  have hi1 := (hIl _ (Nat.le_refl n.nodes.length)).2
  have kkP := fun (i : Nat) m => passed_f n i A.passed m no h14 (by have := netB_len nb; have := B.al; omega)
  rw [← b5] at hi0 hi1
  have hi2 : ¬ A.inn < 0 := by omega
  have ho2 : ¬ A.out < 0 := by omega
  generalize sumI (heldL s) s.vol.length = hb at *
  generalize sumI (heldL T) T.vol.length = ha at *
  have l6 : (n.nodes.length : Int) = (T.vol.length : Int) := by omega
  (have := Nonempty.intro hi2)
  (have := Nonempty.intro ho2)
  refine pureC (n := 201) (rs := [.tmp 10]) (ts := [4]) Tryz.func6 rfl (by decide) [] (by (exact SD)) ?_
  (repeat' (first | refine swp_seq [0, 1, 2, 3, 4, 5, 7, 10, 11, 12, 13, 14, 15, 16, 17, 18, 19, 20, 21, 22, 23, 24, 26, 38, 50, 99, 101, 102, 103, 104, 124, 127, 137, 189] ?_ | refine st2 ?_ | (show CallQ ..; first | refine cQ (fun hcc => (by first | exact awake_f _ | exact eL _ | exact eM _ | exact eG _ | exact kkS _ | exact kkH1 _ | exact kkH2 _ | exact kkR _)) ?_ | (refine lP ?_; refine lQ (fun hcc m => (by first | exact awake_f _ | exact eL _ | exact eM _ | exact eG _ | exact kkS _ | exact kkH1 _ | exact kkH2 _ | exact kkR _)) ?_)) | (show XCallQ ..; first | refine xQ (fun hcc => (by first | exact awake_f _ | exact eL _ | exact eM _ | exact eG _ | exact kkS _ | exact kkH1 _ | exact kkH2 _ | exact kkR _)) ?_ | (refine xlP ?_; refine xlQ (fun hcc m => (by first | exact awake_f _ | exact eL _ | exact eM _ | exact eG _ | exact kkS _ | exact kkH1 _ | exact kkH2 _ | exact kkR _)) ?_)) | (show Fct ..; refine fctI (fun hf => ?_)) | (show SWp _ _ _ (.cond _ _ _) _ _ _ _; first | refine cB (fun hc => ?_) (fun hc => ?_) | refine cU ?_ ?_)))
  · rw [b3] at hc; simp at hc
  refine loop_swp [3, 5, 7, 10, 11, 12, 18, 19, 101, 102, 103] [0, 8, 216, 224] 225 (fun q A' H => ∃ i : Nat, i ≤ n.nodes.length ∧ q = n.nodes.length - i ∧ A' = [(3, ints inf), (5, .ptr 0 0), (7, .ptr 8 0), (10, lb false), (11, .ptr 216 0), (12, .ptr 224 0), (18, li (sumI inf i)), (19, li (leftN n A.passed inf i)), (101, nodeL n.nodes), (102, li n.nodes.length), (103, li i)] ∧ H = [(0, .blk 25 (netC n)), (8, .blk 30 (staC s)), (216, .blk 30 (staC T)), (224, .blk 36 (ledgC A))]) (by omega) ?_ ?_ ?_
  · rintro q A' H ⟨i, g1, g2, rfl, rfl⟩
    exact ⟨by (exact SD), by (exact SD)⟩
  · refine ⟨_, 0, by omega, rfl, ?_, ?_⟩
    · rw [show sumI inf 0 = 0 by simp [sumI], show leftN n A.passed inf 0 = 0 from rfl]
      exact DVR
    · exact DVR
  rintro q A' H ⟨i, g1, g2, rfl, rfl⟩
  by_cases hi : i < n.nodes.length
  · have hi3 : (i : Int) < (n.nodes.length : Int) := by omega
    have hii : i < inf.length := by omega
    have hii3 : (i : Int) < (inf.length : Int) := by omega
    have hs1 : i < s.vol.length := by omega
    have hs2 : i < s.pon.length := by omega
    have hs3 : i < T.vol.length := by omega
    have hs4 : i < T.pon.length := by omega
    have e1 := sumI_next inf (i := i) (by omega)
    have kkQ := kkP i
    have hnat : ((i : Int)).toNat = i := Int.toNat_natCast i
    rw [hnat, toB_eq nb hi, froB_eq nb hi, if_pos (B.pas i hi)] at kkQ
    have a1 := hIl i (by omega)
    have a2 := hLl i (by omega)
    have a3 := S.ir i hi
    have a4 := B.io i hi
    have a5 := hRs i hi
    have a6 := hRt i hi
    (have := Nonempty.intro hi)
    (have := Nonempty.intro hi3)
    (have := Nonempty.intro hii)
    (have := Nonempty.intro hii3)
    (have := Nonempty.intro hs1)
    (have := Nonempty.intro hs2)
    (have := Nonempty.intro hs3)
    (have := Nonempty.intro hs4)
    cases ho : isOut n i
    · have hk : ¬ (n.nodes.getD i default).kind = 3 := fun k => by rw [isOut_kind.2 k] at ho; cases ho
      have e2 := leftN_0 (X := A.passed) (inf := inf) ho
      obtain ⟨n1, n2⟩ := B.node i hi ho
      (have := Nonempty.intro hk)
      clear kkP hIl hLl B hRs hRt hR
      generalize selI (tilQ n i) A.passed n.links.length = x1 at *
      generalize selI (froQ n i) A.passed n.links.length = x2 at *
      generalize sumI inf i = y1 at *
      generalize leftN n A.passed inf i = y2 at *
      (have := Nonempty.intro n1)
      have n3 : ¬ (s.vol.getD i default + s.pon.getD i default + inf.getD i default < x2) := by omega
      (have := Nonempty.intro n3)
      (repeat' (first | refine swp_seq [0, 1, 2, 3, 4, 5, 7, 10, 11, 12, 13, 14, 15, 16, 17, 18, 19, 20, 21, 22, 23, 24, 26, 38, 50, 99, 101, 102, 103, 104, 124, 127, 137, 189] ?_ | refine st2 ?_ | (show CallQ ..; first | refine cQ (fun hcc => (by first | exact kkQ _)) ?_ | (refine lP ?_; refine lQ (fun hcc m => (by first | exact kkQ _)) ?_)) | (show XCallQ ..; first | refine xQ (fun hcc => (by first | exact kkQ _)) ?_ | (refine xlP ?_; refine xlQ (fun hcc m => (by first | exact kkQ _)) ?_)) | (show Fct ..; refine fctI (fun hf => ?_)) | (show SWp _ _ _ (.cond _ _ _) _ _ _ _; first | refine cB (fun hc => ?_) (fun hc => ?_) | refine cU ?_ ?_)))
      (refine lN [0, 8, 216, 224] ?_)
      exact ⟨_, by omega, i + 1, by omega, rfl, by rw [e1, e2] <;> rfl, rfl⟩
    · have hk := isOut_kind.1 ho
      have e2 := leftN_1 (X := A.passed) (inf := inf) ho
      have n1 := B.out0 i hi ho
      rw [n1] at kkQ
      (have := Nonempty.intro hk)
      clear kkP hIl hLl B hRs hRt hR
      generalize selI (tilQ n i) A.passed n.links.length = x1 at *
      generalize sumI inf i = y1 at *
      generalize leftN n A.passed inf i = y2 at *
      (repeat' (first | refine swp_seq [0, 1, 2, 3, 4, 5, 7, 10, 11, 12, 13, 14, 15, 16, 17, 18, 19, 20, 21, 22, 23, 24, 26, 38, 50, 99, 101, 102, 103, 104, 124, 127, 137, 189] ?_ | refine st2 ?_ | (show CallQ ..; first | refine cQ (fun hcc => (by first | exact kkQ _)) ?_ | (refine lP ?_; refine lQ (fun hcc m => (by first | exact kkQ _)) ?_)) | (show XCallQ ..; first | refine xQ (fun hcc => (by first | exact kkQ _)) ?_ | (refine xlP ?_; refine xlQ (fun hcc m => (by first | exact kkQ _)) ?_)) | (show Fct ..; refine fctI (fun hf => ?_)) | (show SWp _ _ _ (.cond _ _ _) _ _ _ _; first | refine cB (fun hc => ?_) (fun hc => ?_) | refine cU ?_ ?_)))
      (refine lN [0, 8, 216, 224] ?_)
      exact ⟨_, by omega, i + 1, by omega, rfl, by rw [e1, e2] <;> rfl, rfl⟩
  obtain rfl : i = n.nodes.length := by omega
  have hi3 : ¬ ((n.nodes.length : Int) < (n.nodes.length : Int)) := by omega
  (have := Nonempty.intro hi3)
  have z1 := B.left
  rw [← b5, z1]
  clear kkP hIl hLl B hRs hRt hR
  (repeat' (first | refine swp_seq [0, 1, 2, 3, 4, 5, 7, 10, 11, 12, 13, 14, 15, 16, 17, 18, 19, 20, 21, 22, 23, 24, 26, 38, 50, 99, 101, 102, 103, 104, 124, 127, 137, 189] ?_ | refine st2 ?_ | (show Fct ..; refine fctI (fun hf => ?_)) | (show SWp _ _ _ (.cond _ _ _) _ _ _ _; first | refine cB (fun hc => ?_) (fun hc => ?_) | refine cU ?_ ?_)))
  exact DVR

end Go.Proofs.YtcdggndojmmlhaaGreat
