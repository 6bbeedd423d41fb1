/-
  Contracts of functions of the program, over the engine.
  No condition.
-/
import Derived.Test.YthacnhidipeckaaGreatCY6T21L14Y7Y11
import Derived.Test.YthacnhidipeckaaGreatCT12T13T14T2I
import Derived.Test.YthacnhidipeckaaGreatCY2Y3Y4
import Derived.Test.YthacnhidipeckaaGreatCT8T9T9bT9cT9eT10T11
import Derived.Test.YthacnhidipeckaaGreatCL9L10L11
import Derived.Test.YthacnhidipeckaaGreatCT5T6T6bT7T7bT7c
import Derived.Test.YthacnhidipeckaaGreatCT16T15T18T20Y0Y5Y1
import Derived.Test.YthacnhidipeckaaGreatCL12L16L20RL25L27
import Derived.Test.YthacnhidipeckaaGreatEngDf
namespace Go.Proofs.YthacnhidipeckaaGreat
open Go.Eng
set_option linter.all false
attribute [local irreducible] DCallsG SWp Fct CallQ XCallQ LCallQ XLCallQ drun xrun
theorem toB_eq {n : Net} (nb : netB n = true) {q : Nat} (hq : q < n.nodes.length) : toB n q = tilQ n q := by
  funext k
  unfold toB tilQ;rw [Bool.eq_iff_iff, decide_eq_true_iff, decide_eq_true_iff];exact (idx_eq nb hq _).symm
theorem froB_eq {n : Net} (nb : netB n = true) {q : Nat} (hq : q < n.nodes.length) : froB n q = froQ n q := by
  funext k
  unfold froB froQ;rw [Bool.eq_iff_iff, decide_eq_true_iff, decide_eq_true_iff];exact (idx_eq nb hq _).symm
section
variable {n : Net} {l : List Sect} {s : Sta} {inf : List Int} {sec : Int}
end
theorem zeroS_ok : staOk zeroS := ⟨⟨by decide, fun z hz => by cases hz⟩, ⟨by decide, fun z hz => by cases hz⟩, ⟨by decide, fun z hz => by cases hz⟩, by decide⟩
section
variable {n : Net} {l : List Sect} {s : Sta} {inf : List Int} {sec : Int}
end
set_option maxRecDepth 20000 in
set_option maxHeartbeats 16000000 in
theorem rlimited_f (n : Net) (held w : List Int) (m : Nat) (no : netOk n) (nb : netB n = true) (h14 : n.nodes.length <= 14) (hl : held.length = n.nodes.length) (wl : w.length = n.links.length) (W : PassIn n held w) (hb : ∀ q, q < n.nodes.length -> held.getD q default <= 4503599627370496) :
    DCallsG Tryz.prog 65 [] [netD n, ints held, ints w] (hget []) m (.gl m) (hget [(m, inLt (limR n held w))]) := by
  have E := ends_of nb;have h400 := (netB_len nb).2;have hll := no.2.1;have co := fun m => outs_f n m no nb h14
  have cc := fun m => cloneI_f w m (by omega)
  have hol : (outsL n).length = n.nodes.length := by simp [outsL]
  have hog : ∀ q, q < n.nodes.length -> (outsL n).getD q default = outK n q n.links.length := fun q hq => rngm_at hq
  have hw0 : ∀ k, k < n.links.length -> 0 <= w.getD k default := fun k hk => (W.w0 k hk).1
  have hsum : ∀ (P : Nat -> Bool) t, t <= n.links.length -> 0 <= selI P w t /\ selI P w t <= 450359962737049600 := fun P t ht => by
    have h1 := selI_le (p := P) (l := w) (fun i hi => W.w0 i (by omega)) t (by omega);have h4 : (t : Int) * 1125899906842624 <= 400 * 1125899906842624 := Int.mul_le_mul_of_nonneg_right (by omega) (by decide);omega
  refine contract (n := 82) (rs := [.tmp 6]) (ts := [27]) Tryz.func65 rfl (by decide) 0 0 [] [] [24] (.gl 24) [(24, inLt (limR n held w))] (by (exact SD)) (by (exact SD)) ?_;(repeat' (first|refine swp_seq [0,1,2,3,6,7,8,10,11,12,14,15,16,18,19,27,28,29,30,34,35,36,37,52,53,54,55,56] ?_|refine st2 ?_|(show CallQ ..;first|refine cQ (fun hcc=>(by first | exact cc _ | exact co _)) ?_|(refine lP ?_;refine lQ (fun hcc m=>(by first | exact cc _ | exact co _)) ?_))|refine fctI fun hf=>?_|(show CondG ..;first|refine cBG (fun hc=>?_) (fun hc=>?_)|refine cUG ?_ ?_)));generalize outsL n = OL at *
  refine loop_swp [1, 2, 7, 27, 28, 29] [24] 25 (fun q A H => ∃ i : Nat, i <= n.nodes.length /\ q = n.nodes.length - i /\ A = [(1, ints held), (2, ints w), (7, .gl 24), (27, intss OL), (28, li n.nodes.length), (29, li i)] /\ H = [(24, inLt (limP n held w i 0))]) (by omega) ?_ ?_ ?_
  · rintro q A H ⟨i, h1, h2, rfl, rfl⟩;exact SDD
  · refine ⟨_, 0, by omega, rfl, ?_, ?_⟩
    · rw [<- hol]; exact DVR
    · rw [limP_start wl]; exact DVR
  rintro q A H ⟨i, h1, h2, rfl, rfl⟩;by_cases hi : i < n.nodes.length
  case neg =>
    obtain rfl : i = n.nodes.length := by omega
    have hi3 : ¬ ((n.nodes.length : Int) < (n.nodes.length : Int)) := by omega
    (have:=NeI hi3);rw [limP_end fun k hk => (E.f k hk).1];(repeat' (first|refine swp_seq [0,1,2,3,6,7,8,10,11,12,14,15,16,18,19,27,28,29,30,34,35,36,37,52,53,54,55,56] ?_|refine st2 ?_|refine fctI fun hf=>?_|(show CondG ..;first|refine cBG (fun hc=>?_) (fun hc=>?_)|refine cUG ?_ ?_)));exact DVR
  have hi3 : (i : Int) < (n.nodes.length : Int) := by omega
  have hiO : i < OL.length := by omega
  have hih : i < held.length := by omega
  have hrow := hog i hi;have hrl : (OL.getD i default).length <= 400 := by rw [hrow]; have := outK_len n i n.links.length; omega
  have hPl := limP_len n held w i 0;generalize hX0 : limP n held w i 0 = X0 at *
  (have:=NeI hi3);(have:=NeI hiO);(have:=NeI hih);(repeat' (first|refine swp_seq [0,1,2,3,6,7,8,10,11,12,14,15,16,18,19,27,28,29,30,34,35,36,37,52,53,54,55,56] ?_|refine st2 ?_|refine fctI fun hf=>?_|(show CondG ..;first|refine cBG (fun hc=>?_) (fun hc=>?_)|refine cUG ?_ ?_)));generalize hR : OL.getD i default = row at *
  refine loop_swp [1, 2, 7, 10, 11, 12, 27, 28, 29, 34, 35, 36] [24] 25 (fun q A H => ∃ j t : Nat, t <= n.links.length /\ (outK n i t).length = j /\ j <= row.length /\ q = row.length - j /\ A = [(1, ints held), (2, ints w), (7, .gl 24), (10, li i), (11, ints row), (12, li (selI (froQ n i) w t)), (27, intss OL), (28, li n.nodes.length), (29, li i), (34, ints row), (35, li row.length), (36, li j)] /\ H = [(24, inLt X0)]) (by omega) ?_ ?_ ?_
  · rintro q A H ⟨j, t, a1, a2, a3, a4, rfl, rfl⟩;exact SDD
  · refine ⟨_, 0, 0, by omega, rfl, by omega, rfl, ?_, ?_⟩
    · exact DVR
    · exact DVR
  rintro q A H ⟨j, t, a1, a2, a3, a4, rfl, rfl⟩;by_cases hj : j < row.length
  · have hj3 : (j : Int) < (row.length : Int) := by omega
    obtain ⟨k, b1, b2, b3, b4, b5⟩ := outK_next n i (t := t) n.links.length a1 (by rw [a2, <- hrow]; exact hj);rw [a2, <- hrow] at b3;have hk := outK_skip n i (a := t) k b1 b5;have hk1 := outK_hit b4;rw [hk, a2] at hk1;have hs1 := selI_hit (w := w) b4;have hs0 := selI_skip (P := froQ n i) (w := w) (a := t) k b1 b5;have hr1 := hsum (froQ n i) t a1;have hwk := W.w0 k b2;rw [hs0] at hs1;have hkw : k < w.length := by omega
    have hkw3 : (k : Int) < (w.length : Int) := by omega
    haveI : GetAt row j (k : Int) := ⟨b3⟩;(have:=NeI hj);(have:=NeI hj3);(have:=NeI hkw);(have:=NeI hkw3);generalize selI (froQ n i) w t = S0 at *
    clear hsum hw0 hog;(repeat' (first|refine swp_seq [0,1,2,3,6,7,8,10,11,12,14,15,16,18,19,27,28,29,30,34,35,36,37,52,53,54,55,56] ?_|refine st2 ?_|refine fctI fun hf=>?_|(show CondG ..;first|refine cBG (fun hc=>?_) (fun hc=>?_)|refine cUG ?_ ?_)));(refine lN [24] ?_);exact ⟨_, by omega, j + 1, k + 1, by omega, hk1, by omega, rfl, by rw [hs1] <;> rfl, rfl⟩
  obtain rfl : j = row.length := by omega
  have hj3 : ¬ ((row.length : Int) < (row.length : Int)) := by omega
  (have:=NeI hj3);have hse : selI (froQ n i) w n.links.length = selI (froQ n i) w t := selI_skip n.links.length a1 (outK_same n i n.links.length a1 (by rw [a2, <- hrow]));have hSr := hsum (froQ n i) n.links.length (Nat.le_refl _);rw [<- hse];by_cases hS : selI (froQ n i) w n.links.length <= held.getD i default
  · have hfree := limP_free hS;rw [hX0] at hfree;(have:=NeI hS);generalize selI (froQ n i) w n.links.length = S at *
    (repeat' (first|refine swp_seq [0,1,2,3,6,7,8,10,11,12,14,15,16,18,19,27,28,29,30,34,35,36,37,52,53,54,55,56] ?_|refine st2 ?_|refine fctI fun hf=>?_|(show CondG ..;first|refine cBG (fun hc=>?_) (fun hc=>?_)|refine cUG ?_ ?_)));(refine lN [24] ?_);exact ⟨_, by omega, i + 1, by omega, rfl, rfl, by rw [hfree]⟩
  have hh0 := W.h0 i hi;have hhb := hb i hi;have hS0 : 0 < selI (froQ n i) w n.links.length := by omega
  obtain ⟨S, hSe⟩ : ∃ S, selI (froQ n i) w n.links.length = S := ⟨_, rfl⟩;rw [hSe] at hS0 hSr ⊢;have hS2 : ¬ S <= held.getD i default := by rw [<- hSe]; exact hS
  (have:=NeI hS2);(repeat' (first|refine swp_seq [0,1,2,3,6,7,8,10,11,12,14,15,16,18,19,27,28,29,30,34,35,36,37,52,53,54,55,56] ?_|refine st2 ?_|refine fctI fun hf=>?_|(show CondG ..;first|refine cBG (fun hc=>?_) (fun hc=>?_)|refine cUG ?_ ?_)));refine loop_swp [1, 2, 7, 10, 12, 15, 16, 27, 28, 29, 53, 54, 55] [24] 25 (fun q A H => ∃ j t : Nat, t <= n.links.length /\ (outK n i t).length = j /\ j <= row.length /\ q = row.length - j /\ A = [(1, ints held), (2, ints w), (7, .gl 24), (10, li i), (12, li S), (15, li (selI (froQ n i) w t)), (16, li (held.getD i default * selI (froQ n i) w t / S)), (27, intss OL), (28, li n.nodes.length), (29, li i), (53, ints row), (54, li row.length), (55, li j)] /\ H = [(24, inLt (limP n held w i t))]) (by omega) ?_ ?_ ?_
  · rintro q A H ⟨j, t, a1, a2, a3, a4, rfl, rfl⟩;exact SDD
  · refine ⟨_, 0, 0, by omega, rfl, by omega, rfl, ?_, ?_⟩
    · rw [show held.getD i default * selI (froQ n i) w 0 / S = 0 by show held.getD i default * 0 / S = 0; rw [Int.mul_zero, Int.zero_ediv]];exact DVR
    · rw [hX0]; exact DVR
  rintro q A H ⟨j, t, a1, a2, a3, a4, rfl, rfl⟩;have hXl := limP_len n held w i t;by_cases hj : j < row.length
  · have hj3 : (j : Int) < (row.length : Int) := by omega
    obtain ⟨k, b1, b2, b3, b4, b5⟩ := outK_next n i (t := t) n.links.length a1 (by rw [a2, <- hrow]; exact hj);rw [a2, <- hrow] at b3;have hk := outK_skip n i (a := t) k b1 b5;have hk1 := outK_hit b4;rw [hk, a2] at hk1;have hs1 := selI_hit (w := w) b4;have hs0 := selI_skip (P := froQ n i) (w := w) (a := t) k b1 b5;have hr1 := hsum (froQ n i) t a1;have hr2 := hsum (froQ n i) (k + 1) (by omega);have hr3 := selI_mono (P := froQ n i) (w := w) (a := k + 1) n.links.length (by omega) hw0;have hwk := W.w0 k b2;have hfr : fromI n k = i := by
      have := E.fro (q := i) b2;rw [b4] at this;exact (of_decide_eq_true this.symm).symm
    have hskip : limP n held w i t = limP n held w i k := limP_skip b1 fun x h1 h2 he => by
      have := b5 x h1 h2;rw [E.fro (by omega)] at this;exact absurd he.symm (of_decide_eq_false this)
    have hset := limP_set (held := held) (w := w) b2 hfr;have hlim : limK n held w k = held.getD i default * selI (froQ n i) w (k + 1) / S - held.getD i default * selI (froQ n i) w k / S := by
      unfold limK shareI;rw [hfr, if_neg hS, hSe]
    rw [hlim, <- hskip, hs1, hs0] at hset;rw [hs1, hs0] at hr2 hr3;rw [hs0] at hs1;rw [hSe] at hr3;have hD1 : 0 <= held.getD i default * selI (froQ n i) w t / S := Int.ediv_nonneg (Int.mul_nonneg hh0 hr1.1) (by omega);have hD2 : held.getD i default * selI (froQ n i) w t / S <= held.getD i default * (selI (froQ n i) w t + w.getD k default) / S := Int.ediv_le_ediv hS0 (Int.mul_le_mul_of_nonneg_left (by omega) hh0);have hD3 : held.getD i default * (selI (froQ n i) w t + w.getD k default) / S <= held.getD i default := by
      have := Int.ediv_le_ediv hS0 (Int.mul_le_mul_of_nonneg_left hr3 hh0)
      rwa [Int.mul_ediv_cancel _ (by omega)] at this
    have cp := fun m => partI_f (held.getD i default) (selI (froQ n i) w t + w.getD k default) S m ⟨hh0, by omega⟩ ⟨hr2.1, hr3⟩ ⟨hS0, by omega⟩
    have hkw : k < w.length := by omega
    have hkw3 : (k : Int) < (w.length : Int) := by omega
    haveI : GetAt row j (k : Int) := ⟨b3⟩;(have:=NeI hj);(have:=NeI hj3);(have:=NeI hkw);(have:=NeI hkw3);have e1 : held.getD i default * selI (froQ n i) w (k + 1) / S = held.getD i default * (selI (froQ n i) w t + w.getD k default) / S := by rw [hs1]
    generalize held.getD i default * (selI (froQ n i) w t + w.getD k default) / S = NX at *
    generalize held.getD i default * selI (froQ n i) w t / S = D at *
    generalize limP n held w i t = X at *
    generalize selI (froQ n i) w t = S1 at *
    have hkX : k < X.length := by omega
    have hkX3 : (k : Int) < (X.length : Int) := by omega
    (have:=NeI hkX);(have:=NeI hkX3);clear hsum hw0 hog hlim;(repeat' (first|refine swp_seq [0,1,2,3,6,7,8,10,11,12,14,15,16,18,19,27,28,29,30,34,35,36,37,52,53,54,55,56] ?_|refine st2 ?_|(show CallQ ..;first|refine cQ (fun hcc=>(by first | exact cp _)) ?_|(refine lP ?_;refine lQ (fun hcc m=>(by first | exact cp _)) ?_))|refine fctI fun hf=>?_|(show CondG ..;first|refine cBG (fun hc=>?_) (fun hc=>?_)|refine cUG ?_ ?_)));(refine lN [24] ?_);exact ⟨_, by omega, j + 1, k + 1, by omega, hk1, by omega, rfl, by rw [e1, hs1] <;> rfl, by rw [<- hset] <;> rfl⟩
  obtain rfl : j = row.length := by omega
  have hj3 : ¬ ((row.length : Int) < (row.length : Int)) := by omega
  (have:=NeI hj3);have hend : limP n held w i t = limP n held w (i + 1) 0 := by
    rw [<- limP_node];refine limP_skip a1 fun x h1 h2 he => ?_
    have := outK_same n i n.links.length a1 (by rw [a2, <- hrow]) x h1 h2;rw [E.fro h2] at this;exact absurd he.symm (of_decide_eq_false this)
  rw [hend];generalize hX2 : limP n held w (i + 1) 0 = X2 at *
  (repeat' (first|refine swp_seq [0,1,2,3,6,7,8,10,11,12,14,15,16,18,19,27,28,29,30,34,35,36,37,52,53,54,55,56] ?_|refine st2 ?_|refine fctI fun hf=>?_|(show CondG ..;first|refine cBG (fun hc=>?_) (fun hc=>?_)|refine cUG ?_ ?_)));(refine lN [24] ?_);exact ⟨_, by omega, i + 1, by omega, rfl, rfl, by rw [hX2]⟩
section
open Go.Eng
theorem swp_nilB {D : Dfr} {P : Program} {N pin nx nx' : Nat} {c : Code} {Q : Exit -> LE -> LH -> Nat -> Prop} {A : LE} {H : LH} (b : Nat) (t te : TypeId) (n : Nat) (hn : nx + 8 = nx')
    (h : @SWp D P N pin c Q A ((b, .blk t [.gl nx]) :: (nx, .lst te n []) :: H) nx') : @SWp D P N pin c Q A ((b, .blk t [.p (.lit (.slice none 0 0))]) :: H) nx := by
  subst hn;unfold SWp at h ⊢;intro hp B hB a w hS;obtain ⟨ρ, S, HS, ES⟩ := hS;have h0 : hget ((b, HV.blk t [.p (.lit (.slice none 0 0))]) :: H) b = some (.blk t [.p (.lit (.slice none 0 0))]) := by simp [hget]
  have hbU := (HS.heapU b _ h0).1;have hbn : b ≠ nx := by omega
  obtain ⟨ρ', hρ'⟩ : ∃ ρ' : Nat -> Hd, ρ' = upd ρ nx { a := none, len := 0, cap := 0 } := ⟨_, rfl⟩;have hlt : ∀ i, i < nx -> ρ' i = ρ i := fun i hi => by subst hρ'; exact upd_ne _ _ (by omega)
  have hnx : ρ' nx = { a := none, len := 0, cap := 0 } := by subst hρ'; exact upd_same ..
  refine h (by omega) B hB a w ⟨ρ', S, ?_, ?_⟩
  · refine HS.seen (fun i hi => hlt i (by have := hB i hi; omega)) fun i v hi => ?_
    simp only [hget] at hi;split at hi
    · next e1 =>
      subst e1;obtain rfl := Option.some.inj hi;have hO := HS.heap i _ h0;refine ⟨?_, by omega, ?_, fun c hc => ⟨_, h0, ?_⟩⟩
      · simp only [HRel] at hO ⊢;obtain ⟨bb, vs, fz, k1, k2, k3, k4⟩ := hO;refine ⟨bb, vs, fz, by rw [hlt i hbU]; exact k1, k2, ?_, k4⟩;cases vs with
        | nil => exact k3.elim
        | cons v vs =>
          cases vs with
          | nil =>
            refine ⟨?_, trivial⟩;have := rel_lit k3.1;simp only [Rel];rw [hnx]; exact this
          | cons v2 vs => exact k3.2.elim
      · exact ⟨by show nx < nx + 8; omega, trivial⟩
      · simp only [hblk] at hc ⊢;rw [hlt i hbU] at hc; exact hc
    · next e1 =>
      split at hi
      · next e2 =>
        subst e2;obtain rfl := Option.some.inj hi;refine ⟨?_, by omega, trivial, fun c hc => ?_⟩
        · simp only [HRel];rw [hnx];exact ⟨rfl, by simp [BL], by simp, by simp, .inl rfl⟩
        · simp only [hblk] at hc;rw [hnx] at hc;simp at hc
      · next e2 =>
        have hh : hget ((b, HV.blk t [.p (.lit (.slice none 0 0))]) :: H) i = some v := by simp only [hget, if_neg e1]; exact hi
        have hU := HS.heapU i v hh;refine ⟨HRel.mono (U := fun i => i < nx) (fun i hi => hlt i hi) (fun _ k => k) (fun _ _ => rfl) hU.1 hU.2 (fun _ _ => rfl) (HS.heap i v hh), by have : i < nx := hU.1; omega, HV.uses_mono (fun i k => by omega) v hU.2, fun c hc => ⟨v, hh, ?_⟩⟩;rw [hlt i hU.1] at hc; exact hc
  · exact ES.mono (fun i hi => hlt i hi) (fun _ k => k) (fun _ _ => rfl) fun i k => by omega
end
set_option maxRecDepth 20000 in
set_option maxHeartbeats 16000000 in
theorem wishes_f (n : Net) (l : List Sect) (s : Sta) (sec : Int) (m : Nat) (no : netOk n) (co : catOk l) (so : staOk s) (nb : netB n = true) (cb : catB l = true) (sb : staB n s = true) (kn : ∀ k, k < n.links.length -> knownB l (n.links.getD k default) = true) (hsec : 1 <= sec /\ sec <= 86400)
    (sb2 : staB n ⟨s.vol, s.pon, s.set, pumpsL n (levelsL n s.vol) s.on⟩ = true) (hlv : lvA n (levelsL n s.vol) = true) :
    DCallsG Tryz.prog 64 [] [netD n, sectL l, staD s, li sec] (hget []) m (.tup [.gl m, .gl (m + 1), li 0]) (hget [(m, inLt (wshL n l (levelsL n s.vol) ⟨s.vol, s.pon, s.set, pumpsL n (levelsL n s.vol) s.on⟩ sec)), (m + 1, boL (pumpsL n (levelsL n s.vol) s.on))]) := by
  obtain ⟨l1, l2, l3, l4⟩ := lensB_of (staB_in nb sb).1;have h400 := (netB_len nb).2;have hvol : ∀ i, i < n.nodes.length -> 0 <= s.vol.getD i default /\ s.vol.getD i default <= 1125899906842624 := fun i hi => by
    have h1 := (staB_in nb sb).2.1 i hi;have h2 := capN_in nb hi;unfold okSN at h1;simp only [Bool.and_eq_true] at h1;have := btwB_in h1.1.1;omega
  have cL := fun m => Levels_f n s.vol m no nb l1 hvol
  have hLl : (levelsL n s.vol).length = n.nodes.length := rng_len _ _;have cO := fun m => On_own n s (levelsL n s.vol) m no ⟨nb, sb⟩ ⟨hLl, hlv⟩ so
  have hOl : (pumpsL n (levelsL n s.vol) s.on).length = n.links.length := rng_len _ _;generalize levelsL n s.vol = LV at *
  generalize pumpsL n LV s.on = O at *
  have F : FlowsIn n l LV ⟨s.vol, s.pon, s.set, O⟩ := ⟨no, co, nb, cb, sb2, hLl, hlv, kn⟩;have so2 : staOk ⟨s.vol, s.pon, s.set, O⟩ := ⟨so.1, so.2.1, so.2.2.1, by show O.length <= _; omega⟩;have cF := Flows_own n l LV ⟨s.vol, s.pon, s.set, O⟩ 1 F so2;have hFl : (flowsL n l LV ⟨s.vol, s.pon, s.set, O⟩).length = n.links.length := rng_len _ _;have hFa : ∀ k, k < n.links.length -> (flowsL n l LV ⟨s.vol, s.pon, s.set, O⟩).getD k default = flowAt n l LV ⟨s.vol, s.pon, s.set, O⟩ k := fun k hk => rng_at hk
  have hWl : (wshL n l LV ⟨s.vol, s.pon, s.set, O⟩ sec).length = n.links.length := rng_len _ _;have hWa : ∀ k, k < n.links.length -> (wshL n l LV ⟨s.vol, s.pon, s.set, O⟩ sec).getD k default = (wishI (flowAt n l LV ⟨s.vol, s.pon, s.set, O⟩ k) sec).1 := fun k hk => rng_at hk
  have hq : ∀ k, k < n.links.length -> 0 <= flowAt n l LV ⟨s.vol, s.pon, s.set, O⟩ k /\ flowAt n l LV ⟨s.vol, s.pon, s.set, O⟩ k <= 1099511627776 := fun k hk => flowI_in (F.btw hk)
  have cFl : DCallsG Tryz.prog 121 [] [netD n, sectL l, ints LV, .agg [.p (.dat 1 (s.vol.map inRow)), .p (.dat 1 (s.pon.map inRow)), .p (.dat 1 (s.set.map inRow)), .gl 0]] (hget [(0, boL O)]) 1 (.tup [.gl 1, li 0]) (hget [(0, boL O), (1, inLt (flowsL n l LV ⟨s.vol, s.pon, s.set, O⟩))]) :=
    DCallsG.lendLit (x := .elems 1 (O.map boRow)) (h0 := []) (fv_rows boRow _ _ O) rfl (by simp only [litHs, litH, Bool.and_true]; rw [List.all_eq_true]; intro d hd; obtain ⟨r, hr, hd⟩ := List.mem_flatten.1 hd; obtain ⟨x, _, rfl⟩ := List.mem_map.1 hr; obtain ⟨y, hy, rfl⟩ := List.mem_map.1 hd; simp only [inRow, List.mem_singleton] at hy; subst hy; rfl) rfl rfl rfl cF
  generalize flowsL n l LV ⟨s.vol, s.pon, s.set, O⟩ = FL at *
  generalize wshL n l LV ⟨s.vol, s.pon, s.set, O⟩ sec = W at *
  generalize flowAt n l LV ⟨s.vol, s.pon, s.set, O⟩ = fq at *
  have hcl : DCallsD Tryz.prog 119 [.ptr 32 0, .ptr 16 0, .ptr 24 0] (hget [(16, .blk 27 [.gl 360]), (24, .blk 28 [.gl 168]), (32, .blk 37 [li 0]), (168, boL O), (288, inLt FL), (360, inLt W)]) 369 (.tup []) (hget [(16, .blk 27 [.gl 360]), (24, .blk 28 [.gl 168]), (32, .blk 37 [li 0]), (168, boL O), (288, inLt FL), (360, inLt W)]) := by
    refine contractD (n := 5) (rs := []) (ts := []) Tryz.func119 rfl (by decide) 369 369 [] [] (.tup []) [(16, .blk 27 [.gl 360]), (24, .blk 28 [.gl 168]), (32, .blk 37 [li 0]), (168, boL O), (288, inLt FL), (360, inLt W)] (by (exact SD)) (by (exact SD)) ?_;(repeat' (first|refine swp_seq [0,1,2,4] ?_|refine st2 ?_|refine fctI fun hf=>?_|(show CondG ..;first|refine cBG (fun hc=>?_) (fun hc=>?_)|refine cUG ?_ ?_)));exact DVR
  refine contractW (n := 64) Tryz.func64 rfl (by decide) 0 0 [] [360, 168] (.tup [.gl 360, .gl 168, li 0]) [(360, inLt W), (168, boL O)] (by (exact SD)) (by (exact SD)) ?_;refine dwp_seq [1, 3, 4, 6, 8, 9, 10] ?_;(repeat' (first|refine swp_seq [0,1,2,3,4,6,8,9,10,11,12,14,15,25,34,45,46,47,48,58] ?_|refine st2 ?_|refine fctI fun hf=>?_|(show CondG ..;first|refine cBG (fun hc=>?_) (fun hc=>?_)|refine cUG ?_ ?_)));refine thenD_normal (A2 := [(1, sectL l), (3, li sec), (4, .ptr 0 0), (6, .ptr 8 0), (8, .ptr 16 0), (9, .ptr 24 0), (10, .ptr 32 0)]) rfl ?_;refine dwp_defer (rs := [.cell 8 27, .cell 9 28, .cell 10 37]) (ts2 := [27, 28, 37]) (g := 119) (caps := [.ptr 32 0, .ptr 16 0, .ptr 24 0]) (nx1 := 56) (A1 := [(16, .clo 119 [.ptr 32 0, .ptr 16 0, .ptr 24 0]), (1, sectL l), (3, li sec), (4, .ptr 0 0), (6, .ptr 8 0), (8, .ptr 16 0), (9, .ptr 24 0), (10, .ptr 32 0)]) (H1 := [(32, .blk 37 [li 0]), (24, .blk 28 [nilS]), (16, .blk 27 [nilS]), (8, .blk 30 [.p (.dat 1 (s.vol.map inRow)), .p (.dat 1 (s.pon.map inRow)), .p (.dat 1 (s.set.map inRow)), .p (.dat 1 (s.on.map boRow))]), (0, .blk 25 (netC n))]) [] rfl rfl rfl rfl ?_ ?_
  · exact ⟨rfl, fun _ => rfl, fun _ => trivial, fun _ => ⟨rfl, rfl, rfl, rfl⟩⟩
  intro D;(repeat' (first|refine swp_seq [0,1,2,3,4,6,8,9,10,11,12,14,15,25,34,45,46,47,48,58] ?_|refine st2 ?_|(show CallQ ..;first|refine cQ (fun hcc=>(by first | exact cL _ | exact cO _)) ?_|(refine lP ?_;refine lQ (fun hcc m=>(by first | exact cL _ | exact cO _)) ?_))|refine fctI fun hf=>?_|(show CondG ..;first|refine cBG (fun hc=>?_) (fun hc=>?_)|refine cUG ?_ ?_)));(refine cQT [168] (fun hcc => cFl) ?_);(repeat' (first|refine swp_seq [0,1,2,3,4,6,8,9,10,11,12,14,15,25,34,45,46,47,48,58] ?_|refine st2 ?_|refine fctI fun hf=>?_|(show CondG ..;first|refine cBG (fun hc=>?_) (fun hc=>?_)|refine cUG ?_ ?_)));refine swp_hkeep [16, 24, 32, 168, 288] rfl ?_;change SWp _ _ _ _ _ _ ((16, .blk 27 [.p (.lit (.slice none 0 0))]) :: [(24, .blk 28 [.gl 168]), (32, .blk 37 [li 0]), (168, boL O), (288, inLt FL)]) _;refine swp_nilB 16 27 3 1 rfl ?_;have hFi : (FL.length : Int) = (n.links.length : Int) := by omega
  refine loop_swp [3, 8, 9, 10, 45, 46, 47] [16, 24, 32, 168, 288, 360] 361 (fun q A H => ∃ k : Nat, k <= n.links.length /\ q = n.links.length - k /\ A = [(3, li sec), (8, .ptr 16 0), (9, .ptr 24 0), (10, .ptr 32 0), (45, .gl 288), (46, li n.links.length), (47, li k)] /\ H = [(16, .blk 27 [.gl 360]), (24, .blk 28 [.gl 168]), (32, .blk 37 [li 0]), (168, boL O), (288, inLt FL), (360, inLt (W.take k))]) (by omega) ?_ ?_ ?_
  · rintro q A H ⟨k, g1, g2, rfl, rfl⟩;exact SDD
  · refine ⟨_, 0, by omega, rfl, ?_, ?_⟩
    · rw [<- hFi]; exact DVR
    · exact DVR
  rintro q A H ⟨k, g1, g2, rfl, rfl⟩;by_cases hk : k < n.links.length
  · have hk3 : (k : Int) < (n.links.length : Int) := by omega
    have hkF : k < FL.length := by omega
    have hkF3 : (k : Int) < (FL.length : Int) := by omega
    have cw := fun m => wish_f (FL.getD k default) sec m
    rw [show (wishI (FL.getD k default) sec) = (W.getD k default, 0) by
      rw [hFa k hk, hWa k hk, (wishI_in (hq k hk) hsec).1]] at cw
    have hnx : W.take (k + 1) = W.take k ++ [W.getD k default] := take_snoc (by omega);have hti : (W.take k).length = k := by rw [List.length_take]; omega
    generalize W.getD k default = wv at *
    generalize W.take k = X at *
    (have:=NeI hk);(have:=NeI hk3);(have:=NeI hkF);(have:=NeI hkF3);clear hFa hWa hq;(repeat' (first|refine swp_seq [0,1,2,3,4,6,8,9,10,11,12,14,15,25,34,45,46,47,48,58] ?_|refine st2 ?_|(show CallQ ..;first|refine cQ (fun hcc=>(by first | exact cw _)) ?_|(refine lP ?_;refine lQ (fun hcc m=>(by first | exact cw _)) ?_))|refine fctI fun hf=>?_|(show CondG ..;first|refine cBG (fun hc=>?_) (fun hc=>?_)|refine cUG ?_ ?_)));rw [<- hnx];(refine lN [16, 24, 32, 168, 288, 360] ?_);exact ⟨_, by omega, k + 1, by omega, rfl, rfl, rfl⟩
  obtain rfl : k = n.links.length := by omega
  have hk3 : ¬ ((n.links.length : Int) < (n.links.length : Int)) := by omega
  (have:=NeI hk3);rw [show W.take n.links.length = W by rw [<- hWl, List.take_length]];(repeat' (first|refine swp_seq [0,1,2,3,4,6,8,9,10,11,12,14,15,25,34,45,46,47,48,58] ?_|refine st2 ?_|refine fctI fun hf=>?_|(show CondG ..;first|refine cBG (fun hc=>?_) (fun hc=>?_)|refine cUG ?_ ?_)));exact endD_ret _ (.tup []) hcl rfl rfl ⟨rfl, by (exact SD)⟩

end Go.Proofs.YthacnhidipeckaaGreat
