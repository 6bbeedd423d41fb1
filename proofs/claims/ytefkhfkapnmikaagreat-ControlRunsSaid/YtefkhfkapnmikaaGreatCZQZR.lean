/-
  Contracts of functions of the program, over the engine.
  No condition.
-/
import Derived.Test.YtefkhfkapnmikaaGreatCZP
import Derived.Test.YtefkhfkapnmikaaGreatCX6
import Derived.Test.YtefkhfkapnmikaaGreatCX0
import Derived.Test.YtefkhfkapnmikaaGreatCL9L10L11L12L16L20RL25L27
import Derived.Test.YtefkhfkapnmikaaGreatCY6T21L14Y7Y11Y9Y10Y12Y8Y14
namespace Go.Proofs.YtefkhfkapnmikaaGreat
open Go.Eng
set_option linter.all false
attribute [local irreducible] DCallsG SWp Fct CallQ XCallQ LCallQ XLCallQ drun xrun
set_option maxHeartbeats 64000000

set_option maxRecDepth 20000 in
theorem rWishes_f (n : Net) (l : List Sect) (s : Sta) (sec : Int) (m : Nat) (no : netOk n) (co : catOk l) (so : staOk s) (nb : netB n = true) (cb : catB l = true) (sb : staB n s = true) (kn : ∀ k, k < n.links.length -> knownB l (n.links.getD k default) = true) (hsec : 1 <= sec /\ sec <= 86400)
    (sb2 : staB n ⟨s.vol, s.pon, s.set, pumpsL n (levelsL n s.vol) s.on⟩ = true) (hlv : lvA n (levelsL n s.vol) = true) :
    Pu 175 [netD n, sectL l, staD s, li sec] m (.tup [ints (wshL n l (levelsL n s.vol) ⟨s.vol, s.pon, s.set, pumpsL n (levelsL n s.vol) s.on⟩ sec), bools (pumpsL n (levelsL n s.vol) s.on), li 0]) := by
  obtain ⟨l1, l2, l3, l4⟩ := lensB_of (staB_in nb sb).1;have h400 := (netB_len nb).2;obtain ⟨_, hvol⟩ := sta_vol nb sb;have kL := fun m => rLevels29_f n s.vol m no nb l1 hvol
  have hLl : (levelsL n s.vol).length = n.nodes.length := rng_len _ _;have kP := fun m => rPumps_f n s.on (levelsL n s.vol) m no nb l4 hLl
  have hcp := (sta_hold nb sb).2.1;have kC := fun m => rCopy_f s m hcp
  have hOl : (pumpsL n (levelsL n s.vol) s.on).length = n.links.length := rng_len _ _;generalize levelsL n s.vol = LV at *
  generalize pumpsL n LV s.on = O at *
  have F : FlowsIn n l LV ⟨s.vol, s.pon, s.set, O⟩ := ⟨no, co, nb, cb, sb2, hLl, hlv, kn⟩;have so2 : staOk ⟨s.vol, s.pon, s.set, O⟩ := ⟨so.1, so.2.1, so.2.2.1, by show O.length <= _; omega⟩;have kF := fun m => rFlows_f n l LV ⟨s.vol, s.pon, s.set, O⟩ m no co so2
  have eF : flowsR n l LV ⟨s.vol, s.pon, s.set, O⟩ = (flowsL n l LV ⟨s.vol, s.pon, s.set, O⟩, 0) := by
    unfold flowsR;rw [if_pos (by rw [cb, nb, sb2]; rfl)];have e1 : lvE n LV = 0 := by
      unfold lvE;rw [if_pos hLl, if_pos hlv]
    rw [if_pos e1, if_neg];intro h;obtain ⟨x, hx, hb⟩ := List.any_eq_true.1 h;obtain ⟨k, hk, rfl⟩ := List.mem_iff_getElem.1 hx;have := kn k hk;rw [List.getD_eq_getElem?_getD, List.getElem?_eq_getElem hk] at this;have this : knownB l n.links[k] = true := this;rw [this] at hb; cases hb
  rw [eF] at kF;have hFl : (flowsL n l LV ⟨s.vol, s.pon, s.set, O⟩).length = n.links.length := rng_len _ _;have hFa : ∀ k, k < n.links.length -> (flowsL n l LV ⟨s.vol, s.pon, s.set, O⟩).getD k default = flowAt n l LV ⟨s.vol, s.pon, s.set, O⟩ k := fun k hk => rng_at hk
  have hWl : (wshL n l LV ⟨s.vol, s.pon, s.set, O⟩ sec).length = n.links.length := rng_len _ _;have hWa : ∀ k, k < n.links.length -> (wshL n l LV ⟨s.vol, s.pon, s.set, O⟩ sec).getD k default = (wishI (flowAt n l LV ⟨s.vol, s.pon, s.set, O⟩ k) sec).1 := fun k hk => rng_at hk
  clear eF F sb2 hvol;generalize flowsL n l LV ⟨s.vol, s.pon, s.set, O⟩ = FL at *
  generalize wshL n l LV ⟨s.vol, s.pon, s.set, O⟩ sec = W at *
  generalize flowAt n l LV ⟨s.vol, s.pon, s.set, O⟩ = fq at *
  refine pcN 65 [.tmp 8,.tmp 9,.tmp 10] [28,29,3] Tryz.func175 rfl [296] ?_;(repeat' first|(show SWp _ _ _ (.seq (.region 5 _ _) _) _ _ _ _;refine (stop_in ?_))|refine stW [0,1,2,3,4,6,8,9,10,11,12,13,14,15,16,17,18,42,47] ?_|refine fctI fun hf=>?_|refine twI (fun hc=>?_) fun hc=>?_);refine stop_out ?_;(refine sF 136 ?_);(refine sF 137 ?_);(refine sF 138 ?_);(repeat' first|refine stW [0,1,2,3,4,6,8,9,10,11,12,13,14,15,16,17,18,42,47] ?_|refine fctI fun hf=>?_|refine twI (fun hc=>?_) fun hc=>?_);(refine sN 16 3 1 ?_);refine loop_swp [3, 12, 14, 16, 17] [296] 304 (fun q A H => ∃ k : Nat, k <= n.links.length /\ q = n.links.length - k /\ A = [(3, li sec), (12, bools O), (14, ints FL), (16, .gl 296), (17, li k)] /\ H = [(296, inLt (W.take k))]) (by omega) ?_ ?_ ?_
  · rintro q A H ⟨k, g1, g2, rfl, rfl⟩;exact SDD
  · refine ⟨_, 0, by omega, rfl, ?_, ?_⟩
    · exact DVR
    · exact DVR
  rintro q A H ⟨k, g1, g2, rfl, rfl⟩;by_cases hk : k < n.links.length
  · have hkF : k < FL.length := by omega
    have hkF3 : (k : Int) < (FL.length : Int) := by omega
    have cw := fun m => rWish_f (FL.getD k default) sec m
    have hwk : (wishI (FL.getD k default) sec).1 = W.getD k default := by rw [hFa k hk, hWa k hk]
    rw [hwk] at cw;generalize (wishI (FL.getD k default) sec).2 = e at *
    have hnx : W.take (k + 1) = W.take k ++ [W.getD k default] := take_snoc (by omega);have hti : (W.take k).length = k := by rw [List.length_take]; omega
    generalize W.getD k default = wv at *
    generalize W.take k = X at *
    (have:=NeI hkF);(have:=NeI hkF3);clear hFa hWa;(repeat' first|refine stW [0,1,2,3,4,6,8,9,10,11,12,13,14,15,16,17,18,42,47] ?_|refine fctI fun hf=>?_|refine twI (fun hc=>?_) fun hc=>?_);rw [<- hnx];(refine lN [296] ?_);exact ⟨_, by omega, k + 1, by omega, rfl, rfl, rfl⟩
  obtain rfl : k = n.links.length := by omega
  have hkF3 : ¬ ((n.links.length : Int) < (FL.length : Int)) := by omega
  rw [show W.take n.links.length = W by rw [<- hWl, List.take_length]];(have:=NeI hkF3);(repeat' first|refine stW [0,1,2,3,4,6,8,9,10,11,12,13,14,15,16,17,18,42,47] ?_|refine fctI fun hf=>?_|refine twI (fun hc=>?_) fun hc=>?_);exact DVR
theorem rHeldO_f (s : Sta) (m : Nat) (hs : holdOk s) : DCallsG Tryz.prog 172 [] [staD s] (hget []) m (.gl m) (hget [(m, inLt (heldL s))]) := by
  obtain ⟨k1, k2, k3⟩ := hs;have hl := heldL_len s;refine contract (n := 27) (rs := [.tmp 2]) (ts := [28]) Tryz.func172 rfl (by decide) 0 0 [] [] [32] (.gl 32) [(32, inLt (heldL s))] (by (exact SD)) (by (exact SD)) ?_;(repeat' first|refine stW [0,1,2,3,4,9] ?_|refine fctI fun hf=>?_|refine twI (fun hc=>?_) fun hc=>?_);(refine sN 3 3 1 ?_);refine loop_swp [1, 3, 4] [0, 32] 41 (fun q A H => ∃ i : Nat, i <= s.vol.length /\ q = s.vol.length - i /\ A = [(1, .ptr 0 0), (3, .gl 32), (4, li i)] /\ H = [(0, .blk 31 (staC s)), (32, inLt ((heldL s).take i))]) (by omega) ?_ ?_ ?_
  · rintro q A H ⟨i, h1, h2, rfl, rfl⟩;exact SDD
  · refine ⟨_, 0, by omega, rfl, ?_, ?_⟩
    · exact DVR
    · exact DVR
  rintro q A H ⟨i, h1, h2, rfl, rfl⟩;by_cases hi : i < s.vol.length
  · have hb := k3 i hi;have hi3 : (i : Int) < (s.vol.length : Int) := by omega
    have hip : i < s.pon.length := by omega
    have hnext : (heldL s).take i ++ [s.vol.getD i default + s.pon.getD i default] = (heldL s).take (i + 1) := by
      rw [List.take_succ_eq_append_getElem (by omega), <- heldL_at s hi];simp [List.getD_eq_getElem?_getD, List.getElem?_eq_getElem (by omega : i < (heldL s).length)]
    have hti : ((heldL s).take i).length = i := by rw [List.length_take]; omega
    generalize (heldL s).take i = X at *
    (have:=NeI hi);(have:=NeI hi3);(have:=NeI hip);(repeat' first|(show SWp _ _ _ (.region _ _ true) _ _ _ _;refine xG mixed [32] ?_)|refine stW [0,1,2,3,4,9] ?_|refine fctI fun hf=>?_|refine twI (fun hc=>?_) fun hc=>?_);rw [hnext];(refine lR 185 32 [0, 185] ?_);exact ⟨_, by omega, i + 1, by omega, rfl, rfl, rfl⟩
  obtain rfl : i = s.vol.length := by omega
  have hi3 : ¬ ((s.vol.length : Int) < (s.vol.length : Int)) := by omega
  rw [List.take_of_length_le (by omega)];(have:=NeI hi3);(repeat' first|refine stW [0,1,2,3,4,9] ?_|refine fctI fun hf=>?_|refine twI (fun hc=>?_) fun hc=>?_);exact DVR
def wK (n : Net) (w : List Int) (q k : Nat) : List Int := (outK n q k).map fun j => w.getD j.toNat default
theorem wK_len (n : Net) (w : List Int) (q k : Nat) : (wK n w q k).length = (outK n q k).length := List.length_map ..
theorem wK_hit {n : Net} {w : List Int} {q k : Nat} (h : froQ n q k = true) : outK n q (k + 1) = outK n q k ++ [(k : Int)] /\ wK n w q (k + 1) = wK n w q k ++ [w.getD k default] := by
  have e : outK n q (k + 1) = outK n q k ++ [(k : Int)] := by rw [outK_suc, if_pos h]
  refine ⟨e, ?_⟩;unfold wK;rw [e, List.map_append]; rfl
theorem wK_miss {n : Net} {w : List Int} {q k : Nat} (h : froQ n q k = false) : outK n q (k + 1) = outK n q k /\ wK n w q (k + 1) = wK n w q k := by
  have e : outK n q (k + 1) = outK n q k := by rw [outK_suc, if_neg (by rw [h]; decide)]
  refine ⟨e, ?_⟩;unfold wK;rw [e]
theorem wK_at {n : Net} {w : List Int} {q L j k : Nat} (hj : j < (outK n q L).length) (h : (outK n q L).getD j default = (k : Int)) : (wK n w q L).getD j default = w.getD k default := by
  unfold wK;rw [List.getD_eq_getElem?_getD, List.getElem?_map, List.getElem?_eq_getElem hj];rw [List.getD_eq_getElem?_getD, List.getElem?_eq_getElem hj] at h;have h : (outK n q L)[j] = (k : Int) := h;show w.getD ((outK n q L)[j]).toNat default = _;rw [h, Int.toNat_natCast]
set_option maxRecDepth 20000 in
theorem rLimited35O_f (n : Net) (held w : List Int) (m : Nat) (no : netOk n) (nb : netB n = true) (hl : held.length = n.nodes.length) (wl : w.length = n.links.length) (W : PassIn n held w) (hb : ∀ q, q < n.nodes.length -> held.getD q default <= 3377699720527872) :
    DCallsG Tryz.prog 176 [] [netD n, ints held, ints w] (hget []) m (.gl m) (hget [(m, inLt (limR n held w))]) := by
  have E := ends_of nb;obtain ⟨h300, h400⟩ := netB_len nb;have hw0 : ∀ k, k < n.links.length -> 0 <= w.getD k default := fun k hk => (W.w0 k hk).1
  have hsum : ∀ (P : Nat -> Bool) t, t <= n.links.length -> 0 <= selI P w t /\ selI P w t <= 450359962737049600 := fun P t ht => by
    have h1 := selI_le (p := P) (l := w) (fun i hi => W.w0 i (by omega)) t (by omega);have h4 : (t : Int) * 1125899906842624 <= 400 * 1125899906842624 := Int.mul_le_mul_of_nonneg_right (by omega) (by decide);omega
  refine contract (n := 100) (rs := [.tmp 6]) (ts := [28]) Tryz.func176 rfl (by decide) 0 0 [] [] [16] (.gl 16) [(16, inLt (limR n held w))] (by (exact SD)) (by (exact SD)) ?_;(repeat' first|refine stW [0,1,2,3,6,7,8,9,10,11,12,13,14,15,16,24,31,46,69,73] ?_|refine fctI fun hf=>?_|refine twI (fun hc=>?_) fun hc=>?_);refine loop_swp [1, 2, 3, 7, 8] [0, 16] 56 (fun q A H => ∃ i : Nat, i <= n.nodes.length /\ q = n.nodes.length - i /\ A = [(1, ints held), (2, ints w), (3, .ptr 0 0), (7, .gl 16), (8, li i)] /\ H = [(0, .blk 25 (netC n)), (16, inLt (limP n held w i 0))]) (by omega) ?_ ?_ ?_
  · rintro q A H ⟨i, h1, h2, rfl, rfl⟩;exact SDD
  · refine ⟨_, 0, by omega, rfl, ?_, ?_⟩
    · exact DVR
    · rw [limP_start wl]; exact DVR
  rintro q A H ⟨i, h1, h2, rfl, rfl⟩;by_cases hi : i < n.nodes.length
  case neg =>
    obtain rfl : i = n.nodes.length := by omega
    have hi3 : ¬ ((n.nodes.length : Int) < (n.nodes.length : Int)) := by omega
    (have:=NeI hi3);rw [limP_end fun k hk => (E.f k hk).1];(repeat' first|refine stW [0,1,2,3,6,7,8,9,10,11,12,13,14,15,16,24,31,46,69,73] ?_|refine fctI fun hf=>?_|refine twI (fun hc=>?_) fun hc=>?_);exact DVR
  have hi3 : (i : Int) < (n.nodes.length : Int) := by omega
  have hih : i < held.length := by omega
  have hfq : froB n i = froQ n i := froB_eq nb hi;have hPl := limP_len n held w i 0;generalize hX0 : limP n held w i 0 = X0 at *
  (have:=NeI hi);(have:=NeI hi3);(have:=NeI hih);(repeat' first|refine stW [0,1,2,3,6,7,8,9,10,11,12,13,14,15,16,24,31,46,69,73] ?_|refine fctI fun hf=>?_|refine twI (fun hc=>?_) fun hc=>?_);(refine sN 9 3 1 ?_);(refine sN 10 3 1 ?_);refine loop_swp [1, 2, 3, 7, 8, 9, 10, 11, 12] [0, 16, 128, 136] 144 (fun q A H => ∃ k : Nat, k <= n.links.length /\ q = n.links.length - k /\ A = [(1, ints held), (2, ints w), (3, .ptr 0 0), (7, .gl 16), (8, li i), (9, .gl 128), (10, .gl 136), (11, li (selI (froQ n i) w k)), (12, li k)] /\ H = [(0, .blk 25 (netC n)), (16, inLt X0), (128, inLt (outK n i k)), (136, inLt (wK n w i k))]) (by omega) ?_ ?_ ?_
  · rintro q A H ⟨k, a1, a2, rfl, rfl⟩;exact SDD
  · refine ⟨_, 0, by omega, rfl, ?_, ?_⟩
    · exact DVR
    · exact DVR
  rintro q A H ⟨k, a1, a2, rfl, rfl⟩;by_cases hk : k < n.links.length
  · have hk3 : (k : Int) < (n.links.length : Int) := by omega
    have hkw : k < w.length := by omega
    have hkw3 : (k : Int) < (w.length : Int) := by omega
    have hs := hsum (froQ n i) k a1;have hwk := W.w0 k hk;have hol := outK_len n i k;have hwl := wK_len n w i k;(have:=NeI hk);(have:=NeI hk3);(have:=NeI hkw);(have:=NeI hkw3);by_cases he : (n.links.getD k default).fro = (n.nodes.getD i default).name
    · have hf : froQ n i k = true := by rw [<- hfq]; exact decide_eq_true he
      have e1 := selI_hit (w := w) hf;obtain ⟨e2, e3⟩ := wK_hit (w := w) hf;generalize selI (froQ n i) w k = S0 at *
      generalize outK n i k = OK at *
      generalize wK n w i k = WK at *
      (have:=NeI he);clear hsum hw0 hfq;(repeat' first|(show SWp _ _ _ (.region _ _ true) _ _ _ _;refine xG mixed [128, 136] ?_)|refine stW [0,1,2,3,6,7,8,9,10,11,12,13,14,15,16,24,31,46,69,73] ?_|refine fctI fun hf=>?_|refine twI (fun hc=>?_) fun hc=>?_);(refine lR2 312 128 368 136 [0, 16, 312, 368] ?_);exact ⟨_, by omega, k + 1, by omega, rfl, by rw [e1] <;> rfl, by rw [e2, e3] <;> rfl⟩
    · have hf : froQ n i k = false := by rw [<- hfq]; exact decide_eq_false he
      have e1 := selI_miss (w := w) hf;obtain ⟨e2, e3⟩ := wK_miss (w := w) hf;generalize selI (froQ n i) w k = S0 at *
      generalize outK n i k = OK at *
      generalize wK n w i k = WK at *
      (have:=NeI he);clear hsum hw0 hfq;(repeat' first|(show SWp _ _ _ (.region _ _ true) _ _ _ _;refine xG mixed [128, 136] ?_)|refine stW [0,1,2,3,6,7,8,9,10,11,12,13,14,15,16,24,31,46,69,73] ?_|refine fctI fun hf=>?_|refine twI (fun hc=>?_) fun hc=>?_);(refine lN [0, 16, 128, 136] ?_);exact ⟨_, by omega, k + 1, by omega, rfl, by rw [e1] <;> rfl, by rw [e2, e3] <;> rfl⟩
  obtain rfl : k = n.links.length := by omega
  have hk3 : ¬ ((n.links.length : Int) < (n.links.length : Int)) := by omega
  (have:=NeI hk3);have hSr := hsum (froQ n i) n.links.length (Nat.le_refl _);have hrl := outK_len n i n.links.length;(repeat' first|(show SWp _ _ _ (.seq (.region 13 _ _) _) _ _ _ _;refine (stop_in ?_))|(show SWp _ _ _ (.region _ _ true) _ _ _ _;refine xG mixed [] ?_)|refine stW [0,1,2,3,6,7,8,9,10,11,12,13,14,15,16,24,31,46,69,73] ?_|refine fctI fun hf=>?_|refine twI (fun hc=>?_) fun hc=>?_);refine stop_out ?_;(refine sF 128 ?_);(refine sF 136 ?_);by_cases hS : selI (froQ n i) w n.links.length <= held.getD i default
  · have hfree := limP_free hS;rw [hX0] at hfree;(have:=NeI hS);generalize selI (froQ n i) w n.links.length = S at *
    generalize outK n i n.links.length = OK at *
    generalize wK n w i n.links.length = WK at *
    clear hsum hw0 hfq;(repeat' first|refine stW [0,1,2,3,6,7,8,9,10,11,12,13,14,15,16,24,31,46,69,73] ?_|refine fctI fun hf=>?_|refine twI (fun hc=>?_) fun hc=>?_);(refine lN [0, 16] ?_);exact ⟨_, by omega, i + 1, by omega, rfl, rfl, by rw [hfree]⟩
  have hh0 := W.h0 i hi;have hhb := hb i hi;have hS0 : 0 < selI (froQ n i) w n.links.length := by omega
  obtain ⟨S, hSe⟩ : ∃ S, selI (froQ n i) w n.links.length = S := ⟨_, rfl⟩;rw [hSe] at hS0 hSr ⊢;have hS2 : ¬ S <= held.getD i default := by rw [<- hSe]; exact hS
  obtain ⟨row, hrow⟩ : ∃ row, outK n i n.links.length = row := ⟨_, rfl⟩;obtain ⟨wr, hwr⟩ : ∃ wr, wK n w i n.links.length = wr := ⟨_, rfl⟩;have hwrl : wr.length = row.length := by rw [<- hwr, <- hrow, wK_len]
  rw [hrow, hwr];rw [hrow] at hrl;(have:=NeI hS2);(repeat' first|refine stW [0,1,2,3,6,7,8,9,10,11,12,13,14,15,16,24,31,46,69,73] ?_|refine fctI fun hf=>?_|refine twI (fun hc=>?_) fun hc=>?_);refine loop_swp [1, 2, 3, 7, 8, 9, 10, 11, 13, 14, 15] [0, 16] 300 (fun q A H => ∃ j t : Nat, t <= n.links.length /\ (outK n i t).length = j /\ j <= row.length /\ q = row.length - j /\ A = [(1, ints held), (2, ints w), (3, .ptr 0 0), (7, .gl 16), (8, li i), (9, ints row), (10, ints wr), (11, li S), (13, li (selI (froQ n i) w t)), (14, li (held.getD i default * selI (froQ n i) w t / S)), (15, li j)] /\ H = [(0, .blk 25 (netC n)), (16, inLt (limP n held w i t))]) (by omega) ?_ ?_ ?_
  · rintro q A H ⟨j, t, a1, a2, a3, a4, rfl, rfl⟩;exact SDD
  · refine ⟨_, 0, 0, by omega, rfl, by omega, rfl, ?_, ?_⟩
    · rw [show held.getD i default * selI (froQ n i) w 0 / S = 0 by show held.getD i default * 0 / S = 0; rw [Int.mul_zero, Int.zero_ediv]];exact DVR
    · rw [hX0]; exact DVR
  rintro q A H ⟨j, t, a1, a2, a3, a4, rfl, rfl⟩;have hXl := limP_len n held w i t;by_cases hj : j < row.length
  · have hj3 : (j : Int) < (row.length : Int) := by omega
    obtain ⟨k, b1, b2, b3, b4, b5⟩ := outK_next n i (t := t) n.links.length a1 (by rw [a2, hrow]; exact hj);have b6 := wK_at (w := w) (by rw [a2, hrow]; exact hj) b3;rw [a2, hrow] at b3;rw [a2, hwr] at b6;have hk := outK_skip n i (a := t) k b1 b5;have hk1 := outK_hit b4;rw [hk, a2] at hk1;have hs1 := selI_hit (w := w) b4;have hs0 := selI_skip (P := froQ n i) (w := w) (a := t) k b1 b5;have hr1 := hsum (froQ n i) t a1;have hr2 := hsum (froQ n i) (k + 1) (by omega);have hr3 := selI_mono (P := froQ n i) (w := w) (a := k + 1) n.links.length (by omega) hw0;have hwk := W.w0 k b2;have hfr : fromI n k = i := by
      have := E.fro (q := i) b2;rw [b4] at this;exact (of_decide_eq_true this.symm).symm
    have hskip : limP n held w i t = limP n held w i k := limP_skip b1 fun x h1 h2 he => by
      have := b5 x h1 h2;rw [E.fro (by omega)] at this;exact absurd he.symm (of_decide_eq_false this)
    have hset := limP_set (held := held) (w := w) b2 hfr;have hlim : limK n held w k = held.getD i default * selI (froQ n i) w (k + 1) / S - held.getD i default * selI (froQ n i) w k / S := by
      unfold limK shareI;rw [hfr, if_neg hS, hSe]
    rw [hlim, <- hskip, hs1, hs0] at hset;rw [hs1, hs0] at hr2 hr3;rw [hs0] at hs1;rw [hSe] at hr3;have hD1 : 0 <= held.getD i default * selI (froQ n i) w t / S := Int.ediv_nonneg (Int.mul_nonneg hh0 hr1.1) (by omega);have hD2 : held.getD i default * selI (froQ n i) w t / S <= held.getD i default * (selI (froQ n i) w t + w.getD k default) / S := Int.ediv_le_ediv hS0 (Int.mul_le_mul_of_nonneg_left (by omega) hh0);have hD3 : held.getD i default * (selI (froQ n i) w t + w.getD k default) / S <= held.getD i default := by
      have := Int.ediv_le_ediv hS0 (Int.mul_le_mul_of_nonneg_left hr3 hh0)
      rwa [Int.mul_ediv_cancel _ (by omega)] at this
    have cp := fun m => rPartI_f (held.getD i default) (selI (froQ n i) w t + w.getD k default) S m ⟨hh0, by omega⟩ ⟨hr2.1, hr3⟩ ⟨hS0, by omega⟩
    haveI : GetAt row j (k : Int) := ⟨b3⟩;haveI : GetAt wr j (w.getD k default) := ⟨b6⟩;have hjw : j < wr.length := by omega
    have hjw3 : (j : Int) < (wr.length : Int) := by omega
    (have:=NeI hj);(have:=NeI hj3);(have:=NeI hjw);(have:=NeI hjw3);have e1 : held.getD i default * selI (froQ n i) w (k + 1) / S = held.getD i default * (selI (froQ n i) w t + w.getD k default) / S := by rw [hs1]
    generalize held.getD i default * (selI (froQ n i) w t + w.getD k default) / S = NX at *
    generalize held.getD i default * selI (froQ n i) w t / S = D at *
    generalize limP n held w i t = X at *
    generalize selI (froQ n i) w t = S1 at *
    have hkX : k < X.length := by omega
    have hkX3 : (k : Int) < (X.length : Int) := by omega
    (have:=NeI hkX);(have:=NeI hkX3);clear hsum hw0 hlim hfq;(repeat' first|(show SWp _ _ _ (.region _ _ true) _ _ _ _;refine xG mixed [16] ?_)|refine stW [0,1,2,3,6,7,8,9,10,11,12,13,14,15,16,24,31,46,69,73] ?_|refine fctI fun hf=>?_|refine twI (fun hc=>?_) fun hc=>?_);(refine lN [0, 16] ?_);exact ⟨_, by omega, j + 1, k + 1, by omega, hk1, by omega, rfl, by rw [e1, hs1] <;> rfl, by rw [<- hset] <;> rfl⟩
  obtain rfl : j = row.length := by omega
  have hj3 : ¬ ((row.length : Int) < (row.length : Int)) := by omega
  (have:=NeI hj3);have hend : limP n held w i t = limP n held w (i + 1) 0 := by
    rw [<- limP_node];refine limP_skip a1 fun x h1 h2 he => ?_
    have := outK_same n i n.links.length a1 (by rw [a2, hrow]) x h1 h2;rw [E.fro h2] at this;exact absurd he.symm (of_decide_eq_false this)
  rw [hend];generalize hX2 : limP n held w (i + 1) 0 = X2 at *
  (repeat' first|refine stW [0,1,2,3,6,7,8,9,10,11,12,13,14,15,16,24,31,46,69,73] ?_|refine fctI fun hf=>?_|refine twI (fun hc=>?_) fun hc=>?_);(refine lN [0, 16] ?_);exact ⟨_, by omega, i + 1, by omega, rfl, rfl, by rw [hX2]⟩

end Go.Proofs.YtefkhfkapnmikaaGreat
