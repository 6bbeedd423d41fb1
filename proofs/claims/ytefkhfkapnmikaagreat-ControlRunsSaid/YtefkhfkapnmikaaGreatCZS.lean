/-
  Contracts of functions of the program, over the engine.
  No condition.
-/
import Derived.Test.YtefkhfkapnmikaaGreatCZQZR
import Derived.Test.YtefkhfkapnmikaaGreatCX0
namespace Go.Proofs.YtefkhfkapnmikaaGreat
open Go.Eng
set_option linter.all false
attribute [local irreducible] DCallsG SWp Fct CallQ XCallQ LCallQ XLCallQ drun xrun
set_option maxHeartbeats 64000000

section
variable {n : Net} {l : List Sect} {s : Sta} {inf : List Int} {sec : Int}
theorem StepIn.heldAB (S : StepIn n l s inf sec) : heldA n s inf = heldB n s inf :=
  list_ext (by rw [heldA_len]; exact (hS_len _).symm) fun q hq => by
    rw [heldA_len] at hq;rw [heldB_at hq];cases ho : isOut n q
    · rw [if_neg (by decide)]
    · rw [if_pos rfl];unfold heldA;rw [inH_at hq, ho, if_neg (by simp), S.out0 hq ho]; rfl
end
def rmH (n : Net) (held X : List Int) (i : Nat) : List Int := (List.range n.nodes.length).map fun q => if q < i then (if isOut n q then 0 else held.getD q default + selI (tilQ n q) X n.links.length - selI (froQ n q) X n.links.length) else held.getD q default
theorem rmH_len (n : Net) (held X : List Int) (i : Nat) : (rmH n held X i).length = n.nodes.length := by simp [rmH]
theorem rmH_at {n : Net} {held X : List Int} {i q : Nat} (hq : q < n.nodes.length) : (rmH n held X i).getD q default = if q < i then (if isOut n q then 0 else held.getD q default + selI (tilQ n q) X n.links.length - selI (froQ n q) X n.links.length) else held.getD q default := rngm_at hq
theorem rmH_0 {n : Net} {held X : List Int} (h : held.length = n.nodes.length) : rmH n held X 0 = held :=
  list_ext (by rw [rmH_len, h]) fun q hq => by
    rw [rmH_len] at hq;rw [rmH_at hq, if_neg (by omega)]
theorem rmH_set {n : Net} {held X : List Int} {i : Nat} {v : Int} (hi : i < n.nodes.length) (hv : v = if isOut n i then 0 else held.getD i default + selI (tilQ n i) X n.links.length - selI (froQ n i) X n.links.length) : (rmH n held X i).set i v = rmH n held X (i + 1) :=
  list_ext (by rw [List.length_set, rmH_len, rmH_len]) fun q hq => by
    rw [List.length_set, rmH_len] at hq;rw [rmH_at hq];by_cases e : q = i
    · rw [if_pos (show q < i + 1 by omega)];subst e;rw [List.getD_eq_getElem?_getD, List.getElem?_set_self (by rw [rmH_len]; exact hq)];exact hv
    · rw [List.getD_eq_getElem?_getD, List.getElem?_set_ne (fun k => e k.symm), <- List.getD_eq_getElem?_getD, rmH_at hq];by_cases h : q < i
      · rw [if_pos h, if_pos (show q < i + 1 by omega)]
      · rw [if_neg h, if_neg (show ¬ q < i + 1 by omega)]
theorem setD_lent (n : Net) (s : Sta) (held : List Int) (hs : lenOk s) (hv : netB n = true) (l1 : held.length = n.nodes.length) (l2 : s.vol.length = n.nodes.length) (l3 : s.pon.length = n.nodes.length) (hb : ∀ i, i < n.nodes.length -> 0 <= held.getD i default /\ held.getD i default <= 1152921504606846976) :
    DCallsG Tryz.prog 173 [] [netD n, staD s, .gl 0] (hget [(0, inLt held)]) 1 (.tup [.agg [.gl 1, .gl 2, .gl 3, .gl 4], lb (fitS n held)]) (hget [(0, inLt held), (1, inLt (vS n held)), (2, inLt (pS n held)), (3, inLt s.set), (4, boL s.on)]) :=
  DCallsG.lendLit2 (x := .elems 1 (held.map inRow)) (h0 := []) (fv_rows inRow _ _ _) rfl (by simp only [litHs, litH_in, litH_bo, Bool.and_self]) rfl rfl rfl (rSettledO_f n s held 1 hs hv l1 l2 l3 hb)
def outN (n : Net) (X : List Int) (i : Nat) : Int := sumN (fun q => if isOut n q then selI (tilQ n q) X n.links.length else 0) i
section
variable {n : Net} {l : List Sect} {s : Sta} {inf : List Int} {sec : Int}
theorem StepIn.rm_end (S : StepIn n l s inf sec) : rmH n (heldB n s inf) (pasL n l s inf sec) n.nodes.length = heldD n l s inf sec :=
  list_ext (by rw [rmH_len]; exact (hS_len _).symm) fun q hq => by
    rw [rmH_len] at hq;rw [rmH_at hq, if_pos hq];unfold heldD;rw [hS_at hq];unfold heldC;rw [mvH_at hq];cases ho : isOut n q
    · rw [if_neg (by decide), if_neg (by intro k; rw [isOut_kind.2 k] at ho; cases ho), if_neg (by decide)]; omega
    · rw [if_pos rfl, if_pos (isOut_kind.1 ho)]
theorem outN_mono {n : Net} {X : List Int} (h : ∀ q, 0 <= selI (tilQ n q) X n.links.length) {a : Nat} : ∀ b, a <= b -> outN n X a <= outN n X b
  | 0, e => by rw [Nat.le_zero.1 e]; exact Int.le_refl _
  | b + 1, e => by
    by_cases e2 : a = b + 1
    · rw [e2]; exact Int.le_refl _
    · have h1 := outN_mono h (a := a) b (by omega);have h2 := h b;have e3 : outN n X (b + 1) = outN n X b + if isOut n b then selI (tilQ n b) X n.links.length else 0 := rfl
      rw [e3]; split <;> omega
theorem StepIn.out_all (S : StepIn n l s inf sec) : outN n (pasL n l s inf sec) n.nodes.length = selI (toOut n) (pasL n l s inf sec) n.links.length := by
  have E := ends_of S.nb;unfold outN;exact sumN_sel (c := isOut n) (P := tilQ n) (f := tillI n) (X := pasL n l s inf sec) (N := n.nodes.length) n.links.length fun k hk => ⟨(E.t k hk).1, fun q _ => E.til hk⟩
theorem StepIn.fro_out (S : StepIn n l s inf sec) (hf : fitS n (heldB n s inf) = true) {q : Nat} (hq : q < n.nodes.length) (ho : isOut n q = true) : (heldB n s inf).getD q default = 0 /\ selI (froQ n q) (pasL n l s inf sec) n.links.length = 0 := by
  have W := S.pass hf;have E := ends_of S.nb;have h0 : (heldB n s inf).getD q default = 0 := by rw [heldB_at hq, if_pos ho]
  have h1 := W.le E hq;have hl : (pasL n l s inf sec).length = n.links.length := limR_len ..;have hx : ∀ i, i < (pasL n l s inf sec).length -> 0 <= (pasL n l s inf sec).getD i default /\ (pasL n l s inf sec).getD i default <= 1125899906842624 := fun i hi => W.x E (by omega)
  have h3 := selI_le (p := froQ n q) hx n.links.length (by omega);have h1 : selI (froQ n q) (pasL n l s inf sec) n.links.length <= (heldB n s inf).getD q default := h1;omega
end
theorem rValid35_f (n : Net) (l : List Sect) (s : Sta) (m : Nat) (no : netOk n) (co : catOk l) (so : staOk s) : Pu 170 [netD n, sectL l, staD s] m (lb (netB n && staB n s && catB l)) := by
  have c1 := fun m => rNetValid_f n m no
  have c2 := fun m => rCat_f l m co
  cases hn : netB n <;> simp only [hn] at c1
  · refine pcN 18 [.tmp 6] [4] Tryz.func170 rfl [] ?_;(repeat' first|refine stW [0,1,2,3,5,6] ?_|refine fctI fun hf=>?_|refine twI (fun hc=>?_) fun hc=>?_);exact DVR
  · have c3 := fun m => rStaValid_f n s m hn so
    generalize catB l = y at *
    generalize staB n s = z at *
    cases y
    · rw [Bool.and_false];refine pcN 18 [.tmp 6] [4] Tryz.func170 rfl [] ?_;(repeat' first|refine stW [0,1,2,3,5,6] ?_|refine fctI fun hf=>?_|refine twI (fun hc=>?_) fun hc=>?_);exact DVR
    · rw [Bool.and_true, Bool.true_and];refine pcN 18 [.tmp 6] [4] Tryz.func170 rfl [] ?_;(repeat' first|refine stW [0,1,2,3,5,6] ?_|refine fctI fun hf=>?_|refine twI (fun hc=>?_) fun hc=>?_);exact DVR
set_option maxRecDepth 20000 in
theorem rStep35_f (n : Net) (l : List Sect) (s : Sta) (inf : List Int) (sec : Int) (m : Nat) (no : netOk n) (co : catOk l) (so : staOk s) (hil : inf.length <= 281474976710656) :
    Pu 135 [netD n, sectL l, staD s, ints inf, li sec] m (.tup [staD (stepR n l s inf sec).1, ledgD (stepR n l s inf sec).2.1, li (stepR n l s inf sec).2.2]) := by
  have hnl := no.1.1;have cv := fun m => rValid35_f n l s m no co so
  cases hv : (netB n && staB n s && catB l) <;> simp only [hv] at cv
  · rw [stepR_bad (e := 1) (by unfold stepE; rw [if_pos hv]) (by decide)];refine pcN 191 [.cell 10 31,.cell 11 38,.tmp 12] [31,38,3] Tryz.func135 rfl [] ?_;(repeat' first|(show SWp _ _ _ (.region _ _ true) _ _ _ _;refine xG mixed [16, 24] ?_)|refine stW [0,1,2,3,4,5,7,10,11,12,13,14,15,16,17,18,19,20,21,22,23,24,25,30,38,51,59,76,107,111,124,136,164,184] ?_|refine fctI fun hf=>?_|refine twI (fun hc=>?_) fun hc=>?_);exact DVR
  by_cases hlen : (inf.length : Int) = (n.nodes.length : Int)
  case neg =>
    rw [stepR_bad (e := 3) (by unfold stepE; rw [if_neg (by rw [hv]; decide), if_pos (by omega)]) (by decide)];(have:=NeI hlen);refine pcN 191 [.cell 10 31,.cell 11 38,.tmp 12] [31,38,3] Tryz.func135 rfl [] ?_;(repeat' first|(show SWp _ _ _ (.region _ _ true) _ _ _ _;refine xG mixed [16, 24] ?_)|refine stW [0,1,2,3,4,5,7,10,11,12,13,14,15,16,17,18,19,20,21,22,23,24,25,30,38,51,59,76,107,111,124,136,164,184] ?_|refine fctI fun hf=>?_|refine twI (fun hc=>?_) fun hc=>?_);exact DVR
  have hlen2 : inf.length = n.nodes.length := by omega
  have cr := fun m => rRanges_f inf 1125899906842624 m hil
  (have:=NeI hlen);have hE1 : stepE n l s inf sec = if rangB inf 1125899906842624 = false ∨ sec < 1 ∨ 86400 < sec then 2
      else if (n.links.any fun x => !knownB l x) = true then 9
      else if fitS n (heldB n s inf) = false then 5 else if fitS n (heldD n l s inf sec) = false then 5 else 0 := by
    unfold stepE; rw [if_neg (by rw [hv]; decide), if_neg (by omega)]
  cases hrb : rangB inf 1125899906842624 <;> simp only [hrb] at cr
  · rw [stepR_bad (e := 2) (by rw [hE1, if_pos (.inl hrb)]) (by decide)];clear hE1;refine pcN 191 [.cell 10 31,.cell 11 38,.tmp 12] [31,38,3] Tryz.func135 rfl [] ?_;(repeat' first|(show SWp _ _ _ (.region _ _ true) _ _ _ _;refine xG mixed [16, 24] ?_)|refine stW [0,1,2,3,4,5,7,10,11,12,13,14,15,16,17,18,19,20,21,22,23,24,25,30,38,51,59,76,107,111,124,136,164,184] ?_|refine fctI fun hf=>?_|refine twI (fun hc=>?_) fun hc=>?_);exact DVR
  by_cases h4 : sec < 1
  · rw [stepR_bad (e := 2) (by rw [hE1, if_pos (.inr (.inl h4))]) (by decide)];(have:=NeI h4);clear hE1;refine pcN 191 [.cell 10 31,.cell 11 38,.tmp 12] [31,38,3] Tryz.func135 rfl [] ?_;(repeat' first|(show SWp _ _ _ (.region _ _ true) _ _ _ _;refine xG mixed [16, 24] ?_)|refine stW [0,1,2,3,4,5,7,10,11,12,13,14,15,16,17,18,19,20,21,22,23,24,25,30,38,51,59,76,107,111,124,136,164,184] ?_|refine fctI fun hf=>?_|refine twI (fun hc=>?_) fun hc=>?_);exact DVR
  by_cases h5 : 86400 < sec
  · rw [stepR_bad (e := 2) (by rw [hE1, if_pos (.inr (.inr h5))]) (by decide)];(have:=NeI h4);(have:=NeI h5);clear hE1;refine pcN 191 [.cell 10 31,.cell 11 38,.tmp 12] [31,38,3] Tryz.func135 rfl [] ?_;(repeat' first|(show SWp _ _ _ (.region _ _ true) _ _ _ _;refine xG mixed [16, 24] ?_)|refine stW [0,1,2,3,4,5,7,10,11,12,13,14,15,16,17,18,19,20,21,22,23,24,25,30,38,51,59,76,107,111,124,136,164,184] ?_|refine fctI fun hf=>?_|refine twI (fun hc=>?_) fun hc=>?_);exact DVR
  rw [if_neg (by rw [hrb]; simp; omega)] at hE1;simp only [Bool.and_eq_true] at hv;obtain ⟨⟨nb, sb⟩, cb⟩ := hv;have hir := fun i hi => rang_at hrb i (by rw [hlen2]; exact hi)
  obtain ⟨hh, hlk, l1, l2⟩ := sta_hold nb sb;obtain ⟨h300, h400⟩ := netB_len nb;have ch := fun m => rHeldO_f s m hh
  have hHl := heldL_len s;have hHb := heldL_le hh;have hIl : ∀ i, i <= n.nodes.length -> 0 <= sumI inf i /\ sumI inf i <= 337769972052787200 := fun i hi => by
    have h1 := sumI_le (l := inf) (b := 1125899906842624) (fun i hi => hir i (by omega)) i (by omega);have h4 : (i : Int) * 1125899906842624 <= 300 * 1125899906842624 := Int.mul_le_mul_of_nonneg_right (by omega) (by decide);omega
  have hOl : ∀ i, i <= n.nodes.length -> 0 <= selI (isOut n) inf i /\ selI (isOut n) inf i <= 337769972052787200 := fun i hi => by
    have h1 := selI_le (p := isOut n) (l := inf) (fun i hi => hir i (by omega)) i (by omega);have h4 : (i : Int) * 1125899906842624 <= 300 * 1125899906842624 := Int.mul_le_mul_of_nonneg_right (by omega) (by decide);omega
  have hH0 : inH n (heldL s) inf 0 = heldL s := inH_0 (by omega);(have:=NeI h4);(have:=NeI h5);refine pcN 191 [.cell 10 31,.cell 11 38,.tmp 12] [31,38,3] Tryz.func135 rfl [] ?_;(repeat' first|(show SWp _ _ _ (.region _ _ true) _ _ _ _;refine xG mixed [16, 24] ?_)|refine stW [0,1,2,3,4,5,7,10,11,12,13,14,15,16,17,18,19,20,21,22,23,24,25,30,38,51,59,76,107,111,124,136,164,184] ?_|refine fctI fun hf=>?_|refine twI (fun hc=>?_) fun hc=>?_);(repeat' first|refine stW [0,1,2,3,4,5,7,10,11,12,13,14,15,16,17,18,19,20,21,22,23,24,25,30,38,51,59,76,107,111,124,136,164,184] ?_|refine fctI fun hf=>?_|refine twI (fun hc=>?_) fun hc=>?_);refine loop_swp [1, 3, 4, 5, 7, 10, 11, 13, 14, 15] [0, 8, 16, 24, 216, 232] 256 (fun q A H => ∃ i : Nat, i <= n.nodes.length /\ q = n.nodes.length - i /\ A = [(1, sectL l), (3, ints inf), (4, li sec), (5, .ptr 0 0), (7, .ptr 8 0), (10, .ptr 16 0), (11, .ptr 24 0), (13, .ptr 216 0), (14, .gl 232), (15, li i)] /\ H = [(0, .blk 25 (netC n)), (8, .blk 31 (staC s)), (16, .blk 31 [nilS, nilS, nilS, nilS]), (24, .blk 38 [li 0, li 0, nilS]), (216, .blk 38 [li (sumI inf i), li (selI (isOut n) inf i), nilS]), (232, inLt (inH n (heldL s) inf i))]) (by omega) ?_ ?_ ?_
  · rintro q A H ⟨i, g1, g2, rfl, rfl⟩;exact SDD
  · refine ⟨_, 0, by omega, rfl, ?_, ?_⟩
    · exact DVR
    · rw [hH0, show sumI inf 0 = 0 by simp [sumI], show selI (isOut n) inf 0 = 0 from rfl];exact DVR
  rintro q A H ⟨i, g1, g2, rfl, rfl⟩;by_cases hi : i < n.nodes.length
  · have hi3 : (i : Int) < (n.nodes.length : Int) := by omega
    have hii : i < inf.length := by omega
    have hii3 : (i : Int) < (inf.length : Int) := by omega
    have hXl := inH_len n (heldL s) inf i;have e1 := sumI_next inf (i := i) (by omega);have r1 := hIl i (by omega);have r2 := hOl i (by omega);have r3 := hir i hi;have r4 := hHb i (by omega);have r5 : (inH n (heldL s) inf i).getD i default = (heldL s).getD i default := by rw [inH_at hi, if_neg (by omega), Int.add_zero]
    rw [<- r5] at r4;have hiX : i < (inH n (heldL s) inf i).length := by omega
    have hiX3 : (i : Int) < ((inH n (heldL s) inf i).length : Int) := by omega
    (have:=NeI hi);(have:=NeI hi3);(have:=NeI hii);(have:=NeI hii3);cases ho : isOut n i
    · have hk : ¬ (n.nodes.getD i default).kind = 3 := fun k => by rw [isOut_kind.2 k] at ho; cases ho
      have e2 := selI_miss (w := inf) ho;have e3 := inH_set (held := heldL s) (inf := inf) hi ho;generalize inH n (heldL s) inf i = X at *
      generalize sumI inf i = a at *
      generalize selI (isOut n) inf i = b at *
      (have:=NeI hk);(have:=NeI hiX);(have:=NeI hiX3);clear hIl hOl hir hHb hE1;(repeat' first|(show SWp _ _ _ (.region _ _ true) _ _ _ _;refine xG mixed [216, 232] ?_)|refine stW [0,1,2,3,4,5,7,10,11,12,13,14,15,16,17,18,19,20,21,22,23,24,25,30,38,51,59,76,107,111,124,136,164,184] ?_|refine fctI fun hf=>?_|refine twI (fun hc=>?_) fun hc=>?_);(refine lN [0, 8, 16, 24, 216, 232] ?_);exact ⟨_, by omega, i + 1, by omega, rfl, rfl, by rw [<- e3, e1, e2] <;> rfl⟩
    · have hk := isOut_kind.1 ho;have e2 := selI_hit (w := inf) ho;have e3 := inH_out (held := heldL s) (inf := inf) ho;generalize inH n (heldL s) inf i = X at *
      generalize sumI inf i = a at *
      generalize selI (isOut n) inf i = b at *
      (have:=NeI hk);(have:=NeI hiX);(have:=NeI hiX3);clear hIl hOl hir hHb hE1;(repeat' first|(show SWp _ _ _ (.region _ _ true) _ _ _ _;refine xG mixed [216, 232] ?_)|refine stW [0,1,2,3,4,5,7,10,11,12,13,14,15,16,17,18,19,20,21,22,23,24,25,30,38,51,59,76,107,111,124,136,164,184] ?_|refine fctI fun hf=>?_|refine twI (fun hc=>?_) fun hc=>?_);(refine lN [0, 8, 16, 24, 216, 232] ?_);exact ⟨_, by omega, i + 1, by omega, rfl, rfl, by rw [e3, e1, e2] <;> rfl⟩
  obtain rfl : i = n.nodes.length := by omega
  have hXl := inH_len n (heldL s) inf n.nodes.length;have hi3 : ¬ ((n.nodes.length : Int) < ((inH n (heldL s) inf n.nodes.length).length : Int)) := by omega
  (have:=NeI hi3);rw [show inH n (heldL s) inf n.nodes.length = heldA n s inf from rfl] at hi3 hXl ⊢;have hi4 : ¬ ((n.nodes.length : Int) < ((heldA n s inf).length : Int)) := hi3;(have:=NeI hi4);have hAb : ∀ q, q < n.nodes.length -> 0 <= (heldA n s inf).getD q default /\ (heldA n s inf).getD q default <= 1152921504606846976 := fun q hq => by
    have a1 := hHb q (by omega);have a2 := hir q hq;unfold heldA;rw [inH_at hq];split <;> omega
  have kS0 := setD_lent n s (heldA n s inf) hlk nb hXl l1 l2 hAb;have cn := fun m => rnamed35_f n l m no co
  have r1 := hIl n.nodes.length (Nat.le_refl _);have r2 := hOl n.nodes.length (Nat.le_refl _);cases hkn : (n.links.any fun x => !knownB l x)
  case true =>
    rw [hkn] at cn;rw [stepR_bad (e := 9) (by rw [hE1, if_pos hkn]) (by decide)];clear hIl hOl hir hHb hE1 hH0 hAb;generalize fitS n (heldA n s inf) = fb at *
    generalize vS n (heldA n s inf) = va at *
    generalize pS n (heldA n s inf) = pa at *
    generalize heldA n s inf = HA at *
    (repeat' first|refine stW [0,1,2,3,4,5,7,10,11,12,13,14,15,16,17,18,19,20,21,22,23,24,25,30,38,51,59,76,107,111,124,136,164,184] ?_|refine fctI fun hf=>?_|refine twI (fun hc=>?_) fun hc=>?_);(refine cQT [232] (fun hcc => kS0) ?_);(repeat' first|(show SWp _ _ _ (.seq (.region 17 _ _) _) _ _ _ _;refine (stop_in ?_))|(show SWp _ _ _ (.region _ _ true) _ _ _ _;refine xG mixed [] ?_)|refine stW [0,1,2,3,4,5,7,10,11,12,13,14,15,16,17,18,19,20,21,22,23,24,25,30,38,51,59,76,107,111,124,136,164,184] ?_|refine fctI fun hf=>?_|refine twI (fun hc=>?_) fun hc=>?_);refine stop_out ?_;(refine sF 312 ?_);(refine sF 313 ?_);(refine sF 314 ?_);(refine sF 315 ?_);(repeat' first|(show SWp _ _ _ (.region _ _ true) _ _ _ _;refine xG mixed [16, 24] ?_)|refine stW [0,1,2,3,4,5,7,10,11,12,13,14,15,16,17,18,19,20,21,22,23,24,25,30,38,51,59,76,107,111,124,136,164,184] ?_|refine fctI fun hf=>?_|refine twI (fun hc=>?_) fun hc=>?_);exact DVR
  rw [hkn] at cn;rw [if_neg (by rw [hkn]; decide)] at hE1;have S : StepIn n l s inf sec := ⟨no, co, nb, sb, cb, hlen2, hir, by omega, fun k hk => by
    rw [List.any_eq_false] at hkn;have := hkn _ (getD_mem hk);simpa using this⟩
  rw [S.heldAB] at kS0 hXl hi4 ⊢;have hi5 := hi4;(have:=NeI hi5);cases hft : fitS n (heldB n s inf)
  · rw [hft] at kS0;rw [stepR_bad (e := 5) (by rw [hE1, if_pos hft]) (by decide)];clear hIl hOl hir hHb hE1 hH0 hAb;generalize vS n (heldB n s inf) = va at *
    generalize pS n (heldB n s inf) = pa at *
    generalize heldB n s inf = HB at *
    (repeat' first|refine stW [0,1,2,3,4,5,7,10,11,12,13,14,15,16,17,18,19,20,21,22,23,24,25,30,38,51,59,76,107,111,124,136,164,184] ?_|refine fctI fun hf=>?_|refine twI (fun hc=>?_) fun hc=>?_);(refine cQT [232] (fun hcc => kS0) ?_);(repeat' first|(show SWp _ _ _ (.seq (.region 17 _ _) _) _ _ _ _;refine (stop_in ?_))|(show SWp _ _ _ (.region _ _ true) _ _ _ _;refine xG mixed [] ?_)|refine stW [0,1,2,3,4,5,7,10,11,12,13,14,15,16,17,18,19,20,21,22,23,24,25,30,38,51,59,76,107,111,124,136,164,184] ?_|refine fctI fun hf=>?_|refine twI (fun hc=>?_) fun hc=>?_);refine stop_out ?_;(refine sF 312 ?_);(refine sF 313 ?_);(refine sF 314 ?_);(refine sF 315 ?_);(repeat' first|(show SWp _ _ _ (.region _ _ true) _ _ _ _;refine xG mixed [16, 24] ?_)|refine stW [0,1,2,3,4,5,7,10,11,12,13,14,15,16,17,18,19,20,21,22,23,24,25,30,38,51,59,76,107,111,124,136,164,184] ?_|refine fctI fun hf=>?_|refine twI (fun hc=>?_) fun hc=>?_);exact DVR
  rw [hft] at kS0;rw [if_neg (by rw [hft]; decide)] at hE1;have E := ends_of nb;have W := S.pass hft;have so1 := staOk_of nb (S.ok1 hft);have hlk1 : lenOk (sta1 n s inf) := (sta_hold nb (S.ok1 hft)).2.1;have kw : ∀ m, Pu 175 [netD n, sectL l, staD (sta1 n s inf), li sec] m (.tup [ints (wsh n l s inf sec), bools (onS n s inf), li 0]) := fun m =>
    rWishes_f n l (sta1 n s inf) sec m no co so1 nb cb (S.ok1 hft) S.kn S.sc (S.ok2 hft) S.lv.2
  have hBl : (heldB n s inf).length = n.nodes.length := hS_len _;have hWl : (wsh n l s inf sec).length = n.links.length := rng_len _ _;have kL : DCallsG Tryz.prog 176 [] [netD n, .gl 0, ints (wsh n l s inf sec)] (hget [(0, inLt (heldB n s inf))]) 1 (.gl 1) (hget [(0, inLt (heldB n s inf)), (1, inLt (pasL n l s inf sec))]) :=
    DCallsG.lendLit (x := .elems 1 ((heldB n s inf).map inRow)) (h0 := []) (fv_rows inRow _ _ _) rfl (by simp only [litHs, litH_in, Bool.and_self]) rfl rfl rfl
      (rLimited35O_f n (heldB n s inf) (wsh n l s inf sec) 1 no nb hBl hWl W (fun q hq => (S.inB q hq).2))
  have hXb : ∀ k, k < n.links.length -> 0 <= (pasL n l s inf sec).getD k default /\ (pasL n l s inf sec).getD k default <= 1125899906842624 := fun k hk => W.x E hk
  have hXl2 : (pasL n l s inf sec).length = n.links.length := limR_len ..;have hrX : rangB (pasL n l s inf sec) 9007199254740992 = true := by
    unfold rangB;rw [List.all_eq_true];intro k hk;have := hXb k (by have := List.mem_range.1 hk; omega);unfold btwB;simp only [Bool.and_eq_true, decide_eq_true_eq]; omega
  have kp : ∀ q, q < n.nodes.length -> ∀ m, Pu 177 [netD n, li q, ints (pasL n l s inf sec)] m (.tup [li (selI (tilQ n q) (pasL n l s inf sec) n.links.length), li (selI (froQ n q) (pasL n l s inf sec) n.links.length)]) := fun q hq m => by
    have := rPassed_f n q (pasL n l s inf sec) m h300 h400 hq hXl2 hrX;rw [toB_eq nb hq, froB_eq nb hq] at this;exact this
  have hsel : ∀ P, 0 <= selI P (pasL n l s inf sec) n.links.length /\ selI P (pasL n l s inf sec) n.links.length <= 450359962737049600 := fun P => by
    have h1 := selI_le (p := P) (l := pasL n l s inf sec) (fun i hi => hXb i (by omega)) n.links.length (by omega);have h4 : (n.links.length : Int) * 1125899906842624 <= 400 * 1125899906842624 := Int.mul_le_mul_of_nonneg_right (by omega) (by decide);omega
  have hDb := S.inD hft;have hDb2 : ∀ q, q < n.nodes.length -> 0 <= (heldD n l s inf sec).getD q default /\ (heldD n l s inf sec).getD q default <= 1152921504606846976 := fun q hq => by
    have a1 := S.inC hft q hq;have a2 := hDb q hq;refine ⟨a2, ?_⟩;unfold heldD;rw [hS_at hq];split <;> omega
  have hvl1 : (sta1 n s inf).vol.length = n.nodes.length := vS_len _;have hpl1 : (sta1 n s inf).pon.length = n.nodes.length := pS_len _;have kS1 := setD_lent n (sta1 n s inf) (heldD n l s inf sec) hlk1 nb (hS_len _) hvl1 hpl1 hDb2;have hBb := S.inB;have hfo := fun q hq ho => S.fro_out hft (q := q) hq ho
  have hrm := S.rm_end;have hoa := S.out_all;have hr0 := rmH_0 (n := n) (held := heldB n s inf) (X := pasL n l s inf sec) hBl;have hon : ∀ i, i <= n.nodes.length -> 0 <= outN n (pasL n l s inf sec) i /\ outN n (pasL n l s inf sec) i <= 450359962737049600 := fun i hi => by
    have h1 := outN_mono (n := n) (X := pasL n l s inf sec) (fun q => (hsel (tilQ n q)).1) (a := 0) i (by omega);have h2 := outN_mono (n := n) (X := pasL n l s inf sec) (fun q => (hsel (tilQ n q)).1) (a := i) n.nodes.length hi;have h3 := (hsel (toOut n)).2;have h0 : outN n (pasL n l s inf sec) 0 = 0 := rfl;rw [hoa] at h2;omega
  have hgood : stepE n l s inf sec = 0 -> stepR n l s inf sec = (⟨vS n (heldD n l s inf sec), pS n (heldD n l s inf sec), s.set, onS n s inf⟩, ⟨sumI inf n.nodes.length, selI (isOut n) inf n.nodes.length + selI (toOut n) (pasL n l s inf sec) n.links.length, pasL n l s inf sec⟩, 0) := fun h => by
    unfold stepR; rw [if_pos h]; rfl
  have hbad : stepE n l s inf sec = 5 -> stepR n l s inf sec = (zeroS, zeroL, 5) := fun h => stepR_bad h (by decide)
  obtain ⟨T, hT⟩ : ∃ T : Sta, (⟨vS n (heldB n s inf), pS n (heldB n s inf), s.set, s.on⟩ : Sta) = T := ⟨_, rfl⟩;have hTs : T.set = s.set := by rw [<- hT]
  rw [show sta1 n s inf = T from hT] at kw kS1;rw [hTs] at kS1;clear W hXb hDb hDb2 hIl hOl hir hHb hH0 hAb hrX so1 hlk1 hvl1 hpl1;(repeat' first|refine stW [0,1,2,3,4,5,7,10,11,12,13,14,15,16,17,18,19,20,21,22,23,24,25,30,38,51,59,76,107,111,124,136,164,184] ?_|refine fctI fun hf=>?_|refine twI (fun hc=>?_) fun hc=>?_);(refine cQT [232] (fun hcc => kS0) ?_);(repeat' first|(show SWp _ _ _ (.seq (.region 17 _ _) _) _ _ _ _;refine (stop_in ?_))|(show SWp _ _ _ (.region _ _ true) _ _ _ _;refine xG mixed [] ?_)|refine stW [0,1,2,3,4,5,7,10,11,12,13,14,15,16,17,18,19,20,21,22,23,24,25,30,38,51,59,76,107,111,124,136,164,184] ?_|refine fctI fun hf=>?_|refine twI (fun hc=>?_) fun hc=>?_);refine stop_out ?_;(refine sF 312 ?_);(refine sF 313 ?_);(refine sF 314 ?_);(refine sF 315 ?_);rw [show [DV.p (.dat 1 (List.map inRow (vS n (heldB n s inf)))), DV.p (.dat 1 (List.map inRow (pS n (heldB n s inf)))), DV.p (.dat 1 (List.map inRow s.set)), DV.p (.dat 1 (List.map boRow s.on))] = staC T by rw [<- hT]; rfl];clear hT kS0;generalize pasL n l s inf sec = X at *
  generalize wsh n l s inf sec = WS at *
  generalize heldD n l s inf sec = HD at *
  generalize onS n s inf = ON at *
  generalize heldB n s inf = HB at *
  generalize sumI inf n.nodes.length = a at *
  generalize selI (isOut n) inf n.nodes.length = b at *
  (repeat' first|refine stW [0,1,2,3,4,5,7,10,11,12,13,14,15,16,17,18,19,20,21,22,23,24,25,30,38,51,59,76,107,111,124,136,164,184] ?_|refine fctI fun hf=>?_|refine twI (fun hc=>?_) fun hc=>?_);(refine cQT [232] (fun hcc => kL) ?_);(repeat' first|(show SWp _ _ _ (.seq (.region 25 _ _) _) _ _ _ _;refine (stop_in ?_))|(show SWp _ _ _ (.region _ _ true) _ _ _ _;refine xG mixed [] ?_)|refine stW [0,1,2,3,4,5,7,10,11,12,13,14,15,16,17,18,19,20,21,22,23,24,25,30,38,51,59,76,107,111,124,136,164,184] ?_|refine fctI fun hf=>?_|refine twI (fun hc=>?_) fun hc=>?_);refine stop_out ?_;(refine sF 552 ?_);(repeat' first|refine stW [0,1,2,3,4,5,7,10,11,12,13,14,15,16,17,18,19,20,21,22,23,24,25,30,38,51,59,76,107,111,124,136,164,184] ?_|refine fctI fun hf=>?_|refine twI (fun hc=>?_) fun hc=>?_);refine loop_swp [5, 10, 11, 13, 14, 16, 19, 21] [0, 16, 24, 216, 232, 344] 584 (fun q A H => ∃ i : Nat, i <= n.nodes.length /\ q = n.nodes.length - i /\ A = [(5, .ptr 0 0), (10, .ptr 16 0), (11, .ptr 24 0), (13, .ptr 216 0), (14, .gl 232), (16, .ptr 344 0), (19, bools ON), (21, li i)] /\ H = [(0, .blk 25 (netC n)), (16, .blk 31 [nilS, nilS, nilS, nilS]), (24, .blk 38 [li 0, li 0, nilS]), (216, .blk 38 [li a, li (b + outN n X i), ints X]), (232, inLt (rmH n HB X i)), (344, .blk 31 (staC T))]) (by omega) ?_ ?_ ?_
  · rintro q A H ⟨i, g1, g2, rfl, rfl⟩;exact SDD
  · refine ⟨_, 0, by omega, rfl, ?_, ?_⟩
    · exact DVR
    · rw [hr0, show b + outN n X 0 = b from Int.add_zero b];exact DVR
  rintro q A H ⟨i, g1, g2, rfl, rfl⟩;have hMl := rmH_len n HB X i;by_cases hi : i < n.nodes.length
  · have hi3 : (i : Int) < (n.nodes.length : Int) := by omega
    have kq := kp i hi;have b1 := hBb i hi;have b2 := hsel (tilQ n i);have b3 := hsel (froQ n i);have b4 := hon i (by omega);have gM : (rmH n HB X i).getD i default = HB.getD i default := by rw [rmH_at hi, if_neg (by omega)]
    have oN : outN n X (i + 1) = outN n X i + if isOut n i then selI (tilQ n i) X n.links.length else 0 := rfl
    have st1' := fun v hv => rmH_set (n := n) (held := HB) (X := X) (i := i) (v := v) hi hv
    have fo := hfo i hi;clear hfo hsel hon kp hBb hgood hbad hrm hoa;generalize selI (tilQ n i) X n.links.length = tq at *
    generalize selI (froQ n i) X n.links.length = fq at *
    generalize outN n X i = oi at *
    rw [<- gM] at b1 st1' fo;generalize rmH n HB X i = M at *
    have hiM : i < M.length := by omega
    have hiM3 : (i : Int) < (M.length : Int) := by omega
    have hiN : i < (M.set i (M.getD i default + tq - fq)).length := by rw [List.length_set]; exact hiM
    have hiN3 : (i : Int) < ((M.set i (M.getD i default + tq - fq)).length : Int) := by omega
    (have:=NeI hi);(have:=NeI hi3);(have:=NeI hiM);(have:=NeI hiM3);(have:=NeI hiN);(have:=NeI hiN3);cases ho : isOut n i
    · have hk : ¬ (n.nodes.getD i default).kind = 3 := fun k => by rw [isOut_kind.2 k] at ho; cases ho
      have e3 := st1' (M.getD i default + tq - fq) (by rw [ho]; rfl);rw [ho, if_neg (by decide), Int.add_zero] at oN;(have:=NeI hk);clear st1' fo;(repeat' first|(show SWp _ _ _ (.region _ _ true) _ _ _ _;refine xG mixed [216, 232] ?_)|refine stW [0,1,2,3,4,5,7,10,11,12,13,14,15,16,17,18,19,20,21,22,23,24,25,30,38,51,59,76,107,111,124,136,164,184] ?_|refine fctI fun hf=>?_|refine twI (fun hc=>?_) fun hc=>?_);(refine lN [0, 16, 24, 216, 232, 344] ?_);exact ⟨_, by omega, i + 1, by omega, rfl, rfl, by rw [<- e3, oN] <;> rfl⟩
    · have hk := isOut_kind.1 ho;obtain ⟨f1, f2⟩ := fo ho;have e3 := st1' 0 (by rw [ho]; rfl);rw [ho, if_pos rfl] at oN;have e4 : (M.set i (M.getD i default + tq - fq)).set i 0 = M.set i 0 := List.set_set ..;have e5 : b + oi + (M.getD i default + tq - fq) = b + (oi + tq) := by omega
      (have:=NeI hk);clear st1' fo;(repeat' first|(show SWp _ _ _ (.region _ _ true) _ _ _ _;refine xG mixed [216, 232] ?_)|refine stW [0,1,2,3,4,5,7,10,11,12,13,14,15,16,17,18,19,20,21,22,23,24,25,30,38,51,59,76,107,111,124,136,164,184] ?_|refine fctI fun hf=>?_|refine twI (fun hc=>?_) fun hc=>?_);(refine lN [0, 16, 24, 216, 232, 344] ?_);exact ⟨_, by omega, i + 1, by omega, rfl, rfl, by rw [<- e3, oN, <- e5] <;> rfl⟩
  obtain rfl : i = n.nodes.length := by omega
  have hi6 : ¬ ((n.nodes.length : Int) < ((rmH n HB X n.nodes.length).length : Int)) := by omega
  (have:=NeI hi6);rw [hrm] at hMl hi6 ⊢;have hi7 := hi6;(have:=NeI hi7);rw [hoa];clear hfo hsel hon kp hBb hrm hoa;cases hfd : fitS n HD
  · rw [hfd] at kS1;rw [hbad (by rw [hE1, if_pos hfd])];clear hgood hbad hE1;generalize selI (toOut n) X n.links.length = OO at *
    generalize vS n HD = va at *
    generalize pS n HD = pa at *
    (repeat' first|refine stW [0,1,2,3,4,5,7,10,11,12,13,14,15,16,17,18,19,20,21,22,23,24,25,30,38,51,59,76,107,111,124,136,164,184] ?_|refine fctI fun hf=>?_|refine twI (fun hc=>?_) fun hc=>?_);(refine cQT [232] (fun hcc => kS1) ?_);(repeat' first|(show SWp _ _ _ (.seq (.region 34 _ _) _) _ _ _ _;refine (stop_in ?_))|(show SWp _ _ _ (.region _ _ true) _ _ _ _;refine xG mixed [] ?_)|refine stW [0,1,2,3,4,5,7,10,11,12,13,14,15,16,17,18,19,20,21,22,23,24,25,30,38,51,59,76,107,111,124,136,164,184] ?_|refine fctI fun hf=>?_|refine twI (fun hc=>?_) fun hc=>?_);refine stop_out ?_;(refine sF 640 ?_);(refine sF 641 ?_);(refine sF 642 ?_);(refine sF 643 ?_);(repeat' first|(show SWp _ _ _ (.region _ _ true) _ _ _ _;refine xG mixed [16, 24] ?_)|refine stW [0,1,2,3,4,5,7,10,11,12,13,14,15,16,17,18,19,20,21,22,23,24,25,30,38,51,59,76,107,111,124,136,164,184] ?_|refine fctI fun hf=>?_|refine twI (fun hc=>?_) fun hc=>?_);exact DVR
  · rw [hfd] at kS1;rw [hgood (by rw [hE1, if_neg (by rw [hfd]; decide)])];clear hgood hbad hE1;generalize selI (toOut n) X n.links.length = OO at *
    generalize vS n HD = va at *
    generalize pS n HD = pa at *
    (repeat' first|refine stW [0,1,2,3,4,5,7,10,11,12,13,14,15,16,17,18,19,20,21,22,23,24,25,30,38,51,59,76,107,111,124,136,164,184] ?_|refine fctI fun hf=>?_|refine twI (fun hc=>?_) fun hc=>?_);(refine cQT [232] (fun hcc => kS1) ?_);(repeat' first|(show SWp _ _ _ (.seq (.region 34 _ _) _) _ _ _ _;refine (stop_in ?_))|(show SWp _ _ _ (.region _ _ true) _ _ _ _;refine xG mixed [] ?_)|refine stW [0,1,2,3,4,5,7,10,11,12,13,14,15,16,17,18,19,20,21,22,23,24,25,30,38,51,59,76,107,111,124,136,164,184] ?_|refine fctI fun hf=>?_|refine twI (fun hc=>?_) fun hc=>?_);refine stop_out ?_;(refine sF 640 ?_);(refine sF 641 ?_);(refine sF 642 ?_);(refine sF 643 ?_);(repeat' first|(show SWp _ _ _ (.region _ _ true) _ _ _ _;refine xG mixed [16, 24] ?_)|refine stW [0,1,2,3,4,5,7,10,11,12,13,14,15,16,17,18,19,20,21,22,23,24,25,30,38,51,59,76,107,111,124,136,164,184] ?_|refine fctI fun hf=>?_|refine twI (fun hc=>?_) fun hc=>?_);exact DVR

end Go.Proofs.YtefkhfkapnmikaaGreat
