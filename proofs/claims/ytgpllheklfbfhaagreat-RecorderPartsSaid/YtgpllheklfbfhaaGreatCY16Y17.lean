/-
  Contracts of functions of the program, over the engine.
  No condition.
-/
import Derived.Test.YtgpllheklfbfhaaGreatCY15
import Derived.Test.YtgpllheklfbfhaaGreatCY6T21L14Y7Y11Y9Y10Y12Y8Y14
import Derived.Test.YtgpllheklfbfhaaGreatCT12T13T14T2IT16T15T18T20Y0Y5Y1
namespace Go.Proofs.YtgpllheklfbfhaaGreat
open Go.Eng
set_option linter.all false
attribute [local irreducible] DCallsG SWp Fct CallQ XCallQ LCallQ XLCallQ drun xrun
set_option maxHeartbeats 64000000

theorem staOk_of {n : Net} {s : Sta} (nb : netB n = true) (sb : staB n s = true) : staOk s := by
  obtain ⟨h1, h2, h3⟩ := staB_in nb sb;obtain ⟨l1, l2, l3, l4⟩ := lensB_of h1;obtain ⟨a1, a2⟩ := netB_len nb;have key : ∀ (x : List Int) (N : Nat), x.length = N -> N <= 400 -> (∀ i, i < N -> 0 <= x.getD i default /\ x.getD i default <= 1125899906842624) -> intsOk x := fun x N hN hb hx => by
    refine ⟨by omega, fun z hz => ?_⟩;obtain ⟨i, hi, rfl⟩ := List.mem_iff_getElem.1 hz;have := hx i (by omega);rw [List.getD_eq_getElem?_getD, List.getElem?_eq_getElem hi] at this;have this : 0 <= x[i] /\ x[i] <= 1125899906842624 := this;unfold i64ok; omega
  refine ⟨key _ _ l1 (by omega) fun i hi => ?_, key _ _ l2 (by omega) fun i hi => ?_, key _ _ l3 (by omega) fun i hi => ?_, by omega⟩
  · have h := h2 i hi;have hc := capN_in nb hi;unfold okSN at h;simp only [Bool.and_eq_true] at h;have := btwB_in h.1.1;omega
  · have h := h2 i hi;unfold okSN volB at h;simp only [Bool.and_eq_true, decide_eq_true_eq] at h;exact h.1.2
  · have h := (okSL_in sb hi).1;omega
theorem litH_in (l : List Int) : litH (inLt l) = true := by
  show (rows inRow l).flatten.all litD = true;rw [List.all_eq_true];intro d hd;obtain ⟨r, hr, hd⟩ := List.mem_flatten.1 hd;obtain ⟨x, _, rfl⟩ := List.mem_map.1 hr;obtain ⟨y, hy, rfl⟩ := List.mem_map.1 hd;simp only [inRow, List.mem_singleton] at hy;subst hy; rfl
theorem litH_bo (l : List Bool) : litH (boL l) = true := by
  show (rows boRow l).flatten.all litD = true;rw [List.all_eq_true];intro d hd;obtain ⟨r, hr, hd⟩ := List.mem_flatten.1 hd;obtain ⟨x, _, rfl⟩ := List.mem_map.1 hr;obtain ⟨y, hy, rfl⟩ := List.mem_map.1 hd;simp only [boRow, List.mem_singleton] at hy;subst hy; rfl
theorem stepE_mid {n : Net} {l : List Sect} {s : Sta} {inf : List Int} {sec : Int} (S : StepIn n l s inf sec) : stepE n l s inf sec = if fitS n (heldB n s inf) = false then 5 else if fitS n (heldD n l s inf sec) = false then 5 else 0 := by
  have hil := S.il;have hrb : rangB inf 1125899906842624 = true := by
    unfold rangB;rw [List.all_eq_true];intro i hi;have := S.ir i (by have := List.mem_range.1 hi; omega);unfold btwB;simp only [Bool.and_eq_true, decide_eq_true_eq];exact this
  have hkn : ¬ (n.links.any fun x => !knownB l x) = true := by
    intro h;obtain ⟨x, hx, hb⟩ := List.any_eq_true.1 h;obtain ⟨k, hk, rfl⟩ := List.mem_iff_getElem.1 hx;have := S.kn k hk;rw [List.getD_eq_getElem?_getD, List.getElem?_eq_getElem hk] at this;have this : knownB l n.links[k] = true := this;rw [this] at hb; cases hb
  have hsc := S.sc;unfold stepE;rw [if_neg (by rw [S.nb, S.sb, S.cb]; decide), if_neg (fun q => q hil), if_neg (by rw [hrb]; simp; omega), if_neg hkn]
set_option maxRecDepth 20000 in
theorem stepGood_f (n : Net) (l : List Sect) (s : Sta) (inf : List Int) (sec : Int) (m : Nat) (S : StepIn n l s inf sec) (so : staOk s) (h14 : n.nodes.length <= 14) :
    Pu 55 [netD n, sectL l, staD s, ints inf, li sec] m (.tup [staD (stepR n l s inf sec).1, ledgD (stepR n l s inf sec).2.1, li (stepR n l s inf sec).2.2]) := by
  have no := S.no;have nb := S.nb;have hnl := no.1.1;have hil := S.il;have E := ends_of nb;obtain ⟨h300, h400⟩ := netB_len nb;have cv := fun m => rvalid_f n l s m S.no S.co so
  rw [show (netB n && staB n s && catB l) = true by rw [S.nb, S.sb, S.cb]; rfl] at cv;have hs3 : (inf.length : Int) = (n.nodes.length : Int) := by omega
  have hrb : rangB inf 1125899906842624 = true := by
    unfold rangB;rw [List.all_eq_true];intro i hi;have := S.ir i (by have := List.mem_range.1 hi; omega);unfold btwB;simp only [Bool.and_eq_true, decide_eq_true_eq];exact this
  have cr := fun m => conInt_f 104 (fun n => !btwB n 0 1125899906842624) inf m (by omega) (fun x _ m => step2_f x m)
  simp only [any_rang, hrb] at cr;have hkn : (n.links.any fun x => !knownB l x) = false := by
    rw [List.any_eq_false];intro x hx;obtain ⟨k, hk, rfl⟩ := List.mem_iff_getElem.1 hx;have := S.kn k hk;rw [List.getD_eq_getElem?_getD, List.getElem?_eq_getElem hk] at this;have this : knownB l n.links[k] = true := this;rw [this]; decide
  have cn := fun m => rnamed_f n l m S.no S.co S.cb
  rw [hkn] at cn;have h4 : ¬ sec < 1 := by have := S.sc; omega
  have h5 : ¬ 86400 < sec := by have := S.sc; omega
  obtain ⟨hh, hlk, l1, l2⟩ := sta_hold S.nb S.sb;have cc := fun m => copied_f s m hlk
  have ch := fun m => holds_f s m hh
  have hHl := heldL_len s;(have:=NeI hs3);(have:=NeI h4);(have:=NeI h5);refine pcN 205 [.cell 10 31,.cell 11 59,.tmp 12] [31,59,45] Tryz.func55 rfl [288, 289] ?_;(repeat' first|(show SWp _ _ _ (.seq (.region 11 _ _) _) _ _ _ _;refine (stop_in ?_))|(show SWp _ _ _ (.region _ _ true) _ _ _ _;refine xG mixed [] ?_)|refine stW [0,1,2,3,4,5,7,10,11,12,13,14,15,16,17,18,19,20,21,23,24,25,26,27,38,50,66,80,81,82,83,98,115,131,151,152,153,154,180,197] ?_|refine fctI fun hf=>?_|refine twI (fun hc=>?_) fun hc=>?_);refine stop_out ?_;(refine sF 290 ?_);(refine sF 291 ?_);(repeat' first|refine stW [0,1,2,3,4,5,7,10,11,12,13,14,15,16,17,18,19,20,21,23,24,25,26,27,38,50,66,80,81,82,83,98,115,131,151,152,153,154,180,197] ?_|refine fctI fun hf=>?_|refine twI (fun hc=>?_) fun hc=>?_);have hIl : ∀ i, i <= n.nodes.length -> 0 <= sumI inf i /\ sumI inf i <= 337769972052787200 := fun i hi => by
    have h1 := sumI_le (l := inf) (b := 1125899906842624) (fun i hi => S.ir i (by omega)) i (by omega);have h4 : (i : Int) * 1125899906842624 <= 300 * 1125899906842624 := Int.mul_le_mul_of_nonneg_right (by omega) (by decide);omega
  have hOl : ∀ i, i <= n.nodes.length -> 0 <= selI (isOut n) inf i /\ selI (isOut n) inf i <= 337769972052787200 := fun i hi => by
    have h1 := selI_le (p := isOut n) (l := inf) (fun i hi => S.ir i (by omega)) i (by omega);have h4 : (i : Int) * 1125899906842624 <= 300 * 1125899906842624 := Int.mul_le_mul_of_nonneg_right (by omega) (by decide);omega
  have hH0 : inH n (heldL s) inf 0 = heldL s := inH_0 (by omega);refine loop_swp [1, 4, 5, 10, 11, 13, 14, 15, 16, 80, 81, 82] [0, 16, 24, 288, 289, 296, 320, 336] 337 (fun q A H => ∃ i : Nat, i <= n.nodes.length /\ q = n.nodes.length - i /\ A = [(1, sectL l), (4, li sec), (5, .ptr 0 0), (10, .ptr 16 0), (11, .ptr 24 0), (13, .clo 102 []), (14, .ptr 296 0), (15, .gl 320), (16, .ptr 336 0), (80, ints inf), (81, li n.nodes.length), (82, li i)] /\ H = [(0, .blk 25 (netC n)), (16, .blk 31 [nilS, nilS, nilS, nilS]), (24, .blk 59 [li 0, li 0, nilS]), (288, inLt s.vol), (289, inLt s.pon), (296, .blk 31 [.gl 288, .gl 289, .p (.dat 1 (s.set.map inRow)), .p (.dat 1 (s.on.map boRow))]), (320, inLt (inH n (heldL s) inf i)), (336, .blk 59 [li (sumI inf i), li (selI (isOut n) inf i), nilS])]) (by omega) ?_ ?_ ?_
  · rintro q A H ⟨i, g1, g2, rfl, rfl⟩;exact SDD
  · refine ⟨_, 0, by omega, rfl, ?_, ?_⟩
    · rw [<- hs3]; exact DVR
    · rw [hH0, show sumI inf 0 = 0 by simp [sumI], show selI (isOut n) inf 0 = 0 from rfl];exact DVR
  rintro q A H ⟨i, g1, g2, rfl, rfl⟩;by_cases hi : i < n.nodes.length
  · have hi3 : (i : Int) < (n.nodes.length : Int) := by omega
    have hii : i < inf.length := by omega
    have hii3 : (i : Int) < (inf.length : Int) := by omega
    have hXl := inH_len n (heldL s) inf i;have e1 := sumI_next inf (i := i) (by omega);have r1 := hIl i (by omega);have r2 := hOl i (by omega);have r3 := S.ir i hi;have r4 := S.hold i hi;have r5 : (inH n (heldL s) inf i).getD i default = (heldL s).getD i default := by rw [inH_at hi, if_neg (by omega), Int.add_zero]
    rw [<- r5] at r4;(have:=NeI hi);(have:=NeI hi3);(have:=NeI hii);(have:=NeI hii3);cases ho : isOut n i
    · have hk : ¬ (n.nodes.getD i default).kind = 3 := fun k => by rw [isOut_kind.2 k] at ho; cases ho
      have e2 := selI_miss (w := inf) ho;have e3 := inH_set (held := heldL s) (inf := inf) hi ho;have hiX : i < (inH n (heldL s) inf i).length := by omega
      have hiX3 : (i : Int) < ((inH n (heldL s) inf i).length : Int) := by omega
      generalize inH n (heldL s) inf i = X at *
      generalize sumI inf i = a at *
      generalize selI (isOut n) inf i = b at *
      (have:=NeI hk);(have:=NeI hiX);(have:=NeI hiX3);clear hIl hOl;(repeat' first|refine stW [0,1,2,3,4,5,7,10,11,12,13,14,15,16,17,18,19,20,21,23,24,25,26,27,38,50,66,80,81,82,83,98,115,131,151,152,153,154,180,197] ?_|refine fctI fun hf=>?_|refine twI (fun hc=>?_) fun hc=>?_);(refine lN [0, 16, 24, 288, 289, 296, 320, 336] ?_);exact ⟨_, by omega, i + 1, by omega, rfl, rfl, by rw [<- e3, e1, e2] <;> rfl⟩
    · have hk := isOut_kind.1 ho;have e2 := selI_hit (w := inf) ho;have e3 := inH_out (held := heldL s) (inf := inf) ho;generalize inH n (heldL s) inf i = X at *
      generalize sumI inf i = a at *
      generalize selI (isOut n) inf i = b at *
      (have:=NeI hk);clear hIl hOl;(repeat' first|refine stW [0,1,2,3,4,5,7,10,11,12,13,14,15,16,17,18,19,20,21,23,24,25,26,27,38,50,66,80,81,82,83,98,115,131,151,152,153,154,180,197] ?_|refine fctI fun hf=>?_|refine twI (fun hc=>?_) fun hc=>?_);(refine lN [0, 16, 24, 288, 289, 296, 320, 336] ?_);exact ⟨_, by omega, i + 1, by omega, rfl, rfl, by rw [e3, e1, e2] <;> rfl⟩
  obtain rfl : i = n.nodes.length := by omega
  have hi3 : ¬ ((n.nodes.length : Int) < (n.nodes.length : Int)) := by omega
  (have:=NeI hi3);rw [show inH n (heldL s) inf n.nodes.length = heldA n s inf from rfl];have hAl : (heldA n s inf).length = n.nodes.length := heldA_len;have hAb := S.inA;have cs1 := settle_f n (heldA n s inf) s.vol s.pon (.dat 1 (s.set.map inRow)) (.dat 1 (s.on.map boRow)) 4 no nb hAl l1 l2 (fun q hq => by have := hAb q hq; omega);rw [show hS n (heldA n s inf) = heldB n s inf from rfl] at cs1;have r1 := hIl n.nodes.length (Nat.le_refl _);have r2 := hOl n.nodes.length (Nat.le_refl _);have hEE := stepE_mid S;clear hIl hOl hH0 hAb;cases hft : fitS n (heldB n s inf)
  · rw [hft] at cs1;rw [hft, if_pos rfl] at hEE;rw [stepR_bad (e := 5) hEE (by decide)];generalize heldB n s inf = HB at *
    generalize heldA n s inf = HA at *
    (repeat' first|refine stW [0,1,2,3,4,5,7,10,11,12,13,14,15,16,17,18,19,20,21,23,24,25,26,27,38,50,66,80,81,82,83,98,115,131,151,152,153,154,180,197] ?_|refine fctI fun hf=>?_|refine twI (fun hc=>?_) fun hc=>?_);(refine cQT [296, 320, 288, 289] (fun hcc => cs1) ?_);(repeat' first|refine stW [0,1,2,3,4,5,7,10,11,12,13,14,15,16,17,18,19,20,21,23,24,25,26,27,38,50,66,80,81,82,83,98,115,131,151,152,153,154,180,197] ?_|(show CallQ ..;first|refine cQ (fun hcc=>(by first | exact stepFail_f _ _)) ?_|(refine lP ?_;refine lQ (fun hcc m=>(by first | exact stepFail_f _ _)) ?_))|refine fctI fun hf=>?_|refine twI (fun hc=>?_) fun hc=>?_);exact DVR
  rw [hft] at cs1;rw [hft, if_neg (by decide)] at hEE;have W := S.pass hft;have so1 := staOk_of nb (S.ok1 hft);have cW0 : DCallsG Tryz.prog 110 [] [netD n, sectL l, .agg [.p (.dat 1 ((vS n (heldB n s inf)).map inRow)), .p (.dat 1 ((pS n (heldB n s inf)).map inRow)), .p (.dat 1 (s.set.map inRow)), .p (.dat 1 (s.on.map boRow))], li sec] (hget []) 2 (.tup [.gl 2, .gl 3, li 0]) (hget [(2, inLt (wsh n l s inf sec)), (3, boL (onS n s inf))]) :=
    wishes_f n l (sta1 n s inf) sec 2 no S.co so1 nb S.cb (S.ok1 hft) S.kn S.sc (S.ok2 hft) S.lv.2
  have cW1 : DCallsG Tryz.prog 110 [] [netD n, sectL l, .agg [.p (.dat 1 ((vS n (heldB n s inf)).map inRow)), .gl 1, .p (.dat 1 (s.set.map inRow)), .p (.dat 1 (s.on.map boRow))], li sec] (hget [(1, inLt (pS n (heldB n s inf)))]) 2 (.tup [.gl 2, .gl 3, li 0]) (hget [(1, inLt (pS n (heldB n s inf))), (2, inLt (wsh n l s inf sec)), (3, boL (onS n s inf))]) :=
    DCallsG.lendLit (x := .elems 1 ((pS n (heldB n s inf)).map inRow)) (h0 := []) (fv_rows inRow _ _ _) rfl (by simp only [litHs, litH_in, litH_bo, Bool.and_self]) rfl rfl rfl cW0
  have cW2 : DCallsG Tryz.prog 110 [] [netD n, sectL l, .agg [.gl 0, .gl 1, .p (.dat 1 (s.set.map inRow)), .p (.dat 1 (s.on.map boRow))], li sec] (hget [(0, inLt (vS n (heldB n s inf))), (1, inLt (pS n (heldB n s inf)))]) 2 (.tup [.gl 2, .gl 3, li 0]) (hget [(0, inLt (vS n (heldB n s inf))), (1, inLt (pS n (heldB n s inf))), (2, inLt (wsh n l s inf sec)), (3, boL (onS n s inf))]) :=
    DCallsG.lendLit (x := .elems 1 ((vS n (heldB n s inf)).map inRow)) (h0 := [(1, inLt (pS n (heldB n s inf)))]) (fv_rows inRow _ _ _) (by simp only [litHs, litH_in, Bool.and_self]) (by simp only [litHs, litH_in, litH_bo, Bool.and_self]) rfl rfl rfl cW1
  have hBl : (heldB n s inf).length = n.nodes.length := hS_len _;have hWl : (wsh n l s inf sec).length = n.links.length := rng_len _ _;have cM0 := rlimited_f n (heldB n s inf) (wsh n l s inf sec) 1 no nb h14 hBl hWl W (fun q hq => by have := (S.inB q hq).2; omega);have cM1 : DCallsG Tryz.prog 111 [] [netD n, .gl 0, ints (wsh n l s inf sec)] (hget [(0, inLt (heldB n s inf))]) 1 (.gl 1) (hget [(0, inLt (heldB n s inf)), (1, inLt (pasL n l s inf sec))]) :=
    DCallsG.lendLit (x := .elems 1 ((heldB n s inf).map inRow)) (h0 := []) (fv_rows inRow _ _ _) rfl (by simp only [litHs, litH_in, Bool.and_self]) rfl rfl rfl cM0
  have co := fun m => outs_f n m no nb h14
  generalize outsL n = OL at *
  (repeat' first|refine stW [0,1,2,3,4,5,7,10,11,12,13,14,15,16,17,18,19,20,21,23,24,25,26,27,38,50,66,80,81,82,83,98,115,131,151,152,153,154,180,197] ?_|refine fctI fun hf=>?_|refine twI (fun hc=>?_) fun hc=>?_);(refine cQT [296, 320, 288, 289] (fun hcc => cs1) ?_);(repeat' first|refine stW [0,1,2,3,4,5,7,10,11,12,13,14,15,16,17,18,19,20,21,23,24,25,26,27,38,50,66,80,81,82,83,98,115,131,151,152,153,154,180,197] ?_|refine fctI fun hf=>?_|refine twI (fun hc=>?_) fun hc=>?_);(refine cQT [288, 289] (fun hcc => cW2) ?_);(repeat' first|(show SWp _ _ _ (.seq (.region 26 _ _) _) _ _ _ _;refine (stop_in ?_))|(show SWp _ _ _ (.region _ _ true) _ _ _ _;refine xG mixed [] ?_)|refine stW [0,1,2,3,4,5,7,10,11,12,13,14,15,16,17,18,19,20,21,23,24,25,26,27,38,50,66,80,81,82,83,98,115,131,151,152,153,154,180,197] ?_|refine fctI fun hf=>?_|refine twI (fun hc=>?_) fun hc=>?_);refine stop_out ?_;(refine sF 409 ?_);(refine sF 410 ?_);(repeat' first|refine stW [0,1,2,3,4,5,7,10,11,12,13,14,15,16,17,18,19,20,21,23,24,25,26,27,38,50,66,80,81,82,83,98,115,131,151,152,153,154,180,197] ?_|refine fctI fun hf=>?_|refine twI (fun hc=>?_) fun hc=>?_);(refine cQT [320] (fun hcc => cM1) ?_);(repeat' first|(show SWp _ _ _ (.seq (.region 28 _ _) _) _ _ _ _;refine (stop_in ?_))|(show SWp _ _ _ (.region _ _ true) _ _ _ _;refine xG mixed [] ?_)|refine stW [0,1,2,3,4,5,7,10,11,12,13,14,15,16,17,18,19,20,21,23,24,25,26,27,38,50,66,80,81,82,83,98,115,131,151,152,153,154,180,197] ?_|refine fctI fun hf=>?_|refine twI (fun hc=>?_) fun hc=>?_);refine stop_out ?_;(refine sF 537 ?_);(repeat' first|refine stW [0,1,2,3,4,5,7,10,11,12,13,14,15,16,17,18,19,20,21,23,24,25,26,27,38,50,66,80,81,82,83,98,115,131,151,152,153,154,180,197] ?_|refine fctI fun hf=>?_|refine twI (fun hc=>?_) fun hc=>?_);have hXl : (pasL n l s inf sec).length = n.links.length := limR_len ..;have hXb : ∀ k, k < n.links.length -> 0 <= (pasL n l s inf sec).getD k default /\ (pasL n l s inf sec).getD k default <= 1125899906842624 := fun k hk => W.x E hk
  have hHb := S.inB;have hCb := S.inC hft;have hVl : (vS n (heldB n s inf)).length = n.nodes.length := vS_len _;have hPl : (pS n (heldB n s inf)).length = n.nodes.length := pS_len _;have hel : (edgeL n).length = n.links.length := by simp [edgeL]
  have cs2 := settle_f n (heldC n l s inf sec) (vS n (heldB n s inf)) (pS n (heldB n s inf)) (.dat 1 (s.set.map inRow)) (.dat 1 ((onS n s inf).map boRow)) 4 no nb (mvH_len ..) hVl hPl hCb;rw [show hS n (heldC n l s inf sec) = heldD n l s inf sec from rfl, show heldC n l s inf sec = mvH n (heldB n s inf) (pasL n l s inf sec) n.links.length from rfl] at cs2;have hDl : ∀ P k, k <= n.links.length -> 0 <= selI P (pasL n l s inf sec) k /\ selI P (pasL n l s inf sec) k <= 450359962737049600 := fun P k hk => by
    have h1 := selI_le (p := P) (l := pasL n l s inf sec) (fun i hi => hXb i (by omega)) k (by omega);have h4 : (k : Int) * 1125899906842624 <= 400 * 1125899906842624 := Int.mul_le_mul_of_nonneg_right (by omega) (by decide);omega
  have hmv : ∀ k, k <= n.links.length -> ∀ q, q < n.nodes.length -> -450359962737049600 <= (mvH n (heldB n s inf) (pasL n l s inf sec) k).getD q default /\ (mvH n (heldB n s inf) (pasL n l s inf sec) k).getD q default <= 460000000000000000 := fun k hk q hq => by
    have a1 := hHb q hq;have a2 := hDl (froQ n q) k hk;have a3 := hDl (tilQ n q) k hk;rw [mvH_at hq];split <;> omega
  have hgood : stepE n l s inf sec = 0 -> stepR n l s inf sec = (⟨vS n (heldD n l s inf sec), pS n (heldD n l s inf sec), s.set, onS n s inf⟩, ⟨sumI inf n.nodes.length, selI (isOut n) inf n.nodes.length + selI (toOut n) (pasL n l s inf sec) n.links.length, pasL n l s inf sec⟩, 0) := fun h => by
    unfold stepR; rw [if_pos h]; rfl
  have hm0 := mvH_0 (n := n) (held := heldB n s inf) (X := pasL n l s inf sec) hBl;clear hCb hHb W;generalize pasL n l s inf sec = X at *
  generalize heldD n l s inf sec = HD at *
  generalize onS n s inf = ON at *
  generalize vS n (heldB n s inf) = V at *
  generalize pS n (heldB n s inf) = PN at *
  generalize heldB n s inf = HB at *
  generalize sumI inf n.nodes.length = a at *
  generalize selI (isOut n) inf n.nodes.length = b at *
  have hX3 : (X.length : Int) = (n.links.length : Int) := by omega
  refine loop_swp [5, 10, 11, 13, 14, 15, 16, 23, 151, 152, 153] [0, 16, 24, 288, 289, 296, 320, 336] 337 (fun q A H => ∃ k : Nat, k <= n.links.length /\ q = n.links.length - k /\ A = [(5, .ptr 0 0), (10, .ptr 16 0), (11, .ptr 24 0), (13, .clo 102 []), (14, .ptr 296 0), (15, .gl 320), (16, .ptr 336 0), (23, pairs (edgeL n)), (151, ints X), (152, li n.links.length), (153, li k)] /\ H = [(0, .blk 25 (netC n)), (16, .blk 31 [nilS, nilS, nilS, nilS]), (24, .blk 59 [li 0, li 0, nilS]), (288, inLt V), (289, inLt PN), (296, .blk 31 [.gl 288, .gl 289, .p (.dat 1 (s.set.map inRow)), .p (.dat 1 (ON.map boRow))]), (320, inLt (mvH n HB X k)), (336, .blk 59 [li a, li (b + selI (toOut n) X k), .p (.dat 1 (X.map inRow))])]) (by omega) ?_ ?_ ?_
  · rintro q A H ⟨k, g1, g2, rfl, rfl⟩;exact SDD
  · refine ⟨_, 0, by omega, rfl, ?_, ?_⟩
    · rw [<- hX3]; exact DVR
    · rw [hm0, show b + selI (toOut n) X 0 = b from Int.add_zero b];exact DVR
  rintro q A H ⟨k, g1, g2, rfl, rfl⟩;by_cases hk : k < n.links.length
  · have hk3 : (k : Int) < (n.links.length : Int) := by omega
    have hkX : k < X.length := by omega
    have hkX3 : (k : Int) < (X.length : Int) := by omega
    have hkE : k < (edgeL n).length := by omega
    have hkE3 : (k : Int) < ((edgeL n).length : Int) := by omega
    have hf1 := (E.f k hk).1;have ht1 := (E.t k hk).1;haveI : PairAt (edgeL n) k ((fromI n k : Nat) : Int) ((tillI n k : Nat) : Int) := ⟨by rw [edgeL_at hk, (E.f k hk).2, (E.t k hk).2]⟩;have hMl := mvH_len n HB X k;have b1 := hmv k g1 _ hf1;have b2 := hmv k g1 _ ht1;have b3 := hXb k hk;have b4 := hDl (toOut n) k g1;have hstep := fun A B hA hB => @mvH_step n E HB X k hk A B hA hB
    have hsel := selI_at (P := toOut n) (w := X) k;have htn3 : ((tillI n k : Nat) : Int) < (n.nodes.length : Int) := by omega
    generalize mvH n HB X k = M at *
    generalize selI (toOut n) X k = o1 at *
    have hfM : fromI n k < M.length := by omega
    have hfM3 : ((fromI n k : Nat) : Int) < (M.length : Int) := by omega
    obtain ⟨A, hA⟩ : ∃ A, M.set (fromI n k) (M.getD (fromI n k) default - X.getD k default) = A := ⟨_, rfl⟩;have hAl2 : A.length = n.nodes.length := by rw [<- hA, List.length_set]; exact hMl
    have hgA : A.getD (tillI n k) default = if tillI n k = fromI n k then M.getD (fromI n k) default - X.getD k default else M.getD (tillI n k) default := by
      rw [<- hA];by_cases e : tillI n k = fromI n k
      · rw [if_pos e, e, List.getD_eq_getElem?_getD, List.getElem?_set_self hfM]; rfl
      · rw [if_neg e, List.getD_eq_getElem?_getD, List.getElem?_set_ne (fun q => e q.symm), <- List.getD_eq_getElem?_getD]
    have htA : tillI n k < A.length := by omega
    have htA3 : ((tillI n k : Nat) : Int) < (A.length : Int) := by omega
    (have:=NeI hk);(have:=NeI hk3);(have:=NeI hkX);(have:=NeI hkX3);(have:=NeI hkE);(have:=NeI hkE3);(have:=NeI hfM);(have:=NeI hfM3);(have:=NeI ht1);(have:=NeI htn3);(have:=NeI htA);(have:=NeI htA3);clear hmv hDl hXb hm0 hgood hEE cs2;(repeat' first|(show SWp _ _ _ (.seq (.region 33 _ _) _) _ _ _ _;refine (stop_in ?_))|(show SWp _ _ _ (.region _ _ true) _ _ _ _;refine xG mixed [] ?_)|refine stW [0,1,2,3,4,5,7,10,11,12,13,14,15,16,17,18,19,20,21,23,24,25,26,27,38,50,66,80,81,82,83,98,115,131,151,152,153,154,180,197] ?_|refine fctI fun hf=>?_|refine twI (fun hc=>?_) fun hc=>?_);refine stop_out ?_;rw [hA];have hAr : -460000000000000000 <= A.getD (tillI n k) default /\ A.getD (tillI n k) default <= 470000000000000000 := by
      rw [hgA]; split <;> omega
    cases ho : toOut n k
    · have hkind : ¬ (n.nodes.getD (tillI n k) default).kind = 3 := fun q => by
        have : toOut n k = true := isOut_kind.2 q;rw [ho] at this; cases this
      have e3 := hstep A (A.set (tillI n k) (A.getD (tillI n k) default + X.getD k default)) hA.symm (by rw [ho]; rfl);rw [ho, if_neg (by decide), Int.add_zero] at hsel;(have:=NeI hkind);clear hstep;(repeat' first|refine stW [0,1,2,3,4,5,7,10,11,12,13,14,15,16,17,18,19,20,21,23,24,25,26,27,38,50,66,80,81,82,83,98,115,131,151,152,153,154,180,197] ?_|refine fctI fun hf=>?_|refine twI (fun hc=>?_) fun hc=>?_);(refine lN [0, 16, 24, 288, 289, 296, 320, 336] ?_);exact ⟨_, by omega, k + 1, by omega, rfl, rfl, by rw [<- e3, hsel] <;> rfl⟩
    · have hkind : (n.nodes.getD (tillI n k) default).kind = 3 := isOut_kind.1 ho;have e3 := hstep A A hA.symm (by rw [ho]; rfl);rw [ho, if_pos rfl] at hsel;(have:=NeI hkind);clear hstep;(repeat' first|refine stW [0,1,2,3,4,5,7,10,11,12,13,14,15,16,17,18,19,20,21,23,24,25,26,27,38,50,66,80,81,82,83,98,115,131,151,152,153,154,180,197] ?_|refine fctI fun hf=>?_|refine twI (fun hc=>?_) fun hc=>?_);(refine lN [0, 16, 24, 288, 289, 296, 320, 336] ?_);exact ⟨_, by omega, k + 1, by omega, rfl, rfl, by rw [<- e3, hsel, <- Int.add_assoc] <;> rfl⟩
  obtain rfl : k = n.links.length := by omega
  have hk3 : ¬ ((n.links.length : Int) < (n.links.length : Int)) := by omega
  (have:=NeI hk3);clear hmv hm0;cases hg : fitS n HD
  · rw [hg] at cs2;rw [hg, if_pos rfl] at hEE;rw [stepR_bad (e := 5) hEE (by decide)];generalize mvH n HB X n.links.length = HC at *
    (repeat' first|refine stW [0,1,2,3,4,5,7,10,11,12,13,14,15,16,17,18,19,20,21,23,24,25,26,27,38,50,66,80,81,82,83,98,115,131,151,152,153,154,180,197] ?_|refine fctI fun hf=>?_|refine twI (fun hc=>?_) fun hc=>?_);(refine cQT [296, 320, 288, 289] (fun hcc => cs2) ?_);(repeat' first|refine stW [0,1,2,3,4,5,7,10,11,12,13,14,15,16,17,18,19,20,21,23,24,25,26,27,38,50,66,80,81,82,83,98,115,131,151,152,153,154,180,197] ?_|(show CallQ ..;first|refine cQ (fun hcc=>(by first | exact stepFail_f _ _)) ?_|(refine lP ?_;refine lQ (fun hcc m=>(by first | exact stepFail_f _ _)) ?_))|refine fctI fun hf=>?_|refine twI (fun hc=>?_) fun hc=>?_);exact DVR
  · rw [hg] at cs2;rw [hg, if_neg (by decide)] at hEE;rw [hgood hEE];generalize mvH n HB X n.links.length = HC at *
    generalize selI (toOut n) X n.links.length = o2 at *
    (repeat' first|refine stW [0,1,2,3,4,5,7,10,11,12,13,14,15,16,17,18,19,20,21,23,24,25,26,27,38,50,66,80,81,82,83,98,115,131,151,152,153,154,180,197] ?_|refine fctI fun hf=>?_|refine twI (fun hc=>?_) fun hc=>?_);(refine cQT [296, 320, 288, 289] (fun hcc => cs2) ?_);(repeat' first|(show SWp _ _ _ (.region _ _ true) _ _ _ _;refine xG mixed [16, 24] ?_)|refine stW [0,1,2,3,4,5,7,10,11,12,13,14,15,16,17,18,19,20,21,23,24,25,26,27,38,50,66,80,81,82,83,98,115,131,151,152,153,154,180,197] ?_|refine fctI fun hf=>?_|refine twI (fun hc=>?_) fun hc=>?_);exact DVR
theorem stepE_0 {n : Net} {l : List Sect} {s : Sta} {inf : List Int} {sec : Int} (no : netOk n) (co : catOk l) (h : stepE n l s inf sec = 0) : StepIn n l s inf sec /\ fitS n (heldB n s inf) = true /\ fitS n (heldD n l s inf sec) = true := by
  unfold stepE at h;split at h
  · cases h
  next h1 =>
  split at h
  · cases h
  next h2 =>
  split at h
  · cases h
  next h3 =>
  split at h
  · cases h
  next h4 =>
  split at h
  · cases h
  next h5 =>
  split at h
  · cases h
  next h6 =>
  have h1 : (netB n && staB n s && catB l) = true := by simpa only [Bool.not_eq_true, Bool.not_eq_false] using h1
  simp only [Bool.and_eq_true] at h1;have h2 : inf.length = n.nodes.length := by simpa using h2
  have h7 : rangB inf 1125899906842624 = true := by
    cases hr : rangB inf 1125899906842624
    · exact absurd (.inl hr) h3
    · rfl
  have h8 : 1 <= sec /\ sec <= 86400 := by
    have a1 : ¬ sec < 1 := fun q => h3 (.inr (.inl q))
    have a2 : ¬ 86400 < sec := fun q => h3 (.inr (.inr q))
    omega
  refine ⟨⟨no, co, h1.1.1, h1.1.2, h1.2, h2, fun i hi => rang_at h7 i (by omega), h8, fun k hk => ?_⟩, by simpa using h5, by simpa using h6⟩;have h4 : (n.links.any fun x => !knownB l x) = false := by simpa using h4
  rw [List.any_eq_false] at h4;have := h4 _ (getD_mem hk);simpa using this
theorem stepR_good {n : Net} {l : List Sect} {s : Sta} {inf : List Int} {sec : Int} (h : stepE n l s inf sec = 0) : stepR n l s inf sec = (stepS n l s inf sec, stepL n l s inf sec, 0) := by
  unfold stepR; rw [if_pos h]
theorem Step_f (n : Net) (l : List Sect) (s : Sta) (inf : List Int) (sec : Int) (m : Nat) (no : netOk n) (co : catOk l) (so : staOk s) (hil : inf.length <= 281474976710656) (h14 : n.nodes.length <= 14) :
    Pu 55 [netD n, sectL l, staD s, ints inf, li sec] m (.tup [staD (stepR n l s inf sec).1, ledgD (stepR n l s inf sec).2.1, li (stepR n l s inf sec).2.2]) := by
  by_cases h : (netB n && staB n s && catB l) = true /\ inf.length = n.nodes.length /\ (rangB inf 1125899906842624 = true /\ 1 <= sec /\ sec <= 86400) /\ (n.links.any fun x => !knownB l x) = false
  · obtain ⟨h1, h2, ⟨h3, h4⟩, h5⟩ := h;simp only [Bool.and_eq_true] at h1;refine stepGood_f n l s inf sec m ⟨no, co, h1.1.1, h1.1.2, h1.2, h2, fun i hi => rang_at h3 i (by omega), h4, fun k hk => ?_⟩ so h14;rw [List.any_eq_false] at h5;have := h5 _ (getD_mem hk);simpa using this
  · exact stepBad_f n l s inf sec m no co so hil h

end Go.Proofs.YtgpllheklfbfhaaGreat
