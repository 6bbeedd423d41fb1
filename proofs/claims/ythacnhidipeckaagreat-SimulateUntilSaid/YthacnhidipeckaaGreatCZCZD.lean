/-
  Contracts of functions of the program, over the engine.
  No condition.
-/
import Derived.Test.YthacnhidipeckaaGreatCY21Y23N2Z3Z4Z5Z6ZAZB
import Derived.Test.YthacnhidipeckaaGreatCT8T9T9bT9cT9eT10T11
namespace Go.Proofs.YthacnhidipeckaaGreat
open Go.Eng
set_option linter.all false
attribute [local irreducible] DCallsG SWp Fct CallQ XCallQ LCallQ XLCallQ drun xrun
set_option maxHeartbeats 4000000 in
theorem svalid_f (n : Net) (l : List Sect) (s : Sta) (m : Nat) (no : netOk n) (co : catOk l) (so : staOk s) : DCalls Tryz.prog 78 [netD n, sectL l, staD s] (hget []) m (lb (netB n && staB n s && catB l)) (hget []) := by
  have c1 := fun m => staValid_f n s m no so
  have c2 := fun m => cat_f l m co
  generalize (netB n && staB n s) = x at *
  generalize catB l = y at *
  refine pureC (n := 14) (rs := [.tmp 6]) (ts := [4]) Tryz.func78 rfl (by decide) [] (by (exact SD)) ?_;(repeat' (first|refine swp_seq [0,1,2,3,5,6] ?_|refine st2 ?_|(show CallQ ..;first|refine cQ (fun hcc=>(by first | exact c1 _ | exact c2 _)) ?_|(refine lP ?_;refine lQ (fun hcc m=>(by first | exact c1 _ | exact c2 _)) ?_))|refine fctI fun hf=>?_|(show CondG ..;first|refine cBG (fun hc=>?_) (fun hc=>?_)|refine cUG ?_ ?_)));exact DVR
set_option maxHeartbeats 4000000 in
theorem scopied_f (s : Sta) (m : Nat) (hs : lenOk s) : DCalls Tryz.prog 80 [staD s] (hget []) m (staD s) (hget []) := by
  obtain ⟨h1, h2, h3, h4⟩ := hs;refine pureC (n := 16) (rs := [.cell 2 30]) (ts := [30]) Tryz.func80 rfl (by decide) [32, 56, 80, 104] (by (exact SD)) ?_;(repeat' (first|refine swp_seq [0,1,2] ?_|(show SWp _ _ _ (.region _ _ true) _ _ _ _;refine xG mixed [8] ?_)|refine st2 ?_|(show XCallQ ..;first|refine xQ (fun hcc=>(by first | exact cloneI_f _ _ SC | exact cloneB_f _ _ SC)) ?_|(refine xlP ?_;refine xlQ (fun hcc m=>(by first | exact cloneI_f _ _ SC | exact cloneB_f _ _ SC)) ?_))|refine fctI fun hf=>?_|(show CondG ..;first|refine cBG (fun hc=>?_) (fun hc=>?_)|refine cUG ?_ ?_)));exact DVR
set_option maxHeartbeats 4000000 in
theorem ssame_f (a b : Sta) (m : Nat) (ha : staOk a) (hb : staOk b) : DCalls Tryz.prog 81 [staD a, staD b] (hget []) m (lb (decide (a = b))) (hget []) := by
  obtain ⟨⟨a1, _⟩, ⟨a2, _⟩, ⟨a3, _⟩, a4⟩ := ha;obtain ⟨⟨b1, _⟩, ⟨b2, _⟩, ⟨b3, _⟩, b4⟩ := hb;rw [show decide (a = b) = (decide (a.vol = b.vol) && decide (a.pon = b.pon) && decide (a.set = b.set) && decide (a.on = b.on)) by
    rw [Bool.eq_iff_iff];simp only [Bool.and_eq_true, decide_eq_true_eq];exact ⟨fun h => by subst h; exact ⟨⟨⟨rfl, rfl⟩, rfl⟩, rfl⟩, fun h => sta_ext ⟨h.1.1.1, h.1.1.2, h.1.2, h.2⟩⟩]
  have c1 := fun m => eqlInt_f a.vol b.vol m a1 b1
  have c2 := fun m => eqlInt_f a.pon b.pon m a2 b2
  have c3 := fun m => eqlInt_f a.set b.set m a3 b3
  have c4 := fun m => eqlBool_f a.on b.on m a4 b4
  generalize decide (a.vol = b.vol) = d1 at *
  generalize decide (a.pon = b.pon) = d2 at *
  generalize decide (a.set = b.set) = d3 at *
  generalize decide (a.on = b.on) = d4 at *
  refine pureC (n := 31) (rs := [.tmp 4]) (ts := [4]) Tryz.func81 rfl (by decide) [] (by (exact SD)) ?_;(repeat' (first|refine swp_seq [0,1,2,3,4] ?_|refine st2 ?_|(show CallQ ..;first|refine cQ (fun hcc=>(by first | exact c1 _ | exact c2 _ | exact c3 _ | exact c4 _)) ?_|(refine lP ?_;refine lQ (fun hcc m=>(by first | exact c1 _ | exact c2 _ | exact c3 _ | exact c4 _)) ?_))|refine fctI fun hf=>?_|(show CondG ..;first|refine cBG (fun hc=>?_) (fun hc=>?_)|refine cUG ?_ ?_)));exact DVR
theorem until1_f (k : Int) (m : Nat) : DCalls Tryz.prog 82 [li k] (hget []) m (lb (!decide (k = 0))) (hget []) := by
  refine pureC (n := 5) (rs := [.tmp 2]) (ts := [4]) Tryz.func82 rfl (by decide) [] (by (exact SD)) ?_;(repeat' (first|refine swp_seq [0,2] ?_|refine st2 ?_|refine fctI fun hf=>?_|(show CondG ..;first|refine cBG (fun hc=>?_) (fun hc=>?_)|refine cUG ?_ ?_)));exact DVR
theorem any_no {α : Type} [Inhabited α] {p : α -> Bool} {l : List α} (h : ∀ j, j < l.length -> p (l.getD j default) = false) : l.any p = false := by
  rw [List.any_eq_false];intro v hv;obtain ⟨j, hj, rfl⟩ := List.mem_iff_getElem.1 hv;have := h j hj;rw [List.getD_eq_getElem?_getD, List.getElem?_eq_getElem hj] at this;rw [show p l[j] = false from this]; decide
theorem any_yes {α : Type} [Inhabited α] {p : α -> Bool} {l : List α} {j : Nat} (hj : j < l.length) (h : p (l.getD j default) = true) : l.any p = true := List.any_eq_true.2 ⟨_, getD_mem hj, h⟩
theorem staC_nrm (x : Sta) : normL [some 1, some 1, some 1, some 1] (staC x) = staC x := rfl
theorem staC_cells (x : Sta) : CellsB (staC x) = True := by
  refine propext ⟨fun _ => trivial, fun _ d hd => ?_⟩;simp only [staC, List.mem_cons, List.not_mem_nil, or_false] at hd;rcases hd with rfl | rfl | rfl | rfl <;> rfl
theorem ledgC_cells (x : Ledg) : CellsB (ledgC x) = True := by
  refine propext ⟨fun _ => trivial, fun _ d hd => ?_⟩;simp only [ledgC, List.mem_cons, List.not_mem_nil, or_false] at hd;rcases hd with rfl | rfl | rfl <;> rfl
theorem rows_staC (l : List Sta) (x : Sta) : rows staP l ++ [staC x] = rows staP (l ++ [x]) := rows_app staP l [x]
theorem rows_ledgC (l : List Ledg) (x : Ledg) : rows ledgP l ++ [ledgC x] = rows ledgP (l ++ [x]) := rows_app ledgP l [x]
theorem staC_app4 (x y : Sta) : staC x ++ List.drop 4 (staC y) = staC x := rfl
theorem staC_rn (o n : Nat) (x : Sta) : DV.renL o n (staC x) = staC x := rfl
theorem ledgC_rn (o n : Nat) (x : Ledg) : DV.renL o n (ledgC x) = ledgC x := rfl
attribute [push_cast] staC_nrm staC_cells ledgC_cells rows_staC rows_ledgC staC_app4 staC_rn ledgC_rn
theorem stepR_ok {n : Net} {l : List Sect} {s : Sta} {inf : List Int} {sec : Int} (no : netOk n) (co : catOk l) (h : stepE n l s inf sec = 0) : staB n (stepR n l s inf sec).1 = true /\ netB n = true := by
  obtain ⟨S, hf, hg⟩ := stepE_0 no co h;rw [stepR_good h];exact ⟨S.fin hf hg, S.nb⟩
theorem lenOk_of {n : Net} {s : Sta} (nb : netB n = true) (sb : staB n s = true) : lenOk s := (sta_hold nb sb).2.1
theorem namesL_len (n : Net) : (namesL n).length = n.nodes.length := List.length_map ..
theorem namesL_at (n : Net) {i : Nat} (h : i < n.nodes.length) : (namesL n).getD i default = (n.nodes.getD i default).name := by
  unfold namesL;rw [List.getD_eq_getElem?_getD, List.getElem?_map, List.getElem?_eq_getElem h, List.getD_eq_getElem?_getD, List.getElem?_eq_getElem h]; rfl
theorem namesL_take (n : Net) {i : Nat} (h : i < n.nodes.length) : (namesL n).take (i + 1) = (namesL n).take i ++ [(n.nodes.getD i default).name] := by
  have h2 : i < (namesL n).length := by rw [namesL_len]; exact h
  rw [List.take_succ_eq_append_getElem h2, <- namesL_at n h, List.getD_eq_getElem?_getD, List.getElem?_eq_getElem h2]; rfl
abbrev staLt (l : List Sta) : HV := .lst 30 4 (rows staP l)
abbrev ledgLt (l : List Ledg) : HV := .lst 36 3 (rows ledgP l)
theorem stepR_pas {n : Net} {l : List Sect} {s : Sta} {inf : List Int} {sec : Int} : (stepR n l s inf sec).2.1.passed.length = n.links.length ∨ (stepR n l s inf sec).2.1.passed.length = 0 := by
  unfold stepR;split
  · exact .inl (limR_len ..)
  · exact .inr rfl
set_option maxRecDepth 20000 in
set_option maxHeartbeats 32000000 in
theorem Run_f (n : Net) (l : List Sect) (s : Sta) (infl : List Infl) (sec steps : Int) (m : Nat) (no : netOk n) (co : catOk l) (so : staOk s) (hi : infl.length <= 281474976710656 /\ ∀ x, x ∈ infl -> inflOk x) (h14 : n.nodes.length <= 14) :
    DCalls Tryz.prog 32 [netD n, sectL l, staD s, inflL infl, li sec, li steps] (hget []) m (.tup [staL (runR n l s infl sec steps).1, ledgL (runR n l s infl sec steps).2.1, li (runR n l s infl sec steps).2.2]) (hget []) := by
  have cv := fun m => svalid_f n l s m no co so
  cases hv : (netB n && staB n s && catB l)
  · rw [hv] at cv;rw [show runR n l s infl sec steps = ([], [], 1) from if_pos hv];refine pureC (n := 104) (rs := [.tmp 12, .tmp 13, .tmp 14]) (ts := [72, 73, 37]) Tryz.func32 rfl (by decide) [] (by (exact SD)) ?_;(repeat' (first|refine swp_seq [0,1,2,3,4,5,6,8,12,13,14,15,17,18,19,20,21,22,23,24,25,26,31,33,34,35,36,49,61,64,65,66,76,89] ?_|refine st2 ?_|(show CallQ ..;first|refine cQ (fun hcc=>(by first | exact cv _)) ?_|(refine lP ?_;refine lQ (fun hcc m=>(by first | exact cv _)) ?_))|(show XCallQ ..;first|refine xQ (fun hcc=>(by first | exact cv _)) ?_|(refine xlP ?_;refine xlQ (fun hcc m=>(by first | exact cv _)) ?_))|refine fctI fun hf=>?_|(show CondG ..;first|refine cBG (fun hc=>?_) (fun hc=>?_)|refine cUG ?_ ?_)));exact DVR
  have hrun : runR n l s infl sec steps = if ¬ givenN infl (namesL n) = 0 then ([], [], givenN infl (namesL n)) else if steps < 0 ∨ 10000 < steps ∨ sec < 1 ∨ 86400 < sec then ([], [], 2) else ((runI n l infl (namesL n) sec s steps.toNat).ss, (runI n l infl (namesL n) sec s steps.toNat).gs, (runI n l infl (namesL n) sec s steps.toNat).e) := if_neg (by rw [hv]; decide)
  rw [hrun];rw [hv] at cv;simp only [Bool.and_eq_true] at hv;obtain ⟨⟨nb, sb⟩, cb⟩ := hv;clear hrun;have hnl := namesL_len n;have cg := fun m => given_f infl (namesL n) m hi (by omega)
  have cn := fun m => scount_f steps m
  have hok := lenOk_of nb sb;have ccp := fun m => scopied_f s m hok
  refine pureC (n := 104) (rs := [.tmp 12, .tmp 13, .tmp 14]) (ts := [72, 73, 37]) Tryz.func32 rfl (by decide) [336, 344] (by (exact SD)) ?_;(repeat' (first|refine swp_seq [0,1,2,3,4,5,6,8,12,13,14,15,17,18,19,20,21,22,23,24,25,26,31,33,34,35,36,49,61,64,65,66,76,89] ?_|refine st2 ?_|(show CallQ ..;first|refine cQ (fun hcc=>(by first | exact cv _)) ?_|(refine lP ?_;refine lQ (fun hcc m=>(by first | exact cv _)) ?_))|(show XCallQ ..;first|refine xQ (fun hcc=>(by first | exact cv _)) ?_|(refine xlP ?_;refine xlQ (fun hcc m=>(by first | exact cv _)) ?_))|refine fctI fun hf=>?_|(show CondG ..;first|refine cBG (fun hc=>?_) (fun hc=>?_)|refine cUG ?_ ?_)));(refine sN 15 9 1 ?_);refine loop_swp [1, 3, 4, 5, 6, 8, 15, 33, 34, 35] [0, 8, 120] 128 (fun q A H => ∃ i : Nat, i <= n.nodes.length /\ q = n.nodes.length - i /\ A = [(1, sectL l), (3, inflL infl), (4, li sec), (5, li steps), (6, .ptr 0 0), (8, .ptr 8 0), (15, .gl 120), (33, nodeL n.nodes), (34, li n.nodes.length), (35, li i)] /\ H = [(0, .blk 25 (netC n)), (8, .blk 30 (staC s)), (120, strL ((namesL n).take i))]) (by omega) ?_ ?_ ?_
  · rintro q A H ⟨i, g1, g2, rfl, rfl⟩;exact SDD
  · refine ⟨_, 0, by omega, rfl, ?_, ?_⟩
    · exact DVR
    · exact DVR
  rintro q A H ⟨i, g1, g2, rfl, rfl⟩;by_cases hin : i < n.nodes.length
  · have hi3 : (i : Int) < (n.nodes.length : Int) := by omega
    have hnx := namesL_take n hin;have hlt : ((namesL n).take i).length = i := by rw [List.length_take]; omega
    generalize (namesL n).take i = X at *
    (have:=NeI hin);(have:=NeI hi3);(repeat' (first|refine swp_seq [0,1,2,3,4,5,6,8,12,13,14,15,17,18,19,20,21,22,23,24,25,26,31,33,34,35,36,49,61,64,65,66,76,89] ?_|refine st2 ?_|refine fctI fun hf=>?_|(show CondG ..;first|refine cBG (fun hc=>?_) (fun hc=>?_)|refine cUG ?_ ?_)));rw [<- hnx];(refine lN [0, 8, 120] ?_);exact ⟨_, by omega, i + 1, by omega, rfl, rfl, rfl⟩
  obtain rfl : i = n.nodes.length := by omega
  have hi3 : ¬ ((n.nodes.length : Int) < (n.nodes.length : Int)) := by omega
  (have:=NeI hi3);rw [show (namesL n).take n.nodes.length = namesL n by rw [<- hnl, List.take_length]];generalize hNL : namesL n = NL at *
  (repeat' (first|(show SWp _ _ _ (.seq (.region 9 _ _) _) _ _ _ _;refine (stop_in ?_))|refine swp_seq [0,1,2,3,4,5,6,8,12,13,14,15,17,18,19,20,21,22,23,24,25,26,31,33,34,35,36,49,61,64,65,66,76,89] ?_|(show SWp _ _ _ (.region _ _ true) _ _ _ _;refine xG mixed [] ?_)|refine st2 ?_|(show CallQ ..;first|refine cQ (fun hcc=>(by fail)) ?_|(refine lP ?_;refine lQ (fun hcc m=>(by fail)) ?_))|(show XCallQ ..;first|refine xQ (fun hcc=>(by fail)) ?_|(refine xlP ?_;refine xlQ (fun hcc m=>(by fail)) ?_))|refine fctI fun hf=>?_|(show CondG ..;first|refine cBG (fun hc=>?_) (fun hc=>?_)|refine cUG ?_ ?_)));refine stop_out ?_;(refine sF 120 ?_);by_cases h0 : givenN infl NL = 0
  case neg =>
    rw [if_pos h0];generalize givenN infl NL = e at *
    (have:=NeI h0);(repeat' (first|refine swp_seq [0,1,2,3,4,5,6,8,12,13,14,15,17,18,19,20,21,22,23,24,25,26,31,33,34,35,36,49,61,64,65,66,76,89] ?_|refine st2 ?_|(show CallQ ..;first|refine cQ (fun hcc=>(by first | exact cg _)) ?_|(refine lP ?_;refine lQ (fun hcc m=>(by first | exact cg _)) ?_))|(show XCallQ ..;first|refine xQ (fun hcc=>(by first | exact cg _)) ?_|(refine xlP ?_;refine xlQ (fun hcc m=>(by first | exact cg _)) ?_))|refine fctI fun hf=>?_|(show CondG ..;first|refine cBG (fun hc=>?_) (fun hc=>?_)|refine cUG ?_ ?_)));exact DVR
  rw [if_neg (fun c => c h0)];rw [h0] at cg;obtain ⟨a1, a2, a3, a4, a5⟩ := givenN_0 h0;by_cases hb : steps < 0 ∨ 10000 < steps
  · rw [if_pos (by omega)];rw [show btwB steps 0 10000 = false by
      unfold btwB;rw [Bool.and_eq_false_iff, decide_eq_false_iff_not, decide_eq_false_iff_not]; omega] at cn
    (repeat' (first|refine swp_seq [0,1,2,3,4,5,6,8,12,13,14,15,17,18,19,20,21,22,23,24,25,26,31,33,34,35,36,49,61,64,65,66,76,89] ?_|refine st2 ?_|(show CallQ ..;first|refine cQ (fun hcc=>(by first | exact cg _ | exact cn _)) ?_|(refine lP ?_;refine lQ (fun hcc m=>(by first | exact cg _ | exact cn _)) ?_))|(show XCallQ ..;first|refine xQ (fun hcc=>(by first | exact cg _ | exact cn _)) ?_|(refine xlP ?_;refine xlQ (fun hcc m=>(by first | exact cg _ | exact cn _)) ?_))|refine fctI fun hf=>?_|(show CondG ..;first|refine cBG (fun hc=>?_) (fun hc=>?_)|refine cUG ?_ ?_)));exact DVR
  rw [show btwB steps 0 10000 = true by
      unfold btwB;simp only [Bool.and_eq_true, decide_eq_true_eq]; omega] at cn
  by_cases hs1 : sec < 1
  · rw [if_pos (by omega)];(have:=NeI hs1);(repeat' (first|refine swp_seq [0,1,2,3,4,5,6,8,12,13,14,15,17,18,19,20,21,22,23,24,25,26,31,33,34,35,36,49,61,64,65,66,76,89] ?_|refine st2 ?_|(show CallQ ..;first|refine cQ (fun hcc=>(by first | exact cg _ | exact cn _)) ?_|(refine lP ?_;refine lQ (fun hcc m=>(by first | exact cg _ | exact cn _)) ?_))|(show XCallQ ..;first|refine xQ (fun hcc=>(by first | exact cg _ | exact cn _)) ?_|(refine xlP ?_;refine xlQ (fun hcc m=>(by first | exact cg _ | exact cn _)) ?_))|refine fctI fun hf=>?_|(show CondG ..;first|refine cBG (fun hc=>?_) (fun hc=>?_)|refine cUG ?_ ?_)));exact DVR
  by_cases hs2 : 86400 < sec
  · rw [if_pos (by omega)];(have:=NeI hs1);(have:=NeI hs2);(repeat' (first|refine swp_seq [0,1,2,3,4,5,6,8,12,13,14,15,17,18,19,20,21,22,23,24,25,26,31,33,34,35,36,49,61,64,65,66,76,89] ?_|refine st2 ?_|(show CallQ ..;first|refine cQ (fun hcc=>(by first | exact cg _ | exact cn _)) ?_|(refine lP ?_;refine lQ (fun hcc m=>(by first | exact cg _ | exact cn _)) ?_))|(show XCallQ ..;first|refine xQ (fun hcc=>(by first | exact cg _ | exact cn _)) ?_|(refine xlP ?_;refine xlQ (fun hcc m=>(by first | exact cg _ | exact cn _)) ?_))|refine fctI fun hf=>?_|(show CondG ..;first|refine cBG (fun hc=>?_) (fun hc=>?_)|refine cUG ?_ ?_)));exact DVR
  rw [if_neg (by omega)];obtain ⟨K, rfl⟩ : ∃ K : Nat, steps = (K : Int) := ⟨steps.toNat, by omega⟩;rw [Int.toNat_natCast];(have:=NeI hs1);(have:=NeI hs2);(repeat' (first|refine swp_seq [0,1,2,3,4,5,6,8,12,13,14,15,17,18,19,20,21,22,23,24,25,26,31,33,34,35,36,49,61,64,65,66,76,89] ?_|refine st2 ?_|(show CallQ ..;first|refine cQ (fun hcc=>(by first | exact cg _ | exact cn _ | exact ccp _)) ?_|(refine lP ?_;refine lQ (fun hcc m=>(by first | exact cg _ | exact cn _ | exact ccp _)) ?_))|(show XCallQ ..;first|refine xQ (fun hcc=>(by first | exact cg _ | exact cn _ | exact ccp _)) ?_|(refine xlP ?_;refine xlQ (fun hcc m=>(by first | exact cg _ | exact cn _ | exact ccp _)) ?_))|refine fctI fun hf=>?_|(show CondG ..;first|refine cBG (fun hc=>?_) (fun hc=>?_)|refine cUG ?_ ?_)));(refine sN 19 30 4 ?_);(refine sN 20 36 3 ?_);refine loop_swp [1, 3, 4, 6, 15, 19, 20, 21, 64, 65] [0, 304, 336, 344] 352 (fun q A H => ∃ k : Nat, k <= K /\ q = K - k /\ (runI n l infl NL sec s k).e = 0 /\ A = [(1, sectL l), (3, inflL infl), (4, li sec), (6, .ptr 0 0), (15, strs NL), (19, .gl 336), (20, .gl 344), (21, .ptr 304 0), (64, li K), (65, li k)] /\ H = [(0, .blk 25 (netC n)), (304, .blk 30 (staC (runI n l infl NL sec s k).now)), (336, staLt (runI n l infl NL sec s k).ss), (344, ledgLt (runI n l infl NL sec s k).gs)]) (by omega) ?_ ?_ ?_
  · rintro q A H ⟨k, g1, g2, g3, rfl, rfl⟩;exact SDD
  · refine ⟨_, 0, by omega, rfl, rfl, ?_, ?_⟩
    · exact DVR
    · exact DVR
  rintro q A H ⟨k, g1, g2, g3, rfl, rfl⟩;by_cases hk : k < K
  · have hk3 : (k : Int) < (K : Int) := by omega
    have cat := fun m => infAt_f infl NL k m (by omega) a2 a3 a4 a5 (by omega)
    have sbn := runI_sta (names := NL) (infl := infl) (sec := sec) no co sb k;obtain ⟨ln1, ln2⟩ := runI_len g3;have hgo := runI_good (n := n) (l := l) (infl := infl) (names := NL) (sec := sec) (s := s) (k := k) g3;have hbd := runI_bad (n := n) (l := l) (infl := infl) (names := NL) (sec := sec) (s := s) (k := k) g3;have hstay := fun h j => runI_stay (n := n) (l := l) (infl := infl) (names := NL) (sec := sec) (s := s) (k := k + 1) h j
    have hnil := fun h => runI_nil (n := n) (l := l) (infl := infl) (names := NL) (sec := sec) (s := s) (k := K) h
    have hend : ∀ e : Int, ¬ e = 0 -> (runI n l infl NL sec s (k + 1)).e = e -> (runI n l infl NL sec s K).ss = [] /\ (runI n l infl NL sec s K).gs = [] /\ (runI n l infl NL sec s K).e = e := fun e he h => by
      have h2 := hstay (by rw [h]; exact he) (K - (k + 1));rw [show k + 1 + (K - (k + 1)) = K by omega, h] at h2;obtain ⟨b1, b2⟩ := hnil (by rw [h2]; exact he);exact ⟨b1, b2, h2⟩
    have e0 : stpI n l infl NL sec k (runI n l infl NL sec s k).now = if atB infl NL k = true then stepR n l (runI n l infl NL sec s k).now (atL infl NL k) sec else (zeroS, zeroL, 5) := rfl
    have ha0 : atR infl NL k = if atB infl NL k = true then (atL infl NL k, 0) else ([], 5) := rfl
    have hal := atL_len infl NL k;(have:=NeI hk3);clear hstay hnil;generalize hRN : runI n l infl NL sec s (k + 1) = RN at *
    generalize runI n l infl NL sec s K = RK at *
    generalize runI n l infl NL sec s k = R at *
    cases hB : atB infl NL k
    · rw [hB, if_neg (by decide)] at e0 ha0;rw [ha0] at cat
      rw [e0] at hbd;have hb2 := hbd (by decide);obtain ⟨b1, b2, b3⟩ := hend 5 (by decide) (by rw [hb2]);rw [b1, b2, b3];clear hgo hend hbd;(repeat' (first|refine swp_seq [0,1,2,3,4,5,6,8,12,13,14,15,17,18,19,20,21,22,23,24,25,26,31,33,34,35,36,49,61,64,65,66,76,89] ?_|refine st2 ?_|(show CallQ ..;first|refine cQ (fun hcc=>(by first | exact cat _)) ?_|(refine lP ?_;refine lQ (fun hcc m=>(by first | exact cat _)) ?_))|(show XCallQ ..;first|refine xQ (fun hcc=>(by first | exact cat _)) ?_|(refine xlP ?_;refine xlQ (fun hcc m=>(by first | exact cat _)) ?_))|refine fctI fun hf=>?_|(show CondG ..;first|refine cBG (fun hc=>?_) (fun hc=>?_)|refine cUG ?_ ?_)));exact DVR
    rw [hB, if_pos rfl] at e0 ha0;rw [ha0] at cat
    have son := staOk_of nb sbn;have cst := fun m => Step_f n l R.now (atL infl NL k) sec m no co son (by omega) h14
    rw [e0] at hgo hbd;have hpl := @stepR_pas n l R.now (atL infl NL k) sec;have hst0 : (stepR n l R.now (atL infl NL k) sec).2.2 = 0 -> staB n (stepR n l R.now (atL infl NL k) sec).1 = true := fun h => by
      have he : stepE n l R.now (atL infl NL k) sec = 0 := by
        unfold stepR at h;split at h
        · assumption
        next he => exact absurd h he
      exact (stepR_ok no co he).1
    generalize stepR n l R.now (atL infl NL k) sec = SR at *
    generalize atL infl NL k = AL at *
    by_cases hs : SR.2.2 = 0
    · have hg := hgo hs;have sbs := hst0 hs;have cc2 := fun m => scopied_f SR.1 m (lenOk_of nb sbs)
      have hl400 := (netB_len nb).2;rw [hs] at cst;clear hgo hbd hend hst0;obtain ⟨now, ss, gs, ee⟩ := R;obtain ⟨s1, s2, s3⟩ := SR;(repeat' (first|refine swp_seq [0,1,2,3,4,5,6,8,12,13,14,15,17,18,19,20,21,22,23,24,25,26,31,33,34,35,36,49,61,64,65,66,76,89] ?_|(show SWp _ _ _ (.region _ _ true) _ _ _ _;refine xG mixed [336, 344] ?_)|refine st2 ?_|(show CallQ ..;first|refine cQ (fun hcc=>(by first | exact cat _ | exact cst _ | exact cc2 _)) ?_|(refine lP ?_;refine lQ (fun hcc m=>(by first | exact cat _ | exact cst _ | exact cc2 _)) ?_))|(show XCallQ ..;first|refine xQ (fun hcc=>(by first | exact cat _ | exact cst _ | exact cc2 _)) ?_|(refine xlP ?_;refine xlQ (fun hcc m=>(by first | exact cat _ | exact cst _ | exact cc2 _)) ?_))|refine fctI fun hf=>?_|(show CondG ..;first|refine cBG (fun hc=>?_) (fun hc=>?_)|refine cUG ?_ ?_)));(refine lR2 648 336 680 344 [0, 304, 648, 680] ?_);exact ⟨_, by omega, k + 1, by omega, rfl, by rw [hRN, hg], rfl, by rw [hRN, hg]⟩
    · have hb2 := hbd hs;obtain ⟨b1, b2, b3⟩ := hend SR.2.2 hs (by rw [hb2]);rw [b1, b2, b3];clear hgo hbd hend hst0 hb2;obtain ⟨s1, s2, s3⟩ := SR;(have:=NeI hs);(repeat' (first|refine swp_seq [0,1,2,3,4,5,6,8,12,13,14,15,17,18,19,20,21,22,23,24,25,26,31,33,34,35,36,49,61,64,65,66,76,89] ?_|refine st2 ?_|(show CallQ ..;first|refine cQ (fun hcc=>(by first | exact cat _ | exact cst _)) ?_|(refine lP ?_;refine lQ (fun hcc m=>(by first | exact cat _ | exact cst _)) ?_))|(show XCallQ ..;first|refine xQ (fun hcc=>(by first | exact cat _ | exact cst _)) ?_|(refine xlP ?_;refine xlQ (fun hcc m=>(by first | exact cat _ | exact cst _)) ?_))|refine fctI fun hf=>?_|(show CondG ..;first|refine cBG (fun hc=>?_) (fun hc=>?_)|refine cUG ?_ ?_)));exact DVR
  obtain rfl : k = K := by omega
  have hk3 : ¬ ((k : Int) < (k : Int)) := by omega
  (have:=NeI hk3);rw [g3];generalize runI n l infl NL sec s k = R at *
  (repeat' (first|refine swp_seq [0,1,2,3,4,5,6,8,12,13,14,15,17,18,19,20,21,22,23,24,25,26,31,33,34,35,36,49,61,64,65,66,76,89] ?_|refine st2 ?_|refine fctI fun hf=>?_|(show CondG ..;first|refine cBG (fun hc=>?_) (fun hc=>?_)|refine cUG ?_ ?_)));exact DVR

end Go.Proofs.YthacnhidipeckaaGreat
