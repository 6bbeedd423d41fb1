/-
  Contracts of functions of the program, over the engine.
  No condition.
-/
import Derived.Test.YthacnhidipeckaaGreatCL12L16L20RL25L27
import Derived.Test.YthacnhidipeckaaGreatCL9L10L11
import Derived.Test.YthacnhidipeckaaGreatCT5T6T6bT7T7bT7c
import Derived.Test.YthacnhidipeckaaGreatCT8T9T9bT9cT9eT10T11
import Derived.Test.YthacnhidipeckaaGreatCW4W5W6R1R2R3R4
import Derived.Test.YthacnhidipeckaaGreatCT16T15T18T20Y0Y5Y1
import Derived.Test.YthacnhidipeckaaGreatCKSK1K2K3K5K4W0W1W2W3
import Derived.Test.YthacnhidipeckaaGreatCZCZD
namespace Go.Proofs.YthacnhidipeckaaGreat
open Go.Eng
set_option linter.all false
attribute [local irreducible] DCallsG SWp Fct CallQ XCallQ LCallQ XLCallQ drun xrun
set_option maxRecDepth 20000 in
set_option maxHeartbeats 8000000 in
theorem rAll_f (n : Net) (l : List Sect) (lv : List Int) (s : Sta) (m : Nat) (F : FlowsIn n l lv s) : DCalls Tryz.prog 212 [netD n, sectL l, ints lv, staD s] (hget []) m (ints (flowsL n l lv s)) (hget []) := by
  have hll := F.no.2.1;have hv := F.sb;have hlen := lensB_of (show lensB n s = true by unfold staB at hv; simp only [Bool.and_eq_true] at hv; exact hv.1.1);have h400 := (netB_len F.nb).2;have hfl : (flowsL n l lv s).length = n.links.length := rng_len _ _;have hfa : ∀ i, i < n.links.length -> (flowsL n l lv s).getD i default = flowAt n l lv s i := fun i hi => rng_at hi
  generalize flowsL n l lv s = O at *
  refine pureC (n := 52) (rs := [.tmp 8]) (ts := [27]) Tryz.func212 rfl (by decide) [40] (by (exact SD)) ?_;(repeat' (first|refine swp_seq [0,1,2,3,4,7,8,9,10,11,12,17] ?_|refine st2 ?_|refine fctI fun hf=>?_|(show CondG ..;first|refine cBG (fun hc=>?_) (fun hc=>?_)|refine cUG ?_ ?_)));(refine sN 9 3 1 ?_);refine loop_swp [1, 2, 4, 7, 9, 10] [0, 8, 40] 41 (fun z A H => ∃ i : Nat, i <= n.links.length /\ z = n.links.length - i /\ A = [(1, sectL l), (2, ints lv), (4, .ptr 0 0), (7, .ptr 8 0), (9, .gl 40), (10, li i)] /\ H = [(0, .blk 25 (netC n)), (8, .blk 30 (staC s)), (40, inLt (O.take i))]) (by omega) ?_ ?_ ?_
  · rintro z A H ⟨i, h1, h2, rfl, rfl⟩;exact SDD
  · refine ⟨_, 0, by omega, rfl, ?_, ?_⟩
    · exact DVR
    · exact DVR
  rintro z A H ⟨i, h1, h2, rfl, rfl⟩;by_cases hi : i < n.links.length
  · have hi3 : (i : Int) < (n.links.length : Int) := by omega
    have hnx := take_sn (l := O) (i := i) (by omega);rw [hfa i hi] at hnx;have hti : (O.take i).length = i := by rw [List.length_take]; omega
    have ce := fun m => ends34_f n i m F.no F.nb hi
    have hf := (fromI_lt F.nb hi).1;have ht := (tillI_lt F.nb hi).1;have cb := fun m => rBetween_f n l i (lv.getD (fromI n i) default) (lv.getD (tillI n i) default) (s.set.getD i default).toNat (s.on.getD i default) m hi (F.btw hi)
    have hst := (okSL_in F.sb hi).1;rw [show ((s.set.getD i default).toNat : Int) = s.set.getD i default by omega] at cb;change ∀ m, DCalls _ _ _ _ m (li (flowAt n l lv s i)) _ at cb;generalize flowAt n l lv s i = q at *
    generalize O.take i = X at *
    have hs1 : i < s.set.length := by omega
    have hs2 : i < s.on.length := by omega
    have hf2 : fromI n i < lv.length := by have := F.ll; omega
    have ht2 : tillI n i < lv.length := by have := F.ll; omega
    generalize fromI n i = fr at *
    generalize tillI n i = tl at *
    (have:=NeI hi);(have:=NeI hi3);(have:=NeI hs1);(have:=NeI hs2);(have:=NeI hf2);(have:=NeI ht2);clear hfa F;(repeat' (first|refine swp_seq [0,1,2,3,4,7,8,9,10,11,12,17] ?_|(show SWp _ _ _ (.region _ _ true) _ _ _ _;refine xG mixed [40, 1000022] ?_)|refine st2 ?_|(show CallQ ..;first|refine cQ (fun hcc=>(by first | exact ce _ | exact cb _)) ?_|(refine lP ?_;refine lQ (fun hcc m=>(by first | exact ce _ | exact cb _)) ?_))|(show XCallQ ..;first|refine xQ (fun hcc=>(by first | exact ce _ | exact cb _)) ?_|(refine xlP ?_;refine xlQ (fun hcc m=>(by first | exact ce _ | exact cb _)) ?_))|refine fctI fun hf=>?_|(show CondG ..;first|refine cBG (fun hc=>?_) (fun hc=>?_)|refine cUG ?_ ?_)));rw [<- hnx];(refine lR 337 40 [0, 8, 337] ?_);exact ⟨_, by omega, i + 1, by omega, rfl, rfl, rfl⟩
  obtain rfl : i = n.links.length := by omega
  have hi3 : ¬ ((n.links.length : Int) < (n.links.length : Int)) := by omega
  (have:=NeI hi3);rw [show O.take n.links.length = O by rw [<- hfl, List.take_length]];(repeat' (first|refine swp_seq [0,1,2,3,4,7,8,9,10,11,12,17] ?_|refine st2 ?_|refine fctI fun hf=>?_|(show CondG ..;first|refine cBG (fun hc=>?_) (fun hc=>?_)|refine cUG ?_ ?_)));exact DVR
set_option maxRecDepth 20000 in
set_option maxHeartbeats 8000000 in
theorem rPumps_f (n : Net) (on : List Bool) (lv : List Int) (m : Nat) (no : netOk n) (nb : netB n = true) (ho : on.length = n.links.length) (hl : lv.length = n.nodes.length) : DCalls Tryz.prog 174 [netD n, bools on, ints lv] (hget []) m (bools (pumpsL n lv on)) (hget []) := by
  have hll := no.2.1;have h400 := (netB_len nb).2;have hfl : (pumpsL n lv on).length = n.links.length := rng_len _ _;have hfa : ∀ i, i < n.links.length -> (pumpsL n lv on).getD i default = pumpAt n lv on i := fun i hi => rng_at hi
  generalize pumpsL n lv on = O at *
  refine pureC (n := 51) (rs := [.tmp 6]) (ts := [28]) Tryz.func174 rfl (by decide) [32] (by (exact SD)) ?_;(repeat' (first|refine swp_seq [0,1,2,3,6,7,8,9,15] ?_|refine st2 ?_|refine fctI fun hf=>?_|(show CondG ..;first|refine cBG (fun hc=>?_) (fun hc=>?_)|refine cUG ?_ ?_)));(refine sN 7 4 1 ?_);refine loop_swp [1, 2, 3, 7, 8] [0, 32] 33 (fun z A H => ∃ i : Nat, i <= n.links.length /\ z = n.links.length - i /\ A = [(1, bools on), (2, ints lv), (3, .ptr 0 0), (7, .gl 32), (8, li i)] /\ H = [(0, .blk 25 (netC n)), (32, boL (O.take i))]) (by omega) ?_ ?_ ?_
  · rintro z A H ⟨i, h1, h2, rfl, rfl⟩;exact SDD
  · refine ⟨_, 0, by omega, rfl, ?_, ?_⟩
    · exact DVR
    · exact DVR
  rintro z A H ⟨i, h1, h2, rfl, rfl⟩;by_cases hi : i < n.links.length
  · have hi3 : (i : Int) < (n.links.length : Int) := by omega
    have hnx := take_sn (l := O) (i := i) (by omega);rw [hfa i hi] at hnx;have hti : (O.take i).length = i := by rw [List.length_take]; omega
    have ce := fun m => ends34_f n i m no nb hi
    have hf := (fromI_lt nb hi).1;unfold pumpAt at hnx;have hs2 : i < on.length := by omega
    have hf2 : fromI n i < lv.length := by omega
    generalize O.take i = X at *
    (have:=NeI hi);(have:=NeI hi3);(have:=NeI hs2);(have:=NeI hf2);by_cases k4 : (n.links.getD i default).kind = 4
    · have cp := fun m => rOn33_f (n.links.getD i default) (on.getD i default) (lv.getD (fromI n i) default) m
      rw [decide_eq_true k4, Bool.true_and] at hnx;generalize onB (n.links.getD i default) (on.getD i default) (lv.getD (fromI n i) default) = b at *
      generalize fromI n i = fr at *
      generalize tillI n i = tl at *
      (have:=NeI k4);clear hfa hf;(repeat' (first|refine swp_seq [0,1,2,3,6,7,8,9,15] ?_|(show SWp _ _ _ (.region _ _ true) _ _ _ _;refine xG mixed [32, 1000022] ?_)|refine st2 ?_|(show CallQ ..;first|refine cQ (fun hcc=>(by first | exact ce _ | exact cp _)) ?_|(refine lP ?_;refine lQ (fun hcc m=>(by first | exact ce _ | exact cp _)) ?_))|(show XCallQ ..;first|refine xQ (fun hcc=>(by first | exact ce _ | exact cp _)) ?_|(refine xlP ?_;refine xlQ (fun hcc m=>(by first | exact ce _ | exact cp _)) ?_))|refine fctI fun hf=>?_|(show CondG ..;first|refine cBG (fun hc=>?_) (fun hc=>?_)|refine cUG ?_ ?_)));rw [<- hnx];(refine lR 337 32 [0, 337] ?_);exact ⟨_, by omega, i + 1, by omega, rfl, rfl, rfl⟩
    · rw [decide_eq_false k4, Bool.false_and] at hnx;generalize fromI n i = fr at *
      generalize tillI n i = tl at *
      (have:=NeI k4);clear hfa hf;(repeat' (first|refine swp_seq [0,1,2,3,6,7,8,9,15] ?_|(show SWp _ _ _ (.region _ _ true) _ _ _ _;refine xG mixed [32] ?_)|refine st2 ?_|(show CallQ ..;first|refine cQ (fun hcc=>(by first | exact ce _)) ?_|(refine lP ?_;refine lQ (fun hcc m=>(by first | exact ce _)) ?_))|(show XCallQ ..;first|refine xQ (fun hcc=>(by first | exact ce _)) ?_|(refine xlP ?_;refine xlQ (fun hcc m=>(by first | exact ce _)) ?_))|refine fctI fun hf=>?_|(show CondG ..;first|refine cBG (fun hc=>?_) (fun hc=>?_)|refine cUG ?_ ?_)));rw [<- hnx];(refine lR 337 32 [0, 337] ?_);exact ⟨_, by omega, i + 1, by omega, rfl, rfl, rfl⟩
  obtain rfl : i = n.links.length := by omega
  have hi3 : ¬ ((n.links.length : Int) < (n.links.length : Int)) := by omega
  (have:=NeI hi3);rw [show O.take n.links.length = O by rw [<- hfl, List.take_length]];(repeat' (first|refine swp_seq [0,1,2,3,6,7,8,9,15] ?_|refine st2 ?_|refine fctI fun hf=>?_|(show CondG ..;first|refine cBG (fun hc=>?_) (fun hc=>?_)|refine cUG ?_ ?_)));exact DVR
theorem rRight_f (n : Net) (s : Sta) (m : Nat) (no : netOk n) (so : staOk s) : DCalls Tryz.prog 208 [netD n, staD s] (hget []) m (lb (netB n && staB n s)) (hget []) := by
  have c1 := fun m => rNetValid_f n m no
  cases hn : netB n <;> simp only [hn] at c1
  · refine pureC (n := 12) (rs := [.tmp 4]) (ts := [4]) Tryz.func208 rfl (by decide) [] (by (exact SD)) ?_;(repeat' (first|refine swp_seq [0,1,2,3,4] ?_|refine st2 ?_|(show CallQ ..;first|refine cQ (fun hcc=>(by first | exact c1 _)) ?_|(refine lP ?_;refine lQ (fun hcc m=>(by first | exact c1 _)) ?_))|refine fctI fun hf=>?_|(show CondG ..;first|refine cBG (fun hc=>?_) (fun hc=>?_)|refine cUG ?_ ?_)));exact DVR
  · have c2 := fun m => rStaValid_f n s m hn so
    refine pureC (n := 12) (rs := [.tmp 4]) (ts := [4]) Tryz.func208 rfl (by decide) [] (by (exact SD)) ?_;(repeat' (first|refine swp_seq [0,1,2,3,4] ?_|refine st2 ?_|(show CallQ ..;first|refine cQ (fun hcc=>(by first | exact c1 _ | exact c2 _)) ?_|(refine lP ?_;refine lQ (fun hcc m=>(by first | exact c1 _ | exact c2 _)) ?_))|refine fctI fun hf=>?_|(show CondG ..;first|refine cBG (fun hc=>?_) (fun hc=>?_)|refine cUG ?_ ?_)));exact DVR
set_option maxRecDepth 20000 in
set_option maxHeartbeats 8000000 in
theorem rFlows_f (n : Net) (l : List Sect) (lv : List Int) (s : Sta) (m : Nat) (no : netOk n) (co : catOk l) (so : staOk s) : DCalls Tryz.prog 175 [netD n, sectL l, ints lv, staD s] (hget []) m (.tup [ints (flowsR n l lv s).1, li (flowsR n l lv s).2]) (hget []) := by
  have c1 := fun m => rRight_f n s m no so
  have c2 := fun m => given34_f n l lv m no co
  have hll := no.2.1;unfold flowsR;cases hv : (netB n && staB n s) <;> simp only [hv] at c1
  · rw [Bool.and_false];refine pureC (n := 47) (rs := [.tmp 8, .tmp 9]) (ts := [27, 3]) Tryz.func175 rfl (by decide) [] (by (exact SD)) ?_;(repeat' (first|refine swp_seq [0,1,2,3,4,7,8,9,10,11,15,21,26,31,41] ?_|refine st2 ?_|(show CallQ ..;first|refine cQ (fun hcc=>(by first | exact c1 _)) ?_|(refine lP ?_;refine lQ (fun hcc m=>(by first | exact c1 _)) ?_))|refine fctI fun hf=>?_|(show CondG ..;first|refine cBG (fun hc=>?_) (fun hc=>?_)|refine cUG ?_ ?_)));exact DVR
  have hv2 := hv;simp only [Bool.and_eq_true] at hv2;rw [Bool.and_true];cases hcb : catB l
  · rw [hv2.1, hcb, if_neg (by decide)] at c2;refine pureC (n := 47) (rs := [.tmp 8, .tmp 9]) (ts := [27, 3]) Tryz.func175 rfl (by decide) [] (by (exact SD)) ?_;(repeat' (first|refine swp_seq [0,1,2,3,4,7,8,9,10,11,15,21,26,31,41] ?_|refine st2 ?_|(show CallQ ..;first|refine cQ (fun hcc=>(by first | exact c1 _ | exact c2 _)) ?_|(refine lP ?_;refine lQ (fun hcc m=>(by first | exact c1 _ | exact c2 _)) ?_))|refine fctI fun hf=>?_|(show CondG ..;first|refine cBG (fun hc=>?_) (fun hc=>?_)|refine cUG ?_ ?_)));exact DVR
  rw [hv2.1, hcb, if_pos (show (true && true) = true from rfl)] at c2;rw [if_pos rfl];by_cases hl : lv.length = n.nodes.length
  case neg =>
    rw [if_neg hl] at c2;have e1 : lvE n lv = 3 := by unfold lvE; rw [if_neg hl]
    rw [e1];refine pureC (n := 47) (rs := [.tmp 8, .tmp 9]) (ts := [27, 3]) Tryz.func175 rfl (by decide) [] (by (exact SD)) ?_;(repeat' (first|refine swp_seq [0,1,2,3,4,7,8,9,10,11,15,21,26,31,41] ?_|refine st2 ?_|(show CallQ ..;first|refine cQ (fun hcc=>(by first | exact c1 _ | exact c2 _)) ?_|(refine lP ?_;refine lQ (fun hcc m=>(by first | exact c1 _ | exact c2 _)) ?_))|refine fctI fun hf=>?_|(show CondG ..;first|refine cBG (fun hc=>?_) (fun hc=>?_)|refine cUG ?_ ?_)));exact DVR
  rw [if_pos hl] at c2;have c3 := fun m => rLevelled_f n lv m no hl
  have e1 : lvE n lv = if lvA n lv then 0 else 2 := by unfold lvE; rw [if_pos hl]
  rw [e1];cases ha : lvA n lv <;> simp only [ha] at c3
  · refine pureC (n := 47) (rs := [.tmp 8, .tmp 9]) (ts := [27, 3]) Tryz.func175 rfl (by decide) [] (by (exact SD)) ?_;(repeat' (first|refine swp_seq [0,1,2,3,4,7,8,9,10,11,15,21,26,31,41] ?_|refine st2 ?_|(show CallQ ..;first|refine cQ (fun hcc=>(by first | exact c1 _ | exact c2 _ | exact c3 _)) ?_|(refine lP ?_;refine lQ (fun hcc m=>(by first | exact c1 _ | exact c2 _ | exact c3 _)) ?_))|refine fctI fun hf=>?_|(show CondG ..;first|refine cBG (fun hc=>?_) (fun hc=>?_)|refine cUG ?_ ?_)));exact DVR
  rw [if_pos rfl, if_pos rfl];refine pureC (n := 47) (rs := [.tmp 8, .tmp 9]) (ts := [27, 3]) Tryz.func175 rfl (by decide) [] (by (exact SD)) ?_;(repeat' (first|refine swp_seq [0,1,2,3,4,7,8,9,10,11,15,21,26,31,41] ?_|refine st2 ?_|(show CallQ ..;first|refine cQ (fun hcc=>(by first | exact c1 _ | exact c2 _ | exact c3 _)) ?_|(refine lP ?_;refine lQ (fun hcc m=>(by first | exact c1 _ | exact c2 _ | exact c3 _)) ?_))|refine fctI fun hf=>?_|(show CondG ..;first|refine cBG (fun hc=>?_) (fun hc=>?_)|refine cUG ?_ ?_)));refine loop_swp [1, 2, 4, 7, 11] [0, 8] 9 (fun z A H => ∃ i : Nat, i <= n.links.length /\ z = n.links.length - i /\ ((n.links.take i).any fun x => !knownB l x) = false /\ A = [(1, sectL l), (2, ints lv), (4, .ptr 0 0), (7, .ptr 8 0), (11, li i)] /\ H = [(0, .blk 25 (netC n)), (8, .blk 30 (staC s))]) (by omega) ?_ ?_ ?_
  · rintro z A H ⟨i, h1, h2, h3, rfl, rfl⟩;exact SDD
  · refine ⟨_, 0, by omega, rfl, rfl, ?_, ?_⟩
    · exact DVR
    · exact DVR
  rintro z A H ⟨i, h1, h2, h3, rfl, rfl⟩;by_cases hi : i < n.links.length
  · have hi3 : (i : Int) < (n.links.length : Int) := by omega
    have cn := fun m => named_f l (n.links.getD i default) m co.1
    (have:=NeI hi);(have:=NeI hi3);cases hk : knownB l (n.links.getD i default) <;> simp only [hk] at cn
    · have e2 : (n.links.any fun x => !knownB l x) = true := List.any_eq_true.2 ⟨_, getD_mem hi, by rw [hk]; rfl⟩;rw [e2];(repeat' (first|refine swp_seq [0,1,2,3,4,7,8,9,10,11,15,21,26,31,41] ?_|refine st2 ?_|(show CallQ ..;first|refine cQ (fun hcc=>(by first | exact cn _)) ?_|(refine lP ?_;refine lQ (fun hcc m=>(by first | exact cn _)) ?_))|refine fctI fun hf=>?_|(show CondG ..;first|refine cBG (fun hc=>?_) (fun hc=>?_)|refine cUG ?_ ?_)));exact DVR
    · (repeat' (first|refine swp_seq [0,1,2,3,4,7,8,9,10,11,15,21,26,31,41] ?_|refine st2 ?_|(show CallQ ..;first|refine cQ (fun hcc=>(by first | exact cn _)) ?_|(refine lP ?_;refine lQ (fun hcc m=>(by first | exact cn _)) ?_))|refine fctI fun hf=>?_|(show CondG ..;first|refine cBG (fun hc=>?_) (fun hc=>?_)|refine cUG ?_ ?_)));(refine lN [0, 8] ?_);exact ⟨_, by omega, i + 1, by omega, rfl, any_step h3 (by omega) (by rw [hk]; rfl), rfl, rfl⟩
  obtain rfl : i = n.links.length := by omega
  have hi3 : ¬ ((n.links.length : Int) < (n.links.length : Int)) := by omega
  (have:=NeI hi3);rw [List.take_length] at h3;rw [h3, if_neg (by decide)];have F : FlowsIn n l lv s := ⟨no, co, hv2.1, hcb, hv2.2, hl, ha, known_no h3⟩;have cA := fun m => rAll_f n l lv s m F
  generalize flowsL n l lv s = O at *
  (repeat' (first|refine swp_seq [0,1,2,3,4,7,8,9,10,11,15,21,26,31,41] ?_|refine st2 ?_|(show CallQ ..;first|refine cQ (fun hcc=>(by first | exact cA _)) ?_|(refine lP ?_;refine lQ (fun hcc m=>(by first | exact cA _)) ?_))|refine fctI fun hf=>?_|(show CondG ..;first|refine cBG (fun hc=>?_) (fun hc=>?_)|refine cUG ?_ ?_)));exact DVR
set_option maxRecDepth 20000 in
set_option maxHeartbeats 8000000 in
theorem rSettledO_f (n : Net) (s : Sta) (held : List Int) (m : Nat) (hs : lenOk s) (hv : netB n = true) (l1 : held.length = n.nodes.length) (l2 : s.vol.length = n.nodes.length) (l3 : s.pon.length = n.nodes.length) (hb : ∀ i, i < n.nodes.length -> 0 <= held.getD i default /\ held.getD i default <= 1152921504606846976) :
    DCallsG Tryz.prog 136 [] [netD n, staD s, ints held] (hget []) m (.tup [.agg [.gl m, .gl (m + 1), .gl (m + 2), .gl (m + 3)], lb (fitS n held)]) (hget [(m, inLt (vS n held)), (m + 1, inLt (pS n held)), (m + 2, inLt s.set), (m + 3, boL s.on)]) := by
  have a1 := netB_len hv;have q2 : (vS n held).length = s.vol.length := by simp [vS, l2]
  have q3 : (pS n held).length = s.pon.length := by simp [pS, l3]
  refine contract (n := 70) (rs := [.cell 6 30, .tmp 7]) (ts := [30, 4]) Tryz.func136 rfl (by decide) 0 0 [] [] [40, 41, 42, 43] (.tup [.agg [.gl 40, .gl 41, .gl 42, .gl 43], lb (fitS n held)]) [(40, inLt (vS n held)), (41, inLt (pS n held)), (42, inLt s.set), (43, boL s.on)] (by (exact SD)) (by (exact SD)) ?_;(repeat' (first|refine swp_seq [0,1,2,3,4,6,7,8,9,10,11,17,43] ?_|refine st2 ?_|(show CallQ ..;first|refine cQ (fun hcc=>(rCopy_f _ _ hs)) ?_|(refine lP ?_;refine lQ (fun hcc m=>(rCopy_f _ _ hs)) ?_))|refine fctI fun hf=>?_|(show CondG ..;first|refine cBG (fun hc=>?_) (fun hc=>?_)|refine cUG ?_ ?_)));refine loop_swp [2, 3, 6, 8, 9, 10] [0, 16, 40, 41, 42, 43, 48] 49 (fun q A H => ∃ i : Nat, i <= n.nodes.length /\ q = n.nodes.length - i /\ A = [(2, ints held), (3, .ptr 0 0), (6, .ptr 16 0), (8, .ptr 48 0), (9, lb (fitI (pS n held) i)), (10, li i)] /\ H = [(0, .blk 25 (netC n)), (16, .blk 30 [nilS, nilS, nilS, nilS]), (40, inLt ((vS n held).take i ++ s.vol.drop i)), (41, inLt ((pS n held).take i ++ s.pon.drop i)), (42, inLt s.set), (43, boL s.on), (48, .blk 30 [.gl 40, .gl 41, .gl 42, .gl 43])]) (by omega) ?_ ?_ ?_
  · rintro q A H ⟨i, h1, h2, rfl, rfl⟩;exact SDD
  · refine ⟨_, 0, by omega, rfl, ?_, ?_⟩
    · exact DVR
    · exact DVR
  rintro q A H ⟨i, h1, h2, rfl, rfl⟩;by_cases hi : i < n.nodes.length
  · have hbi := hb i hi;have hcap := capN_in hv hi;have cc := fun m => rCapacity_f (n.nodes.getD i default) m (nodeR_shape (netB_node hv hi))
    have L2 := upd_len q2 (i := i) (by omega);have L3 := upd_len q3 (i := i) (by omega);have S2 := fun x hx => upd_step (i := i) (x := x) q2 (by omega) hx
    have S3 := fun x hx => upd_step (i := i) (x := x) q3 (by omega) hx
    have ev : (vS n held).getD i default = if capN (n.nodes.getD i default) < held.getD i default then capN (n.nodes.getD i default) else held.getD i default := map_at hi
    have ep : (pS n held).getD i default = held.getD i default - (if capN (n.nodes.getD i default) < held.getD i default then capN (n.nodes.getD i default) else held.getD i default) := map_at hi;have ef := fitI_next (pS n held) i;generalize hF : fitI (pS n held) i = F at *
    generalize hX2 : (vS n held).take i ++ s.vol.drop i = X2 at *
    generalize hX3 : (pS n held).take i ++ s.pon.drop i = X3 at *
    by_cases hcp : capN (n.nodes.getD i default) < held.getD i default
    · rw [if_pos hcp] at ev ep;(have:=NeI hcp);(repeat' (first|refine swp_seq [0,1,2,3,4,6,7,8,9,10,11,17,43] ?_|(show SWp _ _ _ (.region _ _ true) _ _ _ _;refine xG mixed [40, 41] ?_)|refine st2 ?_|(show CallQ ..;first|refine cQ (fun hcc=>(cc _)) ?_|(refine lP ?_;refine lQ (fun hcc m=>(cc _)) ?_))|refine fctI fun hf=>?_|(show CondG ..;first|refine cBG (fun hc=>?_) (fun hc=>?_)|refine cUG ?_ ?_)))
      · (refine lN [0, 16, 40, 41, 42, 43, 48] ?_);refine ⟨_, by omega, i + 1, by omega, rfl, ?_, ?_⟩
        · rw [ef, ep]; cases F <;> rfl
        · rw [<- S2 _ ev.symm, <- S3 _ ep.symm]
      · omega
    · rw [if_neg hcp] at ev ep;rw [Int.sub_self] at ep;(have:=NeI hcp);(repeat' (first|refine swp_seq [0,1,2,3,4,6,7,8,9,10,11,17,43] ?_|(show SWp _ _ _ (.region _ _ true) _ _ _ _;refine xG mixed [40, 41] ?_)|refine st2 ?_|(show CallQ ..;first|refine cQ (fun hcc=>(cc _)) ?_|(refine lP ?_;refine lQ (fun hcc m=>(cc _)) ?_))|refine fctI fun hf=>?_|(show CondG ..;first|refine cBG (fun hc=>?_) (fun hc=>?_)|refine cUG ?_ ?_)))
      · (refine lN [0, 16, 40, 41, 42, 43, 48] ?_);refine ⟨_, by omega, i + 1, by omega, rfl, ?_, ?_⟩
        · rw [ef, ep]; cases F <;> rfl
        · rw [<- S2 _ ev.symm, <- S3 _ ep.symm]
      · omega
  have hi2 : i = n.nodes.length := by omega
  subst hi2;have e2 := upd_end q2;have e3 := upd_end q3;rw [l2] at e2;rw [l3] at e3;rw [e2, e3];(repeat' (first|refine swp_seq [0,1,2,3,4,6,7,8,9,10,11,17,43] ?_|refine st2 ?_|refine fctI fun hf=>?_|(show CondG ..;first|refine cBG (fun hc=>?_) (fun hc=>?_)|refine cUG ?_ ?_)))
  · omega
  exact DVR
set_option maxHeartbeats 4000000 in
theorem rPartN_f (t a b : Nat) (m : Nat) (ht : t < 4611686018427387904) (hab : a <= b) (hb : 0 < b /\ b < 4611686018427387904) :
    DCalls Tryz.prog 177 [li t, li a, li b] (hget []) m (li ((t * a / b : Nat) : Int)) (hget []) := by
  have w1 : IntKind.u64.wrap (t : Int) = (t : Int) := by rw [u64w]; omega
  have w2 : IntKind.u64.wrap (a : Int) = (a : Int) := by rw [u64w]; omega
  have w3 : IntKind.u64.wrap (b : Int) = (b : Int) := by rw [u64w]; omega
  obtain ⟨p, hp⟩ : ∃ p, t * a = p := ⟨_, rfl⟩;obtain ⟨h1, h2⟩ := part_hi (by omega) hab hb.1 hp;have hdm : p / 18446744073709551616 * 18446744073709551616 + p % 18446744073709551616 = p := by rw [Nat.mul_comm]; exact Nat.div_add_mod p _
  have hlt : p % 18446744073709551616 < 18446744073709551616 := Nat.mod_lt _ (by decide);have cM := fun m => rmul_f t a (p / 18446744073709551616) (p % 18446744073709551616) m (by omega) (by omega) (by rw [hdm]; exact hp) hlt
  have cD := fun m => rdiv_f (p / 18446744073709551616) (p % 18446744073709551616) b (p / b) (p % b) m (by omega) hlt hb (by rw [hdm, Nat.div_add_mod]) (Nat.mod_lt _ hb.1) (by omega)
  rw [hp];clear hdm hp;generalize p / 18446744073709551616 = hi at *
  generalize p % 18446744073709551616 = lo at *
  generalize p % b = r at *
  generalize p / b = q at *
  have hq : q < 4611686018427387904 := by omega
  refine pureC (n := 24) (rs := [.tmp 6]) (ts := [3]) Tryz.func177 rfl (by decide) [] (by (exact SD)) ?_;(repeat' (first|refine swp_seq [0,1,2,6,7] ?_|refine st2 ?_|refine fctI fun hf=>?_|(show CondG ..;first|refine cBG (fun hc=>?_) (fun hc=>?_)|refine cUG ?_ ?_)));rw [w1, w2];(repeat' (first|refine swp_seq [0,1,2,6,7] ?_|refine st2 ?_|(show CallQ ..;first|refine cQ (fun hcc=>(cM _)) ?_|(refine lP ?_;refine lQ (fun hcc m=>(cM _)) ?_))|refine fctI fun hf=>?_|(show CondG ..;first|refine cBG (fun hc=>?_) (fun hc=>?_)|refine cUG ?_ ?_)));rw [w3];(repeat' (first|refine swp_seq [0,1,2,6,7] ?_|refine st2 ?_|(show CallQ ..;first|refine cQ (fun hcc=>(cD _)) ?_|(refine lP ?_;refine lQ (fun hcc m=>(cD _)) ?_))|refine fctI fun hf=>?_|(show CondG ..;first|refine cBG (fun hc=>?_) (fun hc=>?_)|refine cUG ?_ ?_)));exact DVR
theorem rPartI_f (h a b : Int) (m : Nat) (hh : 0 <= h /\ h < 4611686018427387904) (ha : 0 <= a /\ a <= b) (hb : 0 < b /\ b < 4611686018427387904) : DCalls Tryz.prog 177 [li h, li a, li b] (hget []) m (li (h * a / b)) (hget []) := by
  obtain ⟨x, rfl⟩ : ∃ x : Nat, h = x := ⟨h.toNat, by omega⟩;obtain ⟨y, rfl⟩ : ∃ y : Nat, a = y := ⟨a.toNat, by omega⟩;obtain ⟨z, rfl⟩ : ∃ z : Nat, b = z := ⟨b.toNat, by omega⟩;have := rPartN_f x y z m (by omega) (by omega) (by omega);rw [show ((x * y / z : Nat) : Int) = (x : Int) * (y : Int) / (z : Int) by push_cast; rfl] at this;exact this
section
open Go.Eng
def idD2 : DV -> Bool
  | .agg l => l.all idD
  | d => idD d
def idR2 : DV -> Bool
  | .tup l => l.all idD2
  | d => idD2 d
theorem idD2_rel {ρ : Nat -> Hd} {S S' : Nat -> Prop} {w : World} {d : DV} {v : Value} (h : idD2 d = true) (hr : Rel ρ S w d v) : Rel ρ S' w d v := by
  unfold idD2 at h;split at h
  · next l =>
    simp only [Rel] at hr ⊢;obtain ⟨vs, rfl, hr⟩ := hr;exact ⟨vs, rfl, idL_rel h hr⟩
  · exact idD_rel h hr
theorem idL2_rel {ρ : Nat -> Hd} {S S' : Nat -> Prop} {w : World} : ∀ {l : List DV} {vs : List Value}, l.all idD2 = true -> RelL ρ S w l vs -> RelL ρ S' w l vs
  | [], [], _, _ => trivial
  | d :: l, v :: vs, h, hr => by
    simp only [List.all_cons, Bool.and_eq_true] at h;exact ⟨idD2_rel h.1 hr.1, idL2_rel h.2 hr.2⟩
  | [], _ :: _, _, h => h.elim
  | _ :: _, [], _, h => h.elim
theorem idR2_rel {ρ : Nat -> Hd} {S S' : Nat -> Prop} {w : World} {d : DV} {v : Value} (h : idR2 d = true) (hr : Rel ρ S w d v) : Rel ρ S' w d v := by
  unfold idR2 at h;split at h
  · next l =>
    simp only [Rel] at hr ⊢;obtain ⟨vs, rfl, hr⟩ := hr;exact ⟨vs, rfl, idL2_rel h hr⟩
  · exact idD2_rel h hr
theorem DCallsG.lendLit2 {P : Program} {g : FuncId} {args : List DV} {d : DV} {m o : Nat} {hv : HV} {x : FV} {h0 h2 : LH} (hx : hv.fv = some x) (hl0 : litHs h0 = true) (hl2 : litHs h2 = true) (ho0 : hget h0 o = none) (ho2 : hget h2 o = none) (hd : idR2 d = true)
    (hc : DCallsG P g [] (DV.frzL o x args) (hget h0) m d (hget h2)) : DCallsG P g [] args (hget ((o, hv) :: h0)) m d (hget ((o, hv) :: h2)) := by
  unfold DCallsG at hc ⊢;refine ⟨hc.1, fun U ρ S w vs H0 hmU hr huU => ?_⟩;have ho : hget ((o, hv) :: h0) o = some hv := by simp [hget]
  have hO := H0.heap o hv ho;have hOu := H0.heapU o hv ho;have hr1 := RelL.frz hx hO args vs hr;have hz := HSat.frz (HSat0.to (C := fun _ => True) (U0 := fun _ => False) H0 (fun _ _ _ => .inl trivial)) ho hx (fun k => k);rw [<- hget_frz, show hfrzL o x ((o, hv) :: h0) = h0 by simp only [hfrzL, if_true]; exact hfrz_lit hl0 ho0] at hz;have hz0 := hz.to0;have hS1 : ∀ b, hblk (ρ o) hv = some b -> Sfrz S (hblk (ρ o) hv) b := fun b e => .inr e
  refine (hc.2 U ρ _ w vs hz0 hmU hr1 (usesL_frz args huU)).mono ?_;rintro e w' ⟨v, ρ', S', rfl, HS, hr', hu'⟩;have up : ∀ i v, hget h0 i = some v -> i ≠ o /\ hget ((o, hv) :: h0) i = some v := fun i v hi => by
    have e : i ≠ o := fun e => by subst e; rw [ho0] at hi; cases hi
    exact ⟨e, by simp only [hget, if_neg e]; exact hi⟩
  have keepS : ∀ b, Sfrz S (hblk (ρ o) hv) b -> w'.heap[b]? = w.heap[b]? := fun b hb =>
    HS.keep b (hz0.sIn b hb) (fun i ⟨_, _, v, k1, k2⟩ => hz0.sep i v b k1 k2 hb) (fun ⟨i, v, k, _⟩ => by cases k)
  have hoo : HRel ρ' S w' o hv := HRel.mono (U := U) (fun i hi => HS.pin i hi) (fun _ k => k) (fun b hb => keepS b (.inl hb)) hOu.1 hOu.2 (fun b hb => keepS b (hS1 b hb)) hO;have get2 : ∀ i v, hget ((o, hv) :: h2) i = some v -> (i = o /\ v = hv) ∨ (i ≠ o /\ hget h2 i = some v) := fun i v hi => by
    simp only [hget] at hi;split at hi
    · next e => exact .inl ⟨e, (Option.some.inj hi).symm⟩
    · next e => exact .inr ⟨e, hi⟩
  have own : ∀ i b, (Base.of (fun i => i ∈ ([] : List Nat)) U ρ (Sfrz S (hblk (ρ o) hv)) w (hget h0)).own0 i b -> (Base.of (fun i => i ∈ ([] : List Nat)) U ρ S w (hget ((o, hv) :: h0))).own0 i b := fun i b ⟨k1, k2, u, k3, k4⟩ =>
    ⟨k1, k2, u, (up i u k3).2, k4⟩
  have fre : ∀ b, (Base.of (fun i => i ∈ ([] : List Nat)) U ρ (Sfrz S (hblk (ρ o) hv)) w (hget h0)).fresh b -> (Base.of (fun i => i ∈ ([] : List Nat)) U ρ S w (hget ((o, hv) :: h0))).fresh b := fun b hb => by
    rcases hb with ⟨i, v, k, _⟩ | k
    · cases k
    · exact .inr k
  have hρo : ρ' o = ρ o := HS.pin o hOu.1;refine ⟨v, ρ', S, rfl, ?_, idR2_rel hd hr', hu'⟩;exact {
    heap := fun i v k => by
      rcases get2 i v k with ⟨rfl, rfl⟩ | ⟨_, k⟩
      · exact hoo
      · exact litH_rel (litHs_get hl2 i v k) (HS.heap i v k)
    heapU := fun i v k => by
      rcases get2 i v k with ⟨rfl, rfl⟩ | ⟨_, k⟩
      · exact ⟨.inl hOu.1, HV.uses_mono (fun i k => .inl k) _ hOu.2⟩
      · exact HS.heapU i v k
    disj := fun i j v u b hi hj hbi hbj => by
      rcases get2 i v hi with ⟨rfl, rfl⟩ | ⟨ni, hi2⟩ <;> rcases get2 j u hj with ⟨rfl, rfl⟩ | ⟨nj, hj2⟩
      · rfl
      · rw [hρo] at hbi;exact absurd (HS.sOld b (hS1 b hbi)) (HS.sep j u b hj2 hbj)
      · rw [hρo] at hbj;exact absurd (HS.sOld b (hS1 b hbj)) (HS.sep i v b hi2 hbi)
      · exact HS.disj i j v u b hi2 hj2 hbi hbj
    sep := fun i v b hi hb => by
      rcases get2 i v hi with ⟨rfl, rfl⟩ | ⟨_, hi⟩
      · rw [hρo] at hb;exact H0.sep i _ b ho hb
      · exact fun k => HS.sep i v b hi hb (HS.sOld b (.inl k))
    prov := fun i v b hi hb => by
      rcases get2 i v hi with ⟨rfl, rfl⟩ | ⟨_, hi⟩
      · rw [hρo] at hb;exact .inl ⟨by simp, hOu.1, _, ho, hb⟩
      · rcases HS.prov i v b hi hb with k | k
        · exact .inl (own i b k)
        · exact .inr (fre b k)
    sIn := fun b hb => Nat.lt_of_lt_of_le (H0.sIn b hb) HS.size
    sProv := fun b hb => .inl hb
    sOld := fun b hb => hb
    pin := HS.pin
    ownU := fun i b hb => hb.2.1
    os := HS.os
    tape := HS.tape
    output := HS.output
    size := HS.size
    keep := fun b hb k1 k2 => HS.keep b hb (fun i k => k1 i (own i b k)) (fun ⟨i, v, k, _⟩ => by cases k) }
end
theorem most_cnt {t : List Knot} {y : Int} (h : tabB t = true) (h0 : (t.getD 0 default).y <= y) : ∃ I : Nat, 1 <= I /\ I <= t.length /\ (∀ j, j < I -> (t.getD j default).y <= y) /\ (∀ j, I <= j -> j < t.length -> y < (t.getD j default).y) /\
    ((I = t.length /\ mostIx t y = -1) ∨ (I < t.length /\ mostIx t y = (I : Int))) := by
  have hl := (tab_in h).1;have hm := tab_mono2 h;rcases idxI_spec (fun a : Knot => decide (y < a.y)) t with ⟨e, hn⟩ | ⟨k, e, hk, hp, hn⟩
  · refine ⟨t.length, hl, Nat.le_refl _, fun j hj => ?_, fun j h1 h2 => by omega, .inl ⟨rfl, e⟩⟩;have := of_decide_eq_false (hn j hj);omega
  · have hp := of_decide_eq_true hp;have hk0 : k ≠ 0 := fun z => by subst z; omega
    refine ⟨k, by omega, by omega, fun j hj => ?_, fun j h1 h2 => ?_, .inr ⟨hk, e⟩⟩
    · have := of_decide_eq_false (hn j hj);omega
    · have := (hm j k h1 h2).2;omega
set_option maxRecDepth 20000 in
set_option maxHeartbeats 8000000 in
theorem rMost_f (t : List Knot) (y : Int) (m : Nat) (h : tabB t = true) (h0 : (t.getD 0 default).y <= y) (hy : 0 <= y /\ y <= 1125899906842624) : DCalls Tryz.prog 182 [knotL t, li y] (hget []) m (.tup [li (mostT t y), lb true]) (hget []) := by
  have hin := tab_in h;obtain ⟨I, i1, i2, i3, i4, i5⟩ := most_cnt h h0;have hmT : mostT t y = if mostIx t y = -1 then (t.getD (t.length - 1) default).x
    else (t.getD ((mostIx t y).toNat - 1) default).x + (y - (t.getD ((mostIx t y).toNat - 1) default).y) * ((t.getD (mostIx t y).toNat default).x - (t.getD ((mostIx t y).toNat - 1) default).x) / ((t.getD (mostIx t y).toNat default).y - (t.getD ((mostIx t y).toNat - 1) default).y) := rfl
  have f0 : ¬ y < (t.getD 0 default).y := by omega
  have f1 : 0 < t.length := by omega
  (have:=NeI f0);(have:=NeI f1);generalize mostT t y = MT at *
  refine pureC (n := 78) (rs := [.tmp 4, .tmp 5]) (ts := [3, 4]) Tryz.func182 rfl (by decide) [] (by (exact SD)) ?_;(repeat' (first|refine swp_seq [0,1,4,5,6,7,8,14,18,27,33] ?_|refine st2 ?_|refine fctI fun hf=>?_|(show CondG ..;first|refine cBG (fun hc=>?_) (fun hc=>?_)|refine cUG ?_ ?_)));refine loop_swp [0, 1, 6, 7] [] 0 (fun q A H => ∃ i : Nat, i <= t.length /\ q = t.length - i /\ A = [(0, knotL t), (1, li y), (6, li ((min i I - 1 : Nat) : Int)), (7, li i)] /\ H = []) (by omega) ?_ ?_ ?_
  · rintro q A H ⟨i, g1, g2, rfl, rfl⟩;exact SDD
  · refine ⟨_, 0, by omega, rfl, ?_, ?_⟩
    · rw [show min 0 I - 1 = 0 by omega];exact DVR
    · exact DVR
  rintro q A H ⟨i, g1, g2, rfl, rfl⟩;by_cases hi : i < t.length
  · have hi3 : (i : Int) < (t.length : Int) := by omega
    (have:=NeI hi);(have:=NeI hi3);by_cases hI : i < I
    · have hle := i3 i hI;have e1 : min (i + 1) I - 1 = i := by omega
      (have:=NeI hle);clear i3 i4 hmT;(repeat' (first|refine swp_seq [0,1,4,5,6,7,8,14,18,27,33] ?_|refine st2 ?_|refine fctI fun hf=>?_|(show CondG ..;first|refine cBG (fun hc=>?_) (fun hc=>?_)|refine cUG ?_ ?_)));(refine lN [] ?_);exact ⟨_, by omega, i + 1, by omega, rfl, by rw [e1] <;> rfl, rfl⟩
    · have hle : ¬ (t.getD i default).y <= y := by have := i4 i (by omega) hi; omega
      have e1 : min (i + 1) I - 1 = min i I - 1 := by omega
      (have:=NeI hle);clear i3 i4 hmT;(repeat' (first|refine swp_seq [0,1,4,5,6,7,8,14,18,27,33] ?_|refine st2 ?_|refine fctI fun hf=>?_|(show CondG ..;first|refine cBG (fun hc=>?_) (fun hc=>?_)|refine cUG ?_ ?_)));(refine lN [] ?_);exact ⟨_, by omega, i + 1, by omega, rfl, by rw [e1] <;> rfl, rfl⟩
  obtain rfl : i = t.length := by omega
  have hi3 : ¬ ((t.length : Int) < (t.length : Int)) := by omega
  (have:=NeI hi3);rw [show min t.length I - 1 = I - 1 by omega];obtain ⟨K, rfl⟩ : ∃ K, I = K + 1 := ⟨I - 1, by omega⟩;rw [Nat.add_sub_cancel];have hKl : K < t.length := by omega
  (have:=NeI hKl);rcases i5 with ⟨e, hx⟩ | ⟨e, hx⟩
  · rw [if_pos hx, <- e, Nat.add_sub_cancel] at hmT;rw [hmT];have hk3 : (K : Int) = (t.length : Int) - 1 := by omega
    (have:=NeI hk3);clear i3 i4;(repeat' (first|refine swp_seq [0,1,4,5,6,7,8,14,18,27,33] ?_|refine st2 ?_|refine fctI fun hf=>?_|(show CondG ..;first|refine cBG (fun hc=>?_) (fun hc=>?_)|refine cUG ?_ ?_)));exact DVR
  · rw [if_neg (by omega), hx, Int.toNat_natCast, Nat.add_sub_cancel] at hmT;have hk3 : ¬ (K : Int) = (t.length : Int) - 1 := by omega
    have b1 := hin.2.2.1 K hKl;have b2 := hin.2.2.1 (K + 1) e;have a1 := hin.2.2.2 K e;have a2 := i3 K (by omega);have a3 := i4 (K + 1) (Nat.le_refl _) e;obtain ⟨N, hN⟩ : ∃ N : Nat, y - (t.getD K default).y = (N : Int) := ⟨(y - (t.getD K default).y).toNat, by omega⟩;obtain ⟨X, hX⟩ : ∃ X : Nat, (t.getD (K + 1) default).x - (t.getD K default).x = (X : Int) := ⟨((t.getD (K + 1) default).x - (t.getD K default).x).toNat, by omega⟩;obtain ⟨D, hD⟩ : ∃ D : Nat, (t.getD (K + 1) default).y - (t.getD K default).y = (D : Int) := ⟨((t.getD (K + 1) default).y - (t.getD K default).y).toNat, by omega⟩;have hQ : N * X / D <= X := by
      have := Nat.div_le_div_right (c := D) (Nat.mul_le_mul_right X (show N <= D by omega));rw [Nat.mul_div_cancel_left _ (show 0 < D by omega)] at this;exact this
    have kF := fun m => floorOf_f N X D (N * X / D) (N * X % D) m (by omega) (by omega) (by omega) (Nat.div_add_mod (N * X) D).symm (Nat.mod_lt _ (by omega)) (by omega)
    rw [hN, hX, hD, <- Int.natCast_mul, <- Int.natCast_ediv] at hmT;rw [hmT];rw [<- hN, <- hX, <- hD] at kF;generalize N * X / D = Q at *
    clear hmT i3 i4 hD;have e3 : K + 1 < t.length := e;(have:=NeI e3);(have:=NeI hk3);(repeat' (first|refine swp_seq [0,1,4,5,6,7,8,14,18,27,33] ?_|refine st2 ?_|(show XCallQ ..;first|refine xQ (fun hcc=>(by first | exact kF _)) ?_|(refine xlP ?_;refine xlQ (fun hcc m=>(by first | exact kF _)) ?_))|refine fctI fun hf=>?_|(show CondG ..;first|refine cBG (fun hc=>?_) (fun hc=>?_)|refine cUG ?_ ?_)));exact DVR
set_option maxHeartbeats 4000000 in
theorem rLevel29_f (x : Node) (v : Int) (m : Nat) (h : nodeR x = true) (hv : 0 <= v /\ v <= 1125899906842624) : DCalls Tryz.prog 152 [nodeD x, li v] (hget []) m (li (levelI x v)) (hget []) := by
  have hl := levelI_in h hv.1;have a1 := lev_in (node_lev h).1;have a2 := lev_in (node_lev h).2.1;unfold levelI at hl ⊢;by_cases k : x.kind = 3
  · rw [if_pos k];(have:=NeI k);refine pureC (n := 23) (rs := [.tmp 4]) (ts := [3]) Tryz.func152 rfl (by decide) [] (by (exact SD)) ?_;(repeat' (first|refine swp_seq [0,1,2,4,5,9] ?_|refine st2 ?_|refine fctI fun hf=>?_|(show CondG ..;first|refine cBG (fun hc=>?_) (fun hc=>?_)|refine cUG ?_ ?_)));exact DVR
  · rw [if_neg k] at hl ⊢;(have:=NeI k);have ht := nodeR_tab h k;have ct := fun m => rMost_f x.shape v m ht.1 (by omega) hv
    generalize mostT x.shape v = q at *
    refine pureC (n := 23) (rs := [.tmp 4]) (ts := [3]) Tryz.func152 rfl (by decide) [] (by (exact SD)) ?_;(repeat' (first|refine swp_seq [0,1,2,4,5,9] ?_|refine st2 ?_|(show CallQ ..;first|refine cQ (fun hcc=>(by first | exact ct _)) ?_|(refine lP ?_;refine lQ (fun hcc m=>(by first | exact ct _)) ?_))|refine fctI fun hf=>?_|(show CondG ..;first|refine cBG (fun hc=>?_) (fun hc=>?_)|refine cUG ?_ ?_)));exact DVR
set_option maxRecDepth 20000 in
set_option maxHeartbeats 8000000 in
theorem rLevels29_f (n : Net) (vol : List Int) (m : Nat) (no : netOk n) (nb : netB n = true) (hl : vol.length = n.nodes.length) (hv : ∀ i, i < n.nodes.length -> 0 <= vol.getD i default /\ vol.getD i default <= 1125899906842624) : DCalls Tryz.prog 106 [netD n, ints vol] (hget []) m (ints (levelsL n vol)) (hget []) := by
  have hLl : (levelsL n vol).length = n.nodes.length := rng_len _ _;have hLs : ∀ i, i < n.nodes.length -> (levelsL n vol).take (i + 1) = (levelsL n vol).take i ++ [levelI (n.nodes.getD i default) (vol.getD i default)] := fun i hi => by
    rw [List.take_succ_eq_append_getElem (by omega)];unfold levelsL;rw [List.getElem_map, List.getElem_range]
  have hnl := no.1.1;have h300 := (netB_len nb).1;refine pureC (n := 28) (rs := [.tmp 4]) (ts := [27]) Tryz.func106 rfl (by decide) [32] (by (exact SD)) ?_;(repeat' (first|refine swp_seq [0,1,2,4,5,6,11] ?_|refine st2 ?_|refine fctI fun hf=>?_|(show CondG ..;first|refine cBG (fun hc=>?_) (fun hc=>?_)|refine cUG ?_ ?_)));(refine sN 5 3 1 ?_);refine loop_swp [1, 2, 5, 6] [0, 32] 40 (fun q A H => ∃ i : Nat, i <= n.nodes.length /\ q = n.nodes.length - i /\ A = [(1, ints vol), (2, .ptr 0 0), (5, .gl 32), (6, li i)] /\ H = [(0, .blk 25 (netC n)), (32, inLt ((levelsL n vol).take i))]) (by omega) ?_ ?_ ?_
  · rintro q A H ⟨i, g1, g2, rfl, rfl⟩;exact SDD
  · refine ⟨_, 0, by omega, rfl, ?_, ?_⟩
    · exact DVR
    · exact DVR
  rintro q A H ⟨i, g1, g2, rfl, rfl⟩;by_cases hi : i < n.nodes.length
  · have hi3 : (i : Int) < (n.nodes.length : Int) := by omega
    have hiv : i < vol.length := by omega
    have hiv3 : (i : Int) < (vol.length : Int) := by omega
    have cl := fun m => rLevel29_f (n.nodes.getD i default) (vol.getD i default) m (netB_node nb hi) (hv i hi)
    have hnx := hLs i hi;have hti : ((levelsL n vol).take i).length = i := by rw [List.length_take]; omega
    generalize (levelsL n vol).take i = X at *
    generalize levelI (n.nodes.getD i default) (vol.getD i default) = LV at *
    (have:=NeI hi);(have:=NeI hi3);(have:=NeI hiv);(have:=NeI hiv3);clear hLs hv;(repeat' (first|refine swp_seq [0,1,2,4,5,6,11] ?_|(show SWp _ _ _ (.region _ _ true) _ _ _ _;refine xG mixed [32, 1000010] ?_)|refine st2 ?_|(show XCallQ ..;first|refine xQ (fun hcc=>(by first | exact cl _)) ?_|(refine xlP ?_;refine xlQ (fun hcc m=>(by first | exact cl _)) ?_))|refine fctI fun hf=>?_|(show CondG ..;first|refine cBG (fun hc=>?_) (fun hc=>?_)|refine cUG ?_ ?_)));rw [<- hnx];(refine lR 176 32 [0, 176] ?_);exact ⟨_, by omega, i + 1, by omega, rfl, rfl, rfl⟩
  obtain rfl : i = n.nodes.length := by omega
  have hi3 : ¬ ((n.nodes.length : Int) < (n.nodes.length : Int)) := by omega
  rw [show (levelsL n vol).take n.nodes.length = levelsL n vol by rw [<- hLl, List.take_length]];generalize levelsL n vol = X at *
  (have:=NeI hi3);clear hLs hv;(repeat' (first|refine swp_seq [0,1,2,4,5,6,11] ?_|refine st2 ?_|refine fctI fun hf=>?_|(show CondG ..;first|refine cBG (fun hc=>?_) (fun hc=>?_)|refine cUG ?_ ?_)));exact DVR
set_option maxHeartbeats 4000000 in
theorem rnamed35_f (n : Net) (l : List Sect) (m : Nat) (no : netOk n) (co : catOk l) : DCalls Tryz.prog 137 [netD n, sectL l] (hget []) m (lb (!(n.links.any fun x => !knownB l x))) (hget []) := by
  have hll := no.2.1;refine pureC (n := 31) (rs := [.tmp 4]) (ts := [4]) Tryz.func137 rfl (by decide) [] (by (exact SD)) ?_;(repeat' (first|refine swp_seq [0,1,2,4,5,10,30] ?_|refine st2 ?_|refine fctI fun hf=>?_|(show CondG ..;first|refine cBG (fun hc=>?_) (fun hc=>?_)|refine cUG ?_ ?_)));refine loop_swp [1, 2, 5] [0] 1 (fun q A H => ∃ i : Nat, i <= n.links.length /\ q = n.links.length - i /\ (∀ j, j < i -> (!knownB l (n.links.getD j default)) = false) /\ A = [(1, sectL l), (2, .ptr 0 0), (5, li i)] /\ H = [(0, .blk 25 (netC n))]) (by omega) ?_ ?_ ?_
  · rintro q A H ⟨i, g1, g2, g3, rfl, rfl⟩;exact SDD
  · refine ⟨_, 0, by omega, rfl, by omega, ?_, ?_⟩
    · exact DVR
    · exact DVR
  rintro q A H ⟨i, g1, g2, g3, rfl, rfl⟩;by_cases hi : i < n.links.length
  · have hi3 : (i : Int) < (n.links.length : Int) := by omega
    have ek : knownB l (n.links.getD i default) = (!decide ((n.links.getD i default).kind = 1) || decide (0 <= secIx l (n.links.getD i default).sect)) := rfl;have cf := fun m => rFind_f l (n.links.getD i default).sect m co.1
    have hy := any_yes (p := fun x => !knownB l x) hi;have hnx : (!knownB l (n.links.getD i default)) = false -> ∀ j, j < i + 1 -> (!knownB l (n.links.getD j default)) = false := fun h j hj => by
      by_cases e : j = i
      · subst e; exact h
      · exact g3 j (by omega)
    clear g3;generalize secIx l (n.links.getD i default).sect = z at *
    (have:=NeI hi);(have:=NeI hi3);by_cases hk : (n.links.getD i default).kind = 1
    · (have:=NeI hk);rw [decide_eq_true hk] at ek;by_cases hz : z < 0
      · (have:=NeI hz);rw [hy (by show (!knownB l (n.links.getD i default)) = true; rw [ek, decide_eq_false (by omega)]; rfl)];clear hnx ek;(repeat' (first|refine swp_seq [0,1,2,4,5,10,30] ?_|refine st2 ?_|(show CallQ ..;first|refine cQ (fun hcc=>(by first | exact cf _)) ?_|(refine lP ?_;refine lQ (fun hcc m=>(by first | exact cf _)) ?_))|refine fctI fun hf=>?_|(show CondG ..;first|refine cBG (fun hc=>?_) (fun hc=>?_)|refine cUG ?_ ?_)));exact DVR
      · (have:=NeI hz);have hnx := hnx (by rw [ek, decide_eq_true (by omega)]; rfl);clear hy ek;(repeat' (first|refine swp_seq [0,1,2,4,5,10,30] ?_|refine st2 ?_|(show CallQ ..;first|refine cQ (fun hcc=>(by first | exact cf _)) ?_|(refine lP ?_;refine lQ (fun hcc m=>(by first | exact cf _)) ?_))|refine fctI fun hf=>?_|(show CondG ..;first|refine cBG (fun hc=>?_) (fun hc=>?_)|refine cUG ?_ ?_)));(refine lN [0] ?_);exact ⟨_, by omega, i + 1, by omega, rfl, hnx, rfl, rfl⟩
    · (have:=NeI hk);have hnx := hnx (by rw [ek, decide_eq_false hk]; rfl);clear hy ek;(repeat' (first|refine swp_seq [0,1,2,4,5,10,30] ?_|refine st2 ?_|refine fctI fun hf=>?_|(show CondG ..;first|refine cBG (fun hc=>?_) (fun hc=>?_)|refine cUG ?_ ?_)));(refine lN [0] ?_);exact ⟨_, by omega, i + 1, by omega, rfl, hnx, rfl, rfl⟩
  obtain rfl : i = n.links.length := by omega
  have hi3 : ¬ ((n.links.length : Int) < (n.links.length : Int)) := by omega
  rw [any_no g3];(have:=NeI hi3);clear g3;(repeat' (first|refine swp_seq [0,1,2,4,5,10,30] ?_|refine st2 ?_|refine fctI fun hf=>?_|(show CondG ..;first|refine cBG (fun hc=>?_) (fun hc=>?_)|refine cUG ?_ ?_)));exact DVR

end Go.Proofs.YthacnhidipeckaaGreat
