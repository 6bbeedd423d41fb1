/-
  Contracts of functions of the program, over the engine.
  No condition.
-/
import Derived.Test.YtefkhfkapnmikaaGreatCX0
import Derived.Test.YtefkhfkapnmikaaGreatCX1
namespace Go.Proofs.YtefkhfkapnmikaaGreat
open Go.Eng
set_option linter.all false
attribute [local irreducible] DCallsG SWp Fct CallQ XCallQ LCallQ XLCallQ drun xrun
set_option maxHeartbeats 64000000
set_option maxRecDepth 20000

theorem found_f (n : Net) (k : Int) (m : Nat) : Pu 137 [netD n, li k] m (if 0 <= k then .tup [li k, li 0] else .tup [li 0, li 9]) := by
  by_cases h : k < 0
  · rw [if_neg (by omega)];(have:=NeI h);refine pcN 9 [.tmp 4,.tmp 5] [3,39] Tryz.func137 rfl [] ?_;(repeat' first|refine stW [0,1,4,5,7] ?_|refine fctI fun hf=>?_|refine twI (fun hc=>?_) fun hc=>?_);exact DVR
  · rw [if_pos (by omega)];(have:=NeI h);refine pcN 9 [.tmp 4,.tmp 5] [3,39] Tryz.func137 rfl [] ?_;(repeat' first|refine stW [0,1,4,5,7] ?_|refine fctI fun hf=>?_|refine twI (fun hc=>?_) fun hc=>?_);exact DVR
theorem netNode_f (n : Net) (s : ByteArray) (m : Nat) (no : netOk n) (nb : netB n = true) : Pu 82 [netD n, ls s] m (if 0 <= nodeIx n.nodes s then .tup [li (nodeIx n.nodes s), li 0] else .tup [li 0, li 9]) := by
  have c1 := fun m => netValid_f n m no
  rw [nb] at c1;have c2 := fun m => node_f n s m no.1.1
  have c3 := fun m => found_f n (nodeIx n.nodes s) m
  generalize nodeIx n.nodes s = k at *
  by_cases h : 0 <= k
  · rw [if_pos h] at c3 ⊢;refine pcN 16 [.tmp 4,.tmp 5] [3,39] Tryz.func82 rfl [] ?_;(repeat' first|refine stW [0,1,2,4,5,8] ?_|refine fctI fun hf=>?_|refine twI (fun hc=>?_) fun hc=>?_);exact DVR
  · rw [if_neg h] at c3 ⊢;refine pcN 16 [.tmp 4,.tmp 5] [3,39] Tryz.func82 rfl [] ?_;(repeat' first|refine stW [0,1,2,4,5,8] ?_|refine fctI fun hf=>?_|refine twI (fun hc=>?_) fun hc=>?_);exact DVR
theorem netLink_f (n : Net) (s : ByteArray) (m : Nat) (no : netOk n) (nb : netB n = true) : Pu 84 [netD n, ls s] m (if 0 <= linkIx n.links s then .tup [li (linkIx n.links s), li 0] else .tup [li 0, li 9]) := by
  have c1 := fun m => netValid_f n m no
  rw [nb] at c1;have c2 := fun m => link_f n s m no.2.1
  have c3 := fun m => found_f n (linkIx n.links s) m
  generalize linkIx n.links s = k at *
  by_cases h : 0 <= k
  · rw [if_pos h] at c3 ⊢;refine pcN 16 [.tmp 4,.tmp 5] [3,39] Tryz.func84 rfl [] ?_;(repeat' first|refine stW [0,1,2,4,5,8] ?_|refine fctI fun hf=>?_|refine twI (fun hc=>?_) fun hc=>?_);exact DVR
  · rw [if_neg h] at c3 ⊢;refine pcN 16 [.tmp 4,.tmp 5] [3,39] Tryz.func84 rfl [] ?_;(repeat' first|refine stW [0,1,2,4,5,8] ?_|refine fctI fun hf=>?_|refine twI (fun hc=>?_) fun hc=>?_);exact DVR
theorem indexE_f (l : List Int) (r : Int) (m : Nat) (hl : l.length <= 281474976710656) : Pu 133 [ints l, li r] m (li (idxI (fun v => decide (r = v)) l)) := by
  refine pcN 19 [.tmp 4] [3] Tryz.func133 rfl [] ?_;(repeat' first|refine stW [0,1,4,5,7,8,9,16] ?_|refine fctI fun hf=>?_|refine twI (fun hc=>?_) fun hc=>?_);refine loop_swp [0, 1, 7, 8] [] 32 (fun q A H => ∃ i : Nat, i <= l.length /\ q = l.length - i /\ (l.take i).any (fun v => decide (r = v)) = false /\ A = [(0, ints l), (1, li r), (7, li l.length), (8, li i)] /\ H = []) (by omega) ?_ ?_ ?_
  · rintro q A H ⟨i, h1, h2, h3, rfl, rfl⟩;exact SDD
  · refine ⟨_, 0, by omega, rfl, rfl, ?_, ?_⟩
    · exact DVR
    · exact DVR
  rintro q A H ⟨i, h1, h2, h3, rfl, rfl⟩;by_cases hi : i < l.length
  · have hi3 : (i : Int) < (l.length : Int) := by omega
    (have:=NeI hi3);(have:=NeI hi);by_cases hx : r = l.getD i default
    · (have:=NeI hx);rw [idxI_hit h3 hi (decide_eq_true hx)];clear h3;(repeat' first|refine stW [0,1,4,5,7,8,9,16] ?_|refine fctI fun hf=>?_|refine twI (fun hc=>?_) fun hc=>?_);exact DVR
    · (have:=NeI hx);have hns := any_step h3 hi (decide_eq_false hx);clear h3;(repeat' first|refine stW [0,1,4,5,7,8,9,16] ?_|refine fctI fun hf=>?_|refine twI (fun hc=>?_) fun hc=>?_);(refine lN [] ?_);exact ⟨_, by omega, i + 1, by omega, rfl, hns, rfl, rfl⟩
  have hi3 : ¬ ((i : Int) < (l.length : Int)) := by omega
  (have:=NeI hi3);rw [List.take_of_length_le (by omega)] at h3;rw [idxI_none h3];(repeat' first|refine stW [0,1,4,5,7,8,9,16] ?_|refine fctI fun hf=>?_|refine twI (fun hc=>?_) fun hc=>?_);exact DVR
theorem worse_f (e f : Int) : DCalls Tryz.prog 132 [li f, .ptr 0 0] (hget [(0, .blk 39 [li e])]) 1 (.tup []) (hget [(0, .blk 39 [li (worseE e f)])]) := by
  have c1 := fun m => indexE_f [4, 10, 9] f m (by decide)
  have c2 := fun m => indexE_f [4, 10, 9] e m (by decide)
  unfold worseE rankE;generalize idxI (fun v => decide (f = v)) [4, 10, 9] = F at *
  generalize idxI (fun v => decide (e = v)) [4, 10, 9] = E at *
  by_cases h : E < F
  · rw [if_pos h];(have:=NeI h);refine contract (n := 13) (rs := []) (ts := []) Tryz.func132 rfl (by decide) 1 1 [] [] [] (.tup []) [(0, .blk 39 [li f])] (by (exact SD)) (by (exact SD)) ?_;(repeat' first|(show SWp _ _ _ (.seq (.region 1 _ _) _) _ _ _ _;refine (stop_in ?_))|(show SWp _ _ _ (.region _ _ true) _ _ _ _;refine xG mixed [] ?_)|refine stW [0,1,3,11] ?_|refine fctI fun hf=>?_|refine twI (fun hc=>?_) fun hc=>?_);refine stop_out ?_;(refine sF 1 ?_);(repeat' first|refine stW [0,1,3,11] ?_|refine fctI fun hf=>?_|refine twI (fun hc=>?_) fun hc=>?_);exact DVR
  · rw [if_neg h];(have:=NeI h);refine contract (n := 13) (rs := []) (ts := []) Tryz.func132 rfl (by decide) 1 1 [] [] [] (.tup []) [(0, .blk 39 [li e])] (by (exact SD)) (by (exact SD)) ?_;(repeat' first|(show SWp _ _ _ (.seq (.region 1 _ _) _) _ _ _ _;refine (stop_in ?_))|(show SWp _ _ _ (.region _ _ true) _ _ _ _;refine xG mixed [] ?_)|refine stW [0,1,3,11] ?_|refine fctI fun hf=>?_|refine twI (fun hc=>?_) fun hc=>?_);refine stop_out ?_;(refine sF 1 ?_);(repeat' first|refine stW [0,1,3,11] ?_|refine fctI fun hf=>?_|refine twI (fun hc=>?_) fun hc=>?_);exact DVR
theorem wrong_f (n : Net) (infl : List Infl) (m : Nat) (no : netOk n) (nb : netB n = true) (hi : inflsOk infl) : Pu 74 [netD n, inflL infl] m (li (wrongC n infl)) := by
  obtain ⟨hi1, hi2⟩ := hi;rw [<- wrK_end n infl];refine pcN 48 [.tmp 4] [39] Tryz.func74 rfl [] ?_;(repeat' first|refine stW [0,1,2,4,5,6,7,9,11,14,15,16,17,28,34,43] ?_|refine fctI fun hf=>?_|refine twI (fun hc=>?_) fun hc=>?_);refine loop_swp [2, 5, 6, 7, 14, 15, 16] [0, 16, 48] 88 (fun q A H => ∃ i : Nat, i <= infl.length /\ q = infl.length - i /\ A = [(2, .ptr 0 0), (5, .ptr 16 0), (6, .clo 132 [.ptr 16 0]), (7, .mref 48), (14, inflL infl), (15, li infl.length), (16, li i)] /\ H = [(0, .blk 25 (netC n)), (16, .blk 39 [li (wrK n infl i)]), (48, .map (setS (seenK infl i)))]) (by omega) ?_ ?_ ?_
  · rintro q A H ⟨i, g1, g2, rfl, rfl⟩;exact SDD
  · refine ⟨_, 0, by omega, rfl, ?_, ?_⟩
    · exact DVR
    · rw [show seenK infl 0 = [] from rfl, show wrK n infl 0 = 0 from rfl, show setS [] = [] from by unfold setS; rfl];exact DVR
  rintro q A H ⟨i, g1, g2, rfl, rfl⟩;by_cases hi : i < infl.length
  · have hi3 : (i : Int) < (infl.length : Int) := by omega
    have hol := (hi2 _ (getD_mem hi)).2.1;have c1 := fun m => netNode_f n (infl.getD i default).nod m no nb
    have hw : wrK n infl (i + 1) = worse1 (volU (infl.getD i default)) (worse1 (hasB (nodsL (infl.take i)) (infl.getD i default).nod) (worse1 (nodU n (infl.getD i default)) (wrK n infl i) 9) 10) 4 := rfl;rw [<- seenK_has infl _ i (by omega)] at hw;have hs : insS (seenK infl i) (infl.getD i default).nod = seenK infl (i + 1) := rfl;(have:=NeI hi);(have:=NeI hi3);generalize wrK n infl i = E at *
    generalize seenK infl i = S at *
    have ha : nodU n (infl.getD i default) = decide (nodeIx n.nodes (infl.getD i default).nod < 0) := rfl;have hd : volU (infl.getD i default) = decide (10000 < (infl.getD i default).vols.length) := rfl;rw [ha, hd] at hw;clear ha hd;cases hb : hasB S (infl.getD i default).nod <;> rw [hb] at hw;all_goals
      (have:=NeI hb);by_cases hk : 0 <= nodeIx n.nodes (infl.getD i default).nod
    all_goals
      first
        | rw [if_pos hk] at c1; rw [decide_eq_false (show ¬ nodeIx n.nodes (infl.getD i default).nod < 0 by omega)] at hw
        | rw [if_neg hk] at c1; rw [decide_eq_true (show nodeIx n.nodes (infl.getD i default).nod < 0 by omega)] at hw
      by_cases hv : (10000 : Int) < ((infl.getD i default).vols.length : Int)
    all_goals
      first
        | rw [decide_eq_true (show 10000 < (infl.getD i default).vols.length by omega)] at hw
        | rw [decide_eq_false (show ¬ 10000 < (infl.getD i default).vols.length by omega)] at hw
      (have:=NeI hv);clear hi2;simp only [worse1, reduceIte, Bool.false_eq_true] at hw;(repeat' first|refine stW [0,1,2,4,5,6,7,9,11,14,15,16,17,28,34,43] ?_|refine fctI fun hf=>?_|refine twI (fun hc=>?_) fun hc=>?_);repeat
        (refine cQT [16] (fun hcc => (worse_f _ _)) ?_);(repeat' first|refine stW [0,1,2,4,5,6,7,9,11,14,15,16,17,28,34,43] ?_|refine fctI fun hf=>?_|refine twI (fun hc=>?_) fun hc=>?_)
      rw [hs];(refine lN [0, 16, 48] ?_);exact ⟨_, by omega, i + 1, by omega, rfl, rfl, by rw [hw] <;> rfl⟩
  obtain rfl : i = infl.length := by omega
  have hi3 : ¬ ((infl.length : Int) < (infl.length : Int)) := by omega
  (have:=NeI hi3);generalize wrK n infl infl.length = E at *
  generalize seenK infl infl.length = S at *
  (repeat' first|refine stW [0,1,2,4,5,6,7,9,11,14,15,16,17,28,34,43] ?_|refine fctI fun hf=>?_|refine twI (fun hc=>?_) fun hc=>?_);exact DVR
theorem atC_f (n : Net) (infl : List Infl) (k : Nat) (m : Nat) (no : netOk n) (nb : netB n = true) (hi : inflsOk infl) (hk : k <= 10000) : Pu 75 [netD n, inflL infl, li k] m (ints (inK n infl k infl.length)) := by
  obtain ⟨hi1, hi2⟩ := hi;have hnn := netB_len nb;refine pcN 48 [.tmp 6] [28] Tryz.func75 rfl [40] ?_;(repeat' first|refine stW [0,1,2,3,6,7,9,10,11,16,17,18,19,37] ?_|refine fctI fun hf=>?_|refine twI (fun hc=>?_) fun hc=>?_);refine loop_swp [2, 3, 7, 16, 17, 18] [0, 40] 80 (fun q A H => ∃ i : Nat, i <= infl.length /\ q = infl.length - i /\ A = [(2, li k), (3, .ptr 0 0), (7, .gl 40), (16, inflL infl), (17, li infl.length), (18, li i)] /\ H = [(0, .blk 25 (netC n)), (40, inLt (inK n infl k i))]) (by omega) ?_ ?_ ?_
  · rintro q A H ⟨i, g1, g2, rfl, rfl⟩;exact SDD
  · refine ⟨_, 0, by omega, rfl, ?_, ?_⟩
    · exact DVR
    · rw [show inLt (inK n infl k 0) = .lst 3 1 (List.replicate n.nodes.length [DV.p (.lit (.int .i64 0))]) from by show HV.lst 3 1 (rows inRow (List.replicate n.nodes.length 0)) = _; unfold rows; rw [List.map_replicate]; rfl];exact DVR
  rintro q A H ⟨i, g1, g2, rfl, rfl⟩;by_cases hi : i < infl.length
  · have hi3 : (i : Int) < (infl.length : Int) := by omega
    have hol := (hi2 _ (getD_mem hi)).2.1;have c1 := fun m => netNode_f n (infl.getD i default).nod m no nb
    have hat := @inK_at n infl k i;have hsk := @inK_skip n infl k i;have hXl := inK_len (n := n) (infl := infl) k i;have hlt := nix_lt n.nodes (infl.getD i default).nod;generalize inK n infl k i = X at *
    (have:=NeI hi);(have:=NeI hi3);clear hi2;by_cases h0 : 0 <= nodeIx n.nodes (infl.getD i default).nod
    case neg =>
      rw [if_neg h0] at c1
      replace hsk := hsk (fun c => h0 c.2)
      clear hat
      (repeat' first|refine stW [0,1,2,3,6,7,9,10,11,16,17,18,19,37] ?_|refine fctI fun hf=>?_|refine twI (fun hc=>?_) fun hc=>?_);(refine lN [0, 40] ?_);exact ⟨_, by omega, i + 1, by omega, rfl, rfl, by rw [hsk] <;> rfl⟩
    rw [if_pos h0] at c1;obtain ⟨p, hp⟩ : ∃ p : Nat, nodeIx n.nodes (infl.getD i default).nod = (p : Int) := ⟨_, (Int.toNat_of_nonneg h0).symm⟩;rw [hp] at c1 hlt;rw [hp, Int.toNat_natCast] at hat
    have hpX : p < X.length := by omega
    have hpX3 : (p : Int) < (X.length : Int) := by omega
    (have:=NeI hpX);(have:=NeI hpX3);by_cases hkl : (k : Int) < ((infl.getD i default).vols.length : Int)
    · have hkl2 : k < (infl.getD i default).vols.length := by omega
      replace hat := hat hkl2 (by omega)
      (have:=NeI hkl);(have:=NeI hkl2);clear hsk;(repeat' first|refine stW [0,1,2,3,6,7,9,10,11,16,17,18,19,37] ?_|refine fctI fun hf=>?_|refine twI (fun hc=>?_) fun hc=>?_);(refine lN [0, 40] ?_);exact ⟨_, by omega, i + 1, by omega, rfl, rfl, by rw [hat] <;> rfl⟩
    · replace hsk := hsk (fun c => hkl (by omega))
      (have:=NeI hkl);clear hat
      (repeat' first|refine stW [0,1,2,3,6,7,9,10,11,16,17,18,19,37] ?_|refine fctI fun hf=>?_|refine twI (fun hc=>?_) fun hc=>?_);(refine lN [0, 40] ?_);exact ⟨_, by omega, i + 1, by omega, rfl, rfl, by rw [hsk] <;> rfl⟩
  obtain rfl : i = infl.length := by omega
  have hi3 : ¬ ((infl.length : Int) < (infl.length : Int)) := by omega
  (have:=NeI hi3);generalize inK n infl k infl.length = X at *
  (repeat' first|refine stW [0,1,2,3,6,7,9,10,11,16,17,18,19,37] ?_|refine fctI fun hf=>?_|refine twI (fun hc=>?_) fun hc=>?_);exact DVR

end Go.Proofs.YtefkhfkapnmikaaGreat
