/-
  Contracts of functions of the program, over the engine.
  No condition.
-/
import Derived.Test.YtefkhfkapnmikaaGreatCX1
import Derived.Test.YtefkhfkapnmikaaGreatCX0
namespace Go.Proofs.YtefkhfkapnmikaaGreat
open Go.Eng
set_option linter.all false
attribute [local irreducible] DCallsG SWp Fct CallQ XCallQ LCallQ XLCallQ drun xrun
set_option maxHeartbeats 64000000
set_option maxRecDepth 20000

theorem rvr_f (r : Rule) (m : Nat) (hr : ruleOk r) : Pu 105 [ruleD r] m (lb (ruleB r)) := by
  obtain ⟨h1, ⟨h2, h3⟩, h4, _⟩ := hr;have c1 := fun m => rName_f r.name m h1
  have c2 := fun m => rName_f r.lnk m h4
  have e : ruleB r = (nameB r.name && nameB r.lnk && decide (r.whn.length <= 20) && btwB r.setg 0 1000 && r.whn.all cndB) := rfl;rw [e];clear e;generalize nameB r.name = a at *
  generalize nameB r.lnk = b at *
  refine pcN 57 [.tmp 2] [4] Tryz.func105 rfl [] ?_;(repeat' first|refine stW [0,1,2,3,4,30,35,56] ?_|refine fctI fun hf=>?_|refine twI (fun hc=>?_) fun hc=>?_)
  · (refine DVQ ?_);refine lbC ?_;unfold btwB; grind
  have hX : (a && b && decide (r.whn.length <= 20) && btwB r.setg 0 1000) = true := by unfold btwB; grind
  rw [hX, Bool.true_and];clear c1 c2 hX hc;refine loop_swp [1, 3] [0] 232 (fun q A H => ∃ i : Nat, i <= r.whn.length /\ q = r.whn.length - i /\ (∀ j, j < i -> (!cndB (r.whn.getD j default)) = false) /\ A = [(1, .ptr 0 0), (3, li i)] /\ H = [(0, .blk 54 (ruleC r))]) (by omega) ?_ ?_ ?_
  · rintro q A H ⟨i, g1, g2, g3, rfl, rfl⟩;exact SDD
  · refine ⟨_, 0, by omega, rfl, by omega, ?_, ?_⟩
    · exact DVR
    · exact DVR
  rintro q A H ⟨i, g1, g2, g3, rfl, rfl⟩;by_cases hi : i < r.whn.length
  · have hi3 : (i : Int) < (r.whn.length : Int) := by omega
    have c4 := fun m => rName_f (r.whn.getD i default).nod m (h3 _ (getD_mem hi)).1
    have ec : cndB (r.whn.getD i default) = (nameB (r.whn.getD i default).nod && btwB (r.whn.getD i default).level (-4194304) 4194304) := rfl;have hbad : (!cndB (r.whn.getD i default)) = true -> r.whn.all cndB = false := fun h => List.all_eq_false.2 ⟨_, getD_mem hi, by rw [Bool.not_eq_true'] at h; rw [h]; decide⟩
    have hnx : (!cndB (r.whn.getD i default)) = false -> ∀ j, j < i + 1 -> (!cndB (r.whn.getD j default)) = false := fun h j hj => by
      by_cases e : j = i
      · subst e; exact h
      · exact g3 j (by omega)
    rw [ec] at hbad hnx;clear g3 ec;generalize nameB (r.whn.getD i default).nod = a at *
    (have:=NeI hi);(have:=NeI hi3);(repeat' first|refine stW [0,1,2,3,4,30,35,56] ?_|refine fctI fun hf=>?_|refine twI (fun hc=>?_) fun hc=>?_)
    · rw [hbad (by unfold btwB; clear hbad hnx c4; grind)];exact DVR
    · (refine lN [0] ?_);exact ⟨_, by omega, i + 1, by omega, rfl, hnx (by unfold btwB; clear hbad hnx c4; grind), rfl, rfl⟩
  obtain rfl : i = r.whn.length := by omega
  have hi3 : ¬ ((r.whn.length : Int) < (r.whn.length : Int)) := by omega
  have ht : r.whn.all cndB = true := by
    rw [<- not_all, any_no g3]; rfl
  rw [ht];(have:=NeI hi3);clear g3;(repeat' first|refine stW [0,1,2,3,4,30,35,56] ?_|refine fctI fun hf=>?_|refine twI (fun hc=>?_) fun hc=>?_);exact DVR
theorem rRulesV_f (l : List Rule) (m : Nat) (hl : rulOk l) : Pu 50 [ruleL l] m (lb (rulesB l)) := by
  obtain ⟨hl1, hl2⟩ := hl;by_cases h60 : (60 : Int) < (l.length : Int)
  · rw [show rulesB l = false by unfold rulesB; rw [decide_eq_false (by omega), Bool.false_and, Bool.false_and]];(have:=NeI h60);refine pcN 36 [.tmp 2] [4] Tryz.func50 rfl [] ?_;(repeat' first|refine stW [0,2,3,4,7,11,19,22,35] ?_|refine fctI fun hf=>?_|refine twI (fun hc=>?_) fun hc=>?_);exact DVR
  rw [rulesB_eq (by omega)];(have:=NeI h60);refine pcN 36 [.tmp 2] [4] Tryz.func50 rfl [] ?_;(repeat' first|refine stW [0,2,3,4,7,11,19,22,35] ?_|refine fctI fun hf=>?_|refine twI (fun hc=>?_) fun hc=>?_);refine loop_swp [0, 3] [] 40 (fun q A H => ∃ i : Nat, i <= l.length /\ q = l.length - i /\ (∀ j, j < i -> ruleB (l.getD j default) = true /\ hasB ((ruleNs l).take j) (l.getD j default).name = false) /\ A = [(0, ruleL l), (3, li i)] /\ H = []) (by omega) ?_ ?_ ?_
  · rintro q A H ⟨i, g1, g2, g3, rfl, rfl⟩;exact SDD
  · refine ⟨_, 0, by omega, rfl, by omega, ?_, ?_⟩
    · exact DVR
    · exact DVR
  rintro q A H ⟨i, g1, g2, g3, rfl, rfl⟩;by_cases hi : i < l.length
  · have hi3 : (i : Int) < (l.length : Int) := by omega
    have c1 := fun m => rvr_f (l.getD i default) m (hl2 _ (getD_mem hi))
    have hh := @rules_hit l i hi;have hnx : ruleB (l.getD i default) = true -> hasB ((ruleNs l).take i) (l.getD i default).name = false -> ∀ j, j < i + 1 -> ruleB (l.getD j default) = true /\ hasB ((ruleNs l).take j) (l.getD j default).name = false := fun h1 h2 j hj => by
      by_cases e : j = i
      · subst e; exact ⟨h1, h2⟩
      · exact g3 j (by omega)
    clear g3;(have:=NeI hi);(have:=NeI hi3);cases hv : ruleB (l.getD i default) <;> simp only [hv] at c1
    · rw [hh (.inl hv)];clear hnx hh;(repeat' first|refine stW [0,2,3,4,7,11,19,22,35] ?_|refine fctI fun hf=>?_|refine twI (fun hc=>?_) fun hc=>?_);exact DVR
    replace hnx := hnx hv
    replace hh := fun h => hh (.inr h)
    (repeat' first|refine stW [0,2,3,4,7,11,19,22,35] ?_|refine fctI fun hf=>?_|refine twI (fun hc=>?_) fun hc=>?_);refine loop_swp [0, 3, 4] [] 128 (fun q A H => ∃ j : Nat, j <= i /\ q = i - j /\ hasB ((ruleNs l).take j) (l.getD i default).name = false /\ A = [(0, ruleL l), (3, li i), (4, li j)] /\ H = []) (by omega) ?_ ?_ ?_
    · rintro q A H ⟨j, k1, k2, k3, rfl, rfl⟩;exact SDD
    · refine ⟨_, 0, by omega, rfl, rfl, ?_, ?_⟩
      · exact DVR
      · exact DVR
    rintro q A H ⟨j, k1, k2, k3, rfl, rfl⟩;by_cases hj : j < i
    · have hj3 : (j : Int) < (i : Int) := by omega
      have hj2 : j < l.length := by omega
      have hj4 : (j : Int) < (l.length : Int) := by omega
      have hs := hasB_suc (l := ruleNs l) (s := (l.getD i default).name) (i := j) (by rw [ruleNs_len]; exact hj2);rw [k3, Bool.false_or, ruleNs_at l hj2] at hs;(have:=NeI hj3);(have:=NeI hj2);(have:=NeI hj4);by_cases e : (l.getD j default).name = (l.getD i default).name
      · have hd : hasB ((ruleNs l).take i) (l.getD i default).name = true := by
          refine hasB_mem.2 ?_;rw [<- e, <- ruleNs_at l hj2];exact List.mem_iff_getElem.2 ⟨j, by rw [List.length_take, ruleNs_len]; omega, by rw [List.getElem_take, List.getD_eq_getElem?_getD, List.getElem?_eq_getElem (by rw [ruleNs_len]; exact hj2)]; rfl⟩
        rw [hh hd];(have:=NeI e);clear hnx hh;(repeat' first|refine stW [0,2,3,4,7,11,19,22,35] ?_|refine fctI fun hf=>?_|refine twI (fun hc=>?_) fun hc=>?_);exact DVR
      · (have:=NeI e);rw [decide_eq_false e] at hs;clear hnx hh;(repeat' first|refine stW [0,2,3,4,7,11,19,22,35] ?_|refine fctI fun hf=>?_|refine twI (fun hc=>?_) fun hc=>?_);(refine lN [] ?_);exact ⟨_, by omega, j + 1, by omega, rfl, hs, rfl, rfl⟩
    obtain rfl : j = i := by omega
    have hj3 : ¬ ((j : Int) < (j : Int)) := by omega
    replace hnx := hnx k3
    (have:=NeI hj3);(repeat' first|refine stW [0,2,3,4,7,11,19,22,35] ?_|refine fctI fun hf=>?_|refine twI (fun hc=>?_) fun hc=>?_);(refine lN [] ?_);exact ⟨_, by omega, j + 1, by omega, rfl, hnx, rfl, rfl⟩
  obtain rfl : i = l.length := by omega
  have hi3 : ¬ ((l.length : Int) < (l.length : Int)) := by omega
  rw [rules_all g3];(have:=NeI hi3);clear g3;(repeat' first|refine stW [0,2,3,4,7,11,19,22,35] ?_|refine fctI fun hf=>?_|refine twI (fun hc=>?_) fun hc=>?_);exact DVR
theorem rFind41_f (l : List ByteArray) (s : ByteArray) (m : Nat) (hl : l.length <= 281474976710656) : Pu 71 [strs l, ls s] m (li (idxI (fun v => decide (v = s)) l)) := by
  refine pcN 19 [.tmp 4] [3] Tryz.func71 rfl [] ?_;(repeat' first|refine stW [0,1,4,5,9,17] ?_|refine fctI fun hf=>?_|refine twI (fun hc=>?_) fun hc=>?_);refine loop_swp [0, 1, 5] [] 16 (fun q A H => ∃ i : Nat, i <= l.length /\ q = l.length - i /\ (l.take i).any (fun v => decide (v = s)) = false /\ A = [(0, strs l), (1, ls s), (5, li i)] /\ H = []) (by omega) ?_ ?_ ?_
  · rintro q A H ⟨i, h1, h2, h3, rfl, rfl⟩;exact SDD
  · refine ⟨_, 0, by omega, rfl, rfl, ?_, ?_⟩
    · exact DVR
    · exact DVR
  rintro q A H ⟨i, h1, h2, h3, rfl, rfl⟩;by_cases hi : i < l.length
  · have hi3 : (i : Int) < (l.length : Int) := by omega
    (have:=NeI hi3);(have:=NeI hi);by_cases hx : l.getD i default = s
    · (have:=NeI hx);rw [idxI_hit h3 hi (decide_eq_true hx)];clear h3;(repeat' first|refine stW [0,1,4,5,9,17] ?_|refine fctI fun hf=>?_|refine twI (fun hc=>?_) fun hc=>?_);exact DVR
    · (have:=NeI hx);have hns := any_step h3 hi (decide_eq_false hx);clear h3;(repeat' first|refine stW [0,1,4,5,9,17] ?_|refine fctI fun hf=>?_|refine twI (fun hc=>?_) fun hc=>?_);(refine lN [] ?_);exact ⟨_, by omega, i + 1, by omega, rfl, hns, rfl, rfl⟩
  have hi3 : ¬ ((i : Int) < (l.length : Int)) := by omega
  (have:=NeI hi3);rw [List.take_of_length_le (by omega)] at h3;rw [idxI_none h3];(repeat' first|refine stW [0,1,4,5,9,17] ?_|refine fctI fun hf=>?_|refine twI (fun hc=>?_) fun hc=>?_);exact DVR
theorem rFindN_f (n : Net) (s : ByteArray) (m : Nat) (hl : n.nodes.length <= 281474976710656) : Pu 71 [strs (namesL n), ls s] m (li (nodeIx n.nodes s)) := by
  rw [<- find_names];exact rFind41_f _ s m (by rw [namesL_len]; exact hl)
theorem rNames_f (n : Net) (m : Nat) (hl : n.nodes.length <= 1048576) : Pu 15 [netD n] m (strs (namesL n)) := by
  have hnl := namesL_len n;refine pcN 22 [.tmp 2] [46] Tryz.func15 rfl [32] ?_;(repeat' first|refine stW [0,1,2,3,4,9] ?_|refine fctI fun hf=>?_|refine twI (fun hc=>?_) fun hc=>?_);(refine sN 3 9 1 ?_);refine loop_swp [1, 3, 4] [0, 32] 40 (fun q A H => ∃ i : Nat, i <= n.nodes.length /\ q = n.nodes.length - i /\ A = [(1, .ptr 0 0), (3, .gl 32), (4, li i)] /\ H = [(0, .blk 25 (netC n)), (32, strL ((namesL n).take i))]) (by omega) ?_ ?_ ?_
  · rintro q A H ⟨i, g1, g2, rfl, rfl⟩;exact SDD
  · refine ⟨_, 0, by omega, rfl, ?_, ?_⟩
    · exact DVR
    · exact DVR
  rintro q A H ⟨i, g1, g2, rfl, rfl⟩;by_cases hin : i < n.nodes.length
  · have hi3 : (i : Int) < (n.nodes.length : Int) := by omega
    have hnx := namesL_take n hin;have hlt : ((namesL n).take i).length = i := by rw [List.length_take]; omega
    generalize (namesL n).take i = X at *
    (have:=NeI hin);(have:=NeI hi3);(repeat' first|refine stW [0,1,2,3,4,9] ?_|refine fctI fun hf=>?_|refine twI (fun hc=>?_) fun hc=>?_);rw [<- hnx];(refine lN [0, 32] ?_);exact ⟨_, by omega, i + 1, by omega, rfl, rfl, rfl⟩
  obtain rfl : i = n.nodes.length := by omega
  have hi3 : ¬ ((n.nodes.length : Int) < (n.nodes.length : Int)) := by omega
  (have:=NeI hi3);rw [show (namesL n).take n.nodes.length = namesL n by rw [<- hnl, List.take_length]];(repeat' first|refine stW [0,1,2,3,4,9] ?_|refine fctI fun hf=>?_|refine twI (fun hc=>?_) fun hc=>?_);exact DVR
theorem rHolds_f (r : Rule) (n : Net) (lv : List Int) (m : Nat) (hl : r.whn.length <= 281474976710656) (hn : n.nodes.length <= 281474976710656) (h1 : lv.length = n.nodes.length) (hk : knownR n r = true) :
    Pu 16 [ruleD r, strs (namesL n), ints lv] m (lb (holdB n lv r)) := by
  rw [knownR_eq, Bool.and_eq_true] at hk;have hkc := List.all_eq_true.1 hk.2;have eh : holdB n lv r = !(r.whn.any fun c => !cndH (lvOf n lv c.nod) c) := (not_all _ _).symm;rw [eh];clear eh hk;refine pcN 34 [.tmp 6] [4] Tryz.func16 rfl [] ?_;(repeat' first|refine stW [0,1,2,3,6,7,8,13,33] ?_|refine fctI fun hf=>?_|refine twI (fun hc=>?_) fun hc=>?_);refine loop_swp [1, 2, 3, 7] [0] 24 (fun q A H => ∃ i : Nat, i <= r.whn.length /\ q = r.whn.length - i /\ (∀ j, j < i -> (!cndH (lvOf n lv (r.whn.getD j default).nod) (r.whn.getD j default)) = false) /\ A = [(1, strs (namesL n)), (2, ints lv), (3, .ptr 0 0), (7, li i)] /\ H = [(0, .blk 54 (ruleC r))]) (by omega) ?_ ?_ ?_
  · rintro q A H ⟨i, g1, g2, g3, rfl, rfl⟩;exact SDD
  · refine ⟨_, 0, by omega, rfl, by omega, ?_, ?_⟩
    · exact DVR
    · exact DVR
  rintro q A H ⟨i, g1, g2, g3, rfl, rfl⟩;by_cases hi : i < r.whn.length
  · have hi3 : (i : Int) < (r.whn.length : Int) := by omega
    have hkn : 0 <= nodeIx n.nodes (r.whn.getD i default).nod := of_decide_eq_true (hkc _ (getD_mem hi));have hlt := nix_lt n.nodes (r.whn.getD i default).nod;have c1 := fun m => rFindN_f n (r.whn.getD i default).nod m hn
    have ev : lvOf n lv (r.whn.getD i default).nod = lv.getD (nodeIx n.nodes (r.whn.getD i default).nod).toNat default := rfl;have hy := any_yes (p := fun c => !cndH (lvOf n lv c.nod) c) hi;have hnx : (!cndH (lvOf n lv (r.whn.getD i default).nod) (r.whn.getD i default)) = false -> ∀ j, j < i + 1 -> (!cndH (lvOf n lv (r.whn.getD j default).nod) (r.whn.getD j default)) = false := fun h j hj => by
      by_cases e : j = i
      · subst e; exact h
      · exact g3 j (by omega)
    have hy : (!cndH (lvOf n lv (r.whn.getD i default).nod) (r.whn.getD i default)) = true -> _ := hy;obtain ⟨p, hp⟩ : ∃ p : Nat, nodeIx n.nodes (r.whn.getD i default).nod = (p : Int) := ⟨_, (Int.toNat_of_nonneg hkn).symm⟩;rw [hp, Int.toNat_natCast] at ev;rw [ev] at hy hnx;rw [hp] at c1 hlt;have hpl : p < lv.length := by omega
    have hpl3 : (p : Int) < (lv.length : Int) := by omega
    (have:=NeI hi);(have:=NeI hi3);(have:=NeI hpl);(have:=NeI hpl3);clear g3 hkc ev;(repeat' first|refine stW [0,1,2,3,6,7,8,13,33] ?_|refine fctI fun hf=>?_|refine twI (fun hc=>?_) fun hc=>?_)
    · rw [hy (by unfold cndH; clear hy hnx c1; grind)];exact DVR
    · (refine lN [0] ?_);exact ⟨_, by omega, i + 1, by omega, rfl, hnx (by unfold cndH; clear hy hnx c1; grind), rfl, rfl⟩
  obtain rfl : i = r.whn.length := by omega
  have hi3 : ¬ ((r.whn.length : Int) < (r.whn.length : Int)) := by omega
  rw [any_no g3];(have:=NeI hi3);clear g3 hkc;(repeat' first|refine stW [0,1,2,3,6,7,8,13,33] ?_|refine fctI fun hf=>?_|refine twI (fun hc=>?_) fun hc=>?_);exact DVR
theorem rKnown_f (l : List Rule) (n : Net) (m : Nat) (hl : rulOk l) (no : netOk n) (hn : n.nodes.length <= 1048576) : Pu 89 [ruleL l, netD n] m (lb (l.all (knownR n))) := by
  have hl1 := hl.1;have c1 := fun m => rNames_f n m hn
  refine pcN 46 [.tmp 4] [4] Tryz.func89 rfl [] ?_;(repeat' first|refine stW [0,1,3,4,5,6,7,13,23,31,45] ?_|refine fctI fun hf=>?_|refine twI (fun hc=>?_) fun hc=>?_);refine loop_swp [0, 3, 5, 6] [0] 48 (fun q A H => ∃ i : Nat, i <= l.length /\ q = l.length - i /\ (∀ j, j < i -> knownR n (l.getD j default) = true) /\ A = [(0, ruleL l), (3, .ptr 0 0), (5, strs (namesL n)), (6, li i)] /\ H = [(0, .blk 25 (netC n))]) (by omega) ?_ ?_ ?_
  · rintro q A H ⟨i, g1, g2, g3, rfl, rfl⟩;exact SDD
  · refine ⟨_, 0, by omega, rfl, by omega, ?_, ?_⟩
    · exact DVR
    · exact DVR
  rintro q A H ⟨i, g1, g2, g3, rfl, rfl⟩;by_cases hi : i < l.length
  · have hi3 : (i : Int) < (l.length : Int) := by omega
    have hw := ruleOk_at hl hi;have hkr := knownR_eq n (l.getD i default);have hit := @kn_hit n l i hi;have c2 := fun m => rFindLink_f n (l.getD i default).lnk m no.2.1
    (have:=NeI hi);(have:=NeI hi3);by_cases h0 : linkIx n.links (l.getD i default).lnk < 0
    · rw [hit (by rw [hkr, decide_eq_false (by omega)]; rfl)];generalize linkIx n.links (l.getD i default).lnk = K at *
      (have:=NeI h0);clear g3 hit hkr;(repeat' first|refine stW [0,1,3,4,5,6,7,13,23,31,45] ?_|refine fctI fun hf=>?_|refine twI (fun hc=>?_) fun hc=>?_);exact DVR
    rw [decide_eq_true (show 0 <= linkIx n.links (l.getD i default).lnk by omega), Bool.true_and] at hkr;generalize linkIx n.links (l.getD i default).lnk = K at *
    (have:=NeI h0);(repeat' first|refine stW [0,1,3,4,5,6,7,13,23,31,45] ?_|refine fctI fun hf=>?_|refine twI (fun hc=>?_) fun hc=>?_);refine loop_swp [0, 3, 5, 6, 7] [0] 152 (fun q A H => ∃ j : Nat, j <= (l.getD i default).whn.length /\ q = (l.getD i default).whn.length - j /\ ((l.getD i default).whn.take j).all (nodKn n) = true /\ A = [(0, ruleL l), (3, .ptr 0 0), (5, strs (namesL n)), (6, li i), (7, li j)] /\ H = [(0, .blk 25 (netC n))]) (by omega) ?_ ?_ ?_
    · rintro q A H ⟨j, k1, k2, k3, rfl, rfl⟩;exact SDD
    · refine ⟨_, 0, by omega, rfl, rfl, ?_, ?_⟩
      · exact DVR
      · exact DVR
    rintro q A H ⟨j, k1, k2, k3, rfl, rfl⟩;by_cases hj : j < (l.getD i default).whn.length
    · have hj3 : (j : Int) < ((l.getD i default).whn.length : Int) := by omega
      have hs := all_takeS (nodKn n) hj;rw [k3, Bool.true_and] at hs;have c3 := fun m => rFindN_f n ((l.getD i default).whn.getD j default).nod m (by omega)
      have ek : nodKn n ((l.getD i default).whn.getD j default) = decide (0 <= nodeIx n.nodes ((l.getD i default).whn.getD j default).nod) := rfl;have hbd : nodKn n ((l.getD i default).whn.getD j default) = false -> knownR n (l.getD i default) = false := fun h => by
        rw [hkr];exact List.all_eq_false.2 ⟨_, getD_mem hj, by rw [h]; decide⟩
      (have:=NeI hj);(have:=NeI hj3);by_cases h4 : nodeIx n.nodes ((l.getD i default).whn.getD j default).nod < 0
      · rw [hit (hbd (by rw [ek, decide_eq_false (by omega)]))];generalize nodeIx n.nodes ((l.getD i default).whn.getD j default).nod = K at *
        (have:=NeI h4);clear g3 hit hkr hbd hs ek;(repeat' first|refine stW [0,1,3,4,5,6,7,13,23,31,45] ?_|refine fctI fun hf=>?_|refine twI (fun hc=>?_) fun hc=>?_);exact DVR
      · rw [ek, decide_eq_true (by omega)] at hs;generalize nodeIx n.nodes ((l.getD i default).whn.getD j default).nod = K at *
        (have:=NeI h4);clear g3 hit hkr hbd ek;(repeat' first|refine stW [0,1,3,4,5,6,7,13,23,31,45] ?_|refine fctI fun hf=>?_|refine twI (fun hc=>?_) fun hc=>?_);(refine lN [0] ?_);exact ⟨_, by omega, j + 1, by omega, rfl, hs, rfl, rfl⟩
    obtain rfl : j = (l.getD i default).whn.length := by omega
    have hj3 : ¬ (((l.getD i default).whn.length : Int) < ((l.getD i default).whn.length : Int)) := by omega
    rw [List.take_length, <- hkr] at k3;have hnx : ∀ j, j < i + 1 -> knownR n (l.getD j default) = true := fun j hj => by
      by_cases e : j = i
      · subst e; exact k3
      · exact g3 j (by omega)
    (have:=NeI hj3);clear g3 hit hkr;(repeat' first|refine stW [0,1,3,4,5,6,7,13,23,31,45] ?_|refine fctI fun hf=>?_|refine twI (fun hc=>?_) fun hc=>?_);(refine lN [0] ?_);exact ⟨_, by omega, i + 1, by omega, rfl, hnx, rfl, rfl⟩
  obtain rfl : i = l.length := by omega
  have hi3 : ¬ ((l.length : Int) < (l.length : Int)) := by omega
  rw [kn_all g3];(have:=NeI hi3);clear g3;(repeat' first|refine stW [0,1,3,4,5,6,7,13,23,31,45] ?_|refine fctI fun hf=>?_|refine twI (fun hc=>?_) fun hc=>?_);exact DVR
theorem rcopyD_f (s : Sta) (m : Nat) (hs : lenOk s) : Pu 17 [staD s] m (staD s) := by
  obtain ⟨h1, h2, h3, h4⟩ := hs;refine pcN 20 [.cell 2 31] [31] Tryz.func17 rfl [40, 72, 104, 136] ?_;(repeat' first|(show SWp _ _ _ (.region _ _ true) _ _ _ _;refine xG mixed [8, 16, 48, 80, 112] ?_)|refine stW [0,1,2] ?_|refine fctI fun hf=>?_|refine twI (fun hc=>?_) fun hc=>?_);exact DVR
theorem r44V_f (n : Net) (s : List Sect) (l : List Rule) (x : Sta) (m : Nat) (no : netOk n) (co : catOk s) (lo : rulOk l) (so : staOk x) : Pu 9 [netD n, sectL s, ruleL l, staD x] m (lb (netB n && staB n x && catB s && rulesB l)) := by
  have k1 := fun m => rNetValid_f n m no
  have k2 := fun m => rCat_f s m co
  have k3 := fun m => rRulesV_f l m lo
  cases hn : netB n <;> simp only [hn] at k1
  · rw [Bool.false_and, Bool.false_and, Bool.false_and];refine pcN 24 [.tmp 8] [4] Tryz.func9 rfl [] ?_;(repeat' first|refine stW [0,1,2,3,4,7,8] ?_|refine fctI fun hf=>?_|refine twI (fun hc=>?_) fun hc=>?_);exact DVR
  have k4 := fun m => rStaValid_f n x m hn so
  generalize catB s = y at *
  generalize rulesB l = w at *
  generalize staB n x = z at *
  refine pcN 24 [.tmp 8] [4] Tryz.func9 rfl [] ?_;(repeat' first|refine stW [0,1,2,3,4,7,8] ?_|refine fctI fun hf=>?_|refine twI (fun hc=>?_) fun hc=>?_);(refine DVQ ?_);refine lbC ?_;cases y <;> cases w <;> cases z <;> rfl

end Go.Proofs.YtefkhfkapnmikaaGreat
