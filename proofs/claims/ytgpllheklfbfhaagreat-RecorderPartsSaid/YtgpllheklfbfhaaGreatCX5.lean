/-
  Contracts of functions of the program, over the engine.
  No condition.
-/
import Derived.Test.YtgpllheklfbfhaaGreatCX1
import Derived.Test.YtgpllheklfbfhaaGreatCX0
namespace Go.Proofs.YtgpllheklfbfhaaGreat
open Go.Eng
set_option linter.all false
attribute [local irreducible] DCallsG SWp Fct CallQ XCallQ LCallQ XLCallQ drun xrun
set_option maxHeartbeats 64000000
set_option maxRecDepth 20000

theorem rvr_f (r : Rule) (m : Nat) (hr : ruleOk r) : Pu 76 [ruleD r] m (lb (ruleB r)) := by
  obtain ⟨h1, ⟨h2, h3⟩, h4, _⟩ := hr;have c1 := fun m => rName_f r.name m h1
  have c2 := fun m => rName_f r.lnk m h4
  have e : ruleB r = (nameB r.name && nameB r.lnk && decide (r.whn.length <= 20) && btwB r.setg 0 1000 && r.whn.all cndB) := rfl;rw [e];clear e;generalize nameB r.name = a at *
  generalize nameB r.lnk = b at *
  refine pcN 57 [.tmp 2] [4] Tryz.func76 rfl [] ?_;(repeat' first|refine stW [0,1,2,3,4,30,35,56] ?_|refine fctI fun hf=>?_|refine twI (fun hc=>?_) fun hc=>?_)
  · (refine DVQ ?_);refine lbC ?_;unfold btwB; grind
  have hX : (a && b && decide (r.whn.length <= 20) && btwB r.setg 0 1000) = true := by unfold btwB; grind
  rw [hX, Bool.true_and];clear c1 c2 hX hc;refine loop_swp [1, 3] [0] 232 (fun q A H => ∃ i : Nat, i <= r.whn.length /\ q = r.whn.length - i /\ (∀ j, j < i -> (!cndB (r.whn.getD j default)) = false) /\ A = [(1, .ptr 0 0), (3, li i)] /\ H = [(0, .blk 86 (ruleC r))]) (by omega) ?_ ?_ ?_
  · rintro q A H ⟨i, g1, g2, g3, rfl, rfl⟩;exact SDD
  · refine ⟨_, 0, by omega, rfl, by omega, ?_, ?_⟩
    · exact DVR
    · exact DVR
  rintro q A H ⟨i, g1, g2, g3, rfl, rfl⟩;by_cases hi : i < r.whn.length
  · have hi3 : (i : Int) < (r.whn.length : Int) := by omega
    have c4 := fun m => rName_f (r.whn.getD i default).nod m (h3 _ (getD_mem hi)).1
    have ec : cndB (r.whn.getD i default) = (nameB (r.whn.getD i default).nod && btwB (r.whn.getD i default).level (-4194304) 4194304) := rfl;have hbad : (!cndB (r.whn.getD i default)) = true -> r.whn.all cndB = false := fun h => List.all_eq_false.2 ⟨_, getD_mem hi, by rw [Bool.not_eq_true'] at h; rw [h]; decide⟩
    have hnx : (!cndB (r.whn.getD i default)) = false -> ∀ j, j < i + 1 -> (!cndB (r.whn.getD j default)) = false := fun h j hj => by
      by_cases e : j = i
      · subst e; exact h
      · exact g3 j (by omega)
    rw [ec] at hbad hnx;clear g3 ec;generalize nameB (r.whn.getD i default).nod = a at *
    (have:=NeI hi);(have:=NeI hi3);(repeat' first|refine stW [0,1,2,3,4,30,35,56] ?_|refine fctI fun hf=>?_|refine twI (fun hc=>?_) fun hc=>?_)
    · rw [hbad (by unfold btwB; clear hbad hnx c4; grind)];exact DVR
    · (refine lN [0] ?_);exact ⟨_, by omega, i + 1, by omega, rfl, hnx (by unfold btwB; clear hbad hnx c4; grind), rfl, rfl⟩
  obtain rfl : i = r.whn.length := by omega
  have hi3 : ¬ ((r.whn.length : Int) < (r.whn.length : Int)) := by omega
  have ht : r.whn.all cndB = true := by
    rw [<- not_all, any_no g3]; rfl
  rw [ht];(have:=NeI hi3);clear g3;(repeat' first|refine stW [0,1,2,3,4,30,35,56] ?_|refine fctI fun hf=>?_|refine twI (fun hc=>?_) fun hc=>?_);exact DVR
theorem rRulesV_f (l : List Rule) (m : Nat) (hl : rulOk l) : Pu 42 [ruleL l] m (lb (rulesB l)) := by
  obtain ⟨hl1, hl2⟩ := hl;by_cases h60 : (60 : Int) < (l.length : Int)
  · rw [show rulesB l = false by unfold rulesB; rw [decide_eq_false (by omega), Bool.false_and, Bool.false_and]];(have:=NeI h60);refine pcN 36 [.tmp 2] [4] Tryz.func42 rfl [] ?_;(repeat' first|refine stW [0,2,3,4,7,11,19,22,35] ?_|refine fctI fun hf=>?_|refine twI (fun hc=>?_) fun hc=>?_);exact DVR
  rw [rulesB_eq (by omega)];(have:=NeI h60);refine pcN 36 [.tmp 2] [4] Tryz.func42 rfl [] ?_;(repeat' first|refine stW [0,2,3,4,7,11,19,22,35] ?_|refine fctI fun hf=>?_|refine twI (fun hc=>?_) fun hc=>?_);refine loop_swp [0, 3] [] 40 (fun q A H => ∃ i : Nat, i <= l.length /\ q = l.length - i /\ (∀ j, j < i -> ruleB (l.getD j default) = true /\ hasB ((ruleNs l).take j) (l.getD j default).name = false) /\ A = [(0, ruleL l), (3, li i)] /\ H = []) (by omega) ?_ ?_ ?_
  · rintro q A H ⟨i, g1, g2, g3, rfl, rfl⟩;exact SDD
  · refine ⟨_, 0, by omega, rfl, by omega, ?_, ?_⟩
    · exact DVR
    · exact DVR
  rintro q A H ⟨i, g1, g2, g3, rfl, rfl⟩;by_cases hi : i < l.length
  · have hi3 : (i : Int) < (l.length : Int) := by omega
    have c1 := fun m => rvr_f (l.getD i default) m (hl2 _ (getD_mem hi))
    have hh := @rules_hit l i hi;have hnx : ruleB (l.getD i default) = true -> hasB ((ruleNs l).take i) (l.getD i default).name = false -> ∀ j, j < i + 1 -> ruleB (l.getD j default) = true /\ hasB ((ruleNs l).take j) (l.getD j default).name = false := fun h1 h2 j hj => by
      by_cases e : j = i
      · subst e; exact ⟨h1, h2⟩
      · exact g3 j (by omega)
    clear g3;(have:=NeI hi);(have:=NeI hi3);cases hv : ruleB (l.getD i default) <;> simp only [hv] at c1
    · rw [hh (.inl hv)];clear hnx hh;(repeat' first|refine stW [0,2,3,4,7,11,19,22,35] ?_|refine fctI fun hf=>?_|refine twI (fun hc=>?_) fun hc=>?_);exact DVR
    replace hnx := hnx hv
    replace hh := fun h => hh (.inr h)
    (repeat' first|refine stW [0,2,3,4,7,11,19,22,35] ?_|refine fctI fun hf=>?_|refine twI (fun hc=>?_) fun hc=>?_);refine loop_swp [0, 3, 4] [] 128 (fun q A H => ∃ j : Nat, j <= i /\ q = i - j /\ hasB ((ruleNs l).take j) (l.getD i default).name = false /\ A = [(0, ruleL l), (3, li i), (4, li j)] /\ H = []) (by omega) ?_ ?_ ?_
    · rintro q A H ⟨j, k1, k2, k3, rfl, rfl⟩;exact SDD
    · refine ⟨_, 0, by omega, rfl, rfl, ?_, ?_⟩
      · exact DVR
      · exact DVR
    rintro q A H ⟨j, k1, k2, k3, rfl, rfl⟩;by_cases hj : j < i
    · have hj3 : (j : Int) < (i : Int) := by omega
      have hj2 : j < l.length := by omega
      have hj4 : (j : Int) < (l.length : Int) := by omega
      have hs := hasB_suc (l := ruleNs l) (s := (l.getD i default).name) (i := j) (by rw [ruleNs_len]; exact hj2);rw [k3, Bool.false_or, ruleNs_at l hj2] at hs;(have:=NeI hj3);(have:=NeI hj2);(have:=NeI hj4);by_cases e : (l.getD j default).name = (l.getD i default).name
      · have hd : hasB ((ruleNs l).take i) (l.getD i default).name = true := by
          refine hasB_mem.2 ?_;rw [<- e, <- ruleNs_at l hj2];exact List.mem_iff_getElem.2 ⟨j, by rw [List.length_take, ruleNs_len]; omega, by rw [List.getElem_take, List.getD_eq_getElem?_getD, List.getElem?_eq_getElem (by rw [ruleNs_len]; exact hj2)]; rfl⟩
        rw [hh hd];(have:=NeI e);clear hnx hh;(repeat' first|refine stW [0,2,3,4,7,11,19,22,35] ?_|refine fctI fun hf=>?_|refine twI (fun hc=>?_) fun hc=>?_);exact DVR
      · (have:=NeI e);rw [decide_eq_false e] at hs;clear hnx hh;(repeat' first|refine stW [0,2,3,4,7,11,19,22,35] ?_|refine fctI fun hf=>?_|refine twI (fun hc=>?_) fun hc=>?_);(refine lN [] ?_);exact ⟨_, by omega, j + 1, by omega, rfl, hs, rfl, rfl⟩
    obtain rfl : j = i := by omega
    have hj3 : ¬ ((j : Int) < (j : Int)) := by omega
    replace hnx := hnx k3
    (have:=NeI hj3);(repeat' first|refine stW [0,2,3,4,7,11,19,22,35] ?_|refine fctI fun hf=>?_|refine twI (fun hc=>?_) fun hc=>?_);(refine lN [] ?_);exact ⟨_, by omega, j + 1, by omega, rfl, hnx, rfl, rfl⟩
  obtain rfl : i = l.length := by omega
  have hi3 : ¬ ((l.length : Int) < (l.length : Int)) := by omega
  rw [rules_all g3];(have:=NeI hi3);clear g3;(repeat' first|refine stW [0,2,3,4,7,11,19,22,35] ?_|refine fctI fun hf=>?_|refine twI (fun hc=>?_) fun hc=>?_);exact DVR
theorem r44V_f (n : Net) (s : List Sect) (l : List Rule) (x : Sta) (m : Nat) (no : netOk n) (co : catOk s) (lo : rulOk l) (so : staOk x) : Pu 10 [netD n, sectL s, ruleL l, staD x] m (lb (netB n && staB n x && catB s && rulesB l)) := by
  have k1 := fun m => rNetValid_f n m no
  have k2 := fun m => rCat_f s m co
  have k3 := fun m => rRulesV_f l m lo
  cases hn : netB n <;> simp only [hn] at k1
  · rw [Bool.false_and, Bool.false_and, Bool.false_and];refine pcN 24 [.tmp 8] [4] Tryz.func10 rfl [] ?_;(repeat' first|refine stW [0,1,2,3,4,7,8] ?_|refine fctI fun hf=>?_|refine twI (fun hc=>?_) fun hc=>?_);exact DVR
  have k4 := fun m => rStaValid_f n x m hn so
  generalize catB s = y at *
  generalize rulesB l = w at *
  generalize staB n x = z at *
  refine pcN 24 [.tmp 8] [4] Tryz.func10 rfl [] ?_;(repeat' first|refine stW [0,1,2,3,4,7,8] ?_|refine fctI fun hf=>?_|refine twI (fun hc=>?_) fun hc=>?_);(refine DVQ ?_);refine lbC ?_;cases y <;> cases w <;> cases z <;> rfl

end Go.Proofs.YtgpllheklfbfhaaGreat
