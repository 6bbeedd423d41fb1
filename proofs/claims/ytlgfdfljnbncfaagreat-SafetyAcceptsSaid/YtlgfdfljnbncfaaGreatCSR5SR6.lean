/-
  Contracts of functions of the program, over the engine.
  No condition.
-/
import Derived.Test.YtlgfdfljnbncfaaGreatCSR4SZ2
namespace Go.Proofs.YtlgfdfljnbncfaaGreat
open Go.Eng
set_option linter.all false
attribute [local irreducible] DCallsG SWp Fct CallQ XCallQ LCallQ XLCallQ drun xrun
set_option maxHeartbeats 64000000

def accB (n : Net) (c : List Sect) (l : List Rule) (sec : Int) : Bool :=
  (netB n && catB c && rulesB l) && l.all (knownR n) && (decide (1 <= sec) && decide (sec <= 86400)) && n.nodes.all fun x => !x.prot || (decide (safE n c l x.name sec = 0) && safeI (safM n c l x.name sec) (safS n l x.name))
set_option maxRecDepth 20000 in
theorem rStep_f {n : Net} {c a : List Sect} {l : List Rule} {t : ByteArray} (K : TankIn n c l t a) (k : Int) (m : Nat) (hk : IsStep (stpP n c l t) k) :
    Pu 36 [netD n, sectL c, ruleL l, li (nodeIx n.nodes t)] m (li k) := by
  have k2 := fun s q m => rLeast_f K s m q
  have anti : ∀ x y, x <= y -> stpP n c l t y = true -> stpP n c l t x = true := fun x y hxy q => K.safe_anti hxy q
  have hsf : ∀ s, stpP n c l t s = decide (0 <= leastM (safM n c l t s) (safS n l t)) := fun s => safe_iff (safS_ne n l t)
  obtain ⟨u1, u2, u3⟩ := hk;generalize stpP n c l t = p at *
  generalize nodeIx n.nodes t = ix at *
  clear K;refine pcN 36 [.tmp 8] [3] Tryz.func36 rfl [] ?_;(repeat' first|refine stW [0,1,2,3,4,8,9,10,11,12,17,32] ?_|refine fctI fun hf=>?_|refine twI (fun hc=>?_) fun hc=>?_);refine loop_swp [1, 2, 3, 4, 9, 10] [0] 32 (fun q A H => ∃ x y : Int, 0 <= x /\ x <= k /\ k < y /\ y <= 86401 /\ q = (y - x).toNat /\ A = [(1, sectL c), (2, ruleL l), (3, li ix), (4, .ptr 0 0), (9, li x), (10, li y)] /\ H = [(0, .blk 25 (netC n))]) (by omega) ?_ ?_ ?_
  · rintro q A H ⟨x, y, g1, g2, g3, g4, g5, rfl, rfl⟩;exact SDD
  · refine ⟨_, 0, 86401, by omega, by omega, by omega, by omega, rfl, ?_, ?_⟩
    · exact DVR
    · exact DVR
  rintro q A H ⟨x, y, g1, g2, g3, g4, g5, rfl, rfl⟩;by_cases hxy : 1 < y - x
  · have hz : ∃ z, z = (x + y) / 2 := ⟨_, rfl⟩;obtain ⟨z, hz⟩ := hz;have hdv : (x + y).tdiv 2 = z := by rw [hz]; exact Int.tdiv_eq_ediv_of_nonneg (by omega)
    have c2 := fun m => k2 z (by omega) m
    have hpz := hsf z;generalize leastM (safM n c l t z) (safS n l t) = V at *
    generalize atI (safM n c l t z) (safS n l t) = B at *
    (have:=NeI hxy);clear k2 hsf;by_cases hV : 0 <= V
    · rw [decide_eq_true hV] at hpz;have hkz : z <= k := by
        rcases u3 with u3 | u3
        · omega
        · by_cases q : k < z
          · have := anti (k + 1) z (by omega) hpz;rw [u3] at this; cases this
          · omega
      (have:=NeI hV);(repeat' first|(show SWp _ _ _ (.seq (.region 4 _ _) _) _ _ _ _;refine (stop_in ?_))|refine stW [0,1,2,3,4,8,9,10,11,12,17,32] ?_|refine fctI fun hf=>?_|refine twI (fun hc=>?_) fun hc=>?_);refine stop_out ?_;rw [hdv];(repeat' first|refine stW [0,1,2,3,4,8,9,10,11,12,17,32] ?_|refine fctI fun hf=>?_|refine twI (fun hc=>?_) fun hc=>?_);(refine lN [0] ?_);exact ⟨_, by omega, z, y, by omega, by omega, by omega, by omega, rfl, rfl, rfl⟩
    · rw [decide_eq_false hV] at hpz;have hkz : k < z := by
        by_cases q : z <= k
        · have hk0 : k ≠ 0 := by omega
          have := anti z k q (u2.resolve_left hk0);rw [hpz] at this; cases this
        · omega
      (have:=NeI hV);(repeat' first|(show SWp _ _ _ (.seq (.region 4 _ _) _) _ _ _ _;refine (stop_in ?_))|refine stW [0,1,2,3,4,8,9,10,11,12,17,32] ?_|refine fctI fun hf=>?_|refine twI (fun hc=>?_) fun hc=>?_);refine stop_out ?_;rw [hdv];(repeat' first|refine stW [0,1,2,3,4,8,9,10,11,12,17,32] ?_|refine fctI fun hf=>?_|refine twI (fun hc=>?_) fun hc=>?_);(refine lN [0] ?_);exact ⟨_, by omega, x, z, by omega, by omega, by omega, by omega, rfl, rfl, rfl⟩
  obtain rfl : x = k := by omega
  (have:=NeI hxy);clear k2 hsf;(repeat' first|refine stW [0,1,2,3,4,8,9,10,11,12,17,32] ?_|refine fctI fun hf=>?_|refine twI (fun hc=>?_) fun hc=>?_);exact DVR
def accN (n : Net) (c : List Sect) (l : List Rule) (sec : Int) (x : Node) : Bool := !x.prot || (decide (safE n c l x.name sec = 0) && safeI (safM n c l x.name sec) (safS n l x.name))
theorem prot_tank {x : Node} (h : nodeR x = true) (hp : x.prot = true) : x.kind = 2 := by
  unfold nodeR at h;simp only [Bool.and_eq_true] at h;have h2 := h.2;unfold kindB at h2;split at h2
  · next k =>
    rcases k with k | k
    · simp only [Bool.and_eq_true, k, hp] at h2;simp at h2
    · exact k
  · split at h2
    · simp only [Bool.and_eq_true, hp] at h2;simp at h2
    · cases h2
set_option maxRecDepth 20000 in
theorem Accepted_f (n : Net) (c : List Sect) (l : List Rule) (sec : Int) (m : Nat) (no : netOk n) (co : catOk c) (lo : rulOk l) :
    Pu 33 [netD n, sectL c, ruleL l, li sec] m (lb (accB n c l sec)) := by
  have k1 := fun m => netValid_f n m no
  have k2 := fun m => cat_f c m co
  have k3 := fun m => rulesV_f l m lo
  have k5 := fun m => tright_f sec m
  change ∀ m, DCalls _ _ _ _ _ (lb (decide (1 <= sec) && decide (sec <= 86400))) _ at k5;unfold accB;cases nb : netB n <;> simp only [nb] at k1
  · rw [Bool.false_and, Bool.false_and, Bool.false_and, Bool.false_and, Bool.false_and];refine pcN 70 [.tmp 8] [4] Tryz.func33 rfl [] ?_;(repeat' first|refine stW [0,1,2,3,4,8,10,11,13,37,39,40,41,42,51,68] ?_|refine fctI fun hf=>?_|refine twI (fun hc=>?_) fun hc=>?_);exact DVR
  cases cb : catB c <;> simp only [cb] at k2
  · rw [Bool.and_false, Bool.false_and, Bool.false_and, Bool.false_and, Bool.false_and];refine pcN 70 [.tmp 8] [4] Tryz.func33 rfl [] ?_;(repeat' first|refine stW [0,1,2,3,4,8,10,11,13,37,39,40,41,42,51,68] ?_|refine fctI fun hf=>?_|refine twI (fun hc=>?_) fun hc=>?_);exact DVR
  cases rb : rulesB l <;> simp only [rb] at k3
  · rw [Bool.and_false, Bool.false_and, Bool.false_and, Bool.false_and];refine pcN 70 [.tmp 8] [4] Tryz.func33 rfl [] ?_;(repeat' first|refine stW [0,1,2,3,4,8,10,11,13,37,39,40,41,42,51,68] ?_|refine fctI fun hf=>?_|refine twI (fun hc=>?_) fun hc=>?_);exact DVR
  have k4 := fun m => suits_f l n m lo no nb
  cases hk : l.all (knownR n) <;> simp only [hk] at k4
  · rw [Bool.and_false, Bool.false_and, Bool.false_and];refine pcN 70 [.tmp 8] [4] Tryz.func33 rfl [] ?_;(repeat' first|refine stW [0,1,2,3,4,8,10,11,13,37,39,40,41,42,51,68] ?_|refine fctI fun hf=>?_|refine twI (fun hc=>?_) fun hc=>?_);exact DVR
  cases hs : (decide (1 <= sec) && decide (sec <= 86400)) <;> simp only [hs] at k5
  · rw [Bool.and_false, Bool.false_and];refine pcN 70 [.tmp 8] [4] Tryz.func33 rfl [] ?_;(repeat' first|refine stW [0,1,2,3,4,8,10,11,13,37,39,40,41,42,51,68] ?_|refine fctI fun hf=>?_|refine twI (fun hc=>?_) fun hc=>?_);exact DVR
  rw [show (true && true && true && true && true) = true from rfl, Bool.true_and];obtain ⟨h300, h400⟩ := netB_len nb;have ni := (netB_iff n).1 nb;show Pu 33 [netD n, sectL c, ruleL l, li sec] m (lb (n.nodes.all (accN n c l sec)));refine pcN 70 [.tmp 8] [4] Tryz.func33 rfl [] ?_;(repeat' first|refine stW [0,1,2,3,4,8,10,11,13,37,39,40,41,42,51,68] ?_|refine fctI fun hf=>?_|refine twI (fun hc=>?_) fun hc=>?_);refine loop_swp [1, 2, 3, 4, 39, 40, 41] [0] 240 (fun q A H => ∃ i : Nat, i <= n.nodes.length /\ q = n.nodes.length - i /\ (∀ j, j < i -> accN n c l sec (n.nodes.getD j default) = true) /\ A = [(1, sectL c), (2, ruleL l), (3, li sec), (4, .ptr 0 0), (39, nodeL n.nodes), (40, li n.nodes.length), (41, li i)] /\ H = [(0, .blk 25 (netC n))]) (by omega) ?_ ?_ ?_
  · rintro q A H ⟨i, g1, g2, g3, rfl, rfl⟩;exact SDD
  · refine ⟨_, 0, by omega, rfl, by omega, ?_, ?_⟩
    · exact DVR
    · exact DVR
  rintro q A H ⟨i, g1, g2, g3, rfl, rfl⟩;by_cases hi : i < n.nodes.length
  · have hi3 : (i : Int) < (n.nodes.length : Int) := by omega
    have k6 := fun m => Safe_f n c l (n.nodes.getD i default).name sec m no co lo
    have hst := all_stop (p := accN n c l sec) hi;have hnx : accN n c l sec (n.nodes.getD i default) = true -> ∀ j, j < i + 1 -> accN n c l sec (n.nodes.getD j default) = true := fun h j hj => by
      by_cases e : j = i
      · subst e; exact h
      · exact g3 j (by omega)
    have hpk := prot_tank (ni.nr _ (mem_getD hi));have hdef : accN n c l sec (n.nodes.getD i default) = (!(n.nodes.getD i default).prot || (decide (safE n c l (n.nodes.getD i default).name sec = 0) && safeI (safM n c l (n.nodes.getD i default).name sec) (safS n l (n.nodes.getD i default).name))) := rfl;clear g3 k1 k2 k3 k4 k5;(have:=NeI hi);(have:=NeI hi3);cases hp : (n.nodes.getD i default).prot <;> rw [hp] at hdef
    · rw [Bool.not_false, Bool.true_or] at hdef
      replace hnx := hnx hdef
      haveI : ProtAt (n.nodes.getD i default) false := ⟨hp⟩;clear hst hpk k6 hdef;by_cases hkk : (n.nodes.getD i default).kind = 2
      · (have:=NeI hkk);(repeat' first|refine stW [0,1,2,3,4,8,10,11,13,37,39,40,41,42,51,68] ?_|refine fctI fun hf=>?_|refine twI (fun hc=>?_) fun hc=>?_);(refine lN [0] ?_);exact ⟨_, by omega, i + 1, by omega, rfl, hnx, rfl, rfl⟩
      · (have:=NeI hkk);(repeat' first|refine stW [0,1,2,3,4,8,10,11,13,37,39,40,41,42,51,68] ?_|refine fctI fun hf=>?_|refine twI (fun hc=>?_) fun hc=>?_);(refine lN [0] ?_);exact ⟨_, by omega, i + 1, by omega, rfl, hnx, rfl, rfl⟩
    have hkk := hpk hp;haveI : ProtAt (n.nodes.getD i default) true := ⟨hp⟩;rw [Bool.not_true, Bool.false_or] at hdef;(have:=NeI hkk);by_cases hE : safE n c l (n.nodes.getD i default).name sec = 0
    · rw [decide_eq_true hE, Bool.true_and] at hdef;rw [show safR n c l (n.nodes.getD i default).name sec = _ from if_pos hE, hE] at k6;generalize safeI (safM n c l (n.nodes.getD i default).name sec) (safS n l (n.nodes.getD i default).name) = ok at *
      generalize atI (safM n c l (n.nodes.getD i default).name sec) (safS n l (n.nodes.getD i default).name) = B at *
      cases ok
      · rw [hst hdef];clear hst hnx hdef;(repeat' first|refine stW [0,1,2,3,4,8,10,11,13,37,39,40,41,42,51,68] ?_|refine fctI fun hf=>?_|refine twI (fun hc=>?_) fun hc=>?_);exact DVR
      · replace hnx := hnx hdef
        clear hst hdef;(repeat' first|refine stW [0,1,2,3,4,8,10,11,13,37,39,40,41,42,51,68] ?_|refine fctI fun hf=>?_|refine twI (fun hc=>?_) fun hc=>?_);(refine lN [0] ?_);exact ⟨_, by omega, i + 1, by omega, rfl, hnx, rfl, rfl⟩
    · rw [decide_eq_false hE, Bool.false_and] at hdef;rw [hst hdef];rw [show safR n c l (n.nodes.getD i default).name sec = _ from if_neg hE] at k6;generalize safE n c l (n.nodes.getD i default).name sec = E at *
      (have:=NeI hE);clear hst hnx hdef;(repeat' first|refine stW [0,1,2,3,4,8,10,11,13,37,39,40,41,42,51,68] ?_|refine fctI fun hf=>?_|refine twI (fun hc=>?_) fun hc=>?_);exact DVR
  obtain rfl : i = n.nodes.length := by omega
  have hi3 : ¬ ((n.nodes.length : Int) < (n.nodes.length : Int)) := by omega
  rw [all_go g3];(have:=NeI hi3);clear g3 k1 k2 k3 k4 k5;(repeat' first|refine stW [0,1,2,3,4,8,10,11,13,37,39,40,41,42,51,68] ?_|refine fctI fun hf=>?_|refine twI (fun hc=>?_) fun hc=>?_);exact DVR
set_option maxRecDepth 20000 in
theorem rAccepted_f (n : Net) (c : List Sect) (l : List Rule) (sec : Int) (m : Nat) (no : netOk n) (co : catOk c) (lo : rulOk l) :
    Pu 34 [netD n, sectL c, ruleL l, li sec] m (lb (accB n c l sec)) := by
  have k1 := fun m => rNetValid_f n m no
  have k2 := fun m => rCat_f c m co
  have k3 := fun m => rRulesV_f l m lo
  unfold accB;cases nb : netB n <;> simp only [nb] at k1
  · rw [Bool.false_and, Bool.false_and, Bool.false_and, Bool.false_and, Bool.false_and];refine pcN 82 [.tmp 8] [4] Tryz.func34 rfl [] ?_;(repeat' first|refine stW [0,1,2,3,4,8,9,11,12,40,45,54,70,81] ?_|refine fctI fun hf=>?_|refine twI (fun hc=>?_) fun hc=>?_);exact DVR
  cases cb : catB c <;> simp only [cb] at k2
  · rw [Bool.and_false, Bool.false_and, Bool.false_and, Bool.false_and, Bool.false_and];refine pcN 82 [.tmp 8] [4] Tryz.func34 rfl [] ?_;(repeat' first|refine stW [0,1,2,3,4,8,9,11,12,40,45,54,70,81] ?_|refine fctI fun hf=>?_|refine twI (fun hc=>?_) fun hc=>?_);exact DVR
  cases rb : rulesB l <;> simp only [rb] at k3
  · rw [Bool.and_false, Bool.false_and, Bool.false_and, Bool.false_and];refine pcN 82 [.tmp 8] [4] Tryz.func34 rfl [] ?_;(repeat' first|refine stW [0,1,2,3,4,8,9,11,12,40,45,54,70,81] ?_|refine fctI fun hf=>?_|refine twI (fun hc=>?_) fun hc=>?_);exact DVR
  obtain ⟨h300, h400⟩ := netB_len nb;have k4 := fun m => rKnown_f l n m lo no (by omega)
  cases hk : l.all (knownR n) <;> simp only [hk] at k4
  · rw [Bool.and_false, Bool.false_and, Bool.false_and];refine pcN 82 [.tmp 8] [4] Tryz.func34 rfl [] ?_;(repeat' first|refine stW [0,1,2,3,4,8,9,11,12,40,45,54,70,81] ?_|refine fctI fun hf=>?_|refine twI (fun hc=>?_) fun hc=>?_);exact DVR
  by_cases s1 : sec < 1
  · rw [decide_eq_false (show ¬ 1 <= sec by omega), Bool.false_and, Bool.and_false, Bool.false_and];(have:=NeI s1);refine pcN 82 [.tmp 8] [4] Tryz.func34 rfl [] ?_;(repeat' first|refine stW [0,1,2,3,4,8,9,11,12,40,45,54,70,81] ?_|refine fctI fun hf=>?_|refine twI (fun hc=>?_) fun hc=>?_);exact DVR
  by_cases s2 : 86400 < sec
  · rw [decide_eq_false (show ¬ sec <= 86400 by omega), Bool.and_false, Bool.and_false, Bool.false_and];(have:=NeI s1);(have:=NeI s2);refine pcN 82 [.tmp 8] [4] Tryz.func34 rfl [] ?_;(repeat' first|refine stW [0,1,2,3,4,8,9,11,12,40,45,54,70,81] ?_|refine fctI fun hf=>?_|refine twI (fun hc=>?_) fun hc=>?_);exact DVR
  rw [decide_eq_true (show 1 <= sec by omega), decide_eq_true (show sec <= 86400 by omega), show (true && true && true && true && (true && true)) = true from rfl, Bool.true_and];have ni := (netB_iff n).1 nb;show Pu 34 [netD n, sectL c, ruleL l, li sec] m (lb (n.nodes.all (accN n c l sec)));(have:=NeI s1);(have:=NeI s2);refine pcN 82 [.tmp 8] [4] Tryz.func34 rfl [] ?_;(repeat' first|refine stW [0,1,2,3,4,8,9,11,12,40,45,54,70,81] ?_|refine fctI fun hf=>?_|refine twI (fun hc=>?_) fun hc=>?_);refine loop_swp [1, 2, 3, 4, 9] [0] 240 (fun q A H => ∃ i : Nat, i <= n.nodes.length /\ q = n.nodes.length - i /\ (∀ j, j < i -> accN n c l sec (n.nodes.getD j default) = true) /\ A = [(1, sectL c), (2, ruleL l), (3, li sec), (4, .ptr 0 0), (9, li i)] /\ H = [(0, .blk 25 (netC n))]) (by omega) ?_ ?_ ?_
  · rintro q A H ⟨i, g1, g2, g3, rfl, rfl⟩;exact SDD
  · refine ⟨_, 0, by omega, rfl, by omega, ?_, ?_⟩
    · exact DVR
    · exact DVR
  rintro q A H ⟨i, g1, g2, g3, rfl, rfl⟩;by_cases hi : i < n.nodes.length
  · have hi3 : (i : Int) < (n.nodes.length : Int) := by omega
    have k6 := fun m => rCheck_f n c l (n.nodes.getD i default).name sec m no co lo
    have hst := all_stop (p := accN n c l sec) hi;have hnx : accN n c l sec (n.nodes.getD i default) = true -> ∀ j, j < i + 1 -> accN n c l sec (n.nodes.getD j default) = true := fun h j hj => by
      by_cases e : j = i
      · subst e; exact h
      · exact g3 j (by omega)
    have hix : nodeIx n.nodes (n.nodes.getD i default).name = (i : Int) := (idx_nodup Node.name n.nodes).2 ni.nu i hi;have hdef : accN n c l sec (n.nodes.getD i default) = (!(n.nodes.getD i default).prot || (decide (safE n c l (n.nodes.getD i default).name sec = 0) && safeI (safM n c l (n.nodes.getD i default).name sec) (safS n l (n.nodes.getD i default).name))) := rfl;clear g3 k1 k2 k3 k4;(have:=NeI hi);(have:=NeI hi3);cases hp : (n.nodes.getD i default).prot <;> rw [hp] at hdef
    · rw [Bool.not_false, Bool.true_or] at hdef
      replace hnx := hnx hdef
      haveI : ProtAt (n.nodes.getD i default) false := ⟨hp⟩;clear hst k6 hdef;(repeat' first|refine stW [0,1,2,3,4,8,9,11,12,40,45,54,70,81] ?_|refine fctI fun hf=>?_|refine twI (fun hc=>?_) fun hc=>?_);(refine lN [0] ?_);exact ⟨_, by omega, i + 1, by omega, rfl, hnx, rfl, rfl⟩
    haveI : ProtAt (n.nodes.getD i default) true := ⟨hp⟩;rw [Bool.not_true, Bool.false_or] at hdef;by_cases hE : safE n c l (n.nodes.getD i default).name sec = 0
    · rw [decide_eq_true hE, Bool.true_and] at hdef;obtain ⟨hs, a, K⟩ := safE_in no co lo hE;have k7 := fun m => rLeast_f K sec m hs
      have hsi := safe_iff (M := safM n c l (n.nodes.getD i default).name sec) (safS_ne n l (n.nodes.getD i default).name);rw [hdef] at hst hnx;rw [hsi] at hst hnx;rw [if_pos hE, hE, hix] at k6;rw [hix] at k7;clear hdef hsi K;generalize leastM (safM n c l (n.nodes.getD i default).name sec) (safS n l (n.nodes.getD i default).name) = V at *
      generalize atI (safM n c l (n.nodes.getD i default).name sec) (safS n l (n.nodes.getD i default).name) = B at *
      by_cases hV : V < 0
      · rw [hst (decide_eq_false (by omega))];clear hst hnx;(have:=NeI hV);(repeat' first|refine stW [0,1,2,3,4,8,9,11,12,40,45,54,70,81] ?_|refine fctI fun hf=>?_|refine twI (fun hc=>?_) fun hc=>?_);exact DVR
      · replace hnx := hnx (decide_eq_true (by omega))
        clear hst;(have:=NeI hV);(repeat' first|refine stW [0,1,2,3,4,8,9,11,12,40,45,54,70,81] ?_|refine fctI fun hf=>?_|refine twI (fun hc=>?_) fun hc=>?_);(refine lN [0] ?_);exact ⟨_, by omega, i + 1, by omega, rfl, hnx, rfl, rfl⟩
    · rw [decide_eq_false hE, Bool.false_and] at hdef;rw [hst hdef];rw [if_neg hE] at k6;generalize safE n c l (n.nodes.getD i default).name sec = E at *
      (have:=NeI hE);clear hst hnx hdef;(repeat' first|refine stW [0,1,2,3,4,8,9,11,12,40,45,54,70,81] ?_|refine fctI fun hf=>?_|refine twI (fun hc=>?_) fun hc=>?_);exact DVR
  obtain rfl : i = n.nodes.length := by omega
  have hi3 : ¬ ((n.nodes.length : Int) < (n.nodes.length : Int)) := by omega
  rw [all_go g3];(have:=NeI hi3);clear g3 k1 k2 k3 k4;(repeat' first|refine stW [0,1,2,3,4,8,9,11,12,40,45,54,70,81] ?_|refine fctI fun hf=>?_|refine twI (fun hc=>?_) fun hc=>?_);exact DVR

end Go.Proofs.YtlgfdfljnbncfaaGreat
