/-
  Contracts of functions of the program, over the engine.
  No condition.
-/
import Derived.Test.YtlgfdfljnbncfaaGreatCU8
import Derived.Test.YtlgfdfljnbncfaaGreatCU9
namespace Go.Proofs.YtlgfdfljnbncfaaGreat
open Go.Eng
set_option linter.all false
attribute [local irreducible] DCallsG SWp Fct CallQ XCallQ LCallQ XLCallQ drun xrun
set_option maxHeartbeats 64000000

set_option maxRecDepth 20000 in
theorem rLeast_f {n : Net} {c a : List Sect} {l : List Rule} {t : ByteArray} (K : TankIn n c l t a) (sec : Int) (m : Nat) (hs : 1 <= sec /\ sec <= 86400) :
    Pu 21 [netD n, sectL c, ruleL l, li (nodeIx n.nodes t), li sec] m (.tup [li (leastM (safM n c l t sec) (safS n l t)), li (atI (safM n c l t sec) (safS n l t))]) := by
  obtain ⟨h300, h400⟩ := netB_len K.nb;obtain ⟨e1, e2, e3, e4, e5⟩ := tankE_in K.te;have hlt := nix_lt n.nodes t;have hfi := K.fi;have c1 := fun m => rStarts_f l (nodeA n t) m K.lo K.nr ⟨K.rs.1, K.rs.2.1⟩ e5
  change ∀ m, DCalls _ _ _ _ _ (ints (safS n l t)) _ at c1;have hm := fun h q1 q2 m => rMargin_f K h sec m q1 q2 hs
  have hst := fun h => K.stm (h := h)
  rw [K.sta] at hst;have hsl : (safS n l t).length <= 1048576 := by have := K.stl; rwa [K.sta] at this
  have hne : 0 < (safS n l t).length := Nat.succ_pos _;obtain ⟨p, hp⟩ : ∃ p : Nat, nodeIx n.nodes t = (p : Int) := ⟨_, (Int.toNat_of_nonneg e2).symm⟩;have hpl : p < n.nodes.length := by omega
  have hpl3 : (p : Int) < (n.nodes.length : Int) := by omega
  rw [hp] at hm ⊢;rw [nodeA_at hp] at c1 hm hst hfi;have hmm : ∀ i, i < (safS n l t).length -> ∀ m, Pu 75 [netD n, sectL c, ruleL l, li p, li ((safS n l t).getD i default), li sec] m (li (safM n c l t sec ((safS n l t).getD i default))) := fun i hi m => by
    have q := hst _ (mem_getD hi);exact hm _ (by omega) q.2 m
  generalize safS n l t = ST at *
  generalize safM n c l t sec = M at *
  have hit := @atI_hit M ST;(have:=NeI hpl);(have:=NeI hpl3);clear hm hst K hlt hp;refine pcN 61 [.tmp 10,.tmp 11] [3,3] Tryz.func21 rfl [] ?_;(repeat' first|refine stW [0,1,2,3,4,5,10,11,12,13,14,15,16,17,28,47,54] ?_|refine fctI fun hf=>?_|refine twI (fun hc=>?_) fun hc=>?_);refine loop_swp [1, 2, 3, 4, 5, 12, 13, 14, 15, 16] [0] 120 (fun q A H => ∃ (i : Nat) (L B : Int) (F : Bool), i <= ST.length /\ q = ST.length - i /\ (0 < i -> L = leastM M (ST.take i)) /\ (F = false -> B = 0 /\ ∀ j, j < i -> 0 <= M (ST.getD j default)) /\ (F = true -> B = atI M ST) /\ A = [(1, sectL c), (2, ruleL l), (3, li p), (4, li sec), (5, .ptr 0 0), (12, ints ST), (13, li L), (14, li B), (15, lb F), (16, li i)] /\ H = [(0, .blk 25 (netC n))]) (by omega) ?_ ?_ ?_
  · rintro q A H ⟨i, L, B, F, g1, g2, g3, g4, g5, rfl, rfl⟩;exact SDD
  · refine ⟨_, 0, 0, 0, false, by omega, rfl, by omega, fun _ => ⟨rfl, by omega⟩, fun e => (Bool.noConfusion e), ?_, ?_⟩
    · exact DVR
    · exact DVR
  rintro q A H ⟨i, L, B, F, g1, g2, g3, g4, g5, rfl, rfl⟩;by_cases hi : i < ST.length
  · have hi3 : (i : Int) < (ST.length : Int) := by omega
    have c2 := fun m => hmm i hi m
    have hL : leastM M (ST.take (i + 1)) = if i = 0 ∨ M (ST.getD i default) < L then M (ST.getD i default) else L := by
      by_cases h0 : i = 0
      · subst h0;rw [if_pos (.inl rfl)];unfold leastM;rw [take_snocD hi]; rfl
      · obtain ⟨j, rfl⟩ : ∃ j, i = j + 1 := ⟨i - 1, by omega⟩;rw [leastK_next hi, <- g3 (by omega)];by_cases q : M (ST.getD (j + 1) default) < L
        · rw [if_pos (.inr q)]; omega
        · rw [if_neg (by omega)]; omega
    have hfl : F = false -> M (ST.getD i default) < 0 -> ST.getD i default = atI M ST := fun f e => ((hit hi (g4 f).2 e).1).symm
    have hgo : F = false -> ¬ M (ST.getD i default) < 0 -> ∀ j, j < i + 1 -> 0 <= M (ST.getD j default) := fun f e j hj => by
      by_cases q : j = i
      · subst q; omega
      · exact (g4 f).2 j (by omega)
    have hB := fun f => (g4 f).1
    clear hmm hit g3 g4 c1;generalize M (ST.getD i default) = V at *
    (have:=NeI hi);(have:=NeI hi3);by_cases h0 : (i : Int) = 0
    · rw [if_pos (.inl (by omega))] at hL;(have:=NeI h0);by_cases hV : V < 0
      · (have:=NeI hV);cases F
        · have hq := hfl rfl hV;(repeat' first|refine stW [0,1,2,3,4,5,10,11,12,13,14,15,16,17,28,47,54] ?_|refine fctI fun hf=>?_|refine twI (fun hc=>?_) fun hc=>?_);(refine lN [0] ?_);exact ⟨_, by omega, i + 1, _, _, true, by omega, rfl, fun _ => hL.symm, fun e => (Bool.noConfusion e), fun _ => hq, rfl, rfl⟩
        · (repeat' first|refine stW [0,1,2,3,4,5,10,11,12,13,14,15,16,17,28,47,54] ?_|refine fctI fun hf=>?_|refine twI (fun hc=>?_) fun hc=>?_);(refine lN [0] ?_);exact ⟨_, by omega, i + 1, _, _, true, by omega, rfl, fun _ => hL.symm, fun e => (Bool.noConfusion e), g5, rfl, rfl⟩
      · (have:=NeI hV);cases F
        · have hq := hgo rfl hV;have hb0 := hB rfl;(repeat' first|refine stW [0,1,2,3,4,5,10,11,12,13,14,15,16,17,28,47,54] ?_|refine fctI fun hf=>?_|refine twI (fun hc=>?_) fun hc=>?_);(refine lN [0] ?_);exact ⟨_, by omega, i + 1, _, _, false, by omega, rfl, fun _ => hL.symm, fun _ => ⟨hb0, hq⟩, fun e => (Bool.noConfusion e), rfl, rfl⟩
        · (repeat' first|refine stW [0,1,2,3,4,5,10,11,12,13,14,15,16,17,28,47,54] ?_|refine fctI fun hf=>?_|refine twI (fun hc=>?_) fun hc=>?_);(refine lN [0] ?_);exact ⟨_, by omega, i + 1, _, _, true, by omega, rfl, fun _ => hL.symm, fun e => (Bool.noConfusion e), g5, rfl, rfl⟩
    · (have:=NeI h0);by_cases hVL : V < L
      · rw [if_pos (.inr hVL)] at hL;(have:=NeI hVL);by_cases hV : V < 0
        · (have:=NeI hV);cases F
          · have hq := hfl rfl hV;(repeat' first|refine stW [0,1,2,3,4,5,10,11,12,13,14,15,16,17,28,47,54] ?_|refine fctI fun hf=>?_|refine twI (fun hc=>?_) fun hc=>?_);(refine lN [0] ?_);exact ⟨_, by omega, i + 1, _, _, true, by omega, rfl, fun _ => hL.symm, fun e => (Bool.noConfusion e), fun _ => hq, rfl, rfl⟩
          · (repeat' first|refine stW [0,1,2,3,4,5,10,11,12,13,14,15,16,17,28,47,54] ?_|refine fctI fun hf=>?_|refine twI (fun hc=>?_) fun hc=>?_);(refine lN [0] ?_);exact ⟨_, by omega, i + 1, _, _, true, by omega, rfl, fun _ => hL.symm, fun e => (Bool.noConfusion e), g5, rfl, rfl⟩
        · (have:=NeI hV);cases F
          · have hq := hgo rfl hV;have hb0 := hB rfl;(repeat' first|refine stW [0,1,2,3,4,5,10,11,12,13,14,15,16,17,28,47,54] ?_|refine fctI fun hf=>?_|refine twI (fun hc=>?_) fun hc=>?_);(refine lN [0] ?_);exact ⟨_, by omega, i + 1, _, _, false, by omega, rfl, fun _ => hL.symm, fun _ => ⟨hb0, hq⟩, fun e => (Bool.noConfusion e), rfl, rfl⟩
          · (repeat' first|refine stW [0,1,2,3,4,5,10,11,12,13,14,15,16,17,28,47,54] ?_|refine fctI fun hf=>?_|refine twI (fun hc=>?_) fun hc=>?_);(refine lN [0] ?_);exact ⟨_, by omega, i + 1, _, _, true, by omega, rfl, fun _ => hL.symm, fun e => (Bool.noConfusion e), g5, rfl, rfl⟩
      · rw [if_neg (by omega)] at hL;(have:=NeI hVL);by_cases hV : V < 0
        · (have:=NeI hV);cases F
          · have hq := hfl rfl hV;(repeat' first|refine stW [0,1,2,3,4,5,10,11,12,13,14,15,16,17,28,47,54] ?_|refine fctI fun hf=>?_|refine twI (fun hc=>?_) fun hc=>?_);(refine lN [0] ?_);exact ⟨_, by omega, i + 1, _, _, true, by omega, rfl, fun _ => hL.symm, fun e => (Bool.noConfusion e), fun _ => hq, rfl, rfl⟩
          · (repeat' first|refine stW [0,1,2,3,4,5,10,11,12,13,14,15,16,17,28,47,54] ?_|refine fctI fun hf=>?_|refine twI (fun hc=>?_) fun hc=>?_);(refine lN [0] ?_);exact ⟨_, by omega, i + 1, _, _, true, by omega, rfl, fun _ => hL.symm, fun e => (Bool.noConfusion e), g5, rfl, rfl⟩
        · (have:=NeI hV);cases F
          · have hq := hgo rfl hV;have hb0 := hB rfl;(repeat' first|refine stW [0,1,2,3,4,5,10,11,12,13,14,15,16,17,28,47,54] ?_|refine fctI fun hf=>?_|refine twI (fun hc=>?_) fun hc=>?_);(refine lN [0] ?_);exact ⟨_, by omega, i + 1, _, _, false, by omega, rfl, fun _ => hL.symm, fun _ => ⟨hb0, hq⟩, fun e => (Bool.noConfusion e), rfl, rfl⟩
          · (repeat' first|refine stW [0,1,2,3,4,5,10,11,12,13,14,15,16,17,28,47,54] ?_|refine fctI fun hf=>?_|refine twI (fun hc=>?_) fun hc=>?_);(refine lN [0] ?_);exact ⟨_, by omega, i + 1, _, _, true, by omega, rfl, fun _ => hL.symm, fun e => (Bool.noConfusion e), g5, rfl, rfl⟩
  obtain rfl : i = ST.length := by omega
  have hi3 : ¬ ((ST.length : Int) < (ST.length : Int)) := by omega
  have hL := g3 hne;rw [List.take_length] at hL;rw [<- hL];have hB : B = atI M ST := by
    cases F
    · rw [(g4 rfl).1];exact (at_zero (safeI_go (g4 rfl).2)).symm
    · exact g5 rfl
  rw [<- hB];(have:=NeI hi3);clear hmm hit g3 g4 g5 c1 hL hB;(repeat' first|refine stW [0,1,2,3,4,5,10,11,12,13,14,15,16,17,28,47,54] ?_|refine fctI fun hf=>?_|refine twI (fun hc=>?_) fun hc=>?_);exact DVR
set_option maxRecDepth 20000 in
theorem saftank_f (n : Net) (c : List Sect) (l : List Rule) (t : ByteArray) (sec : Int) (m : Nat) (no : netOk n) (co : catOk c) (lo : rulOk l) (to : t.size <= 281474976710656) :
    Pu 4 [netD n, sectL c, ruleL l, ls t, li sec] m (lb true) := by
  have k0 := fun m => awake43_f m
  have k1 := fun m => large43_f n l m no lo
  have k2 := fun m => many43_f c m co
  cases hL : lgB43 n l <;> simp only [hL] at k1
  case true =>
    refine pcN 126 [.tmp 10] [4] Tryz.func4 rfl [] ?_;(repeat' first|refine stW [0,1,2,3,4,5,10,11,12,13,14,15,16,17,18,19,21,33,63] ?_|refine fctI fun hf=>?_|refine twI (fun hc=>?_) fun hc=>?_);exact DVR
  cases hM : maB43 c <;> simp only [hM] at k2
  case true =>
    refine pcN 126 [.tmp 10] [4] Tryz.func4 rfl [] ?_;(repeat' first|refine stW [0,1,2,3,4,5,10,11,12,13,14,15,16,17,18,19,21,33,63] ?_|refine fctI fun hf=>?_|refine twI (fun hc=>?_) fun hc=>?_);exact DVR
  by_cases h60 : (60 : Int) < (t.size : Int)
  · (have:=NeI h60);refine pcN 126 [.tmp 10] [4] Tryz.func4 rfl [] ?_;(repeat' first|refine stW [0,1,2,3,4,5,10,11,12,13,14,15,16,17,18,19,21,33,63] ?_|refine fctI fun hf=>?_|refine twI (fun hc=>?_) fun hc=>?_);exact DVR
  (have:=NeI h60);have k3 := fun m => Safe_f n c l t sec m no co lo
  have k4 := fun m => Margin_f n c l t sec m no co lo
  have k5 := fun m => rCheck_f n c l t sec m no co lo
  by_cases hF : safE n c l t sec = 0
  case neg =>
    rw [show safR n c l t sec = (false, 0) from if_neg hF] at k3;rw [show marR n c l t sec = 0 from if_neg hF] at k4;rw [if_neg hF] at k5;generalize safE n c l t sec = F at *
    have e1 : F = F := rfl;(have:=NeI hF);(have:=NeI e1);refine pcN 126 [.tmp 10] [4] Tryz.func4 rfl [] ?_;(repeat' first|refine stW [0,1,2,3,4,5,10,11,12,13,14,15,16,17,18,19,21,33,63] ?_|refine fctI fun hf=>?_|refine twI (fun hc=>?_) fun hc=>?_);exact DVR
  obtain ⟨hs, a, K⟩ := safE_in no co lo hF;have k6 := fun m => rLeast_f K sec m hs
  have hsi := safe_iff (M := safM n c l t sec) (safS_ne n l t);have haz : safeI (safM n c l t sec) (safS n l t) = true -> atI (safM n c l t sec) (safS n l t) = 0 := fun h => at_zero h
  rw [show safR n c l t sec = _ from if_pos hF, hF] at k3;rw [show marR n c l t sec = _ from if_pos hF, hF] at k4;rw [if_pos hF, hF] at k5;clear hF K;generalize safeI (safM n c l t sec) (safS n l t) = ok at *
  generalize atI (safM n c l t sec) (safS n l t) = B at *
  generalize leastM (safM n c l t sec) (safS n l t) = V at *
  generalize nodeIx n.nodes t = ix at *
  have e1 : V = V := rfl;have e2 : B = B := rfl;(have:=NeI e1);(have:=NeI e2);cases ok
  · have hV : ¬ 0 <= V := of_decide_eq_false hsi.symm;(have:=NeI hV);clear hsi haz;refine pcN 126 [.tmp 10] [4] Tryz.func4 rfl [] ?_;(repeat' first|refine stW [0,1,2,3,4,5,10,11,12,13,14,15,16,17,18,19,21,33,63] ?_|refine fctI fun hf=>?_|refine twI (fun hc=>?_) fun hc=>?_);exact DVR
  · have hV : 0 <= V := of_decide_eq_true hsi.symm;obtain rfl := haz rfl;(have:=NeI hV);clear hsi haz;refine pcN 126 [.tmp 10] [4] Tryz.func4 rfl [] ?_;(repeat' first|refine stW [0,1,2,3,4,5,10,11,12,13,14,15,16,17,18,19,21,33,63] ?_|refine fctI fun hf=>?_|refine twI (fun hc=>?_) fun hc=>?_);exact DVR

end Go.Proofs.YtlgfdfljnbncfaaGreat
