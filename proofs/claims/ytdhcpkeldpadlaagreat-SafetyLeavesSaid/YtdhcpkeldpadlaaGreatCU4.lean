/-
  Contracts of functions of the program, over the engine.
  No condition.
-/
import Derived.Test.YtdhcpkeldpadlaaGreatCU2
import Derived.Test.YtdhcpkeldpadlaaGreatCU1
import Derived.Test.YtdhcpkeldpadlaaGreatCT5T6T6bT7T7bT7c
import Derived.Test.YtdhcpkeldpadlaaGreatCL9L10L11L12L16L20RL25L27
namespace Go.Proofs.YtdhcpkeldpadlaaGreat
open Go.Eng
set_option linter.all false
attribute [local irreducible] DCallsG SWp Fct CallQ XCallQ LCallQ XLCallQ drun xrun
set_option maxHeartbeats 64000000
set_option maxRecDepth 20000

theorem swp_nrm {D : Dfr} {P : Program} {N pin nx : Nat} {A : LE} {H : LH} {Q : Exit -> LE -> LH -> Nat -> Prop} {c : Code} (id : Nat) (ks : List (Option Nat)) {t : TypeId} {cs cs2 : List DV} {H2 : LH} (hi : hget H id = some (.blk t cs)) (hcs : normL ks cs = cs2) (hH : hset H id (.blk t cs2) = H2)
    (h : @SWp D P N pin c Q A H2 nx) : @SWp D P N pin c Q A H nx := by
  subst hcs hH;unfold SWp at h ⊢;intro hp B hB a w hS;obtain ⟨ρ, S, HS, ES⟩ := hS;refine h hp B hB a w ⟨ρ, S, ?_, ES⟩;rw [hget_set];have key : ∀ i v, upd (hget H) id (some (.blk t (normL ks cs))) i = some v -> ∃ v0, hget H i = some v0 /\ hblk (ρ i) v0 = hblk (ρ i) v /\ (HRel ρ S w i v0 -> HRel ρ S w i v) /\ (v0.uses (fun i => i < nx) -> v.uses (fun i => i < nx)) := by
    intro i v hv;by_cases e : i = id
    · subst e;rw [upd_same] at hv;cases hv;refine ⟨_, hi, rfl, ?_, fun k => normL_uses k⟩;rintro ⟨b, vs, fz, k1, k2, k3, k4⟩;exact ⟨b, vs, fz, k1, k2, normL_rel k3, k4⟩
    · rw [upd_ne _ _ e] at hv;exact ⟨v, hv, rfl, fun k => k, fun k => k⟩
  exact { HS with
    heap := fun i v hv => by
      obtain ⟨v0, k1, _, k3, _⟩ := key i v hv;exact k3 (HS.heap i v0 k1)
    heapU := fun i v hv => by
      obtain ⟨v0, k1, _, _, k4⟩ := key i v hv;exact ⟨(HS.heapU i v0 k1).1, k4 (HS.heapU i v0 k1).2⟩
    disj := fun i j v u b hv hu hbi hbj => by
      obtain ⟨v0, k1, k2, _, _⟩ := key i v hv;obtain ⟨u0, l1, l2, _, _⟩ := key j u hu;exact HS.disj i j v0 u0 b k1 l1 (k2.trans hbi) (l2.trans hbj)
    sep := fun i v b hv hb => by
      obtain ⟨v0, k1, k2, _, _⟩ := key i v hv;exact HS.sep i v0 b k1 (k2.trans hb)
    prov := fun i v b hv hb => by
      obtain ⟨v0, k1, k2, _, _⟩ := key i v hv;exact HS.prov i v0 b k1 (k2.trans hb) }
theorem suits1_f (c : Cnd) (L : List ByteArray) (m : Nat) : DCalls Tryz.prog 109 [cndD c, .ptr 0 0] (hget [(0, .blk 137 (([mapS L] : List PV).map .p))]) m (lb (!hasB L c.nod)) (hget [(0, .blk 137 (([mapS L] : List PV).map .p))]) := by
  refine contract (n := 9) (rs := [.tmp 3]) (ts := [4]) Tryz.func109 rfl (by decide) 1 1 [] [] [] (lb (!hasB L c.nod)) [(0, .blk 137 [.p (mapS L)])] (by (exact SD)) (by (exact SD)) ?_;(repeat' first|refine stW [0,1,2,3] ?_|refine fctI fun hf=>?_|refine twI (fun hc=>?_) fun hc=>?_);exact DVR
theorem suits_f (l : List Rule) (n : Net) (m : Nat) (hl : rulOk l) (no : netOk n) (nb : netB n = true) : Pu 73 [ruleL l, netD n] m (lb (l.all (knownR n))) := by
  have hl1 := hl.1;obtain ⟨h300, h400⟩ := netB_len nb;have hnl := namesL_len n;have hkl := linkNs_len n;refine pcN 55 [.tmp 4] [4] Tryz.func73 rfl [] ?_;(repeat' first|refine stW [0,1,3,4,5,6,8,10,12,16,17,18,19,27,28,29,30,37,38,39,40,53] ?_|refine fctI fun hf=>?_|refine twI (fun hc=>?_) fun hc=>?_);refine loop_swp [0, 3, 5, 6, 16, 17, 18] [0, 16, 24, 32] 88 (fun q A H => ∃ i : Nat, i <= n.nodes.length /\ q = n.nodes.length - i /\ A = [(0, ruleL l), (3, .ptr 0 0), (5, .ptr 32 0), (6, .mref 24), (16, nodeL n.nodes), (17, li n.nodes.length), (18, li i)] /\ H = [(0, .blk 25 (netC n)), (16, .map (setS (seeS [] (namesL n) i))), (24, .map []), (32, .blk 137 [.mref 16])]) (by omega) ?_ ?_ ?_
  · rintro q A H ⟨i, g1, g2, rfl, rfl⟩;exact SDD
  · refine ⟨_, 0, by omega, rfl, ?_, ?_⟩
    · exact DVR
    · rw [show setS (seeS [] (namesL n) 0) = [] from by unfold setS; rfl];exact DVR
  rintro q A H ⟨i, g1, g2, rfl, rfl⟩;by_cases hi : i < n.nodes.length
  · have hi3 : (i : Int) < (n.nodes.length : Int) := by omega
    have hs := seeS_next [] (l := namesL n) (i := i) (by omega);rw [namesL_at n hi] at hs;generalize seeS [] (namesL n) i = X at *
    (have:=NeI hi);(have:=NeI hi3);(repeat' first|refine stW [0,1,3,4,5,6,8,10,12,16,17,18,19,27,28,29,30,37,38,39,40,53] ?_|refine fctI fun hf=>?_|refine twI (fun hc=>?_) fun hc=>?_);rw [<- hs];(refine lN [0, 16, 24, 32] ?_);exact ⟨_, by omega, i + 1, by omega, rfl, rfl, rfl⟩
  obtain rfl : i = n.nodes.length := by omega
  have hi3 : ¬ ((n.nodes.length : Int) < (n.nodes.length : Int)) := by omega
  have hX := fun s => seeS_has [] (namesL n) s
  rw [hnl] at hX
  replace hX : ∀ s, hasB (seeS [] (namesL n) n.nodes.length) s = decide (0 <= nodeIx n.nodes s) := fun s => by rw [hX s, <- has_node]; rfl
  generalize seeS [] (namesL n) n.nodes.length = X at *
  (have:=NeI hi3);(repeat' first|(show SWp _ _ _ (.seq (.region 7 _ _) _) _ _ _ _;refine (stop_in ?_))|refine stW [0,1,3,4,5,6,8,10,12,16,17,18,19,27,28,29,30,37,38,39,40,53] ?_|refine fctI fun hf=>?_|refine twI (fun hc=>?_) fun hc=>?_);refine stop_out ?_;refine sF 16 (v := .map (setS X)) (x := .mp (X.map fun s => .string s) (X.map fun _ => .lit (.bool true))) ?_ (hx := setS_fv X);rw [mapS_eq];(repeat' first|refine stW [0,1,3,4,5,6,8,10,12,16,17,18,19,27,28,29,30,37,38,39,40,53] ?_|refine fctI fun hf=>?_|refine twI (fun hc=>?_) fun hc=>?_);refine loop_swp [0, 5, 6, 27, 28, 29] [24, 32] 128 (fun q A H => ∃ i : Nat, i <= n.links.length /\ q = n.links.length - i /\ A = [(0, ruleL l), (5, .ptr 32 0), (6, .mref 24), (27, linkL n.links), (28, li n.links.length), (29, li i)] /\ H = [(24, .map (setS (seeS [] (linkNs n) i))), (32, .blk 137 [.p (mapS X)])]) (by omega) ?_ ?_ ?_
  · rintro q A H ⟨i, g1, g2, rfl, rfl⟩;exact SDD
  · refine ⟨_, 0, by omega, rfl, ?_, ?_⟩
    · exact DVR
    · rw [show setS (seeS [] (linkNs n) 0) = [] from by unfold setS; rfl];exact DVR
  rintro q A H ⟨i, g1, g2, rfl, rfl⟩;by_cases hi : i < n.links.length
  · have hi3 : (i : Int) < (n.links.length : Int) := by omega
    have hs := seeS_next [] (l := linkNs n) (i := i) (by omega);rw [linkNs_at n hi] at hs;generalize seeS [] (linkNs n) i = Y at *
    (have:=NeI hi);(have:=NeI hi3);clear hX;(repeat' first|refine stW [0,1,3,4,5,6,8,10,12,16,17,18,19,27,28,29,30,37,38,39,40,53] ?_|refine fctI fun hf=>?_|refine twI (fun hc=>?_) fun hc=>?_);rw [<- hs];(refine lN [24, 32] ?_);exact ⟨_, by omega, i + 1, by omega, rfl, rfl, rfl⟩
  obtain rfl : i = n.links.length := by omega
  have hi3 : ¬ ((n.links.length : Int) < (n.links.length : Int)) := by omega
  have hY := fun s => seeS_has [] (linkNs n) s
  rw [hkl] at hY
  replace hY : ∀ s, hasB (seeS [] (linkNs n) n.links.length) s = decide (0 <= linkIx n.links s) := fun s => by rw [hY s, <- has_link]; rfl
  generalize seeS [] (linkNs n) n.links.length = Y at *
  (have:=NeI hi3);(repeat' first|(show SWp _ _ _ (.seq (.region 12 _ _) _) _ _ _ _;refine (stop_in ?_))|refine stW [0,1,3,4,5,6,8,10,12,16,17,18,19,27,28,29,30,37,38,39,40,53] ?_|refine fctI fun hf=>?_|refine twI (fun hc=>?_) fun hc=>?_);refine stop_out ?_;refine sF 24 (v := .map (setS Y)) (x := .mp (Y.map fun s => .string s) (Y.map fun _ => .lit (.bool true))) ?_ (hx := setS_fv Y);rw [mapS_eq];(repeat' first|refine stW [0,1,3,4,5,6,8,10,12,16,17,18,19,27,28,29,30,37,38,39,40,53] ?_|refine fctI fun hf=>?_|refine twI (fun hc=>?_) fun hc=>?_);refine loop_swp [5, 6, 37, 38, 39] [32] 160 (fun q A H => ∃ i : Nat, i <= l.length /\ q = l.length - i /\ (∀ j, j < i -> knownR n (l.getD j default) = true) /\ A = [(5, .ptr 32 0), (6, .p (mapS Y)), (37, ruleL l), (38, li l.length), (39, li i)] /\ H = [(32, .blk 137 [.p (mapS X)])]) (by omega) ?_ ?_ ?_
  · rintro q A H ⟨i, g1, g2, g3, rfl, rfl⟩;exact SDD
  · refine ⟨_, 0, by omega, rfl, by omega, ?_, ?_⟩
    · exact DVR
    · exact DVR
  rintro q A H ⟨i, g1, g2, g3, rfl, rfl⟩;by_cases hi : i < l.length
  · have hi3 : (i : Int) < (l.length : Int) := by omega
    have hw := ruleOk_at hl hi;have hkr := knownR_eq n (l.getD i default);have hit := @kn_hit n l i hi;have c5 := conCndC_f 109 137 [mapS X] (fun c => !hasB X c.nod) (l.getD i default).whn hw (fun x _ m => suits1_f x X m);have ek : ((l.getD i default).whn.any fun c => !hasB X c.nod) = !(l.getD i default).whn.all (nodKn n) := by
      rw [<- not_all, Bool.not_not];congr 1
      funext c
      rw [hX]; rfl
    rw [ek] at c5;rw [<- hY] at hkr;clear ek hX hY;(have:=NeI hi);(have:=NeI hi3);cases hb : hasB Y (l.getD i default).lnk <;> rw [hb] at hkr
    · rw [hit hkr];(have:=NeI hb);clear g3 hit hkr c5;(repeat' first|refine stW [0,1,3,4,5,6,8,10,12,16,17,18,19,27,28,29,30,37,38,39,40,53] ?_|refine fctI fun hf=>?_|refine twI (fun hc=>?_) fun hc=>?_);exact DVR
    · rw [Bool.true_and] at hkr;(have:=NeI hb);cases hk : (l.getD i default).whn.all (nodKn n) <;> rw [hk] at hkr c5
      · rw [hit hkr];clear g3 hit hkr;(repeat' first|refine stW [0,1,3,4,5,6,8,10,12,16,17,18,19,27,28,29,30,37,38,39,40,53] ?_|refine fctI fun hf=>?_|refine twI (fun hc=>?_) fun hc=>?_);(refine cQT [32] (fun hcc => c5) ?_);(repeat' first|refine stW [0,1,3,4,5,6,8,10,12,16,17,18,19,27,28,29,30,37,38,39,40,53] ?_|refine fctI fun hf=>?_|refine twI (fun hc=>?_) fun hc=>?_);exact DVR
      · have hnx : ∀ j, j < i + 1 -> knownR n (l.getD j default) = true := fun j hj => by
          by_cases e : j = i
          · subst e; exact hkr
          · exact g3 j (by omega)
        clear g3 hit hkr;(repeat' first|refine stW [0,1,3,4,5,6,8,10,12,16,17,18,19,27,28,29,30,37,38,39,40,53] ?_|refine fctI fun hf=>?_|refine twI (fun hc=>?_) fun hc=>?_);(refine cQT [32] (fun hcc => c5) ?_);(repeat' first|refine stW [0,1,3,4,5,6,8,10,12,16,17,18,19,27,28,29,30,37,38,39,40,53] ?_|refine fctI fun hf=>?_|refine twI (fun hc=>?_) fun hc=>?_);(refine lN [32] ?_);exact ⟨_, by omega, i + 1, by omega, rfl, hnx, rfl, rfl⟩
  obtain rfl : i = l.length := by omega
  have hi3 : ¬ ((l.length : Int) < (l.length : Int)) := by omega
  rw [kn_all g3];(have:=NeI hi3);clear g3 hX hY;(repeat' first|refine stW [0,1,3,4,5,6,8,10,12,16,17,18,19,27,28,29,30,37,38,39,40,53] ?_|refine fctI fun hf=>?_|refine twI (fun hc=>?_) fun hc=>?_);exact DVR
theorem tankOf1_f (x : Node) (s : ByteArray) (m : Nat) : DCalls Tryz.prog 84 [nodeD x, .ptr 0 0] (hget [(0, .blk 9 (([.lit (.string s)] : List PV).map .p))]) m (lb (decide (x.name = s))) (hget [(0, .blk 9 (([.lit (.string s)] : List PV).map .p))]) := by
  refine contract (n := 8) (rs := [.tmp 3]) (ts := [4]) Tryz.func84 rfl (by decide) 1 1 [] [] [] (lb (decide (x.name = s))) [(0, .blk 9 [.p (.lit (.string s))])] (by (exact SD)) (by (exact SD)) ?_;(repeat' first|refine stW [0,1,2,3] ?_|refine fctI fun hf=>?_|refine twI (fun hc=>?_) fun hc=>?_);exact DVR
theorem tholds_f (c : Cnd) (v : Int) (m : Nat) : Pu 123 [cndD c, li v] m (lb (cndH v c)) := by
  have e : cndH v c = !(decide (c.level <= v) == c.below) := by
    unfold cndH;by_cases h : v < c.level
    · rw [decide_eq_true h, decide_eq_false (by omega)];cases c.below <;> rfl
    · rw [decide_eq_false h, decide_eq_true (by omega)];cases c.below <;> rfl
  rw [e];refine pcN 12 [.tmp 4] [4] Tryz.func123 rfl [] ?_;(repeat' first|refine stW [0,1,2,4] ?_|refine fctI fun hf=>?_|refine twI (fun hc=>?_) fun hc=>?_);exact DVR
abbrev tkD (T : Tnk) : DV := .p (.ptr (tnkP T))
theorem greatest_f (T : Tnk) (k : ByteArray) (v : Int) (m : Nat) (lo : rulOk T.rl) : Pu 85 [tkD T, ls k, li v] m (li (grI T.rl T.nd.name k v)) := by
  have hl1 := lo.1;unfold grI;rw [<- grK_all];refine pcN 61 [.tmp 6] [3] Tryz.func85 rfl [] ?_;(repeat' first|refine stW [0,1,2,6,7,8,10,11,12,14,18,19,20,21,27,29,30,31,32,42,46,48,59] ?_|refine fctI fun hf=>?_|refine twI (fun hc=>?_) fun hc=>?_);refine loop_swp [0, 1, 2, 7, 8, 18, 19, 20] [] 72 (fun q A H => ∃ i : Nat, i <= T.rl.length /\ q = T.rl.length - i /\ A = [(0, tkD T), (1, ls k), (2, li v), (7, li (grK T.rl T.nd.name k v i).1), (8, lb (grK T.rl T.nd.name k v i).2), (18, ruleL T.rl), (19, li T.rl.length), (20, li i)] /\ H = []) (by omega) ?_ ?_ ?_
  · rintro q A H ⟨i, g1, g2, rfl, rfl⟩;exact SDD
  · refine ⟨_, 0, by omega, rfl, ?_, ?_⟩
    · rw [show grK T.rl T.nd.name k v 0 = (0, false) from rfl];exact DVR
    · exact DVR
  rintro q A H ⟨i, g1, g2, rfl, rfl⟩;by_cases hi : i < T.rl.length
  · have hi3 : (i : Int) < (T.rl.length : Int) := by omega
    have hw := ruleOk_at lo hi;have hnx := grK_next (t := T.nd.name) (k := k) (v := v) hi;generalize hG : grK T.rl T.nd.name k v i = G at *
    obtain ⟨G1, G2⟩ := G;(have:=NeI hi);(have:=NeI hi3);by_cases hk : (T.rl.getD i default).lnk = k
    case neg =>
      have e : grS T.nd.name k v (G1, G2) (T.rl.getD i default) = (G1, G2) := if_neg fun c => hk c.1
      rw [e] at hnx;clear e hG;(have:=NeI hk);(repeat' first|refine stW [0,1,2,6,7,8,10,11,12,14,18,19,20,21,27,29,30,31,32,42,46,48,59] ?_|refine fctI fun hf=>?_|refine twI (fun hc=>?_) fun hc=>?_);(refine lN [] ?_);exact ⟨_, by omega, i + 1, by omega, rfl, by rw [hnx] <;> rfl, rfl⟩
    (have:=NeI hk);clear hG;(repeat' first|refine stW [0,1,2,6,7,8,10,11,12,14,18,19,20,21,27,29,30,31,32,42,46,48,59] ?_|refine fctI fun hf=>?_|refine twI (fun hc=>?_) fun hc=>?_);refine loop_swp [0, 1, 2, 7, 8, 10, 11, 12, 18, 19, 20, 29, 30, 31] [96] 192 (fun q A H => ∃ j : Nat, j <= (T.rl.getD i default).whn.length /\ q = (T.rl.getD i default).whn.length - j /\ A = [(0, tkD T), (1, ls k), (2, li v), (7, li G1), (8, lb G2), (10, .ptr 96 0), (11, lb (canJ T.nd.name v (T.rl.getD i default) j)), (12, lb (sureJ T.nd.name (T.rl.getD i default) j)), (18, ruleL T.rl), (19, li T.rl.length), (20, li i), (29, cndL (T.rl.getD i default).whn), (30, li (T.rl.getD i default).whn.length), (31, li j)] /\ H = [(96, .blk 43 (ruleC (T.rl.getD i default)))]) (by omega) ?_ ?_ ?_
    · rintro q A H ⟨j, k1, k2, rfl, rfl⟩;exact SDD
    · refine ⟨_, 0, by omega, rfl, ?_, ?_⟩
      · rw [show canJ T.nd.name v (T.rl.getD i default) 0 = true from rfl, show sureJ T.nd.name (T.rl.getD i default) 0 = true from rfl];exact DVR
      · exact DVR
    rintro q A H ⟨j, k1, k2, rfl, rfl⟩;by_cases hj : j < (T.rl.getD i default).whn.length
    · have hj3 : (j : Int) < ((T.rl.getD i default).whn.length : Int) := by omega
      have n1 := canJ_next (t := T.nd.name) (v := v) hj;have n2 := sureJ_next (t := T.nd.name) hj;have c1 := fun m => tholds_f ((T.rl.getD i default).whn.getD j default) v m
      generalize canJ T.nd.name v (T.rl.getD i default) j = C at *
      generalize sureJ T.nd.name (T.rl.getD i default) j = S at *
      (have:=NeI hj);(have:=NeI hj3);clear hnx;by_cases hn : ((T.rl.getD i default).whn.getD j default).nod = T.nd.name
      case neg =>
        rw [decide_eq_false hn, Bool.not_false, Bool.true_or, Bool.and_true] at n1;rw [decide_eq_false hn, Bool.and_false] at n2;(have:=NeI hn);clear c1;(repeat' first|refine stW [0,1,2,6,7,8,10,11,12,14,18,19,20,21,27,29,30,31,32,42,46,48,59] ?_|refine fctI fun hf=>?_|refine twI (fun hc=>?_) fun hc=>?_);(refine lN [96] ?_);exact ⟨_, by omega, j + 1, by omega, rfl, by rw [n1, n2] <;> rfl, rfl⟩
      rw [decide_eq_true hn, Bool.not_true, Bool.false_or] at n1;rw [decide_eq_true hn, Bool.and_true] at n2;(have:=NeI hn);cases hc : cndH v ((T.rl.getD i default).whn.getD j default) <;> simp only [hc] at c1 n1
      · rw [Bool.and_false] at n1;(repeat' first|refine stW [0,1,2,6,7,8,10,11,12,14,18,19,20,21,27,29,30,31,32,42,46,48,59] ?_|refine fctI fun hf=>?_|refine twI (fun hc=>?_) fun hc=>?_);(refine lN [96] ?_);exact ⟨_, by omega, j + 1, by omega, rfl, by rw [n1, n2] <;> rfl, rfl⟩
      · rw [Bool.and_true] at n1;(repeat' first|refine stW [0,1,2,6,7,8,10,11,12,14,18,19,20,21,27,29,30,31,32,42,46,48,59] ?_|refine fctI fun hf=>?_|refine twI (fun hc=>?_) fun hc=>?_);(refine lN [96] ?_);exact ⟨_, by omega, j + 1, by omega, rfl, by rw [n1, n2] <;> rfl, rfl⟩
    obtain rfl : j = (T.rl.getD i default).whn.length := by omega
    have hj3 : ¬ (((T.rl.getD i default).whn.length : Int) < ((T.rl.getD i default).whn.length : Int)) := by omega
    rw [canJ_all, sureJ_all];(have:=NeI hj3);have hS : ∀ b, canR T.nd.name v (T.rl.getD i default) = b -> grS T.nd.name k v (G1, G2) (T.rl.getD i default) = if b = true then (max G1 (T.rl.getD i default).setg, G2 || sureR T.nd.name (T.rl.getD i default)) else (G1, G2) := fun b hb => by
      unfold grS;rw [hb];cases b
      · rw [if_neg fun c => absurd c.2 (by decide), if_neg (by decide)]
      · rw [if_pos ⟨hk, rfl⟩, if_pos rfl]
    cases hcan : canR T.nd.name v (T.rl.getD i default)
    · rw [hS _ hcan, if_neg (by decide)] at hnx;clear hS;(repeat' first|refine stW [0,1,2,6,7,8,10,11,12,14,18,19,20,21,27,29,30,31,32,42,46,48,59] ?_|refine fctI fun hf=>?_|refine twI (fun hc=>?_) fun hc=>?_);(refine lN [] ?_);exact ⟨_, by omega, i + 1, by omega, rfl, by rw [hnx] <;> rfl, rfl⟩
    · rw [hS _ hcan, if_pos rfl] at hnx;clear hS;generalize sureR T.nd.name (T.rl.getD i default) = S at *
      cases G2
      · rw [Bool.false_or] at hnx;(repeat' first|refine stW [0,1,2,6,7,8,10,11,12,14,18,19,20,21,27,29,30,31,32,42,46,48,59] ?_|refine fctI fun hf=>?_|refine twI (fun hc=>?_) fun hc=>?_);(refine lN [] ?_);exact ⟨_, by omega, i + 1, by omega, rfl, by rw [hnx] <;> rfl, rfl⟩
      · rw [Bool.true_or] at hnx;(repeat' first|refine stW [0,1,2,6,7,8,10,11,12,14,18,19,20,21,27,29,30,31,32,42,46,48,59] ?_|refine fctI fun hf=>?_|refine twI (fun hc=>?_) fun hc=>?_);(refine lN [] ?_);exact ⟨_, by omega, i + 1, by omega, rfl, by rw [hnx] <;> rfl, rfl⟩
  obtain rfl : i = T.rl.length := by omega
  have hi3 : ¬ ((T.rl.length : Int) < (T.rl.length : Int)) := by omega
  (have:=NeI hi3);generalize grK T.rl T.nd.name k v T.rl.length = G at *
  obtain ⟨G1, G2⟩ := G;cases G2
  · rw [if_neg (show ¬ (G1, false).2 = true from Bool.false_ne_true)];(repeat' first|refine stW [0,1,2,6,7,8,10,11,12,14,18,19,20,21,27,29,30,31,32,42,46,48,59] ?_|refine fctI fun hf=>?_|refine twI (fun hc=>?_) fun hc=>?_);exact DVR
  · rw [if_pos rfl];(repeat' first|refine stW [0,1,2,6,7,8,10,11,12,14,18,19,20,21,27,29,30,31,32,42,46,48,59] ?_|refine fctI fun hf=>?_|refine twI (fun hc=>?_) fun hc=>?_);exact DVR
theorem setT_len (T : Tnk) (v : Int) : (setT T v).length = T.pt.links.length := List.length_map ..
theorem setT_take (T : Tnk) (v : Int) {i : Nat} (h : i < T.pt.links.length) : (setT T v).take (i + 1) = (setT T v).take i ++ [grI T.rl T.nd.name (T.pt.links.getD i default).name v] := by
  unfold setT;rw [List.map_take.symm, List.map_take.symm, take_snocD h, List.map_append]; rfl
theorem settings_f (T : Tnk) (v : Int) (m : Nat) (lo : rulOk T.rl) (hl : T.pt.links.length <= 1048576) : Pu 39 [tkD T, li v] m (ints (setT T v)) := by
  have hLl := setT_len T v;have hLt := fun i => @setT_take T v i
  refine pcN 28 [.tmp 4] [31] Tryz.func39 rfl [72] ?_;(repeat' first|refine stW [0,1,4,5,7,12,13,14,15] ?_|refine fctI fun hf=>?_|refine twI (fun hc=>?_) fun hc=>?_);(refine sN 5 3 1 ?_);refine loop_swp [0, 1, 5, 12, 13, 14] [72] 80 (fun q A H => ∃ i : Nat, i <= T.pt.links.length /\ q = T.pt.links.length - i /\ A = [(0, tkD T), (1, li v), (5, .gl 72), (12, linkL T.pt.links), (13, li T.pt.links.length), (14, li i)] /\ H = [(72, inLt ((setT T v).take i))]) (by omega) ?_ ?_ ?_
  · rintro q A H ⟨i, g1, g2, rfl, rfl⟩;exact SDD
  · refine ⟨_, 0, by omega, rfl, ?_, ?_⟩
    · exact DVR
    · exact DVR
  rintro q A H ⟨i, g1, g2, rfl, rfl⟩;by_cases hi : i < T.pt.links.length
  · have hi3 : (i : Int) < (T.pt.links.length : Int) := by omega
    have c1 := fun m => greatest_f T (T.pt.links.getD i default).name v m lo
    have hnx := hLt i hi;have hlt : ((setT T v).take i).length = i := by rw [List.length_take]; omega
    generalize (setT T v).take i = X at *
    generalize grI T.rl T.nd.name (T.pt.links.getD i default).name v = Y at *
    clear hLt;(have:=NeI hi);(have:=NeI hi3);(repeat' first|refine stW [0,1,4,5,7,12,13,14,15] ?_|refine fctI fun hf=>?_|refine twI (fun hc=>?_) fun hc=>?_);(refine lN [72] ?_);exact ⟨_, by omega, i + 1, by omega, rfl, rfl, by rw [hnx] <;> rfl⟩
  obtain rfl : i = T.pt.links.length := by omega
  have hi3 : ¬ ((T.pt.links.length : Int) < (T.pt.links.length : Int)) := by omega
  have hall : (setT T v).take T.pt.links.length = setT T v := by rw [<- hLl, List.take_length]
  rw [hall];generalize setT T v = X at *
  (have:=NeI hi3);clear hLt;(repeat' first|refine stW [0,1,4,5,7,12,13,14,15] ?_|refine fctI fun hf=>?_|refine twI (fun hc=>?_) fun hc=>?_);exact DVR
theorem flowsT_len (T : Tnk) (v : Int) (S : List Int) : (flowsT T v S).length = T.pt.links.length := by unfold flowsT; rw [List.length_map, List.length_range]
theorem flowsT_take (T : Tnk) (v : Int) (S : List Int) {i : Nat} (h : i < T.pt.links.length) : (flowsT T v S).take (i + 1) = (flowsT T v S).take i ++ [flowT T v S i] := by
  rw [take_snocD (by rw [flowsT_len]; exact h)];congr 2
  rw [getD_is (by rw [flowsT_len]; exact h)];unfold flowsT;rw [List.getElem_map, List.getElem_range]
theorem flowsT_f (T : Tnk) (v : Int) (S : List Int) (m : Nat) (no : netOk T.pt) (co : catOk T.sc) (hl : T.pt.links.length <= 1048576) (hS : S.length = T.pt.links.length) : Pu 45 [tkD T, li v, ints S] m (ints (flowsT T v S)) := by
  have hLl := flowsT_len T v S;have hLt := fun i => @flowsT_take T v S i
  refine pcN 46 [.tmp 6] [31] Tryz.func45 rfl [72] ?_;(repeat' first|refine stW [0,1,2,6,7,8,9,10,16,17,18,39] ?_|refine fctI fun hf=>?_|refine twI (fun hc=>?_) fun hc=>?_);(refine sN 7 3 1 ?_);refine loop_swp [0, 1, 2, 7, 16, 17] [72] 80 (fun q A H => ∃ i : Nat, i <= T.pt.links.length /\ q = T.pt.links.length - i /\ A = [(0, tkD T), (1, li v), (2, ints S), (7, .gl 72), (16, li T.pt.links.length), (17, li i)] /\ H = [(72, inLt ((flowsT T v S).take i))]) (by omega) ?_ ?_ ?_
  · rintro q A H ⟨i, g1, g2, rfl, rfl⟩;exact SDD
  · refine ⟨_, 0, by omega, rfl, ?_, ?_⟩
    · exact DVR
    · exact DVR
  rintro q A H ⟨i, g1, g2, rfl, rfl⟩;by_cases hi : i < T.pt.links.length
  · have hi3 : (i : Int) < (T.pt.links.length : Int) := by omega
    have hiS : i < S.length := by omega
    have hiS3 : (i : Int) < (S.length : Int) := by omega
    have c1 := fun m => Most_f T.pt T.sc i v (S.getD i default) m no co
    have hnx := hLt i hi;have hlt : ((flowsT T v S).take i).length = i := by rw [List.length_take]; omega
    generalize (flowsT T v S).take i = X at *
    unfold flowT at hnx;generalize mostR T.pt T.sc i v (S.getD i default) = R at *
    obtain ⟨R1, R2⟩ := R;clear hLt;(have:=NeI hi);(have:=NeI hi3);(have:=NeI hiS);(have:=NeI hiS3);by_cases hR : R2 = 0
    · rw [if_pos hR] at hnx;(have:=NeI hR);(repeat' first|refine stW [0,1,2,6,7,8,9,10,16,17,18,39] ?_|refine fctI fun hf=>?_|refine twI (fun hc=>?_) fun hc=>?_);(refine lN [72] ?_);exact ⟨_, by omega, i + 1, by omega, rfl, rfl, by rw [hnx] <;> rfl⟩
    · rw [if_neg hR] at hnx;(have:=NeI hR);(repeat' first|refine stW [0,1,2,6,7,8,9,10,16,17,18,39] ?_|refine fctI fun hf=>?_|refine twI (fun hc=>?_) fun hc=>?_);(refine lN [72] ?_);exact ⟨_, by omega, i + 1, by omega, rfl, rfl, by rw [hnx] <;> rfl⟩
  obtain rfl : i = T.pt.links.length := by omega
  have hi3 : ¬ ((T.pt.links.length : Int) < (T.pt.links.length : Int)) := by omega
  have hall : (flowsT T v S).take T.pt.links.length = flowsT T v S := by rw [<- hLl, List.take_length]
  rw [hall];generalize flowsT T v S = X at *
  (have:=NeI hi3);clear hLt;(repeat' first|refine stW [0,1,2,6,7,8,9,10,16,17,18,39] ?_|refine fctI fun hf=>?_|refine twI (fun hc=>?_) fun hc=>?_);exact DVR
def leavK (qs : List Int) (sec : Int) (i : Nat) : Int := leavesI (qs.take i) sec
theorem leavK_next {qs : List Int} {sec : Int} {i : Nat} (h : i < qs.length) : leavK qs sec (i + 1) = leavK qs sec i + min (qs.getD i default * sec) 1125899906842624 := by
  unfold leavK;rw [take_snocD h, leaves_app, leaves_cons];show _ + (_ + 0) = _;rw [Int.add_zero]
theorem leavK_all (qs : List Int) (sec : Int) : leavK qs sec qs.length = leavesI qs sec := by unfold leavK; rw [List.take_length]
theorem mem_take_of {α : Type} {l : List α} {i : Nat} {x : α} (h : x ∈ l.take i) : x ∈ l := List.take_subset i l h
theorem tleaves_f (qs : List Int) (sec : Int) (m : Nat) (hl : qs.length <= 400) (hq : ∀ q, q ∈ qs -> 0 <= q /\ q <= 1099511627776) (hs : 1 <= sec /\ sec <= 86400) : Pu 44 [ints qs, li sec] m (li (leavesI qs sec)) := by
  rw [<- leavK_all];refine pcN 22 [.tmp 4] [3] Tryz.func44 rfl [] ?_;(repeat' first|refine stW [0,1,4,5,7,8,9,10,11] ?_|refine fctI fun hf=>?_|refine twI (fun hc=>?_) fun hc=>?_);refine loop_swp [1, 5, 8, 9, 10] [] 40 (fun q A H => ∃ i : Nat, i <= qs.length /\ q = qs.length - i /\ A = [(1, li sec), (5, li (leavK qs sec i)), (8, ints qs), (9, li qs.length), (10, li i)] /\ H = []) (by omega) ?_ ?_ ?_
  · rintro q A H ⟨i, g1, g2, rfl, rfl⟩;exact SDD
  · refine ⟨_, 0, by omega, rfl, ?_, ?_⟩
    · rw [show leavK qs sec 0 = 0 from rfl];exact DVR
    · exact DVR
  rintro q A H ⟨i, g1, g2, rfl, rfl⟩;by_cases hi : i < qs.length
  · have hi3 : (i : Int) < (qs.length : Int) := by omega
    have hnx := leavK_next (sec := sec) hi;have hb := leaves_in sec (by omega) (qs.take i) fun q hq2 => (hq q (mem_take_of hq2)).1
    have hb : 0 <= leavK qs sec i /\ leavK qs sec i <= ((qs.take i).length : Int) * 1125899906842624 := hb;rw [List.length_take] at hb;have hqi := hq _ (mem_getD hi);have hw := wish_fits hqi.1 hqi.2 hs.1 hs.2;generalize leavK qs sec i = L at *
    have hmi : ((min i qs.length : Nat) : Int) <= 400 := by omega
    have hL : L <= 450359962737049600 := by omega
    (have:=NeI hi);(have:=NeI hi3);generalize hp : qs.getD i default * sec = P at *
    have e1 : IntKind.i64.wrap P = P := i64w (by omega);have e2 : IntKind.i64.wrap (L + min P 1125899906842624) = L + min P 1125899906842624 := i64w (by omega);(repeat' first|refine stW [0,1,4,5,7,8,9,10,11] ?_|refine fctI fun hf=>?_|refine twI (fun hc=>?_) fun hc=>?_);rw [<- hp] at hnx;(refine lN [] ?_);exact ⟨_, by omega, i + 1, by omega, rfl, by rw [hnx, hp] <;> rfl, rfl⟩
  obtain rfl : i = qs.length := by omega
  have hi3 : ¬ ((qs.length : Int) < (qs.length : Int)) := by omega
  generalize leavK qs sec qs.length = L at *
  (have:=NeI hi3);(repeat' first|refine stW [0,1,4,5,7,8,9,10,11] ?_|refine fctI fun hf=>?_|refine twI (fun hc=>?_) fun hc=>?_);exact DVR

end Go.Proofs.YtdhcpkeldpadlaaGreat
