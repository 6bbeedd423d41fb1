/-
  Contracts of functions of the program, over the engine.
  No condition.
-/
import Derived.Test.YtdhcpkeldpadlaaGreatCU6
import Derived.Test.YtdhcpkeldpadlaaGreatCU7
import Derived.Test.YtdhcpkeldpadlaaGreatCU1
import Derived.Test.YtdhcpkeldpadlaaGreatCN0N1NBNmT1T2T2eT3
namespace Go.Proofs.YtdhcpkeldpadlaaGreat
open Go.Eng
set_option linter.all false
attribute [local irreducible] DCallsG SWp Fct CallQ XCallQ LCallQ XLCallQ drun xrun
set_option maxHeartbeats 64000000
set_option maxRecDepth 20000

theorem atI_hit {M : Int -> Int} {st : List Int} {i : Nat} (h : i < st.length) (g : ∀ j, j < i -> 0 <= M (st.getD j default)) (e : M (st.getD i default) < 0) : atI M st = st.getD i default /\ safeI M st = false := by
  constructor
  · unfold atI;have : st.find? (fun h => decide (M h < 0)) = some (st.getD i default) := by
      rw [List.find?_eq_some_iff_getElem];refine ⟨decide_eq_true e, i, h, (getD_is h).symm, fun j hj => ?_⟩;have := g j hj;rw [getD_is (by omega)] at this;simp; omega
    rw [this]; rfl
  · unfold safeI;refine List.all_eq_false.2 ⟨_, getD_mem h, ?_⟩;rw [decide_eq_false (by omega)]; decide
theorem safeI_go {M : Int -> Int} {st : List Int} (g : ∀ j, j < st.length -> 0 <= M (st.getD j default)) : safeI M st = true := by
  unfold safeI;rw [List.all_eq_true];intro x hx;obtain ⟨j, hj, rfl⟩ := List.mem_iff_getElem.1 hx;have := g j hj;rw [getD_is hj] at this;exact decide_eq_true this
section
variable {n : Net} {c a : List Sect} {l : List Rule} {t : ByteArray}
theorem TankIn.fls (K : TankIn n c l t a) {h : Int} (hh : h ∈ staT (tkOf n l t a)) : (phaT (tkOf n l t a) h).fl.length <= 30000 /\ ∀ q, q ∈ (phaT (tkOf n l t a) h).fl -> q.length <= 400 /\ ∀ z, z ∈ q -> 0 <= z /\ z <= 1099511627776 := by
  have h1 := K.stm hh;have h2 := K.fi;have h3 := (tankE_in K.te).2.2.2.2;have hol : (outL n t).length <= n.links.length := List.length_filter_le ..;have h400 := (netB_len K.nb).2;constructor
  · show ((upTo h (nodeA n t).gnd).map _).length <= _;rw [List.length_map, upTo_len]; omega
  · intro q hq;have hq : q ∈ (upTo h (nodeA n t).gnd).map fun g => flowsT (tkOf n l t a) g (setT (tkOf n l t a) h) := hq
    obtain ⟨g, hg, rfl⟩ := List.mem_map.1 hq;have hg2 := (upTo_mem _ _ _).1 hg;have hb : btwB g (nodeA n t).inv (nodeA n t).gnd = true := by
      unfold btwB;simp only [Bool.and_eq_true, decide_eq_true_eq]; omega
    refine ⟨by rw [flowsT_len]; exact Nat.le_trans hol h400, ?_⟩;rw [K.flow hb h];exact K.pos (by omega) hg2.2 h
theorem TankIn.lev (K : TankIn n c l t a) : (-4194304 <= (nodeA n t).inv /\ (nodeA n t).inv <= 4194304) /\ -4194304 <= (nodeA n t).gnd /\ (nodeA n t).gnd <= 4194304 :=
  ⟨lev_in (node_lev K.nr).1, lev_in (node_lev K.nr).2.1⟩
theorem TankIn.stl (K : TankIn n c l t a) : (staT (tkOf n l t a)).length <= 1048576 := by
  have h2 := K.fi;have h3 := (tankE_in K.te).2.2.2.2;have hl : (staT (tkOf n l t a)).length <= ((upTo (firT (tkOf n l t a) + 1) (nodeA n t).gnd).length) + 1 := by
    show (_ :: _).length <= _;rw [List.length_cons];exact Nat.succ_le_succ (List.length_filter_le ..)
  rw [upTo_len] at hl;omega
theorem TankIn.mar (K : TankIn n c l t a) {h sec : Int} (hs : 1 <= sec /\ sec <= 86400) (hh : h ∈ staT (tkOf n l t a)) (m : Nat) :
    Pu 111 [prD (prfT (tkOf n l t a)), phaD (phaT (tkOf n l t a) h), li sec] m (li (safM n c l t sec h)) := by
  have h1 := K.stm hh;have h2 := K.fi;have h3 := K.lev;rw [<- K.marg h1.1 h1.2];exact tmargin_f (prfT (tkOf n l t a)) (phaT (tkOf n l t a) h) sec m hs (K.fls hh).1 (K.fls hh).2 ⟨K.rs.1, K.rs.2.1⟩ (volsM_in K.nr _ _) (by show -8388608 <= h /\ h <= 8388608; omega)
end
theorem psafe_f {n : Net} {c a : List Sect} {l : List Rule} {t : ByteArray} (K : TankIn n c l t a) (sec : Int) (m : Nat) (hs : 1 <= sec /\ sec <= 86400) :
    Pu 75 [prD (prfT (tkOf n l t a)), li sec] m (.tup [lb (safeI (safM n c l t sec) (safS n l t)), li (atI (safM n c l t sec) (safS n l t))]) := by
  have hm := fun h q m => K.mar (h := h) hs q m
  have hsl : (staT (tkOf n l t a)).length <= 1048576 := K.stl;rw [<- K.sta];have hphs : (prfT (tkOf n l t a)).phs = (staT (tkOf n l t a)).map (phaT (tkOf n l t a)) := rfl;have hphl : (prfT (tkOf n l t a)).phs.length = (staT (tkOf n l t a)).length := List.length_map ..;have hphi : ∀ i, i < (staT (tkOf n l t a)).length -> (prfT (tkOf n l t a)).phs.getD i default = phaT (tkOf n l t a) ((staT (tkOf n l t a)).getD i default) := fun i hi => by
    rw [hphs, getD_is (by rw [List.length_map]; exact hi), List.getElem_map, getD_is hi]
  have hfr : ∀ h, (phaT (tkOf n l t a) h).fr = h := fun h => rfl
  generalize staT (tkOf n l t a) = ST at *
  generalize prfT (tkOf n l t a) = P at *
  generalize safM n c l t sec = M at *
  refine pcN 25 [.tmp 4,.tmp 5] [4,3] Tryz.func75 rfl [] ?_;(repeat' first|refine stW [0,1,4,5,7,11,12,13,14,21] ?_|refine fctI fun hf=>?_|refine twI (fun hc=>?_) fun hc=>?_);refine loop_swp [0, 1, 11, 12, 13] [] 64 (fun q A H => ∃ i : Nat, i <= ST.length /\ q = ST.length - i /\ (∀ j, j < i -> 0 <= M (ST.getD j default)) /\ A = [(0, prD P), (1, li sec), (11, phaL P.phs), (12, li P.phs.length), (13, li i)] /\ H = []) (by omega) ?_ ?_ ?_
  · rintro q A H ⟨i, g1, g2, g3, rfl, rfl⟩;exact SDD
  · refine ⟨_, 0, by omega, rfl, by omega, ?_, ?_⟩
    · exact DVR
    · exact DVR
  rintro q A H ⟨i, g1, g2, g3, rfl, rfl⟩;by_cases hi : i < ST.length
  · have hi2 : i < P.phs.length := by omega
    have hi3 : (i : Int) < (P.phs.length : Int) := by omega
    have c1 := fun m => hm (ST.getD i default) (mem_getD hi) m
    have hp := hphi i hi;have hf2 := hfr (ST.getD i default);have hit := fun e => @atI_hit M ST i hi g3 e
    generalize phaT (tkOf n l t a) (ST.getD i default) = Q at *
    haveI : PhaAt P.phs i Q := ⟨hp⟩;clear hm hphs hphi hfr hp;(have:=NeI hi2);(have:=NeI hi3);by_cases hb : M (ST.getD i default) < 0
    · obtain ⟨h1, h2⟩ := hit hb;rw [h1, h2];generalize M (ST.getD i default) = V at *
      (have:=NeI hb);clear hit g3;(repeat' first|refine stW [0,1,4,5,7,11,12,13,14,21] ?_|refine fctI fun hf=>?_|refine twI (fun hc=>?_) fun hc=>?_);rw [hf2];exact DVR
    · have hnx : ∀ j, j < i + 1 -> 0 <= M (ST.getD j default) := fun j hj => by
        by_cases e : j = i
        · subst e; omega
        · exact g3 j (by omega)
      generalize hV : M (ST.getD i default) = V at *
      (have:=NeI hb);clear hit g3;(repeat' first|refine stW [0,1,4,5,7,11,12,13,14,21] ?_|refine fctI fun hf=>?_|refine twI (fun hc=>?_) fun hc=>?_);(refine lN [] ?_);exact ⟨_, by omega, i + 1, by omega, rfl, hnx, rfl, rfl⟩
  obtain rfl : i = ST.length := by omega
  have hi3 : ¬ ((ST.length : Int) < (P.phs.length : Int)) := by omega
  have hall := safeI_go g3;rw [hall, at_zero hall];(have:=NeI hi3);clear hm hphs hphi hfr g3;(repeat' first|refine stW [0,1,4,5,7,11,12,13,14,21] ?_|refine fctI fun hf=>?_|refine twI (fun hc=>?_) fun hc=>?_);exact DVR
theorem proofBad_f (n : Net) (c : List Sect) (l : List Rule) (t : ByteArray) (sec : Int) (m : Nat) (no : netOk n) (co : catOk c) (lo : rulOk l) (h : ¬ safE n c l t sec = 0) :
    Pu 74 [netD n, sectL c, ruleL l, ls t, li sec] m (.tup [.p (.lit (.pointer none)), li (safE n c l t sec)]) := by
  have k1 := fun m => netValid_f n m no
  have k2 := fun m => cat_f c m co
  have k3 := fun m => rulesV_f l m lo
  cases nb : netB n <;> simp only [nb] at k1
  · rw [show safE n c l t sec = 1 from if_pos (by rw [nb]; rfl)];refine pcN 49 [.tmp 10,.tmp 11] [128,32] Tryz.func74 rfl [] ?_;(repeat' first|refine stW [0,1,2,3,4,5,10,11,12,13,14,27,36,40,45] ?_|refine fctI fun hf=>?_|refine twI (fun hc=>?_) fun hc=>?_);exact DVR
  cases cb : catB c <;> simp only [cb] at k2
  · rw [show safE n c l t sec = 1 from if_pos (by rw [nb, cb]; rfl)];refine pcN 49 [.tmp 10,.tmp 11] [128,32] Tryz.func74 rfl [] ?_;(repeat' first|refine stW [0,1,2,3,4,5,10,11,12,13,14,27,36,40,45] ?_|refine fctI fun hf=>?_|refine twI (fun hc=>?_) fun hc=>?_);exact DVR
  cases rb : rulesB l <;> simp only [rb] at k3
  · rw [show safE n c l t sec = 1 from if_pos (by rw [nb, cb, rb]; rfl)];refine pcN 49 [.tmp 10,.tmp 11] [128,32] Tryz.func74 rfl [] ?_;(repeat' first|refine stW [0,1,2,3,4,5,10,11,12,13,14,27,36,40,45] ?_|refine fctI fun hf=>?_|refine twI (fun hc=>?_) fun hc=>?_);exact DVR
  have h0 : ¬ (netB n && catB c && rulesB l) = false := by rw [nb, cb, rb]; decide
  by_cases te : tankE n l t = 0
  case neg =>
    rw [show safE n c l t sec = tankE n l t from (if_neg h0).trans (if_pos te)];have k4 := fun m => tankBad_f n l t m lo no nb te
    clear h;generalize tankE n l t = E at *
    (have:=NeI te);refine pcN 49 [.tmp 10,.tmp 11] [128,32] Tryz.func74 rfl [] ?_;(repeat' first|refine stW [0,1,2,3,4,5,10,11,12,13,14,27,36,40,45] ?_|refine fctI fun hf=>?_|refine twI (fun hc=>?_) fun hc=>?_);exact DVR
  have k4 := fun m => tankOf_f n l t m lo no nb te
  have hE : safE n c l t sec = _ := safE_sec (by rw [nb, cb, rb]; rfl) te;have k5 := fun m => tright_f sec m
  by_cases hs : 1 <= sec /\ sec <= 86400
  case neg =>
    rw [hE.trans (if_pos hs)];rw [secsB_f hs] at k5;clear hE h;refine pcN 49 [.tmp 10,.tmp 11] [128,32] Tryz.func74 rfl [] ?_;(repeat' first|refine stW [0,1,2,3,4,5,10,11,12,13,14,27,36,40,45] ?_|refine fctI fun hf=>?_|refine twI (fun hc=>?_) fun hc=>?_);exact DVR
  replace hE := hE.trans (if_neg (not_not_intro hs))
  rw [secsB_t hs] at k5;cases hq : findK c (outL n t) [] with
  | some a => exact absurd (hE.trans (if_neg (by rw [hq]; intro e; cases e))) h
  | none =>
    rw [hE.trans (if_pos hq)];obtain ⟨I, b, i1, i2, i3⟩ := find_stop hq;have k6 := tfind_f n c l t b I 1 no co nb (by omega) i2 (.inr ⟨i1, i3⟩);rw [if_neg (by omega)] at k6;clear hE h;refine pcN 49 [.tmp 10,.tmp 11] [128,32] Tryz.func74 rfl [] ?_;(repeat' first|refine stW [0,1,2,3,4,5,10,11,12,13,14,27,36,40,45] ?_|refine fctI fun hf=>?_|refine twI (fun hc=>?_) fun hc=>?_);(refine cQT [152] (fun hcc => k6) ?_);(repeat' first|refine stW [0,1,2,3,4,5,10,11,12,13,14,27,36,40,45] ?_|refine fctI fun hf=>?_|refine twI (fun hc=>?_) fun hc=>?_);exact DVR
theorem proofOf_f {n : Net} {c a : List Sect} {l : List Rule} {t : ByteArray} (K : TankIn n c l t a) (sec : Int) (m : Nat) (hs : 1 <= sec /\ sec <= 86400) :
    Pu 74 [netD n, sectL c, ruleL l, ls t, li sec] m (.tup [prD (prfT (tkOf n l t a)), li 0]) := by
  have k1 := fun m => netValid_f n m K.no
  have k2 := fun m => cat_f c m K.co
  have k3 := fun m => rulesV_f l m K.lo
  have k4 := fun m => tankOf_f n l t m K.lo K.no K.nb K.te
  have k5 := fun m => tright_f sec m
  rw [K.nb] at k1;rw [K.cb] at k2;rw [K.rb] at k3;rw [secsB_t hs] at k5;have k6 := tfind_f n c l t a (outL n t).length 1 K.no K.co K.nb (Nat.le_refl _) (by rw [findI_all]; exact K.fk) (.inl rfl);rw [if_pos rfl] at k6;have k7 := fun m => prove_f K m
  generalize prfT (tkOf n l t a) = P at *
  refine pcN 49 [.tmp 10,.tmp 11] [128,32] Tryz.func74 rfl [] ?_;(repeat' first|refine stW [0,1,2,3,4,5,10,11,12,13,14,27,36,40,45] ?_|refine fctI fun hf=>?_|refine twI (fun hc=>?_) fun hc=>?_);(refine cQT [152] (fun hcc => k6) ?_);(repeat' first|(show SWp _ _ _ (.seq (.region 11 _ _) _) _ _ _ _;refine (stop_in ?_))|refine stW [0,1,2,3,4,5,10,11,12,13,14,27,36,40,45] ?_|refine fctI fun hf=>?_|refine twI (fun hc=>?_) fun hc=>?_);refine stop_out ?_;refine sF 152 (v := .blk 91 (tnkC (tkOf n l t a))) (x := .cells (tnkP (tkOf n l t a))) ?_ (hv := rfl) (hx := rfl);(repeat' first|refine stW [0,1,2,3,4,5,10,11,12,13,14,27,36,40,45] ?_|refine fctI fun hf=>?_|refine twI (fun hc=>?_) fun hc=>?_);exact DVR
def safR (n : Net) (c : List Sect) (l : List Rule) (t : ByteArray) (sec : Int) : Bool × Int :=
  if safE n c l t sec = 0 then (safeI (safM n c l t sec) (safS n l t), atI (safM n c l t sec) (safS n l t)) else (false, 0)
theorem Safe_f (n : Net) (c : List Sect) (l : List Rule) (t : ByteArray) (sec : Int) (m : Nat) (no : netOk n) (co : catOk c) (lo : rulOk l) :
    Pu 24 [netD n, sectL c, ruleL l, ls t, li sec] m (.tup [lb (safR n c l t sec).1, li (safR n c l t sec).2, li (safE n c l t sec)]) := by
  by_cases h : safE n c l t sec = 0
  · obtain ⟨hs, a, K⟩ := safE_in no co lo h;have k1 := fun m => proofOf_f K sec m hs
    have k2 := fun m => psafe_f K sec m hs
    rw [show safR n c l t sec = _ from if_pos h, h];generalize safeI (safM n c l t sec) (safS n l t) = x at *
    generalize atI (safM n c l t sec) (safS n l t) = y at *
    generalize prfT (tkOf n l t a) = P at *
    refine pcN 37 [.tmp 10,.tmp 11,.tmp 12] [4,3,32] Tryz.func24 rfl [] ?_;(repeat' first|refine stW [0,1,2,3,4,5,10,11,12,13,14,15,16,27] ?_|refine fctI fun hf=>?_|refine twI (fun hc=>?_) fun hc=>?_);exact DVR
  · have k1 := fun m => proofBad_f n c l t sec m no co lo h
    rw [show safR n c l t sec = _ from if_neg h];generalize safE n c l t sec = E at *
    (have:=NeI h);refine pcN 37 [.tmp 10,.tmp 11,.tmp 12] [4,3,32] Tryz.func24 rfl [] ?_;(repeat' first|refine stW [0,1,2,3,4,5,10,11,12,13,14,15,16,27] ?_|refine fctI fun hf=>?_|refine twI (fun hc=>?_) fun hc=>?_);exact DVR
theorem idxCnd_f (g : FuncId) (p : Cnd -> Bool) (l : List (Cnd)) (m : Nat) (hl : l.length <= 281474976710656) (hg : ∀ x, x ∈ l -> ∀ m, Pu g [cndD x] m (lb (p x))) :
    Pu 77 [cndL l, .clo g []] m (li (idxI p l)) := by
  refine pcN 19 [.tmp 4] [3] Tryz.func77 rfl [] ?_;(repeat' first|refine stW [0,1,4,5,7,8,9,16] ?_|refine fctI fun hf=>?_|refine twI (fun hc=>?_) fun hc=>?_);refine loop_swp [0, 1, 7, 8] [] 0 (fun q A H => ∃ i : Nat, i <= l.length /\ q = l.length - i /\ (l.take i).any p = false /\ A = [(0, cndL l), (1, .clo g []), (7, li l.length), (8, li i)] /\ H = []) (by omega) ?_ ?_ ?_
  · rintro q A H ⟨i, h1, h2, h3, rfl, rfl⟩;exact SDD
  · refine ⟨_, 0, by omega, rfl, rfl, ?_, ?_⟩
    · exact DVR
    · exact DVR
  · rintro q A H ⟨i, h1, h2, h3, rfl, rfl⟩;(repeat' first|refine stW [0,1,4,5,7,8,9,16] ?_|(show CallQ ..;first|refine cQ (fun hcc=>(hg _ (getD_mem SC) _)) ?_|(refine lP ?_;refine lQ (fun hcc m=>(hg _ (getD_mem SC) _)) ?_))|refine fctI fun hf=>?_|refine twI (fun hc=>?_) fun hc=>?_)
    · (refine DVQ ?_);rw [idxI_hit h3 (by omega) (by assumption)]
    · (refine lN [] ?_);exact ⟨_, by omega, i + 1, by omega, rfl, any_step h3 (by omega) (by assumption), rfl, rfl⟩
    · (refine DVQ ?_);rw [List.take_of_length_le (by omega)] at h3;rw [idxI_none h3]
theorem conCnd_f (g : FuncId) (p : Cnd -> Bool) (l : List (Cnd)) (m : Nat) (hl : l.length <= 281474976710656) (hg : ∀ x, x ∈ l -> ∀ m, Pu g [cndD x] m (lb (p x))) :
    Pu 32 [cndL l, .clo g []] m (lb (l.any p)) := by
  refine pcN 9 [.tmp 4] [4] Tryz.func32 rfl [] ?_;(repeat' first|refine stW [0,1,4] ?_|(show CallQ ..;first|refine cQ (fun hcc=>(idxCnd_f g p l _ hl hg)) ?_|(refine lP ?_;refine lQ (fun hcc m=>(idxCnd_f g p l _ hl hg)) ?_))|refine fctI fun hf=>?_|refine twI (fun hc=>?_) fun hc=>?_);(refine DVQ ?_);rw [idxI_any]
theorem idxRule_f (g : FuncId) (p : Rule -> Bool) (l : List (Rule)) (m : Nat) (hl : l.length <= 281474976710656) (hg : ∀ x, x ∈ l -> ∀ m, Pu g [ruleD x] m (lb (p x))) :
    Pu 40 [ruleL l, .clo g []] m (li (idxI p l)) := by
  refine pcN 19 [.tmp 4] [3] Tryz.func40 rfl [] ?_;(repeat' first|refine stW [0,1,4,5,7,8,9,16] ?_|refine fctI fun hf=>?_|refine twI (fun hc=>?_) fun hc=>?_);refine loop_swp [0, 1, 7, 8] [] 0 (fun q A H => ∃ i : Nat, i <= l.length /\ q = l.length - i /\ (l.take i).any p = false /\ A = [(0, ruleL l), (1, .clo g []), (7, li l.length), (8, li i)] /\ H = []) (by omega) ?_ ?_ ?_
  · rintro q A H ⟨i, h1, h2, h3, rfl, rfl⟩;exact SDD
  · refine ⟨_, 0, by omega, rfl, rfl, ?_, ?_⟩
    · exact DVR
    · exact DVR
  · rintro q A H ⟨i, h1, h2, h3, rfl, rfl⟩;(repeat' first|refine stW [0,1,4,5,7,8,9,16] ?_|(show CallQ ..;first|refine cQ (fun hcc=>(hg _ (getD_mem SC) _)) ?_|(refine lP ?_;refine lQ (fun hcc m=>(hg _ (getD_mem SC) _)) ?_))|refine fctI fun hf=>?_|refine twI (fun hc=>?_) fun hc=>?_)
    · (refine DVQ ?_);rw [idxI_hit h3 (by omega) (by assumption)]
    · (refine lN [] ?_);exact ⟨_, by omega, i + 1, by omega, rfl, any_step h3 (by omega) (by assumption), rfl, rfl⟩
    · (refine DVQ ?_);rw [List.take_of_length_le (by omega)] at h3;rw [idxI_none h3]
theorem conRule_f (g : FuncId) (p : Rule -> Bool) (l : List (Rule)) (m : Nat) (hl : l.length <= 281474976710656) (hg : ∀ x, x ∈ l -> ∀ m, Pu g [ruleD x] m (lb (p x))) :
    Pu 9 [ruleL l, .clo g []] m (lb (l.any p)) := by
  refine pcN 9 [.tmp 4] [4] Tryz.func9 rfl [] ?_;(repeat' first|refine stW [0,1,4] ?_|(show CallQ ..;first|refine cQ (fun hcc=>(idxRule_f g p l _ hl hg)) ?_|(refine lP ?_;refine lQ (fun hcc m=>(idxRule_f g p l _ hl hg)) ?_))|refine fctI fun hf=>?_|refine twI (fun hc=>?_) fun hc=>?_);(refine DVQ ?_);rw [idxI_any]
def lgN43 (x : Node) : Bool := decide (20 < x.shape.length) || decide (60 < x.name.size) || (x.prot && (decide (IntKind.i64.wrap (x.gnd - x.inv) < -1099511627776) || (decide (400 < IntKind.i64.wrap (x.gnd - x.inv)) && decide (IntKind.i64.wrap (x.gnd - x.inv) <= 20000))))
def lgL43 (x : Link) : Bool := decide (20 < x.curve.length) || decide (60 < x.name.size) || decide (60 < x.fro.size) || decide (60 < x.til.size) || decide (60 < x.sect.size)
def lgC43 (c : Cnd) : Bool := decide (60 < c.nod.size)
def lgR43 (r : Rule) : Bool := decide (60 < r.name.size) || decide (60 < r.lnk.size) || decide (25 < r.whn.length) || r.whn.any lgC43
def lgS43 (s : Sect) : Bool := decide (20 < s.area.length) || decide (20 < s.conv.length) || decide (60 < s.name.size)
def lgB43 (n : Net) (l : List Rule) : Bool := decide (8 < n.nodes.length) || decide (8 < n.links.length) || (decide (8 < l.length) && decide (l.length <= 60)) || decide (65 < l.length) || n.nodes.any lgN43 || n.links.any lgL43 || l.any lgR43
def maB43 (c : List Sect) : Bool := decide (8 < c.length) || c.any lgS43
theorem lgB43_in {n : Net} {l : List Rule} (h : lgB43 n l = false) : n.nodes.length <= 8 /\ n.links.length <= 8 /\ l.length <= 65 := by
  unfold lgB43 at h;simp only [Bool.or_eq_false_iff, decide_eq_false_iff_not] at h;obtain ⟨⟨⟨⟨⟨⟨h1, h2⟩, _⟩, h3⟩, _⟩, _⟩, _⟩ := h;exact ⟨by omega, by omega, by omega⟩
theorem lg1_43 (x : Node) (m : Nat) (hx : nodeOk x) : Pu 28 [nodeD x] m (lb (lgN43 x)) := by
  have h1 := hx.1;have h2 := hx.2.2.2.2.2.1.1;unfold lgN43;refine pcN 35 [.tmp 2] [4] Tryz.func28 rfl [] ?_;(repeat' first|refine stW [0,1,2,3] ?_|refine fctI fun hf=>?_|refine twI (fun hc=>?_) fun hc=>?_);all_goals
    (refine DVQ ?_);refine lbC ?_;generalize IntKind.i64.wrap (x.gnd - x.inv) = W at *
    grind
theorem lg2_43 (x : Link) (m : Nat) (hx : linkOk x) : Pu 30 [linkD x] m (lb (lgL43 x)) := by
  obtain ⟨h1, h2, h3, _, _, _, _, h4, _, _, h5, _⟩ := hx;refine pcN 31 [.tmp 2] [4] Tryz.func30 rfl [] ?_;(repeat' first|refine stW [0,1,2] ?_|refine fctI fun hf=>?_|refine twI (fun hc=>?_) fun hc=>?_);(refine DVQ ?_);refine lbC ?_;unfold lgL43; grind
theorem lg31_43 (c : Cnd) (m : Nat) (hx : cndOk c) : Pu 33 [cndD c] m (lb (lgC43 c)) := by
  have h1 := hx.1;refine pcN 7 [.tmp 2] [4] Tryz.func33 rfl [] ?_;(repeat' first|refine stW [0,1,2] ?_|refine fctI fun hf=>?_|refine twI (fun hc=>?_) fun hc=>?_);(refine DVQ ?_);refine lbC ?_;unfold lgC43; grind
theorem lg3_43 (r : Rule) (m : Nat) (hr : ruleOk r) : Pu 31 [ruleD r] m (lb (lgR43 r)) := by
  obtain ⟨h1, ⟨h2, h3⟩, h4, _⟩ := hr;have k1 := fun m => conCnd_f 33 lgC43 r.whn m h2 (fun x hx m => lg31_43 x m (h3 x hx))
  unfold lgR43;generalize r.whn.any lgC43 = a at *
  refine pcN 24 [.tmp 2] [4] Tryz.func31 rfl [] ?_;(repeat' first|refine stW [0,1,2] ?_|refine fctI fun hf=>?_|refine twI (fun hc=>?_) fun hc=>?_);(refine DVQ ?_);refine lbC ?_;clear k1;grind
theorem ma1_43 (s : Sect) (m : Nat) (hs : sectOk s) : Pu 35 [sectD s] m (lb (lgS43 s)) := by
  obtain ⟨h1, h2, h3, ⟨h4, _⟩, h5, _⟩ := hs;refine pcN 19 [.tmp 2] [4] Tryz.func35 rfl [] ?_;(repeat' first|refine stW [0,1,2] ?_|refine fctI fun hf=>?_|refine twI (fun hc=>?_) fun hc=>?_);(refine DVQ ?_);refine lbC ?_;unfold lgS43; grind
theorem many43_f (c : List Sect) (m : Nat) (co : catOk c) : Pu 7 [sectL c] m (lb (maB43 c)) := by
  have h1 := co.1;have k1 := fun m => conSect_f 35 lgS43 c m co.1 (fun x hx m => ma1_43 x m (co.2 x hx))
  unfold maB43;generalize c.any lgS43 = a at *
  refine pcN 10 [.tmp 2] [4] Tryz.func7 rfl [] ?_;(repeat' first|refine stW [0,2] ?_|refine fctI fun hf=>?_|refine twI (fun hc=>?_) fun hc=>?_);(refine DVQ ?_);refine lbC ?_;clear k1;grind
theorem large43_f (n : Net) (l : List Rule) (m : Nat) (no : netOk n) (lo : rulOk l) : Pu 6 [netD n, ruleL l] m (lb (lgB43 n l)) := by
  have h1 := no.1.1;have h2 := no.2.1;have h3 := lo.1;have k1 := fun m => conNode_f 28 lgN43 n.nodes m no.1.1 (fun x hx m => lg1_43 x m (no.1.2 x hx))
  have k2 := fun m => conLink_f 30 lgL43 n.links m no.2.1 (fun x hx m => lg2_43 x m (no.2.2 x hx))
  have k3 := fun m => conRule_f 31 lgR43 l m lo.1 (fun x hx m => lg3_43 x m (lo.2 x hx))
  unfold lgB43;generalize n.nodes.any lgN43 = a at *
  generalize n.links.any lgL43 = b at *
  generalize l.any lgR43 = d at *
  refine pcN 44 [.tmp 4] [4] Tryz.func6 rfl [] ?_;(repeat' first|refine stW [0,1,2,4] ?_|refine fctI fun hf=>?_|refine twI (fun hc=>?_) fun hc=>?_);all_goals
    (refine DVQ ?_);refine lbC ?_;clear k1 k2 k3;grind
def exN43 : Net := ⟨[⟨⟨#[116]⟩, 2, ⟨0, 0⟩, 0, 100, [⟨0, 0⟩, ⟨100, 1000⟩], true, 100⟩, ⟨⟨#[111]⟩, 3, ⟨0, 0⟩, 0, 10, [], false, 0⟩],
  [⟨⟨#[112]⟩, ⟨#[116]⟩, ⟨#[111]⟩, 4, 0, 50, 20, .empty, 0, 0, [⟨0, 5⟩]⟩]⟩
def exL43 : List Rule := [⟨⟨#[114]⟩, [⟨⟨#[116]⟩, true, 16⟩], ⟨#[112]⟩, 0⟩]
def nilP43 : PV := .lit (.slice none 0 0)
theorem weakenTup43 {P : Program} {g : FuncId} {C : List Nat} {args : List DV} {h h' : Nat -> Option HV} {m : Nat} {a b : List PV} {c : DV} (k : DCallsG P g C args h m (.tup [.agg (a.map .p), c]) h') (hw : PLeL a b) : DCallsG P g C args h m (.tup [.agg (b.map .p), c]) h' :=
  k.weaken (fun ρ S w v ⟨vs, e, r⟩ => ⟨vs, e, by
    cases vs with
    | nil => exact r.elim
    | cons v1 vs =>
      obtain ⟨⟨us, e2, r2⟩, r3⟩ := r;exact ⟨⟨us, e2, hw.rel r2⟩, r3⟩⟩) fun U hu => ⟨usesL_iff.2 fun d hd => by obtain ⟨x, _, rfl⟩ := List.mem_map.1 hd; exact trivial, hu.2⟩
theorem ex43_0 (m : Nat) : Pu 25 [] m (.tup [.agg ([.dat 9 [nodeP (exN43.nodes.getD 0 default), (nodeP (exN43.nodes.getD 1 default)).set 6 nilP43], .dat 11 [linkP (exN43.links.getD 0 default)]].map .p), ruleL exL43]) := by
  refine pcN 19 [.cell 0 25,.tmp 1] [25,27] Tryz.func25 rfl [32, 56, 72, 88, 136, 152] ?_;(repeat' first|refine stW [0,1,2] ?_|refine fctI fun hf=>?_|refine twI (fun hc=>?_) fun hc=>?_);(refine DVQ ?_);all_goals rfl
theorem ex43_f (m : Nat) : Pu 25 [] m (.tup [netD exN43, ruleL exL43]) :=
  weakenTup43 (b := netP exN43) (ex43_0 m) (by repeat' (first | exact PLe.rfl | exact PLe.nil _ | exact PLeL.nil | exact PLeR.nil | exact rfl | (show PLeL (_ :: _) _; refine PLeL.cons ?_ ?_) | (show PLeR _ (_ :: _) _; refine PLeR.cons ?_ rfl ?_) | refine PLe.rows ?_))
theorem ex43_no : netOk exN43 := by
  refine ⟨⟨by decide, fun y hy => ?_⟩, ⟨by decide, fun y hy => ?_⟩⟩
  · simp only [exN43, List.mem_cons, List.not_mem_nil, or_false] at hy;rcases hy with rfl | rfl
    · refine ⟨by decide, by unfold i64ok; decide, by unfold pointOk i64ok; decide, by unfold i64ok; decide, by unfold i64ok; decide, ⟨by decide, fun z hz => ?_⟩, by unfold i64ok; decide⟩;simp only [List.mem_cons, List.not_mem_nil, or_false] at hz;rcases hz with rfl | rfl <;> (unfold knotOk i64ok; decide)
    · exact ⟨by decide, by unfold i64ok; decide, by unfold pointOk i64ok; decide, by unfold i64ok; decide, by unfold i64ok; decide, ⟨by decide, fun z hz => by cases hz⟩, by unfold i64ok; decide⟩
  · simp only [exN43, List.mem_cons, List.not_mem_nil, or_false] at hy;subst hy;refine ⟨by decide, by decide, by decide, by unfold i64ok; decide, by unfold i64ok; decide, by unfold i64ok; decide, by unfold i64ok; decide, by decide, by unfold i64ok; decide, by unfold i64ok; decide, by decide, fun z hz => ?_⟩;simp only [List.mem_cons, List.not_mem_nil, or_false] at hz;subst hz;unfold knotOk i64ok; decide
theorem ex43_lo : rulOk exL43 := by
  refine ⟨by decide, fun r hr => ?_⟩;simp only [exL43, List.mem_cons, List.not_mem_nil, or_false] at hr;subst hr;refine ⟨by decide, ⟨by decide, fun y hy => ?_⟩, by decide, by unfold i64ok; decide⟩;simp only [List.mem_cons, List.not_mem_nil, or_false] at hy;subst hy;exact ⟨by decide, by unfold i64ok; decide⟩
theorem ex43_a : safE exN43 [] [] ⟨#[116]⟩ 1 = 0 /\ safR exN43 [] [] ⟨#[116]⟩ 1 = (false, 10) := by decide +kernel
theorem ex43_b : mosE43 exN43 [] exL43 ⟨#[116]⟩ 16 12 = 0 /\ mostS exN43 [] exL43 ⟨#[116]⟩ 16 12 = 60 := by decide +kernel
theorem ex43_c : setE43 exN43 exL43 ⟨#[116]⟩ 15 = 0 /\ setsS exL43 exN43 ⟨#[116]⟩ 15 = [0] := by decide +kernel
theorem awake43_f (m : Nat) : Pu 5 [] m (lb true) := by
  have co : catOk [] := ⟨by decide, fun x hx => by cases hx⟩;have k1 := fun m => Safe_f exN43 [] [] ⟨#[116]⟩ 1 m ex43_no co ⟨by decide, fun x hx => by cases hx⟩
  have k2 := fun m => MostS_f exN43 [] exL43 ⟨#[116]⟩ 16 12 m ex43_no co ex43_lo
  have k3 := fun m => Settings_f exL43 exN43 ⟨#[116]⟩ 15 m ex43_lo ex43_no
  rw [ex43_a.1, ex43_a.2] at k1;rw [ex43_b.1, if_pos rfl, ex43_b.2] at k2;rw [ex43_c.1, if_pos rfl, ex43_c.2] at k3;have k4 := fun m => eqlInt_f [0] [1000] m (by decide) (by decide)
  rw [show decide (([0] : List Int) = [1000]) = false by decide] at k4;refine pcN 65 [.tmp 0] [4] Tryz.func5 rfl [] ?_;(repeat' first|refine stW [0,1,2,3,4,5,6,7,8,9] ?_|(show CallQ ..;first|refine cQ (fun hcc=>(by exact ex43_f _)) ?_|(refine lP ?_;refine lQ (fun hcc m=>(by exact ex43_f _)) ?_))|refine fctI fun hf=>?_|refine twI (fun hc=>?_) fun hc=>?_);exact DVR

end Go.Proofs.YtdhcpkeldpadlaaGreat
