/-
  Contracts of functions of the program, over the engine.
  No condition.
-/
import Derived.Test.YtdhcpkeldpadlaaGreatCU5
import Derived.Test.YtdhcpkeldpadlaaGreatCU4
import Derived.Test.YtdhcpkeldpadlaaGreatCU3
import Derived.Test.YtdhcpkeldpadlaaGreatCU2
import Derived.Test.YtdhcpkeldpadlaaGreatCN0N1NBNmT1T2T2eT3
namespace Go.Proofs.YtdhcpkeldpadlaaGreat
open Go.Eng
set_option linter.all false
attribute [local irreducible] DCallsG SWp Fct CallQ XCallQ LCallQ XLCallQ drun xrun
set_option maxHeartbeats 64000000
set_option maxRecDepth 20000

theorem idxIlP_f (g : FuncId) (u : PV) (p : List Int -> Bool) (l : List (List Int)) (m : Nat) (hl : l.length <= 281474976710656) (hg : ∀ x, x ∈ l -> ∀ m, Pu g [ints x, .p u] m (lb (p x))) :
    Pu 148 [intss l, .clo g [.p u]] m (li (idxI p l)) := by
  refine pcN 19 [.tmp 4] [3] Tryz.func148 rfl [] ?_;(repeat' first|refine stW [0,1,4,5,7,8,9,16] ?_|refine fctI fun hf=>?_|refine twI (fun hc=>?_) fun hc=>?_);refine loop_swp [0, 1, 7, 8] [] 0 (fun q A H => ∃ i : Nat, i <= l.length /\ q = l.length - i /\ (l.take i).any p = false /\ A = [(0, intss l), (1, .clo g [.p u]), (7, li l.length), (8, li i)] /\ H = []) (by omega) ?_ ?_ ?_
  · rintro q A H ⟨i, h1, h2, h3, rfl, rfl⟩;exact SDD
  · refine ⟨_, 0, by omega, rfl, rfl, ?_, ?_⟩
    · exact DVR
    · exact DVR
  · rintro q A H ⟨i, h1, h2, h3, rfl, rfl⟩;(repeat' first|refine stW [0,1,4,5,7,8,9,16] ?_|(show CallQ ..;first|refine cQ (fun hcc=>(hg _ (getD_mem SC) _)) ?_|(refine lP ?_;refine lQ (fun hcc m=>(hg _ (getD_mem SC) _)) ?_))|refine fctI fun hf=>?_|refine twI (fun hc=>?_) fun hc=>?_)
    · (refine DVQ ?_);rw [idxI_hit h3 (by omega) (by assumption)]
    · (refine lN [] ?_);exact ⟨_, by omega, i + 1, by omega, rfl, any_step h3 (by omega) (by assumption), rfl, rfl⟩
    · (refine DVQ ?_);rw [List.take_of_length_le (by omega)] at h3;rw [idxI_none h3]
theorem prove1_f (k S : List Int) (m : Nat) (h1 : k.length <= 281474976710656) (h2 : S.length <= 281474976710656) : Pu 149 [ints k, .p (.ptr [.dat 1 (S.map inRow)])] m (lb (decide (k = S))) := by
  have c1 := fun m => eqlInt_f k S m h1 h2
  generalize decide (k = S) = b at *
  refine pcN 7 [.tmp 3] [4] Tryz.func149 rfl [] ?_;(repeat' first|refine stW [0,1,3] ?_|refine fctI fun hf=>?_|refine twI (fun hc=>?_) fun hc=>?_);exact DVR
def cndT (t : ByteArray) (f g : Int) (c : Cnd) : Bool := decide (c.nod = t) && decide (f < c.level) && decide (c.level <= g)
def conI (l : List Rule) (t : ByteArray) (f g : Int) (i : Nat) : List Int := condLs (l.take i) t f g
def conJ (l : List Rule) (t : ByteArray) (f g : Int) (i j : Nat) : List Int := conI l t f g i ++ ((((l.getD i default).whn.take j).filter (cndT t f g)).map Cnd.level)
theorem conJ_zero (l : List Rule) (t : ByteArray) (f g : Int) (i : Nat) : conJ l t f g i 0 = conI l t f g i := by
  unfold conJ;rw [List.take_zero, List.filter_nil, List.map_nil, List.append_nil]
theorem conI_next {l : List Rule} {t : ByteArray} {f g : Int} {i : Nat} (h : i < l.length) : conI l t f g (i + 1) = conJ l t f g i (l.getD i default).whn.length := by
  unfold conI conJ condLs;rw [take_snocD h, List.flatMap_append, List.flatMap_cons, List.flatMap_nil, List.append_nil, List.take_length]; rfl
theorem conJ_yes {l : List Rule} {t : ByteArray} {f g : Int} {i j : Nat} (h : j < (l.getD i default).whn.length) (e : cndT t f g ((l.getD i default).whn.getD j default) = true) : conJ l t f g i (j + 1) = conJ l t f g i j ++ [((l.getD i default).whn.getD j default).level] := by
  unfold conJ;rw [take_snocD h, List.filter_append, List.filter_cons_of_pos e, List.filter_nil, List.map_append, List.append_assoc]; rfl
theorem conJ_no {l : List Rule} {t : ByteArray} {f g : Int} {i j : Nat} (h : j < (l.getD i default).whn.length) (e : cndT t f g ((l.getD i default).whn.getD j default) = false) : conJ l t f g i (j + 1) = conJ l t f g i j := by
  unfold conJ;rw [take_snocD h, List.filter_append, List.filter_cons_of_neg (by rw [e]; decide), List.filter_nil, List.append_nil]
theorem conI_len (l : List Rule) (t : ByteArray) (f g : Int) (hr : ∀ r, r ∈ l -> r.whn.length <= 20) : ∀ i, i <= l.length -> (conI l t f g i).length <= 20 * i
  | 0, _ => by show (condLs [] t f g).length <= 0; exact Nat.le_refl _
  | i + 1, h => by
    have h1 := conI_len l t f g hr i (by omega);rw [conI_next (by omega)];unfold conJ;rw [List.length_append, List.length_map, List.take_length];have h2 := List.length_filter_le (cndT t f g) (l.getD i default).whn;have h3 := hr _ (mem_getD (l := l) (k := i) (by omega));omega
theorem conJ_len (l : List Rule) (t : ByteArray) (f g : Int) (hr : ∀ r, r ∈ l -> r.whn.length <= 20) {i j : Nat} (hi : i < l.length) : (conJ l t f g i j).length <= 20 * i + 20 := by
  have h1 := conI_len l t f g hr i (by omega);unfold conJ;rw [List.length_append, List.length_map];have h2 := List.length_filter_le (cndT t f g) ((l.getD i default).whn.take j);have h3 := hr _ (mem_getD (l := l) (k := i) hi);have h4 : ((l.getD i default).whn.take j).length <= (l.getD i default).whn.length := by rw [List.length_take]; omega
  omega
theorem rules_whn {l : List Rule} (h : rulesB l = true) : l.length <= 60 /\ ∀ r, r ∈ l -> r.whn.length <= 20 := by
  refine ⟨rulesB_60 h, fun r hr => ?_⟩;have := rules_in h r hr;unfold ruleB at this;simp only [Bool.and_eq_true, decide_eq_true_eq] at this;exact this.1.1.2
theorem conI_all (l : List Rule) (t : ByteArray) (f g : Int) : conI l t f g l.length = condLs l t f g := by unfold conI; rw [List.take_length]
theorem idx_first {α : Type} [Inhabited α] {p : α -> Bool} {l : List α} : idxI p l < 0 ∨ ∃ k : Nat, idxI p l = (k : Int) /\ k < l.length /\ p (l.getD k default) = true := by
  rcases idxI_spec p l with ⟨e, _⟩ | ⟨k, e, h, hp, _⟩
  · exact .inl (by omega)
  · exact .inr ⟨k, e, h, hp⟩
def stI (l : List Rule) (t : ByteArray) (f g : Int) (i : Nat) : List Int := f :: conI l t f g i
def stJ (l : List Rule) (t : ByteArray) (f g : Int) (i j : Nat) : List Int := f :: conJ l t f g i j
theorem stI_zero (l : List Rule) (t : ByteArray) (f g : Int) : stI l t f g 0 = [f] := rfl
theorem stJ_zero (l : List Rule) (t : ByteArray) (f g : Int) (i : Nat) : stJ l t f g i 0 = stI l t f g i := by unfold stJ stI; rw [conJ_zero]
theorem stJ_end {l : List Rule} {t : ByteArray} {f g : Int} {i : Nat} (h : i < l.length) : stJ l t f g i (l.getD i default).whn.length = stI l t f g (i + 1) := by unfold stJ stI; rw [conI_next h]
theorem stJ_yes {l : List Rule} {t : ByteArray} {f g : Int} {i j : Nat} (h : j < (l.getD i default).whn.length) (e : (decide (((l.getD i default).whn.getD j default).nod = t) && decide (f < ((l.getD i default).whn.getD j default).level) && decide (((l.getD i default).whn.getD j default).level <= g)) = true) : stJ l t f g i (j + 1) = stJ l t f g i j ++ [((l.getD i default).whn.getD j default).level] := by unfold stJ; rw [conJ_yes h e, List.cons_append]
theorem stJ_no {l : List Rule} {t : ByteArray} {f g : Int} {i j : Nat} (h : j < (l.getD i default).whn.length) (e : (decide (((l.getD i default).whn.getD j default).nod = t) && decide (f < ((l.getD i default).whn.getD j default).level) && decide (((l.getD i default).whn.getD j default).level <= g)) = false) : stJ l t f g i (j + 1) = stJ l t f g i j := by unfold stJ; rw [conJ_no h e]
theorem stI_all (l : List Rule) (t : ByteArray) (f g : Int) : stI l t f g l.length = f :: condLs l t f g := by unfold stI; rw [conI_all]
theorem stJ_len (l : List Rule) (t : ByteArray) (f g : Int) (h : l.length <= 60) (hr : ∀ r, r ∈ l -> r.whn.length <= 20) {i j : Nat} (hi : i < l.length) : (stJ l t f g i j).length <= 1221 := by
  have := conJ_len l t f g hr (j := j) hi;unfold stJ;rw [List.length_cons]; omega
theorem stI_len (l : List Rule) (t : ByteArray) (f g : Int) (h : l.length <= 60) (hr : ∀ r, r ∈ l -> r.whn.length <= 20) : (stI l t f g l.length).length <= 1201 := by
  have := conI_len l t f g hr l.length (Nat.le_refl _);unfold stI;rw [List.length_cons]; omega
attribute [irreducible] stI stJ
theorem tkOf_nd (n : Net) (l : List Rule) (t : ByteArray) (a : List Sect) : (tkOf n l t a).nd = nodeA n t := rfl
theorem tkOf_rl (n : Net) (l : List Rule) (t : ByteArray) (a : List Sect) : (tkOf n l t a).rl = l := rfl
attribute [push_cast] tkOf_nd tkOf_rl
class LevAt (l : List Int) (i : Nat) (v : outParam Int) : Prop where
  h : l.getD i default = v
theorem levAt {l : List Int} {i : Nat} {v : Int} [h : LevAt l i v] : l.getD i default = v := h.h
attribute [push_cast] levAt
class PhaAt (l : List Pha) (i : Nat) (v : outParam Pha) : Prop where
  h : l.getD i default = v
theorem phaAt {l : List Pha} {i : Nat} {v : Pha} [h : PhaAt l i v] : l.getD i default = v := h.h
attribute [push_cast] phaAt
theorem rows_il43 (l : List (List Int)) (x : List Int) : rows ilRow l ++ [[.p (.dat 1 (x.map inRow))]] = rows ilRow (l ++ [x]) := rows_app ilRow l [x]
theorem phaC_g1 (x : Pha) : (phaC x).getD 1 .junk = .p (.dat 1 (x.fl.map ilRow)) := rfl
theorem phaP_g1 (x : Pha) : ((phaP x).map DV.p).getD 1 .junk = .p (.dat 1 (x.fl.map ilRow)) := rfl
attribute [push_cast] rows_il43 phaC_g1 phaP_g1
def flJ (T : Tnk) (S : List Int) (h : Int) (j : Nat) : List (List Int) := (List.range j).map fun (g : Nat) => flowsT T (h + g) S
theorem flJ_len (T : Tnk) (S : List Int) (h : Int) (j : Nat) : (flJ T S h j).length = j := by unfold flJ; rw [List.length_map, List.length_range]
theorem flJ_next (T : Tnk) (S : List Int) (h : Int) (j : Nat) : flJ T S h (j + 1) = flJ T S h j ++ [flowsT T (h + j) S] := by
  unfold flJ;rw [List.range_succ, List.map_append]; rfl
theorem flJ_all (T : Tnk) (S : List Int) (h : Int) : flJ T S h (T.nd.gnd + 1 - h).toNat = (upTo h T.nd.gnd).map fun g => flowsT T g S := by
  unfold flJ upTo;rw [List.map_map]; rfl
theorem prove_f {n : Net} {c a : List Sect} {l : List Rule} {t : ByteArray} (K : TankIn n c l t a) (m : Nat) :
    Pu 110 [tkD (tkOf n l t a)] m (.p (.ptr (prfP (prfT (tkOf n l t a))))) := by
  obtain ⟨h300, h400⟩ := netB_len K.nb;have hlo := K.lo;have hnr := K.nr;have hrs := K.rs;have hfi := K.fi;have hno : nodeOk (nodeA n t) := K.no.1.2 _ K.me;have a1 := lev_in (node_lev hnr).1;have a2 := lev_in (node_lev hnr).2.1;have hgi := (tankE_in K.te).2.2.2.2;have hnm := K.nm;obtain ⟨h60, hwn⟩ := rules_whn K.rb;have hst : compN (srtI (firT (tkOf n l t a) :: condLs l t (firT (tkOf n l t a)) (nodeA n t).gnd)) = staT (tkOf n l t a) := by
    show compN (srtI (firT (tkOf n l t a) :: condLs l t (firT (tkOf n l t a)) (nodeA n t).gnd)) = startsR l (nodeA n t).name (firT (tkOf n l t a)) (nodeA n t).gnd;rw [hnm]; exact starts_eq l t _ _
  have hsm := fun h => K.stm (h := h)
  have hSp : (staT (tkOf n l t a)).Pairwise (· < ·) := by
    rw [<- hst];refine compN_inc _ ?_;have := List.pairwise_mergeSort (le := fun (x y : Int) => decide (x <= y)) (by intro a b c h1 h2; simp only [decide_eq_true_eq] at *; omega) (by intro a b; simp only [Bool.or_eq_true, decide_eq_true_eq]; omega) (firT (tkOf n l t a) :: condLs l t (firT (tkOf n l t a)) (nodeA n t).gnd);exact this.imp fun h => by simpa using h
  have hSlen : (staT (tkOf n l t a)).length <= 1201 := by
    rw [<- hst];refine Nat.le_trans (compN_len _) ?_;unfold srtI;rw [(List.mergeSort_perm _ _).length_eq, <- stI_all];exact stI_len l t _ _ h60 hwn
  have hol : (outL n t).length <= n.links.length := List.length_filter_le ..;have hpl : (tkOf n l t a).pt.links.length <= 1048576 := by show (outL n t).length <= _; omega
  have c1 := fun m => sLevel_f (nodeA n t) (nodeA n t).res m hno hnr ⟨hrs.1, hrs.2.1⟩
  change ∀ m, DCalls _ _ _ _ _ (.tup [li (firT (tkOf n l t a)), li 0]) _ at c1;have c2 := fun v q m => sVolume_f (nodeA n t) v m hno hnr q
  have c3 := fun v m => settings_f (tkOf n l t a) v m hlo hpl
  have c4 := fun v S m q => flowsT_f (tkOf n l t a) v S m (part_ok K.no) (some_ok K.co K.fk) hpl q
  have hsl := fun v => setT_len (tkOf n l t a) v
  have hpr : prfT (tkOf n l t a) = ⟨tkOf n l t a, (staT (tkOf n l t a)).map (phaT (tkOf n l t a)), volsM (nodeA n t) (firT (tkOf n l t a)) ((nodeA n t).gnd + 1 - firT (tkOf n l t a)).toNat⟩ := rfl;have hph : ∀ h, phaT (tkOf n l t a) h = ⟨h, (upTo h (nodeA n t).gnd).map fun g => flowsT (tkOf n l t a) g (setT (tkOf n l t a) h)⟩ := fun h => rfl
  have hshare := fun f h => @pha_share (tkOf n l t a) f h
  rw [hpr];have hnd : (tkOf n l t a).nd = nodeA n t := rfl;have hrl : (tkOf n l t a).rl = l := rfl;generalize firT (tkOf n l t a) = f at *
  clear hpr;refine pcN 185 [.tmp 2] [128] Tryz.func110 rfl [416, 32] ?_;(repeat' first|refine stW [0,2,3,4,6,8,10,11,12,13,15,16,17,18,19,42,43,44,45,49,50,51,52,78,97,114,115,116,117,129,153] ?_|refine fctI fun hf=>?_|refine twI (fun hc=>?_) fun hc=>?_);haveI : NameAt (nodeA n t) t := ⟨hnm⟩;refine loop_swp [0, 3, 4, 6, 42, 43, 44] [16, 32, 176] 240 (fun q A H => ∃ i : Nat, i <= l.length /\ q = l.length - i /\ A = [(0, tkD (tkOf n l t a)), (3, .ptr 32 0), (4, li f), (6, .gl 176), (42, ruleL l), (43, li l.length), (44, li i)] /\ H = [(16, .map []), (32, .blk 160 [tkD (tkOf n l t a), nilS, .mref 16]), (176, inLt (stI l t f (nodeA n t).gnd i))]) (by omega) ?_ ?_ ?_
  · rintro q A H ⟨i, g1, g2, rfl, rfl⟩;exact SDD
  · refine ⟨_, 0, by omega, rfl, ?_, ?_⟩
    · exact DVR
    · rw [stI_zero];exact DVR
  rintro q A H ⟨i, g1, g2, rfl, rfl⟩;by_cases hi : i < l.length
  · have hi3 : (i : Int) < (l.length : Int) := by omega
    have hw := ruleOk_at hlo hi;(have:=NeI hi);(have:=NeI hi3);clear c1 c2 c3 c4 hst hsl hsm hph hshare;(repeat' first|refine stW [0,2,3,4,6,8,10,11,12,13,15,16,17,18,19,42,43,44,45,49,50,51,52,78,97,114,115,116,117,129,153] ?_|refine fctI fun hf=>?_|refine twI (fun hc=>?_) fun hc=>?_);refine loop_swp [0, 3, 4, 6, 42, 43, 44, 49, 50, 51] [16, 32, 176] 312 (fun q A H => ∃ j : Nat, j <= (l.getD i default).whn.length /\ q = (l.getD i default).whn.length - j /\ A = [(0, tkD (tkOf n l t a)), (3, .ptr 32 0), (4, li f), (6, .gl 176), (42, ruleL l), (43, li l.length), (44, li i), (49, cndL (l.getD i default).whn), (50, li (l.getD i default).whn.length), (51, li j)] /\ H = [(16, .map []), (32, .blk 160 [tkD (tkOf n l t a), nilS, .mref 16]), (176, inLt (stJ l t f (nodeA n t).gnd i j))]) (by omega) ?_ ?_ ?_
    · rintro q A H ⟨j, k1, k2, rfl, rfl⟩;exact SDD
    · refine ⟨_, 0, by omega, rfl, ?_, ?_⟩
      · exact DVR
      · rw [stJ_zero];exact DVR
    rintro q A H ⟨j, k1, k2, rfl, rfl⟩;by_cases hj : j < (l.getD i default).whn.length
    · have hj3 : (j : Int) < ((l.getD i default).whn.length : Int) := by omega
      have hy := @stJ_yes l t f (nodeA n t).gnd i j hj;have hn := @stJ_no l t f (nodeA n t).gnd i j hj;have hlj := stJ_len l t f (nodeA n t).gnd h60 hwn (j := j) hi;generalize stJ l t f (nodeA n t).gnd i j = X at *
      (have:=NeI hj);(have:=NeI hj3);by_cases e1 : ((l.getD i default).whn.getD j default).nod = t
      case neg =>
        replace hn := hn (by rw [decide_eq_false e1]; rfl)
        clear hy;(have:=NeI e1);(repeat' first|refine stW [0,2,3,4,6,8,10,11,12,13,15,16,17,18,19,42,43,44,45,49,50,51,52,78,97,114,115,116,117,129,153] ?_|refine fctI fun hf=>?_|refine twI (fun hc=>?_) fun hc=>?_);(refine lN [16, 32, 176] ?_);exact ⟨_, by omega, j + 1, by omega, rfl, rfl, by rw [hn] <;> rfl⟩
      (have:=NeI e1);by_cases e2 : f < ((l.getD i default).whn.getD j default).level
      case neg =>
        replace hn := hn (by rw [decide_eq_false e2, Bool.and_false, Bool.false_and])
        clear hy;(have:=NeI e2);(repeat' first|refine stW [0,2,3,4,6,8,10,11,12,13,15,16,17,18,19,42,43,44,45,49,50,51,52,78,97,114,115,116,117,129,153] ?_|refine fctI fun hf=>?_|refine twI (fun hc=>?_) fun hc=>?_);(refine lN [16, 32, 176] ?_);exact ⟨_, by omega, j + 1, by omega, rfl, rfl, by rw [hn] <;> rfl⟩
      (have:=NeI e2);by_cases e3 : ((l.getD i default).whn.getD j default).level <= (nodeA n t).gnd
      case neg =>
        replace hn := hn (by rw [decide_eq_false e3, Bool.and_false])
        clear hy;(have:=NeI e3);(repeat' first|refine stW [0,2,3,4,6,8,10,11,12,13,15,16,17,18,19,42,43,44,45,49,50,51,52,78,97,114,115,116,117,129,153] ?_|refine fctI fun hf=>?_|refine twI (fun hc=>?_) fun hc=>?_);(refine lN [16, 32, 176] ?_);exact ⟨_, by omega, j + 1, by omega, rfl, rfl, by rw [hn] <;> rfl⟩
      (have:=NeI e3)
      replace hy := hy (by rw [decide_eq_true e1, decide_eq_true e2, decide_eq_true e3]; rfl)
      clear hn;(repeat' first|refine stW [0,2,3,4,6,8,10,11,12,13,15,16,17,18,19,42,43,44,45,49,50,51,52,78,97,114,115,116,117,129,153] ?_|refine fctI fun hf=>?_|refine twI (fun hc=>?_) fun hc=>?_);(refine lN [16, 32, 176] ?_);exact ⟨_, by omega, j + 1, by omega, rfl, rfl, by rw [hy] <;> rfl⟩
    obtain rfl : j = (l.getD i default).whn.length := by omega
    have hj3 : ¬ (((l.getD i default).whn.length : Int) < ((l.getD i default).whn.length : Int)) := by omega
    rw [stJ_end hi];(have:=NeI hj3);(repeat' first|refine stW [0,2,3,4,6,8,10,11,12,13,15,16,17,18,19,42,43,44,45,49,50,51,52,78,97,114,115,116,117,129,153] ?_|refine fctI fun hf=>?_|refine twI (fun hc=>?_) fun hc=>?_);(refine lN [16, 32, 176] ?_);exact ⟨_, by omega, i + 1, by omega, rfl, rfl, rfl⟩
  obtain rfl : i = l.length := by omega
  have hi3 : ¬ ((l.length : Int) < (l.length : Int)) := by omega
  have hst2 : compN (srtI (stI l t f (nodeA n t).gnd l.length)) = staT (tkOf n l t a) := by rw [stI_all]; exact hst
  have hZ : stI l t f (nodeA n t).gnd l.length ≠ [] := by rw [stI_all]; exact List.cons_ne_nil _ _
  have hZl := stI_len l t f (nodeA n t).gnd h60 hwn;(have:=NeI hi3);clear hst;generalize stI l t f (nodeA n t).gnd l.length = Z at *
  have hsn : srtI Z ≠ [] := fun e => hZ (by
    have := (List.mergeSort_perm Z fun x y => decide (x <= y)).length_eq;rw [show Z.mergeSort (fun x y => decide (x <= y)) = [] from e] at this;exact List.eq_nil_of_length_eq_zero this.symm)
  (repeat' first|refine stW [0,2,3,4,6,8,10,11,12,13,15,16,17,18,19,42,43,44,45,49,50,51,52,78,97,114,115,116,117,129,153] ?_|refine fctI fun hf=>?_|refine twI (fun hc=>?_) fun hc=>?_);(refine cQT [176] (fun hcc => (sort_f Z _ hZ)) ?_);(repeat' first|refine stW [0,2,3,4,6,8,10,11,12,13,15,16,17,18,19,42,43,44,45,49,50,51,52,78,97,114,115,116,117,129,153] ?_|refine fctI fun hf=>?_|refine twI (fun hc=>?_) fun hc=>?_);(refine cQT [176] (fun hcc => (compact_f (srtI Z) _ hsn)) ?_);(repeat' first|(show SWp _ _ _ (.seq (.region 16 _ _) _) _ _ _ _;refine (stop_in ?_))|(show SWp _ _ _ (.region _ _ true) _ _ _ _;refine xG mixed [] ?_)|refine stW [0,2,3,4,6,8,10,11,12,13,15,16,17,18,19,42,43,44,45,49,50,51,52,78,97,114,115,116,117,129,153] ?_|refine fctI fun hf=>?_|refine twI (fun hc=>?_) fun hc=>?_);refine stop_out ?_;rw [hst2];clear hst2 hZ hZl hsn;have hSl : (staT (tkOf n l t a)).length <= 1201 := hSlen;have hS0 : (staT (tkOf n l t a)).length <= 281474976710656 := by omega
  (refine sF 272 ?_);(repeat' first|refine stW [0,2,3,4,6,8,10,11,12,13,15,16,17,18,19,42,43,44,45,49,50,51,52,78,97,114,115,116,117,129,153] ?_|refine fctI fun hf=>?_|refine twI (fun hc=>?_) fun hc=>?_);have hfl : f <= (nodeA n t).gnd := hfi.2;refine loop_swp [0, 3, 6, 11] [16, 32] 304 (fun q A H => ∃ j : Nat, f + j <= (nodeA n t).gnd + 1 /\ q = ((nodeA n t).gnd + 1 - f).toNat - j /\ A = [(0, tkD (tkOf n l t a)), (3, .ptr 32 0), (6, ints (staT (tkOf n l t a))), (11, li (f + j))] /\ H = [(16, .map (intE (volsM (nodeA n t) f j))), (32, .blk 160 [tkD (tkOf n l t a), nilS, .mref 16])]) (by omega) ?_ ?_ ?_
  · rintro q A H ⟨j, g1, g2, rfl, rfl⟩;exact SDD
  · refine ⟨_, 0, by omega, rfl, ?_, ?_⟩
    · rw [show f + ((0 : Nat) : Int) = f by omega];exact DVR
    · rw [show intE (volsM (nodeA n t) f 0) = [] from intE_nil];exact DVR
  rintro q A H ⟨j, g1, g2, rfl, rfl⟩;by_cases hj : f + (j : Int) <= (nodeA n t).gnd
  · have hput := volsM_put (nodeA n t) f j;have hbw : btwB (f + j) (nodeA n t).inv (nodeA n t).gnd = true := by
      unfold btwB;have := hfi.1;simp only [Bool.and_eq_true, decide_eq_true_eq]; omega
    have c5 := fun m => c2 (f + j) hbw m
    have hnx : f + ((j + 1 : Nat) : Int) = f + (j : Int) + 1 := by omega
    generalize volI (nodeA n t) (f + j) = V at *
    generalize volsM (nodeA n t) f j = X at *
    clear c1 c2 c3 c4 hsl hsm hph hshare;generalize f + (j : Int) = G at *
    (have:=NeI hj);(repeat' first|(show SWp _ _ _ (.region _ _ true) _ _ _ _;refine xG mixed [16, 1000010] ?_)|refine stW [0,2,3,4,6,8,10,11,12,13,15,16,17,18,19,42,43,44,45,49,50,51,52,78,97,114,115,116,117,129,153] ?_|refine fctI fun hf=>?_|refine twI (fun hc=>?_) fun hc=>?_);rw [hput];(refine lN [16, 32] ?_);exact ⟨_, by omega, j + 1, by omega, rfl, by rw [hnx] <;> rfl, rfl⟩
  obtain rfl : j = ((nodeA n t).gnd + 1 - f).toNat := by omega
  generalize hVM : volsM (nodeA n t) f ((nodeA n t).gnd + 1 - f).toNat = VM at *
  generalize f + (((nodeA n t).gnd + 1 - f).toNat : Int) = G at *
  (have:=NeI hj);(repeat' first|(show SWp _ _ _ (.seq (.region 20 _ _) _) _ _ _ _;refine (stop_in ?_))|(show SWp _ _ _ (.region _ _ true) _ _ _ _;refine xG mixed [] ?_)|refine stW [0,2,3,4,6,8,10,11,12,13,15,16,17,18,19,42,43,44,45,49,50,51,52,78,97,114,115,116,117,129,153] ?_|refine fctI fun hf=>?_|refine twI (fun hc=>?_) fun hc=>?_);refine stop_out ?_;refine sF 16 (v := .map (intE VM)) (x := .mp (VM.map fun e => .int .i64 e.1) (VM.map fun e => .lit (.int .i64 e.2))) ?_ (hx := intE_fv VM);rw [mapE_eq];(repeat' first|refine stW [0,2,3,4,6,8,10,11,12,13,15,16,17,18,19,42,43,44,45,49,50,51,52,78,97,114,115,116,117,129,153] ?_|refine fctI fun hf=>?_|refine twI (fun hc=>?_) fun hc=>?_);(refine sN 12 31 1 ?_);(refine sN 13 3 1 ?_);refine swp_hkeep [32, 400, 408] rfl ?_;change SWp _ _ _ _ _ _ ((32, .blk 160 ([tkD (tkOf n l t a)] ++ .p (.lit (.slice none 0 0)) :: [.p (mapE VM)])) :: _) _;refine swp_nilC 32 160 162 2 [tkD (tkOf n l t a)] [.p (mapE VM)] rfl ?_;have hSm : ∀ i, i < (staT (tkOf n l t a)).length -> f <= (staT (tkOf n l t a)).getD i default /\ (staT (tkOf n l t a)).getD i default <= (nodeA n t).gnd := fun i hi => hsm _ (mem_getD hi)
  have hSi : ∀ i j, i < j -> j < (staT (tkOf n l t a)).length -> (staT (tkOf n l t a)).getD i default < (staT (tkOf n l t a)).getD j default := fun i j hij hj => by
    rw [getD_is hj, getD_is (by omega)];exact List.pairwise_iff_getElem.1 hSp i j (by omega) hj hij
  generalize staT (tkOf n l t a) = ST at *
  refine loop_swp [0, 3, 12, 13, 114, 115, 116] [32, 400, 408, 416] 424 (fun q A H => ∃ i : Nat, i <= ST.length /\ q = ST.length - i /\ A = [(0, tkD (tkOf n l t a)), (3, .ptr 32 0), (12, .gl 400), (13, .gl 408), (114, ints ST), (115, li ST.length), (116, li i)] /\ H = [(32, .blk 160 [tkD (tkOf n l t a), .gl 416, .p (mapE VM)]), (400, .lst 31 1 (rows ilRow ((ST.take i).map (setT (tkOf n l t a))))), (408, inLt (ST.take i)), (416, .lst 162 2 (rows phaP ((ST.take i).map (phaT (tkOf n l t a)))))]) (by omega) ?_ ?_ ?_
  · rintro q A H ⟨i, g1, g2, rfl, rfl⟩;exact SDD
  · refine ⟨_, 0, by omega, rfl, ?_, ?_⟩
    · exact DVR
    · exact DVR
  rintro q A H ⟨i, g1, g2, rfl, rfl⟩;by_cases hi : i < ST.length
  case neg =>
    obtain rfl : i = ST.length := by omega
    have hi3 : ¬ ((ST.length : Int) < (ST.length : Int)) := by omega
    rw [List.take_length];(have:=NeI hi3);generalize ST.map (phaT (tkOf n l t a)) = PS at *
    clear c1 c2 c3 c4 hsl hsm hph hshare;(repeat' first|refine stW [0,2,3,4,6,8,10,11,12,13,15,16,17,18,19,42,43,44,45,49,50,51,52,78,97,114,115,116,117,129,153] ?_|refine fctI fun hf=>?_|refine twI (fun hc=>?_) fun hc=>?_);exact DVR
  have hi3 : (i : Int) < (ST.length : Int) := by omega
  have c5 := fun m => c3 (ST.getD i default) m
  have hShi := hSm i hi;have hsli := hsl (ST.getD i default);have e1 : (ST.take (i + 1)).map (setT (tkOf n l t a)) = (ST.take i).map (setT (tkOf n l t a)) ++ [setT (tkOf n l t a) (ST.getD i default)] := by rw [take_snocD hi, List.map_append]; rfl
  have e2 : (ST.take (i + 1)).map (phaT (tkOf n l t a)) = (ST.take i).map (phaT (tkOf n l t a)) ++ [phaT (tkOf n l t a) (ST.getD i default)] := by rw [take_snocD hi, List.map_append]; rfl
  have e3 := take_snocD hi;have hKl : ((ST.take i).map (setT (tkOf n l t a))).length = i := by rw [List.length_map, List.length_take]; omega
  have hPl : ((ST.take i).map (phaT (tkOf n l t a))).length = i := by rw [List.length_map, List.length_take]; omega
  have hFl : (ST.take i).length = i := by rw [List.length_take]; omega
  have hKn : ∀ k, k ∈ (ST.take i).map (setT (tkOf n l t a)) -> k.length <= 281474976710656 := fun k hk => by
    obtain ⟨z, _, rfl⟩ := List.mem_map.1 hk;rw [hsl z]; exact Nat.le_trans hpl (by decide)
  have hKi : ∀ k, k < i -> ((ST.take i).map (setT (tkOf n l t a))).getD k default = setT (tkOf n l t a) (ST.getD k default) := fun k hk => by
    rw [getD_is (by omega), List.getElem_map, List.getElem_take, getD_is (by omega)]
  have hPi : ∀ k, k < i -> ((ST.take i).map (phaT (tkOf n l t a))).getD k default = phaT (tkOf n l t a) (ST.getD k default) := fun k hk => by
    rw [getD_is (by omega), List.getElem_map, List.getElem_take, getD_is (by omega)]
  have hFi : ∀ k, k < i -> (ST.take i).getD k default = ST.getD k default := fun k hk => by
    rw [getD_is (by omega), List.getElem_take, getD_is (by omega)]
  have hco := idx_first (p := fun k => decide (k = setT (tkOf n l t a) (ST.getD i default))) (l := (ST.take i).map (setT (tkOf n l t a)));have hSn : (setT (tkOf n l t a) (ST.getD i default)).length <= 281474976710656 := by rw [hsli]; exact Nat.le_trans hpl (by decide)
  have ci := fun m => idxIlP_f 149 (.ptr [.dat 1 ((setT (tkOf n l t a) (ST.getD i default)).map inRow)]) (fun k => decide (k = setT (tkOf n l t a) (ST.getD i default))) ((ST.take i).map (setT (tkOf n l t a))) m (by omega) (fun k hk m => prove1_f k (setT (tkOf n l t a) (ST.getD i default)) m (hKn k hk) hSn)
  have hQ := hph (ST.getD i default);have c6 := fun v m => c4 v (setT (tkOf n l t a) (ST.getD i default)) m hsli
  generalize hS : setT (tkOf n l t a) (ST.getD i default) = S at *
  generalize hKK : (ST.take i).map (setT (tkOf n l t a)) = KK at *
  generalize hPP : (ST.take i).map (phaT (tkOf n l t a)) = PP at *
  generalize hFF : ST.take i = FF at *
  generalize hQQ : phaT (tkOf n l t a) (ST.getD i default) = QQ at *
  (have:=NeI hi);(have:=NeI hi3);rcases hco with hneg | ⟨k, hk, hkl, hkp⟩
  · generalize idxI (fun k => decide (k = S)) KK = IX at *
    (have:=NeI hneg);have hneg2 : ¬ 0 <= IX := by omega
    (have:=NeI hneg2);clear c1 c2 c3 c4 hph hshare hPi hKi hFi hsl hsm hSm hSi hKn;(repeat' first|(show SWp _ _ _ (.seq (.region 27 _ _) _) _ _ _ _;refine (stop_in ?_))|(show SWp _ _ _ (.region _ _ true) _ _ _ _;refine xG mixed [] ?_)|refine stW [0,2,3,4,6,8,10,11,12,13,15,16,17,18,19,42,43,44,45,49,50,51,52,78,97,114,115,116,117,129,153] ?_|refine fctI fun hf=>?_|refine twI (fun hc=>?_) fun hc=>?_);refine stop_out ?_;refine sF 480 (v := .blk 31 [ints S]) (x := .cells [.dat 1 (S.map inRow)]) ?_ (hx := rfl);(repeat' first|refine stW [0,2,3,4,6,8,10,11,12,13,15,16,17,18,19,42,43,44,45,49,50,51,52,78,97,114,115,116,117,129,153] ?_|refine fctI fun hf=>?_|refine twI (fun hc=>?_) fun hc=>?_);refine swp_hkeep [512, 32, 400, 408, 416] rfl ?_;change SWp _ _ _ _ _ _ ((512, .blk 162 ([li (ST.getD i default)] ++ .p (.lit (.slice none 0 0)) :: [])) :: _) _;refine swp_nilC 512 162 31 1 [li (ST.getD i default)] [] rfl ?_;clear ci c5;refine loop_swp [0, 3, 12, 13, 15, 16, 17, 19, 114, 115, 116] [32, 400, 408, 416, 512, 592] 600 (fun q A H => ∃ j : Nat, ST.getD i default + j <= (nodeA n t).gnd + 1 /\ q = ((nodeA n t).gnd + 1 - ST.getD i default).toNat - j /\ A = [(0, tkD (tkOf n l t a)), (3, .ptr 32 0), (12, .gl 400), (13, .gl 408), (15, li (ST.getD i default)), (16, .p (.ptr [.dat 1 (S.map inRow)])), (17, .ptr 512 0), (19, li (ST.getD i default + j)), (114, ints ST), (115, li ST.length), (116, li i)] /\ H = [(32, .blk 160 [tkD (tkOf n l t a), .gl 416, .p (mapE VM)]), (400, .lst 31 1 (rows ilRow KK)), (408, inLt FF), (416, .lst 162 2 (rows phaP PP)), (512, .blk 162 [li (ST.getD i default), .gl 592]), (592, .lst 31 1 (rows ilRow (flJ (tkOf n l t a) S (ST.getD i default) j)))]) (by omega) ?_ ?_ ?_
    · rintro q A H ⟨j, k1, k2, rfl, rfl⟩;exact SDD
    · refine ⟨_, 0, by omega, rfl, ?_, ?_⟩
      · rw [show ST.getD i default + ((0 : Nat) : Int) = ST.getD i default by omega];exact DVR
      · rw [show flJ (tkOf n l t a) S (ST.getD i default) 0 = [] from rfl];exact DVR
    rintro q A H ⟨j, k1, k2, rfl, rfl⟩;have hjl := flJ_len (tkOf n l t a) S (ST.getD i default) j;by_cases hj : ST.getD i default + (j : Int) <= (nodeA n t).gnd
    · have c7 := fun m => c6 (ST.getD i default + j) m
      have hjn := flJ_next (tkOf n l t a) S (ST.getD i default) j;have hnx : ST.getD i default + ((j + 1 : Nat) : Int) = ST.getD i default + (j : Int) + 1 := by omega
      have hjg : j <= 20000 := by omega
      generalize flJ (tkOf n l t a) S (ST.getD i default) j = X at *
      generalize flowsT (tkOf n l t a) (ST.getD i default + (j : Int)) S = Y at *
      generalize hG : ST.getD i default + (j : Int) = G at *
      clear c6;(have:=NeI hj);(repeat' first|(show SWp _ _ _ (.region _ _ true) _ _ _ _;refine xG mixed [512, 592, 1000005, 9000512, 11000592] ?_)|refine stW [0,2,3,4,6,8,10,11,12,13,15,16,17,18,19,42,43,44,45,49,50,51,52,78,97,114,115,116,117,129,153] ?_|refine fctI fun hf=>?_|refine twI (fun hc=>?_) fun hc=>?_);(refine lR 712 592 [32, 400, 408, 416, 512, 712] ?_);exact ⟨_, by omega, j + 1, by omega, rfl, by rw [hnx] <;> rfl, by rw [hjn] <;> rfl⟩
    obtain rfl : j = ((nodeA n t).gnd + 1 - ST.getD i default).toNat := by omega
    have hend : flJ (tkOf n l t a) S (ST.getD i default) ((nodeA n t).gnd + 1 - ST.getD i default).toNat = QQ.fl := by
      rw [hQ]; exact flJ_all (tkOf n l t a) S (ST.getD i default)
    have hfr : QQ.fr = ST.getD i default := by rw [hQ]
    rw [hend];generalize ST.getD i default + (((nodeA n t).gnd + 1 - ST.getD i default).toNat : Int) = G at *
    clear c6 hQ hend;(have:=NeI hj);(repeat' first|(show SWp _ _ _ (.seq (.region 34 _ _) _) _ _ _ _;refine (stop_in ?_))|(show SWp _ _ _ (.region _ _ true) _ _ _ _;refine xG mixed [] ?_)|refine stW [0,2,3,4,6,8,10,11,12,13,15,16,17,18,19,42,43,44,45,49,50,51,52,78,97,114,115,116,117,129,153] ?_|refine fctI fun hf=>?_|refine twI (fun hc=>?_) fun hc=>?_);refine stop_out ?_;(refine sF 592 ?_);change SWp _ _ _ _ _ _ [_, _, _, _, (512, .blk 162 [li (ST.getD i default), .p (.dat 1 (QQ.fl.map ilRow))])] _;rw [show [li (ST.getD i default), DV.p (.dat 1 (QQ.fl.map ilRow))] = phaC QQ by rw [<- hfr]; rfl];clear hfr;(repeat' first|(show SWp _ _ _ (.region _ _ true) _ _ _ _;refine xG mixed [32, 416, 9000032, 12000416] ?_)|refine stW [0,2,3,4,6,8,10,11,12,13,15,16,17,18,19,42,43,44,45,49,50,51,52,78,97,114,115,116,117,129,153] ?_|refine fctI fun hf=>?_|refine twI (fun hc=>?_) fun hc=>?_);(refine lR 792 416 [32, 400, 408, 792] ?_);exact ⟨_, by omega, i + 1, by omega, rfl, rfl, by rw [e1, e2, e3] <;> rfl⟩
  · have hki : k < i := by omega
    have hKk := of_decide_eq_true hkp;rw [hKi k hki] at hKk;have hSik := hSi k i hki hi;have hSmk := hSm k (by omega);have hsh := hshare (ST.getD k default) (ST.getD i default) (by omega) (by show _ <= (nodeA n t).gnd; omega) (by rw [hKk, hS]);rw [hQQ] at hsh;have hflk : (phaT (tkOf n l t a) (ST.getD k default)).fl.length = ((nodeA n t).gnd + 1 - ST.getD k default).toNat := by
      rw [hph (ST.getD k default)];simp only [List.length_map];exact upTo_len _ _
    have hfr : QQ.fr = ST.getD i default := by rw [hQ]
    have hPk := hPi k hki;have hFk := hFi k hki;rw [hk] at ci;generalize phaT (tkOf n l t a) (ST.getD k default) = QK at *
    haveI : PhaAt PP k QK := ⟨hPk⟩;haveI : LevAt FF k (ST.getD k default) := ⟨hFk⟩;have hkP : k < PP.length := by omega
    have hkP3 : (k : Int) < (PP.length : Int) := by omega
    have hkF : k < FF.length := by omega
    have hkF3 : (k : Int) < (FF.length : Int) := by omega
    have hk0 : (0 : Int) <= (k : Int) := by omega
    clear c1 c2 c3 c4 hph hshare hPi hKi hFi hsl hsm hSm hSi hKn c6 hPk hFk hQ;(have:=NeI hkP);(have:=NeI hkP3);(have:=NeI hkF);(have:=NeI hkF3);(have:=NeI hk0);(repeat' first|(show SWp _ _ _ (.seq (.region 27 _ _) _) _ _ _ _;refine (stop_in ?_))|(show SWp _ _ _ (.region _ _ true) _ _ _ _;refine xG mixed [] ?_)|refine stW [0,2,3,4,6,8,10,11,12,13,15,16,17,18,19,42,43,44,45,49,50,51,52,78,97,114,115,116,117,129,153] ?_|refine fctI fun hf=>?_|refine twI (fun hc=>?_) fun hc=>?_);refine stop_out ?_;refine sF 480 (v := .blk 31 [ints S]) (x := .cells [.dat 1 (S.map inRow)]) ?_ (hx := rfl);have hsl2 : List.take (QK.fl.length - (ST.getD i default - ST.getD k default).toNat) (List.drop (ST.getD i default - ST.getD k default).toNat QK.fl) = QQ.fl := by
      rw [List.take_of_length_le (by rw [List.length_drop]; exact Nat.le_refl _)];exact hsh
    (repeat' first|(show SWp _ _ _ (.seq (.region 34 _ _) _) _ _ _ _;refine (stop_in ?_))|(show SWp _ _ _ (.region _ _ true) _ _ _ _;refine xG mixed [512] ?_)|refine stW [0,2,3,4,6,8,10,11,12,13,15,16,17,18,19,42,43,44,45,49,50,51,52,78,97,114,115,116,117,129,153] ?_|refine fctI fun hf=>?_|refine twI (fun hc=>?_) fun hc=>?_);refine stop_out ?_;rw [hsl2];change SWp _ _ _ _ _ _ ((512, .blk 162 [li (ST.getD i default), .p (.dat 1 (QQ.fl.map ilRow))]) :: _) _;rw [show [li (ST.getD i default), DV.p (.dat 1 (QQ.fl.map ilRow))] = phaC QQ by rw [<- hfr]; rfl];clear hfr hsl2 hsh hflk;(repeat' first|(show SWp _ _ _ (.region _ _ true) _ _ _ _;refine xG mixed [32, 416, 9000032, 12000416] ?_)|refine stW [0,2,3,4,6,8,10,11,12,13,15,16,17,18,19,42,43,44,45,49,50,51,52,78,97,114,115,116,117,129,153] ?_|refine fctI fun hf=>?_|refine twI (fun hc=>?_) fun hc=>?_);(refine lR 848 416 [32, 400, 408, 848] ?_);exact ⟨_, by omega, i + 1, by omega, rfl, rfl, by rw [e1, e2, e3] <;> rfl⟩
theorem lookup_mem : ∀ (l : List (Int × Int)) (k v : Int), l.lookup k = some v -> ∃ e, e ∈ l /\ e.2 = v
  | [], _, _, h => by cases h
  | e :: l, k, v, h => by
    rw [List.lookup_cons] at h;split at h
    · cases h; exact ⟨e, List.mem_cons_self .., rfl⟩
    · obtain ⟨x, hx, q⟩ := lookup_mem l k v h;exact ⟨x, List.mem_cons_of_mem _ hx, q⟩
theorem volsM_in {x : Node} (h : nodeR x = true) (f : Int) (i : Nat) (k : Int) : 0 <= valI (volsM x f i) k /\ valI (volsM x f i) k <= 1125899906842624 := by
  unfold valI;cases hl : (volsM x f i).lookup k with
  | none => exact ⟨Int.le_refl 0, by decide⟩
  | some v =>
    obtain ⟨e, he, rfl⟩ := lookup_mem _ _ _ hl;obtain ⟨j, _, rfl⟩ := List.mem_map.1 he;exact volI_in _ h
class MaxAt (a b : Int) (v : outParam Int) : Prop where
  h : max a b = v
theorem maxAt {a b v : Int} [h : MaxAt a b v] : max a b = v := h.h
attribute [push_cast] maxAt
abbrev prD (P : Prf) : DV := .p (.ptr (prfP P))
theorem tmargin_f (P : Prf) (x : Pha) (sec : Int) (m : Nat) (hs : 1 <= sec /\ sec <= 86400) (hl : x.fl.length <= 30000) (hfl : ∀ q, q ∈ x.fl -> q.length <= 400 /\ ∀ z, z ∈ q -> 0 <= z /\ z <= 1099511627776) (hr : 0 <= P.tk.nd.res /\ P.tk.nd.res <= 1125899906842624) (hv : ∀ k, 0 <= valI P.vl k /\ valI P.vl k <= 1125899906842624) (hfr : -8388608 <= x.fr /\ x.fr <= 8388608) :
    Pu 111 [prD P, phaD x, li sec] m (li (margP P x sec)) := by
  show Pu 111 [prD P, phaD x, li sec] m (li (margK P x sec x.fl.length));refine pcN 61 [.tmp 6] [3] Tryz.func111 rfl [] ?_;(repeat' first|refine stW [0,1,2,4,6,7,8,9,10,11,13,14,15,16,57] ?_|refine fctI fun hf=>?_|refine twI (fun hc=>?_) fun hc=>?_);refine loop_swp [0, 2, 4, 7, 8, 13, 14, 15] [0] 64 (fun q A H => ∃ i : Nat, i <= x.fl.length /\ q = x.fl.length - i /\ (-452000000000000000 <= margK P x sec i /\ margK P x sec i <= 1125899906842624) /\ A = [(0, prD P), (2, li sec), (4, .ptr 0 0), (7, li (margK P x sec i)), (8, lb (decide (0 < i))), (13, intss x.fl), (14, li x.fl.length), (15, li i)] /\ H = [(0, .blk 162 (phaC x))]) (by omega) ?_ ?_ ?_
  · rintro q A H ⟨i, g1, g2, g3, rfl, rfl⟩;exact SDD
  · refine ⟨_, 0, by omega, rfl, by rw [show margK P x sec 0 = 0 from rfl]; omega, ?_, ?_⟩
    · rw [show margK P x sec 0 = 0 from rfl];exact DVR
    · exact DVR
  rintro q A H ⟨i, g1, g2, g3, rfl, rfl⟩;by_cases hi : i < x.fl.length
  · have hi3 : (i : Int) < (x.fl.length : Int) := by omega
    have hfi := hfl _ (mem_getD hi);have c1 := fun m => tleaves_f (x.fl.getD i default) sec m hfi.1 hfi.2 hs
    have hL := leaves_in sec (by omega) (x.fl.getD i default) fun q h => (hfi.2 q h).1
    have hL2 : leavesI (x.fl.getD i default) sec <= 450359962737049600 := by
      have := hfi.1;have h2 := hL.2;have : ((x.fl.getD i default).length : Int) <= 400 := by omega
      omega
    have hV := hv (x.fr + i);have hst : margK P x sec (i + 1) = if i = 0 ∨ (max P.tk.nd.res (valI P.vl (x.fr + i)) - leavesI (x.fl.getD i default) sec - P.tk.nd.res) < margK P x sec i then (max P.tk.nd.res (valI P.vl (x.fr + i)) - leavesI (x.fl.getD i default) sec - P.tk.nd.res) else margK P x sec i := by
      by_cases h0 : i = 0
      · subst h0;rw [if_pos (.inl rfl)]; exact margK_one P x sec
      · rw [margK_next P x sec (by omega)];show min _ (max P.tk.nd.res (valI P.vl (x.fr + i)) - leavesI (x.fl.getD i default) sec - P.tk.nd.res) = _;by_cases q : (max P.tk.nd.res (valI P.vl (x.fr + i)) - leavesI (x.fl.getD i default) sec - P.tk.nd.res) < margK P x sec i
        · rw [if_pos (.inr q)]; omega
        · rw [if_neg (by omega)]; omega
    haveI : ValI P.vl (x.fr + i) (valI P.vl (x.fr + i)) := ⟨rfl⟩;generalize hN : margK P x sec (i + 1) = N at *
    generalize margK P x sec i = L at *
    generalize leavesI (x.fl.getD i default) sec = LV at *
    generalize hVV : valI P.vl (x.fr + i) = V at *
    clear hfl hv hfi;(have:=NeI hi);(have:=NeI hi3);have hM : ∃ M, M = max P.tk.nd.res V := ⟨_, rfl⟩;obtain ⟨M, hM⟩ := hM;have hMb : 0 <= M /\ M <= 1125899906842624 := by omega
    rw [<- hM] at hst;haveI : MaxAt P.tk.nd.res V M := ⟨hM.symm⟩;by_cases h0 : i = 0
    · subst h0;rw [if_pos (.inl rfl)] at hst;(repeat' first|refine stW [0,1,2,4,6,7,8,9,10,11,13,14,15,16,57] ?_|refine fctI fun hf=>?_|refine twI (fun hc=>?_) fun hc=>?_);(refine lN [0] ?_);exact ⟨_, by omega, 0 + 1, by omega, rfl, by omega, by rw [hN, hst] <;> rfl, rfl⟩
    have h02 : 0 < i := by omega
    (have:=NeI h02);by_cases q : M - LV - P.tk.nd.res < L
    · rw [if_pos (.inr q)] at hst;(have:=NeI q);(repeat' first|refine stW [0,1,2,4,6,7,8,9,10,11,13,14,15,16,57] ?_|refine fctI fun hf=>?_|refine twI (fun hc=>?_) fun hc=>?_);(refine lN [0] ?_);exact ⟨_, by omega, i + 1, by omega, rfl, by omega, by rw [hN, hst] <;> rfl, rfl⟩
    · rw [if_neg (by omega)] at hst;(have:=NeI q);(repeat' first|refine stW [0,1,2,4,6,7,8,9,10,11,13,14,15,16,57] ?_|refine fctI fun hf=>?_|refine twI (fun hc=>?_) fun hc=>?_);(refine lN [0] ?_);exact ⟨_, by omega, i + 1, by omega, rfl, by omega, by rw [hN, hst] <;> rfl, rfl⟩
  obtain rfl : i = x.fl.length := by omega
  have hi3 : ¬ ((x.fl.length : Int) < (x.fl.length : Int)) := by omega
  generalize margK P x sec x.fl.length = L at *
  (have:=NeI hi3);clear hfl hv;(repeat' first|refine stW [0,1,2,4,6,7,8,9,10,11,13,14,15,16,57] ?_|refine fctI fun hf=>?_|refine twI (fun hc=>?_) fun hc=>?_);exact DVR

end Go.Proofs.YtdhcpkeldpadlaaGreat
