/-
  Contracts of functions of the program, over the engine.
  No condition.
-/
import Derived.Test.YtefkhfkapnmikaaGreatCX8
import Derived.Test.YtefkhfkapnmikaaGreatCX3
import Derived.Test.YtefkhfkapnmikaaGreatCX0
namespace Go.Proofs.YtefkhfkapnmikaaGreat
open Go.Eng
set_option linter.all false
attribute [local irreducible] DCallsG SWp Fct CallQ XCallQ LCallQ XLCallQ drun xrun
set_option maxHeartbeats 64000000
set_option maxRecDepth 20000

theorem listB_any {n : Net} (nb : netB n = true) (ss : List Sta) : (ss.any fun s => !(netB n && staB n s)) = !listB n ss := by
  unfold listB;rw [nb, Bool.true_and, <- not_all, Bool.not_not];exact any_iff fun x _ => by rw [Bool.true_and]
theorem listB_in {n : Net} {ss : List Sta} (h : listB n ss = true) : netB n = true /\ ∀ x, x ∈ ss -> staB n x = true := by
  unfold listB at h;rw [Bool.and_eq_true, List.all_eq_true] at h;exact h
theorem cright1_f (n : Net) (s : Sta) (m : Nat) (no : netOk n) (so : staOk s) : DCalls Tryz.prog 136 [staD s, .ptr 0 0] (hget [(0, .blk 25 ((netP n).map .p))]) m (lb (!(netB n && staB n s))) (hget [(0, .blk 25 ((netP n).map .p))]) := by
  have c1 := fun m => staValid_f n s m no so
  rw [netP_map];generalize (netB n && staB n s) = b at *
  refine contract (n := 8) (rs := [.tmp 3]) (ts := [4]) Tryz.func136 rfl (by decide) 1 1 [] [] [] (lb (!b)) [(0, .blk 25 (netC n))] (by (exact SD)) (by (exact SD)) ?_;(repeat' first|refine stW [0,1,2,3] ?_|refine fctI fun hf=>?_|refine twI (fun hc=>?_) fun hc=>?_);exact DVR
theorem cright_f (n : Net) (ss : List Sta) (m : Nat) (no : netOk n) (hs : stasOk ss) : Pu 81 [netD n, staL ss] m (lb (listB n ss)) := by
  obtain ⟨hs1, hs2⟩ := hs;have k1 := fun m => netValid_f n m no
  cases nb : netB n <;> simp only [nb] at k1
  · rw [show listB n ss = false by unfold listB; rw [nb]; rfl];refine pcN 13 [.tmp 4] [4] Tryz.func81 rfl [] ?_;(repeat' first|refine stW [0,1,2,4] ?_|refine fctI fun hf=>?_|refine twI (fun hc=>?_) fun hc=>?_);exact DVR
  have c1 := conStaC_f 136 25 (netP n) (fun s => !(netB n && staB n s)) ss hs1 (fun s hx m => cright1_f n s m no (hs2 s hx));rw [netP_map, listB_any nb] at c1;generalize listB n ss = b at *
  refine pcN 13 [.tmp 4] [4] Tryz.func81 rfl [] ?_;(repeat' first|refine stW [0,1,2,4] ?_|refine fctI fun hf=>?_|refine twI (fun hc=>?_) fun hc=>?_);(refine cQT [0] (fun hcc => c1) ?_);(repeat' first|refine stW [0,1,2,4] ?_|refine fctI fun hf=>?_|refine twI (fun hc=>?_) fun hc=>?_);(refine DVQ ?_);rw [Bool.not_not]
theorem indexS_f (l : List ByteArray) (r : ByteArray) (m : Nat) (hl : l.length <= 281474976710656) : Pu 140 [strs l, ls r] m (li (idxI (fun v => decide (r = v)) l)) := by
  refine pcN 19 [.tmp 4] [3] Tryz.func140 rfl [] ?_;(repeat' first|refine stW [0,1,4,5,7,8,9,16] ?_|refine fctI fun hf=>?_|refine twI (fun hc=>?_) fun hc=>?_);refine loop_swp [0, 1, 7, 8] [] 32 (fun q A H => ∃ i : Nat, i <= l.length /\ q = l.length - i /\ (l.take i).any (fun v => decide (r = v)) = false /\ A = [(0, strs l), (1, ls r), (7, li l.length), (8, li i)] /\ H = []) (by omega) ?_ ?_ ?_
  · rintro q A H ⟨i, h1, h2, h3, rfl, rfl⟩;exact SDD
  · refine ⟨_, 0, by omega, rfl, rfl, ?_, ?_⟩
    · exact DVR
    · exact DVR
  rintro q A H ⟨i, h1, h2, h3, rfl, rfl⟩;by_cases hi : i < l.length
  · have hi3 : (i : Int) < (l.length : Int) := by omega
    (have:=NeI hi3);(have:=NeI hi);by_cases hx : r = l.getD i default
    · (have:=NeI hx);rw [idxI_hit h3 hi (decide_eq_true hx)];clear h3;(repeat' first|refine stW [0,1,4,5,7,8,9,16] ?_|refine fctI fun hf=>?_|refine twI (fun hc=>?_) fun hc=>?_);exact DVR
    · (have:=NeI hx);have hns := any_step h3 hi (decide_eq_false hx);clear h3;(repeat' first|refine stW [0,1,4,5,7,8,9,16] ?_|refine fctI fun hf=>?_|refine twI (fun hc=>?_) fun hc=>?_);(refine lN [] ?_);exact ⟨_, by omega, i + 1, by omega, rfl, hns, rfl, rfl⟩
  have hi3 : ¬ ((i : Int) < (l.length : Int)) := by omega
  (have:=NeI hi3);rw [List.take_of_length_le (by omega)] at h3;rw [idxI_none h3];(repeat' first|refine stW [0,1,4,5,7,8,9,16] ?_|refine fctI fun hf=>?_|refine twI (fun hc=>?_) fun hc=>?_);exact DVR
theorem containsN_f (n : Net) (s : ByteArray) (m : Nat) (hl : n.nodes.length <= 281474976710656) : Pu 86 [strs (namesL n), ls s] m (lb (decide (0 <= nodeIx n.nodes s))) := by
  have c1 := fun m => indexS_f (namesL n) s m (by rw [namesL_len]; exact hl)
  rw [show (fun v => decide (s = v)) = (fun v => decide (v = s)) from funext fun v => by rw [Bool.eq_iff_iff, decide_eq_true_iff, decide_eq_true_iff]; exact eq_comm, find_names] at c1;generalize nodeIx n.nodes s = k at *
  refine pcN 9 [.tmp 4] [4] Tryz.func86 rfl [] ?_;(repeat' first|refine stW [0,1,4] ?_|refine fctI fun hf=>?_|refine twI (fun hc=>?_) fun hc=>?_);exact DVR
theorem clog1_f (n : Net) (c : Cnd) (m : Nat) (hl : n.nodes.length <= 281474976710656) : DCalls Tryz.prog 85 [cndD c, .ptr 0 0] (hget [(0, .blk 46 (([.dat 1 ((namesL n).map strRow)] : List PV).map .p))]) m (lb (!nodKn n c)) (hget [(0, .blk 46 (([.dat 1 ((namesL n).map strRow)] : List PV).map .p))]) := by
  have c1 := fun m => containsN_f n c.nod m hl
  unfold nodKn;generalize decide (0 <= nodeIx n.nodes c.nod) = b at *
  refine contract (n := 9) (rs := [.tmp 3]) (ts := [4]) Tryz.func85 rfl (by decide) 1 1 [] [] [] (lb (!b)) [(0, .blk 46 [.p (.dat 1 ((namesL n).map strRow))])] (by (exact SD)) (by (exact SD)) ?_;(repeat' first|refine stW [0,1,2,3] ?_|refine fctI fun hf=>?_|refine twI (fun hc=>?_) fun hc=>?_);exact DVR
theorem logL_len (n : Net) (l : List Rule) (ss : List Sta) : (logL n l ss).length = ss.length := List.length_map ..
theorem logL_at (n : Net) (l : List Rule) (ss : List Sta) {i : Nat} (h : i < ss.length) : (logL n l ss).getD i default = firedK n (levelsL n (ss.getD i default).vol) l l.length := by
  unfold logL;rw [List.getD_eq_getElem?_getD, List.getElem?_map, List.getElem?_eq_getElem h, List.getD_eq_getElem?_getD, List.getElem?_eq_getElem h]; rfl
theorem logL_take (n : Net) (l : List Rule) (ss : List Sta) {i : Nat} (h : i < ss.length) : (logL n l ss).take (i + 1) = (logL n l ss).take i ++ [firedK n (levelsL n (ss.getD i default).vol) l l.length] := by
  rw [take_snocD (by rw [logL_len]; exact h), logL_at n l ss h]
theorem CLog_f (n : Net) (l : List Rule) (ss : List Sta) (m : Nat) (no : netOk n) (lo : rulOk l) (hs : stasOk ss) :
    Pu 31 [netD n, ruleL l, staL ss] m (.tup [intss (logR n l ss).1, li (logR n l ss).2]) := by
  have hs1 := hs.1;have hl1 := lo.1;have k1 := fun m => cright_f n ss m no hs
  have k2 := fun m => rulesV_f l m lo
  have e0 : logR n l ss = if (listB n ss && rulesB l) = false then ([], 1) else if 10000 < ss.length then ([], 4) else if l.all (knownR n) = false then ([], 9) else (logL n l ss, 0) := rfl
  rw [e0];clear e0;cases hL : listB n ss <;> simp only [hL] at k1
  · rw [if_pos (show (false && rulesB l) = false from rfl)];refine pcN 100 [.tmp 6,.tmp 7] [85,39] Tryz.func31 rfl [] ?_;(repeat' first|refine stW [0,1,2,3,6,7,8,10,12,14,15,17,18,19,20,21,31,36,37,38,39,48,49,50,51,62,66,68,69,70,71,82,92] ?_|refine fctI fun hf=>?_|refine twI (fun hc=>?_) fun hc=>?_);exact DVR
  cases rb : rulesB l <;> simp only [rb] at k2
  · rw [if_pos (show (true && false) = false from rfl)];refine pcN 100 [.tmp 6,.tmp 7] [85,39] Tryz.func31 rfl [] ?_;(repeat' first|refine stW [0,1,2,3,6,7,8,10,12,14,15,17,18,19,20,21,31,36,37,38,39,48,49,50,51,62,66,68,69,70,71,82,92] ?_|refine fctI fun hf=>?_|refine twI (fun hc=>?_) fun hc=>?_);exact DVR
  rw [if_neg (show ¬ (true && true) = false by decide)];by_cases h10 : (10000 : Int) < (ss.length : Int)
  · rw [if_pos (by omega)];(have:=NeI h10);refine pcN 100 [.tmp 6,.tmp 7] [85,39] Tryz.func31 rfl [] ?_;(repeat' first|refine stW [0,1,2,3,6,7,8,10,12,14,15,17,18,19,20,21,31,36,37,38,39,48,49,50,51,62,66,68,69,70,71,82,92] ?_|refine fctI fun hf=>?_|refine twI (fun hc=>?_) fun hc=>?_);exact DVR
  rw [if_neg (by omega)];obtain ⟨nb, hall⟩ := listB_in hL;have hnn := (netB_len nb).1;have hnl := namesL_len n;(have:=NeI h10);refine pcN 100 [.tmp 6,.tmp 7] [85,39] Tryz.func31 rfl [256] ?_;(repeat' first|refine stW [0,1,2,3,6,7,8,10,12,14,15,17,18,19,20,21,31,36,37,38,39,48,49,50,51,62,66,68,69,70,71,82,92] ?_|refine fctI fun hf=>?_|refine twI (fun hc=>?_) fun hc=>?_);refine swp_nilC 136 46 9 1 [] [] rfl ?_;refine loop_swp [1, 2, 3, 8, 36, 37, 38] [0, 136, 176] 184 (fun q A H => ∃ i : Nat, i <= n.nodes.length /\ q = n.nodes.length - i /\ A = [(1, ruleL l), (2, staL ss), (3, .ptr 0 0), (8, .ptr 136 0), (36, nodeL n.nodes), (37, li n.nodes.length), (38, li i)] /\ H = [(0, .blk 25 (netC n)), (136, .blk 46 [.gl 176]), (176, strL ((namesL n).take i))]) (by omega) ?_ ?_ ?_
  · rintro q A H ⟨i, g1, g2, rfl, rfl⟩;exact SDD
  · refine ⟨_, 0, by omega, rfl, ?_, ?_⟩
    · exact DVR
    · exact DVR
  rintro q A H ⟨i, g1, g2, rfl, rfl⟩;by_cases hin : i < n.nodes.length
  · have hi3 : (i : Int) < (n.nodes.length : Int) := by omega
    have hnx := namesL_take n hin;have hlt : ((namesL n).take i).length = i := by rw [List.length_take]; omega
    generalize (namesL n).take i = X at *
    (have:=NeI hin);(have:=NeI hi3);clear hall;(repeat' first|refine stW [0,1,2,3,6,7,8,10,12,14,15,17,18,19,20,21,31,36,37,38,39,48,49,50,51,62,66,68,69,70,71,82,92] ?_|refine fctI fun hf=>?_|refine twI (fun hc=>?_) fun hc=>?_);rw [<- hnx];(refine lN [0, 136, 176] ?_);exact ⟨_, by omega, i + 1, by omega, rfl, rfl, rfl⟩
  obtain rfl : i = n.nodes.length := by omega
  have hi3 : ¬ ((n.nodes.length : Int) < (n.nodes.length : Int)) := by omega
  (have:=NeI hi3);rw [show (namesL n).take n.nodes.length = namesL n by rw [<- hnl, List.take_length]];(repeat' first|(show SWp _ _ _ (.seq (.region 11 _ _) _) _ _ _ _;refine (stop_in ?_))|refine stW [0,1,2,3,6,7,8,10,12,14,15,17,18,19,20,21,31,36,37,38,39,48,49,50,51,62,66,68,69,70,71,82,92] ?_|refine fctI fun hf=>?_|refine twI (fun hc=>?_) fun hc=>?_);refine stop_out ?_;(refine sF 176 ?_);(repeat' first|refine stW [0,1,2,3,6,7,8,10,12,14,15,17,18,19,20,21,31,36,37,38,39,48,49,50,51,62,66,68,69,70,71,82,92] ?_|refine fctI fun hf=>?_|refine twI (fun hc=>?_) fun hc=>?_);refine loop_swp [1, 2, 3, 8, 48, 49, 50] [0, 136] 216 (fun q A H => ∃ i : Nat, i <= l.length /\ q = l.length - i /\ (∀ j, j < i -> knownR n (l.getD j default) = true) /\ A = [(1, ruleL l), (2, staL ss), (3, .ptr 0 0), (8, .ptr 136 0), (48, ruleL l), (49, li l.length), (50, li i)] /\ H = [(0, .blk 25 (netC n)), (136, .blk 46 [strs (namesL n)])]) (by omega) ?_ ?_ ?_
  · rintro q A H ⟨i, g1, g2, g3, rfl, rfl⟩;exact SDD
  · refine ⟨_, 0, by omega, rfl, by omega, ?_, ?_⟩
    · exact DVR
    · exact DVR
  rintro q A H ⟨i, g1, g2, g3, rfl, rfl⟩;by_cases hi : i < l.length
  · have hi3 : (i : Int) < (l.length : Int) := by omega
    have hkr := knownR_eq n (l.getD i default);have hit := @kn_hit n l i hi;have k3 := fun m => netLink_f n (l.getD i default).lnk m no nb
    have k4 := conCndC_f 85 46 [.dat 1 ((namesL n).map strRow)] (fun c => !nodKn n c) (l.getD i default).whn (ruleOk_at lo hi) (fun c _ m => clog1_f n c m no.1.1);have ek : ((l.getD i default).whn.any fun c => !nodKn n c) = !(l.getD i default).whn.all (nodKn n) := by rw [<- not_all, Bool.not_not]
    rw [ek] at k4;clear ek hall;(have:=NeI hi);(have:=NeI hi3);generalize linkIx n.links (l.getD i default).lnk = K at *
    by_cases h0 : 0 <= K
    case neg =>
      rw [hit (by rw [hkr, decide_eq_false h0]; rfl), if_pos rfl];rw [if_neg h0] at k3;clear g3 hit hkr;(repeat' first|refine stW [0,1,2,3,6,7,8,10,12,14,15,17,18,19,20,21,31,36,37,38,39,48,49,50,51,62,66,68,69,70,71,82,92] ?_|refine fctI fun hf=>?_|refine twI (fun hc=>?_) fun hc=>?_);exact DVR
    rw [decide_eq_true h0, Bool.true_and] at hkr;rw [if_pos h0] at k3;rw [<- hkr] at k4;cases hb : knownR n (l.getD i default) <;> rw [hb] at k4
    · rw [hit hb, if_pos rfl];clear g3 hit hkr;(repeat' first|refine stW [0,1,2,3,6,7,8,10,12,14,15,17,18,19,20,21,31,36,37,38,39,48,49,50,51,62,66,68,69,70,71,82,92] ?_|refine fctI fun hf=>?_|refine twI (fun hc=>?_) fun hc=>?_);(refine cQT [136] (fun hcc => k4) ?_);(repeat' first|refine stW [0,1,2,3,6,7,8,10,12,14,15,17,18,19,20,21,31,36,37,38,39,48,49,50,51,62,66,68,69,70,71,82,92] ?_|refine fctI fun hf=>?_|refine twI (fun hc=>?_) fun hc=>?_);exact DVR
    · have hnx : ∀ j, j < i + 1 -> knownR n (l.getD j default) = true := fun j hj => by
        by_cases e : j = i
        · subst e; exact hb
        · exact g3 j (by omega)
      clear g3 hit hkr;(repeat' first|refine stW [0,1,2,3,6,7,8,10,12,14,15,17,18,19,20,21,31,36,37,38,39,48,49,50,51,62,66,68,69,70,71,82,92] ?_|refine fctI fun hf=>?_|refine twI (fun hc=>?_) fun hc=>?_);(refine cQT [136] (fun hcc => k4) ?_);(repeat' first|refine stW [0,1,2,3,6,7,8,10,12,14,15,17,18,19,20,21,31,36,37,38,39,48,49,50,51,62,66,68,69,70,71,82,92] ?_|refine fctI fun hf=>?_|refine twI (fun hc=>?_) fun hc=>?_);(refine lN [0, 136] ?_);exact ⟨_, by omega, i + 1, by omega, rfl, hnx, rfl, rfl⟩
  obtain rfl : i = l.length := by omega
  have hi3 : ¬ ((l.length : Int) < (l.length : Int)) := by omega
  have hka := kn_all g3;rw [hka, if_neg (by decide)];(have:=NeI hi3);clear g3;have hLl := logL_len n l ss;have hLt := fun i (h : i < ss.length) => logL_take n l ss h
  (repeat' first|refine stW [0,1,2,3,6,7,8,10,12,14,15,17,18,19,20,21,31,36,37,38,39,48,49,50,51,62,66,68,69,70,71,82,92] ?_|refine fctI fun hf=>?_|refine twI (fun hc=>?_) fun hc=>?_);(refine sN 15 28 1 ?_);refine loop_swp [1, 3, 8, 15, 68, 69, 70] [0, 136, 256] 264 (fun q A H => ∃ i : Nat, i <= ss.length /\ q = ss.length - i /\ A = [(1, ruleL l), (3, .ptr 0 0), (8, .ptr 136 0), (15, .gl 256), (68, staL ss), (69, li ss.length), (70, li i)] /\ H = [(0, .blk 25 (netC n)), (136, .blk 46 [strs (namesL n)]), (256, ilLt ((logL n l ss).take i))]) (by omega) ?_ ?_ ?_
  · rintro q A H ⟨i, g1, g2, rfl, rfl⟩;exact SDD
  · refine ⟨_, 0, by omega, rfl, ?_, ?_⟩
    · exact DVR
    · exact DVR
  rintro q A H ⟨i, g1, g2, rfl, rfl⟩;by_cases hi : i < ss.length
  · have hi3 : (i : Int) < (ss.length : Int) := by omega
    obtain ⟨v1, v2⟩ := sta_vol nb (hall _ (getD_mem hi));have k5 := fun m => Levels_f n (ss.getD i default).vol m no nb v1 v2
    have k6 := fun m => rfired_f l n (levelsL n (ss.getD i default).vol) m lo nb rb (levelsL_len ..) hka
    have hnx := hLt i hi;have hti : ((logL n l ss).take i).length = i := by rw [List.length_take]; omega
    generalize (logL n l ss).take i = X at *
    generalize firedK n (levelsL n (ss.getD i default).vol) l l.length = F at *
    generalize levelsL n (ss.getD i default).vol = LV at *
    (have:=NeI hi);(have:=NeI hi3);clear hall hLt hka v2;(repeat' first|refine stW [0,1,2,3,6,7,8,10,12,14,15,17,18,19,20,21,31,36,37,38,39,48,49,50,51,62,66,68,69,70,71,82,92] ?_|refine fctI fun hf=>?_|refine twI (fun hc=>?_) fun hc=>?_);rw [show rows ilRow X ++ [[ints F]] = rows ilRow (X ++ [F]) from rows_app ilRow X [F], <- hnx];(refine lN [0, 136, 256] ?_);exact ⟨_, by omega, i + 1, by omega, rfl, rfl, rfl⟩
  obtain rfl : i = ss.length := by omega
  have hi3 : ¬ ((ss.length : Int) < (ss.length : Int)) := by omega
  rw [show (logL n l ss).take ss.length = logL n l ss by rw [<- hLl, List.take_length]];generalize logL n l ss = X at *
  (have:=NeI hi3);clear hall hLt hka;(repeat' first|refine stW [0,1,2,3,6,7,8,10,12,14,15,17,18,19,20,21,31,36,37,38,39,48,49,50,51,62,66,68,69,70,71,82,92] ?_|refine fctI fun hf=>?_|refine twI (fun hc=>?_) fun hc=>?_);exact DVR
class SubOk (a b : Int) (q : outParam Int) : Prop where
  out : a - b = q
theorem sub_ok {a b q : Int} [h : SubOk a b q] : a - b = q := h.out
class MinOk44 (a b : Int) (q : outParam Int) : Prop where
  out : min a b = q
theorem min_ok44 {a b q : Int} [h : MinOk44 a b q] : min a b = q := h.out
attribute [push_cast] sub_ok min_ok44
theorem logR_0 {n : Net} {l : List Rule} {ss : List Sta} (h : (logR n l ss).2 = 0) : (listB n ss && rulesB l) = true /\ ss.length <= 10000 /\ l.all (knownR n) = true /\ (logR n l ss).1 = logL n l ss := by
  unfold logR at h ⊢;split at h
  · cases h
  next h1 =>
  split at h
  · cases h
  next h2 =>
  split at h
  · cases h
  next h3 =>
  rw [if_neg h1, if_neg h2, if_neg h3];exact ⟨by simpa using h1, by omega, by simpa using h3, rfl⟩
theorem CSteady_f (n : Net) (l : List Rule) (ss : List Sta) (m : Nat) (no : netOk n) (lo : rulOk l) (hs : stasOk ss) :
    Pu 33 [netD n, ruleL l, staL ss] m (.tup [li (steadyR n l ss).1, li (steadyR n l ss).2]) := by
  have k1 := fun m => CLog_f n l ss m no lo hs
  by_cases h0 : (logR n l ss).2 = 0
  case neg =>
    rw [show steadyR n l ss = (0, (logR n l ss).2) from if_pos h0];generalize logR n l ss = R at *
    obtain ⟨r1, r2⟩ := R;(have:=NeI h0);refine pcN 72 [.tmp 6,.tmp 7] [3,39] Tryz.func33 rfl [] ?_;(repeat' first|refine stW [0,1,2,3,6,7,8,9,10,11,12,13,22,30,70] ?_|refine fctI fun hf=>?_|refine twI (fun hc=>?_) fun hc=>?_);exact DVR
  rw [show steadyR n l ss = (((steadyF (fun k => likeS n l ss (ss.length - 1) (ss.length - 1 - k)) ss.length ss.length 0 : Nat) : Int), 0) from if_neg (fun c => c h0)];obtain ⟨hv, h10, hka, hlg⟩ := logR_0 h0;rw [h0, hlg] at k1;obtain ⟨nb, hall⟩ := listB_in (Bool.and_eq_true _ _ ▸ hv).1;have hLl := logL_len n l ss;have hLm : ∀ x, x ∈ logL n l ss -> x.length <= 281474976710656 := fun x hx => by
    obtain ⟨y, _, rfl⟩ := List.mem_map.1 hx;have := firedK_len n (levelsL n y.vol) l l.length;have := lo.1;omega
  have hat : ∀ k, likeS n l ss (ss.length - 1) (ss.length - 1 - k) = (decide ((ss.getD (ss.length - 1) default).set = (ss.getD (ss.length - 1 - k) default).set) && decide ((ss.getD (ss.length - 1) default).on = (ss.getD (ss.length - 1 - k) default).on) && decide ((logL n l ss).getD (ss.length - 1) default = (logL n l ss).getD (ss.length - 1 - k) default)) := fun k => rfl
  have hstop := fun k h => @steady_stop (fun k => likeS n l ss (ss.length - 1) (ss.length - 1 - k)) ss.length k h (ss.length - k)
  have hsat := fun k h1 h2 => @steady_at (fun k => likeS n l ss (ss.length - 1) (ss.length - 1 - k)) ss.length k h1 h2
  generalize hSF : steadyF (fun k => likeS n l ss (ss.length - 1) (ss.length - 1 - k)) ss.length ss.length 0 = SF at *
  generalize logL n l ss = LG at *
  clear hSF hv hka hlg h0;cases hN : ss.length with
  | zero =>
    have hz : SF = 0 := by
      rw [hsat 0 (by omega) (by omega)];exact hstop 0 (.inl (by omega))
    subst hz;have hz3 : (ss.length : Int) = 0 := by omega
    haveI : SubOk (ss.length : Int) 1 (-1) := ⟨by omega⟩;clear hstop hsat hat hall hLm;refine pcN 72 [.tmp 6,.tmp 7] [3,39] Tryz.func33 rfl [] ?_;(repeat' first|refine stW [0,1,2,3,6,7,8,9,10,11,12,13,22,30,70] ?_|refine fctI fun hf=>?_|refine twI (fun hc=>?_) fun hc=>?_);refine loop_swp [2, 8, 10, 11] [] 152 (fun q A H => q = 0 /\ A = [(2, staL ss), (8, intss LG), (10, li 0), (11, li (-1))] /\ H = []) (by omega) ?_ ?_ ?_
    · rintro q A H ⟨g1, rfl, rfl⟩;exact SDD
    · refine ⟨_, rfl, ?_, ?_⟩
      · exact DVR
      · exact DVR
    rintro q A H ⟨g1, rfl, rfl⟩;(repeat' first|refine stW [0,1,2,3,6,7,8,9,10,11,12,13,22,30,70] ?_|refine fctI fun hf=>?_|refine twI (fun hc=>?_) fun hc=>?_);exact DVR
  | succ L =>
    haveI : SubOk (ss.length : Int) 1 (L : Int) := ⟨by omega⟩;have e1 : ss.length - 1 = L := by omega
    rw [e1] at hstop hsat hat
    have hsm : ∀ x, x ∈ ss -> staOk x := hs.2;have hLs : L < ss.length := by omega
    have hLs3 : (L : Int) < (ss.length : Int) := by omega
    have hLg : L < LG.length := by omega
    have hLg3 : (L : Int) < (LG.length : Int) := by omega
    (have:=NeI hLs);(have:=NeI hLs3);(have:=NeI hLg);(have:=NeI hLg3);refine pcN 72 [.tmp 6,.tmp 7] [3,39] Tryz.func33 rfl [] ?_;(repeat' first|refine stW [0,1,2,3,6,7,8,9,10,11,12,13,22,30,70] ?_|refine fctI fun hf=>?_|refine twI (fun hc=>?_) fun hc=>?_);refine loop_swp [2, 8, 10, 11] [] 152 (fun q A H => ∃ k : Nat, k <= L + 1 /\ q = L + 1 - k /\ (∀ j, j < k -> likeS n l ss L (L - j) = true) /\ A = [(2, staL ss), (8, intss LG), (10, li k), (11, li L)] /\ H = []) (by omega) ?_ ?_ ?_
    · rintro q A H ⟨k, g1, g2, g3, rfl, rfl⟩;exact SDD
    · refine ⟨_, 0, by omega, rfl, by omega, ?_, ?_⟩
      · exact DVR
      · exact DVR
    rintro q A H ⟨k, g1, g2, g3, rfl, rfl⟩;by_cases hk : k <= L
    · obtain ⟨p, hp, hp2⟩ : ∃ p : Nat, (L : Int) - (k : Int) = (p : Int) /\ L - k = p := ⟨L - k, by omega, rfl⟩;haveI : SubOk (L : Int) (k : Int) (p : Int) := ⟨hp⟩;have hp0 : (0 : Int) <= (p : Int) := by omega
      have hpl : p < ss.length := by omega
      have hpl3 : (p : Int) < (ss.length : Int) := by omega
      have hpg : p < LG.length := by omega
      have hpg3 : (p : Int) < (LG.length : Int) := by omega
      have hak := hat k;have hsk := hstop k;have hqk := hsat k (by omega) g3;have hnx : likeS n l ss L (L - k) = true -> ∀ j, j < k + 1 -> likeS n l ss L (L - j) = true := fun h j hj => by
        by_cases e : j = k
        · subst e; exact h
        · exact g3 j (by omega)
      rw [hp2] at hak hsk hnx;obtain ⟨⟨a1, _⟩, ⟨a2, _⟩, ⟨a3, _⟩, a4⟩ := hsm _ (getD_mem hLs);obtain ⟨⟨b1, _⟩, ⟨b2, _⟩, ⟨b3, _⟩, b4⟩ := hsm _ (getD_mem hpl);have k2 := fun m => eqlInt_f (ss.getD L default).set (ss.getD p default).set m a3 b3
      have k3 := fun m => eqlBool_f (ss.getD L default).on (ss.getD p default).on m a4 b4
      have k4 := fun m => eqlInt_f (LG.getD L default) (LG.getD p default) m (hLm _ (getD_mem hLg)) (hLm _ (getD_mem hpg))
      generalize decide ((ss.getD L default).set = (ss.getD p default).set) = d1 at *
      generalize decide ((ss.getD L default).on = (ss.getD p default).on) = d2 at *
      generalize decide (LG.getD L default = LG.getD p default) = d3 at *
      (have:=NeI hp0);(have:=NeI hpl);(have:=NeI hpl3);(have:=NeI hpg);(have:=NeI hpg3);clear g3 hstop hsat hat hsm hall hLm;cases hd : likeS n l ss L p <;> rw [hd] at hak
      · rw [hqk, hsk (.inr hd)];clear hqk hsk hnx;cases d1
        · (repeat' first|(show SWp _ _ _ (.region _ _ true) _ _ _ _;refine xG mixed [264, 272] ?_)|refine stW [0,1,2,3,6,7,8,9,10,11,12,13,22,30,70] ?_|refine fctI fun hf=>?_|refine twI (fun hc=>?_) fun hc=>?_);exact DVR
        cases d2
        · (repeat' first|(show SWp _ _ _ (.region _ _ true) _ _ _ _;refine xG mixed [264, 272] ?_)|refine stW [0,1,2,3,6,7,8,9,10,11,12,13,22,30,70] ?_|refine fctI fun hf=>?_|refine twI (fun hc=>?_) fun hc=>?_);exact DVR
        cases d3
        · (repeat' first|(show SWp _ _ _ (.region _ _ true) _ _ _ _;refine xG mixed [264, 272] ?_)|refine stW [0,1,2,3,6,7,8,9,10,11,12,13,22,30,70] ?_|refine fctI fun hf=>?_|refine twI (fun hc=>?_) fun hc=>?_);exact DVR
        · cases hak
      · replace hnx := hnx hd
        obtain ⟨⟨rfl, rfl⟩, rfl⟩ : (d1 = true /\ d2 = true) /\ d3 = true := by
          have := hak.symm;simp only [Bool.and_eq_true] at this;exact this
        clear hqk hsk hak;(repeat' first|(show SWp _ _ _ (.region _ _ true) _ _ _ _;refine xG mixed [264, 272] ?_)|refine stW [0,1,2,3,6,7,8,9,10,11,12,13,22,30,70] ?_|refine fctI fun hf=>?_|refine twI (fun hc=>?_) fun hc=>?_);(refine lN [] ?_);exact ⟨_, by omega, k + 1, by omega, rfl, hnx, rfl, rfl⟩
    obtain rfl : k = L + 1 := by omega
    rw [hsat (L + 1) (by omega) g3, hstop (L + 1) (.inl hN.symm)];haveI : SubOk (L : Int) ((L + 1 : Nat) : Int) (-1) := ⟨by omega⟩;haveI : SubOk (L : Int) ((L : Int) + 1) (-1) := ⟨by omega⟩;clear g3 hstop hsat hat hsm hall hLm;(repeat' first|refine stW [0,1,2,3,6,7,8,9,10,11,12,13,22,30,70] ?_|refine fctI fun hf=>?_|refine twI (fun hc=>?_) fun hc=>?_);exact DVR
theorem swN_in {ss : List Sta} (h : ∀ x, x ∈ ss -> staOk x) : ∀ k : Nat, k <= ss.length -> 0 <= swN ss k /\ swN ss k <= (k : Int) * 281474976710656
  | 0, _ => by simp [swN]
  | k + 1, hk => by
    have ih := swN_in h k (by omega);have hi := swI_in (a := ss.getD (k - 1) default) (b := ss.getD k default) (ss.getD k default).set.length;obtain ⟨_, _, ⟨b3, _⟩, _⟩ := h _ (getD_mem (show k < ss.length by omega));rw [swN];split <;> omega
theorem sizeB_hit {ss : List Sta} {i : Nat} (hi : i < ss.length) (h : ¬ ((ss.getD i default).set.length = (ss.getD 0 default).set.length /\ (ss.getD i default).on.length = (ss.getD i default).set.length)) : sizeB ss = false := by
  unfold sizeB;refine List.all_eq_false.2 ⟨_, getD_mem hi, fun c => h ?_⟩;rw [Bool.and_eq_true, decide_eq_true_eq, decide_eq_true_eq] at c;exact c
theorem sizeB_all {ss : List Sta} (h : ∀ j, j < ss.length -> (ss.getD j default).set.length = (ss.getD 0 default).set.length /\ (ss.getD j default).on.length = (ss.getD j default).set.length) : sizeB ss = true := by
  unfold sizeB;rw [List.all_eq_true];intro r hr;obtain ⟨j, hj, rfl⟩ := List.mem_iff_getElem.1 hr;have := h j hj;rw [List.getD_eq_getElem?_getD, List.getElem?_eq_getElem hj] at this;rw [Bool.and_eq_true, decide_eq_true_eq, decide_eq_true_eq];exact this
theorem CSwitched_f (ss : List Sta) (m : Nat) (hs : stasOk ss) :
    Pu 28 [staL ss] m (.tup [li (switchR ss).1, li (switchR ss).2]) := by
  obtain ⟨hs1, hs2⟩ := hs;by_cases h10 : (10000 : Int) < (ss.length : Int)
  · rw [show switchR ss = (0, 4) from if_pos (by omega)];(have:=NeI h10);refine pcN 88 [.tmp 2,.tmp 3] [3,39] Tryz.func28 rfl [] ?_;(repeat' first|refine stW [0,2,3,5,6,7,8,9,10,13,14,15,16,17,37,42,56,57,58,83] ?_|refine fctI fun hf=>?_|refine twI (fun hc=>?_) fun hc=>?_);exact DVR
  rw [show switchR ss = if sizeB ss = false then (0, 3) else (swN ss ss.length, 0) from if_neg (by omega)];(have:=NeI h10);refine pcN 88 [.tmp 2,.tmp 3] [3,39] Tryz.func28 rfl [] ?_;(repeat' first|refine stW [0,2,3,5,6,7,8,9,10,13,14,15,16,17,37,42,56,57,58,83] ?_|refine fctI fun hf=>?_|refine twI (fun hc=>?_) fun hc=>?_);refine loop_swp [0, 14, 15, 16] [] 64 (fun q A H => ∃ i : Nat, i <= ss.length /\ q = ss.length - i /\ (∀ j, j < i -> (ss.getD j default).set.length = (ss.getD 0 default).set.length /\ (ss.getD j default).on.length = (ss.getD j default).set.length) /\ A = [(0, staL ss), (14, staL ss), (15, li ss.length), (16, li i)] /\ H = []) (by omega) ?_ ?_ ?_
  · rintro q A H ⟨i, g1, g2, g3, rfl, rfl⟩;exact SDD
  · refine ⟨_, 0, by omega, rfl, by omega, ?_, ?_⟩
    · exact DVR
    · exact DVR
  rintro q A H ⟨i, g1, g2, g3, rfl, rfl⟩;by_cases hi : i < ss.length
  · have hi3 : (i : Int) < (ss.length : Int) := by omega
    have hz : 0 < ss.length := by omega
    have hz3 : (0 : Int) < (ss.length : Int) := by omega
    have hit := @sizeB_hit ss i hi;(have:=NeI hi);(have:=NeI hi3);(have:=NeI hz);(have:=NeI hz3);by_cases h1 : ((ss.getD i default).set.length : Int) = ((ss.getD 0 default).set.length : Int)
    case neg =>
      rw [hit (fun c => h1 (by omega)), if_pos rfl];(have:=NeI h1);clear g3 hit hs2;(repeat' first|refine stW [0,2,3,5,6,7,8,9,10,13,14,15,16,17,37,42,56,57,58,83] ?_|refine fctI fun hf=>?_|refine twI (fun hc=>?_) fun hc=>?_);exact DVR
    by_cases h2 : ((ss.getD i default).on.length : Int) = ((ss.getD i default).set.length : Int)
    case neg =>
      rw [hit (fun c => h2 (by omega)), if_pos rfl];(have:=NeI h1);(have:=NeI h2);clear g3 hit hs2;(repeat' first|refine stW [0,2,3,5,6,7,8,9,10,13,14,15,16,17,37,42,56,57,58,83] ?_|refine fctI fun hf=>?_|refine twI (fun hc=>?_) fun hc=>?_);exact DVR
    have hnx : ∀ j, j < i + 1 -> (ss.getD j default).set.length = (ss.getD 0 default).set.length /\ (ss.getD j default).on.length = (ss.getD j default).set.length := fun j hj => by
      by_cases e : j = i
      · subst e; exact ⟨by omega, by omega⟩
      · exact g3 j (by omega)
    (have:=NeI h1);(have:=NeI h2);clear g3 hit hs2;(repeat' first|refine stW [0,2,3,5,6,7,8,9,10,13,14,15,16,17,37,42,56,57,58,83] ?_|refine fctI fun hf=>?_|refine twI (fun hc=>?_) fun hc=>?_);(refine lN [] ?_);exact ⟨_, by omega, i + 1, by omega, rfl, hnx, rfl, rfl⟩
  obtain rfl : i = ss.length := by omega
  have hi3 : ¬ ((ss.length : Int) < (ss.length : Int)) := by omega
  rw [sizeB_all g3, if_neg (by decide)];(have:=NeI hi3);clear hi3;have hb := swN_in hs2;have hsl : ∀ j, j < ss.length -> (ss.getD j default).set.length <= 281474976710656 := fun j hj => (hs2 _ (getD_mem hj)).2.2.1.1
  have hsz := g3;clear g3 hs2;(repeat' first|refine stW [0,2,3,5,6,7,8,9,10,13,14,15,16,17,37,42,56,57,58,83] ?_|refine fctI fun hf=>?_|refine twI (fun hc=>?_) fun hc=>?_);refine loop_swp [0, 6, 7] [] 88 (fun q A H => ∃ i : Nat, 1 <= i /\ (i <= ss.length ∨ i = 1) /\ q = ss.length - i /\ A = [(0, staL ss), (6, li (swN ss i)), (7, li i)] /\ H = []) (by omega) ?_ ?_ ?_
  · rintro q A H ⟨i, g1, g2, g3, rfl, rfl⟩;exact SDD
  · refine ⟨_, 1, by omega, by omega, rfl, ?_, ?_⟩
    · exact DVR
    · exact DVR
  rintro q A H ⟨i, g1, g2, g3, rfl, rfl⟩;by_cases hi : i < ss.length
  · have hi3 : (i : Int) < (ss.length : Int) := by omega
    obtain ⟨p, hp⟩ : ∃ p, i = p + 1 := ⟨i - 1, by omega⟩;have hp3 : (i : Int) - 1 = (p : Int) := by omega
    haveI : SubOk (i : Int) 1 (p : Int) := ⟨hp3⟩;have hpl : p < ss.length := by omega
    have hpl3 : (p : Int) < (ss.length : Int) := by omega
    have hsi := hsz i hi;have hsp := hsz p hpl;have hbi := hb i (by omega);have hsw : swN ss (i + 1) = swN ss i + swI (ss.getD p default) (ss.getD i default) (ss.getD i default).set.length := by
      rw [swN, if_neg (by omega), show i - 1 = p by omega]
    have hbj := fun k => swI_in (a := ss.getD p default) (b := ss.getD i default) k
    have hswk : ∀ k, swI (ss.getD p default) (ss.getD i default) (k + 1) = swI (ss.getD p default) (ss.getD i default) k + if (ss.getD p default).set.getD k default = (ss.getD i default).set.getD k default /\ (ss.getD p default).on.getD k default = (ss.getD i default).on.getD k default then 0 else 1 := fun k => rfl
    have hlb := hsl i hi;generalize swN ss i = S1 at *
    (have:=NeI hi);(have:=NeI hi3);(have:=NeI hpl);(have:=NeI hpl3);clear hsz hb hsl;(repeat' first|(show SWp _ _ _ (.region _ _ true) _ _ _ _;refine xG mixed [192, 200] ?_)|refine stW [0,2,3,5,6,7,8,9,10,13,14,15,16,17,37,42,56,57,58,83] ?_|refine fctI fun hf=>?_|refine twI (fun hc=>?_) fun hc=>?_);refine loop_swp [0, 6, 7, 8, 9, 56, 57] [192, 200] 256 (fun q A H => ∃ k : Nat, k <= (ss.getD i default).set.length /\ q = (ss.getD i default).set.length - k /\ A = [(0, staL ss), (6, li (S1 + swI (ss.getD p default) (ss.getD i default) k)), (7, li i), (8, .ptr 192 0), (9, .ptr 200 0), (56, li (ss.getD i default).set.length), (57, li k)] /\ H = [(192, .blk 31 (staC (ss.getD p default))), (200, .blk 31 (staC (ss.getD i default)))]) (by omega) ?_ ?_ ?_
    · rintro q A H ⟨k, k1, k2, rfl, rfl⟩;exact SDD
    · refine ⟨_, 0, by omega, rfl, ?_, ?_⟩
      · rw [show swI (ss.getD p default) (ss.getD i default) 0 = 0 from rfl, Int.add_zero];exact DVR
      · exact DVR
    rintro q A H ⟨k, k1, k2, rfl, rfl⟩;by_cases hk : k < (ss.getD i default).set.length
    · have hk3 : (k : Int) < ((ss.getD i default).set.length : Int) := by omega
      have hka : k < (ss.getD p default).set.length := by omega
      have hka3 : (k : Int) < ((ss.getD p default).set.length : Int) := by omega
      have hkb : k < (ss.getD p default).on.length := by omega
      have hkb3 : (k : Int) < ((ss.getD p default).on.length : Int) := by omega
      have hkc : k < (ss.getD i default).on.length := by omega
      have hkc3 : (k : Int) < ((ss.getD i default).on.length : Int) := by omega
      have hbk := hbj k;have hsk := hswk k;generalize swI (ss.getD p default) (ss.getD i default) k = W1 at *
      (have:=NeI hk);(have:=NeI hk3);(have:=NeI hka);(have:=NeI hka3);(have:=NeI hkb);(have:=NeI hkb3);(have:=NeI hkc);(have:=NeI hkc3);clear hswk hbj hsw;by_cases h1 : (ss.getD p default).set.getD k default = (ss.getD i default).set.getD k default
      case neg =>
        rw [if_neg (fun c => h1 c.1)] at hsk;(have:=NeI h1);(repeat' first|refine stW [0,2,3,5,6,7,8,9,10,13,14,15,16,17,37,42,56,57,58,83] ?_|refine fctI fun hf=>?_|refine twI (fun hc=>?_) fun hc=>?_);(refine lN [192, 200] ?_);exact ⟨_, by omega, k + 1, by omega, rfl, by rw [hsk, <- Int.add_assoc] <;> rfl, rfl⟩
      (have:=NeI h1);(repeat' first|refine stW [0,2,3,5,6,7,8,9,10,13,14,15,16,17,37,42,56,57,58,83] ?_|refine fctI fun hf=>?_|refine twI (fun hc=>?_) fun hc=>?_)
      · have h2 : ¬ (ss.getD p default).on.getD k default = (ss.getD i default).on.getD k default := by simpa using hc
        rw [if_neg (fun c => h2 c.2)] at hsk;(refine lN [192, 200] ?_);exact ⟨_, by omega, k + 1, by omega, rfl, by rw [hsk, <- Int.add_assoc] <;> rfl, rfl⟩
      · have h2 : (ss.getD p default).on.getD k default = (ss.getD i default).on.getD k default := by simpa using hc
        rw [if_pos ⟨h1, h2⟩, Int.add_zero] at hsk;(refine lN [192, 200] ?_);exact ⟨_, by omega, k + 1, by omega, rfl, by rw [hsk] <;> rfl, rfl⟩
    obtain rfl : k = (ss.getD i default).set.length := by omega
    have hk3 : ¬ (((ss.getD i default).set.length : Int) < ((ss.getD i default).set.length : Int)) := by omega
    (have:=NeI hk3);rw [<- hsw];clear hswk hbj hsw;(repeat' first|refine stW [0,2,3,5,6,7,8,9,10,13,14,15,16,17,37,42,56,57,58,83] ?_|refine fctI fun hf=>?_|refine twI (fun hc=>?_) fun hc=>?_);(refine lN [] ?_);exact ⟨_, by omega, i + 1, by omega, by omega, rfl, rfl, rfl⟩
  have hi3 : ¬ ((i : Int) < (ss.length : Int)) := by omega
  have he : swN ss i = swN ss ss.length := by
    rcases g2 with e | e
    · rw [show i = ss.length by omega]
    · subst e;by_cases e : ss.length = 1
      · rw [e]
      · rw [show ss.length = 0 by omega]; rfl
  rw [he];generalize swN ss ss.length = S at *
  (have:=NeI hi3);clear hb hsz hsl he;(repeat' first|refine stW [0,2,3,5,6,7,8,9,10,13,14,15,16,17,37,42,56,57,58,83] ?_|refine fctI fun hf=>?_|refine twI (fun hc=>?_) fun hc=>?_);exact DVR
theorem CLeast_f (n : Net) (ss : List Sta) (t : ByteArray) (m : Nat) (no : netOk n) (hs : stasOk ss) :
    Pu 26 [netD n, staL ss, ls t] m (.tup [li (leastR n ss t).1, li (leastR n ss t).2]) := by
  have hs1 := hs.1;have k1 := fun m => cright_f n ss m no hs
  have e0 : leastR n ss t = if listB n ss = false then (0, 1) else if 10000 < ss.length then (0, 4) else if nodeIx n.nodes t < 0 then (0, 9) else if ss.length = 0 then (0, 14) else (leastI ss (nodeIx n.nodes t).toNat ss.length, 0) := rfl
  rw [e0];clear e0;cases hL : listB n ss <;> simp only [hL] at k1
  · rw [if_pos rfl];refine pcN 58 [.tmp 6,.tmp 7] [3,39] Tryz.func26 rfl [] ?_;(repeat' first|refine stW [0,1,2,3,6,7,8,9,10,12,13,18,28,32,43,44,45,46] ?_|refine fctI fun hf=>?_|refine twI (fun hc=>?_) fun hc=>?_);exact DVR
  rw [if_neg (by decide)];by_cases h10 : (10000 : Int) < (ss.length : Int)
  · rw [if_pos (by omega)];(have:=NeI h10);refine pcN 58 [.tmp 6,.tmp 7] [3,39] Tryz.func26 rfl [] ?_;(repeat' first|refine stW [0,1,2,3,6,7,8,9,10,12,13,18,28,32,43,44,45,46] ?_|refine fctI fun hf=>?_|refine twI (fun hc=>?_) fun hc=>?_);exact DVR
  rw [if_neg (by omega)];(have:=NeI h10);obtain ⟨nb, hall⟩ := listB_in hL;have k2 := fun m => netNode_f n t m no nb
  have hlt := nix_lt n.nodes t;by_cases h0 : 0 <= nodeIx n.nodes t
  case neg =>
    rw [if_pos (by omega)];rw [if_neg h0] at k2;refine pcN 58 [.tmp 6,.tmp 7] [3,39] Tryz.func26 rfl [] ?_;(repeat' first|refine stW [0,1,2,3,6,7,8,9,10,12,13,18,28,32,43,44,45,46] ?_|refine fctI fun hf=>?_|refine twI (fun hc=>?_) fun hc=>?_);exact DVR
  rw [if_pos h0] at k2;rw [if_neg (by omega)];obtain ⟨p, hp⟩ : ∃ p : Nat, nodeIx n.nodes t = (p : Int) := ⟨_, (Int.toNat_of_nonneg h0).symm⟩;rw [hp] at k2 hlt;rw [hp, Int.toNat_natCast];by_cases hz : (ss.length : Int) = 0
  · rw [if_pos (by omega)];(have:=NeI hz);refine pcN 58 [.tmp 6,.tmp 7] [3,39] Tryz.func26 rfl [] ?_;(repeat' first|refine stW [0,1,2,3,6,7,8,9,10,12,13,18,28,32,43,44,45,46] ?_|refine fctI fun hf=>?_|refine twI (fun hc=>?_) fun hc=>?_);exact DVR
  rw [if_neg (by omega)];(have:=NeI hz);have hvl : ∀ j, j < ss.length -> p < (ss.getD j default).vol.length := fun j hj => by
    have := (sta_vol nb (hall _ (getD_mem hj))).1;omega
  have hz1 : 0 < ss.length := by omega
  have hz2 : (0 : Int) < (ss.length : Int) := by omega
  have hz4 := hvl 0 hz1;have hz5 : (p : Int) < ((ss.getD 0 default).vol.length : Int) := by omega
  (have:=NeI hz1);(have:=NeI hz2);(have:=NeI hz4);(have:=NeI hz5);clear hall;refine pcN 58 [.tmp 6,.tmp 7] [3,39] Tryz.func26 rfl [] ?_;(repeat' first|refine stW [0,1,2,3,6,7,8,9,10,12,13,18,28,32,43,44,45,46] ?_|refine fctI fun hf=>?_|refine twI (fun hc=>?_) fun hc=>?_);refine loop_swp [8, 10, 43, 44, 45] [] 304 (fun q A H => ∃ i : Nat, i <= ss.length /\ q = ss.length - i /\ A = [(8, li p), (10, li (leastI ss p i)), (43, staL ss), (44, li ss.length), (45, li i)] /\ H = []) (by omega) ?_ ?_ ?_
  · rintro q A H ⟨i, g1, g2, rfl, rfl⟩;exact SDD
  · refine ⟨_, 0, by omega, rfl, ?_, ?_⟩
    · exact DVR
    · exact DVR
  rintro q A H ⟨i, g1, g2, rfl, rfl⟩;by_cases hi : i < ss.length
  · have hi3 : (i : Int) < (ss.length : Int) := by omega
    have hv1 := hvl i hi;have hv2 : (p : Int) < ((ss.getD i default).vol.length : Int) := by omega
    have hst : leastI ss p (i + 1) = min (leastI ss p i) ((ss.getD i default).vol.getD p default) := rfl;haveI : MinOk44 (leastI ss p i) ((ss.getD i default).vol.getD p default) (leastI ss p (i + 1)) := ⟨hst.symm⟩;generalize leastI ss p i = X at *
    (have:=NeI hi);(have:=NeI hi3);(have:=NeI hv1);(have:=NeI hv2);clear hst hvl;(repeat' first|refine stW [0,1,2,3,6,7,8,9,10,12,13,18,28,32,43,44,45,46] ?_|refine fctI fun hf=>?_|refine twI (fun hc=>?_) fun hc=>?_);(refine lN [] ?_);exact ⟨_, by omega, i + 1, by omega, rfl, rfl, rfl⟩
  obtain rfl : i = ss.length := by omega
  have hi3 : ¬ ((ss.length : Int) < (ss.length : Int)) := by omega
  (have:=NeI hi3);generalize leastI ss p ss.length = X at *
  clear hvl;(repeat' first|refine stW [0,1,2,3,6,7,8,9,10,12,13,18,28,32,43,44,45,46] ?_|refine fctI fun hf=>?_|refine twI (fun hc=>?_) fun hc=>?_);exact DVR

end Go.Proofs.YtefkhfkapnmikaaGreat
