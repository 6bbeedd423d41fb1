/-
  Contracts of functions of the program, over the engine.
  No condition.
-/
import Derived.Test.YthacnhidipeckaaGreatCZGZIZKZJ0
import Derived.Test.YthacnhidipeckaaGreatCL12L16L20RL25L27
namespace Go.Proofs.YthacnhidipeckaaGreat
open Go.Eng
set_option linter.all false
attribute [local irreducible] DCallsG SWp Fct CallQ XCallQ LCallQ XLCallQ drun xrun
class MinOk (a b : Int) (q : outParam Int) : Prop where
  out : min a b = q
theorem min_ok {a b q : Int} [h : MinOk a b q] : min a b = q := h.out
theorem take_dropL {α : Type} (l : List α) (M : Nat) : List.take (l.length - M) (List.drop M l) = List.drop M l := List.take_of_length_le (by rw [List.length_drop]; exact Nat.le_refl _)
attribute [local push_cast] min_ok take_dropL
abbrev inflLt (l : List Infl) : HV := .lst 78 2 (rows inflP l)
theorem short_len {infl : List Infl} (h : shortB infl = true) : infl.length <= 12 := by
  unfold shortB at h
  simp only [Bool.and_eq_true, decide_eq_true_eq] at h
  exact h.1
theorem cut_ok37 {infl : List Infl} {i : Nat} (h : infl.length <= 281474976710656 /\ ∀ x, x ∈ infl -> inflOk x) : (infl.map (cutI i)).length <= 281474976710656 /\ ∀ x, x ∈ infl.map (cutI i) -> inflOk x := by
  refine ⟨by rw [List.length_map]; exact h.1, fun x hx => ?_⟩
  obtain ⟨y, hy, rfl⟩ := List.mem_map.1 hx
  obtain ⟨h1, h2, h3⟩ := h.2 y hy
  refine ⟨h1, ?_, fun z hz => h3 z (List.mem_of_mem_drop hz)⟩
  show (y.vols.drop _).length <= _
  rw [List.length_drop]; omega
set_option maxRecDepth 20000 in
set_option maxHeartbeats 64000000 in
theorem simparts_f (n : Net) (l : List Sect) (s : Sta) (infl : List Infl) (sec x5 x6 : Int) (m : Nat) (no : netOk n) (co : catOk l) (so : staOk s) (hi : infl.length <= 281474976710656 /\ ∀ x, x ∈ infl -> inflOk x) (h5 : 0 <= x5 /\ x5 <= 255) (h6 : 0 <= x6 /\ x6 <= 255) :
    DCalls Tryz.prog 6 [netD n, sectL l, staD s, inflL infl, li sec, lv (.int .u8 x5), lv (.int .u8 x6)] (hget []) m (lb true) (hget []) := by
  have cf := fun m => few_f n l [s] m no co ⟨by simp, fun x hx => by rw [List.mem_singleton.1 hx]; exact so⟩
  have cs := fun m => short_f infl m hi
  cases hf : few37 n l [s] <;> simp only [hf] at cf
  · refine pureC (n := 175) (rs := [.tmp 14]) (ts := [4]) Tryz.func6 rfl (by decide) [] (by (exact SD)) ?_
    (repeat' (first|refine swp_seq [0,1,2,3,4,5,6,7,9,14,15,16,17,18,19,20,21,22,23,24,26,27,28,30,41,73,121,124,130,131,132,133] ?_|refine st2 ?_|(show CallQ ..;first|refine cQ (fun hcc=>(by first | exact awake37_f _ | exact cf _)) ?_|(refine lP ?_;refine lQ (fun hcc m=>(by first | exact awake37_f _ | exact cf _)) ?_))|(show XCallQ ..;first|refine xQ (fun hcc=>(by first | exact awake37_f _ | exact cf _)) ?_|(refine xlP ?_;refine xlQ (fun hcc m=>(by first | exact awake37_f _ | exact cf _)) ?_))|refine fctI fun hf=>?_|(show CondG ..;first|refine cBG (fun hc=>?_) (fun hc=>?_)|refine cUG ?_ ?_)))
    exact DVR
  cases hs : shortB infl <;> simp only [hs] at cs
  · refine pureC (n := 175) (rs := [.tmp 14]) (ts := [4]) Tryz.func6 rfl (by decide) [] (by (exact SD)) ?_
    (repeat' (first|refine swp_seq [0,1,2,3,4,5,6,7,9,14,15,16,17,18,19,20,21,22,23,24,26,27,28,30,41,73,121,124,130,131,132,133] ?_|refine st2 ?_|(show CallQ ..;first|refine cQ (fun hcc=>(by first | exact awake37_f _ | exact cf _ | exact cs _)) ?_|(refine lP ?_;refine lQ (fun hcc m=>(by first | exact awake37_f _ | exact cf _ | exact cs _)) ?_))|(show XCallQ ..;first|refine xQ (fun hcc=>(by first | exact awake37_f _ | exact cf _ | exact cs _)) ?_|(refine xlP ?_;refine xlQ (fun hcc m=>(by first | exact awake37_f _ | exact cf _ | exact cs _)) ?_))|refine fctI fun hf=>?_|(show CondG ..;first|refine cBG (fun hc=>?_) (fun hc=>?_)|refine cUG ?_ ?_)))
    exact DVR
  obtain ⟨f1, f2, _, f4⟩ := few37_t hf
  have hsl := short_len hs
  obtain ⟨i, hie, hi7⟩ : ∃ i : Nat, x5.tmod 7 = (i : Int) /\ i <= 6 := ⟨(x5.tmod 7).toNat, by rw [Int.tmod_eq_emod_of_nonneg h5.1]; omega, by rw [Int.tmod_eq_emod_of_nonneg h5.1]; omega⟩
  obtain ⟨k, hke, hk7⟩ : ∃ k : Nat, x6.tmod 7 = (k : Int) /\ k <= 6 := ⟨(x6.tmod 7).toNat, by rw [Int.tmod_eq_emod_of_nonneg h6.1]; omega, by rw [Int.tmod_eq_emod_of_nonneg h6.1]; omega⟩
  haveI : ModOk x5 7 (i : Int) := ⟨hie⟩
  haveI : ModOk x6 7 (k : Int) := ⟨hke⟩
  have kA := fun m => Run_f n l s infl sec ((i + k : Nat) : Int) m no co so hi (by omega)
  have kB := fun m => Run_f n l s infl sec (i : Int) m no co so hi (by omega)
  have TR := two_runs (s := s) (infl := infl) (sec := sec) no co hi7 hk7
  have eik : ((i + k : Nat) : Int) = (i : Int) + (k : Int) := by omega
  have oA := runR_ok (s := s) (infl := infl) (sec := sec) no co ((i + k : Nat) : Int)
  have oB := runR_ok (s := s) (infl := infl) (sec := sec) no co (i : Int)
  generalize runR n l s infl sec ((i + k : Nat) : Int) = RA at *
  generalize runR n l s infl sec (i : Int) = RB at *
  rw [eik] at kA
  obtain ⟨AS, AG, AE⟩ := RA
  obtain ⟨BS, BG, BE⟩ := RB
  have hx5 : x5 <= 9223372036854775807 := by omega
  clear hie hke
  by_cases e0 : AE = 0
  case neg =>
    obtain ⟨b1, b2⟩ := TR.bad e0
    have b1 : AS = [] := b1
    have b2 : BE = 0 ∨ BE = AE := b2
    subst b1
    (have := Nonempty.intro e0)
    by_cases e1 : BE = 0
    · (have := Nonempty.intro e1)
      refine pureC (n := 175) (rs := [.tmp 14]) (ts := [4]) Tryz.func6 rfl (by decide) [] (by (exact SD)) ?_
      (repeat' (first|refine swp_seq [0,1,2,3,4,5,6,7,9,14,15,16,17,18,19,20,21,22,23,24,26,27,28,30,41,73,121,124,130,131,132,133] ?_|refine st2 ?_|(show CallQ ..;first|refine cQ (fun hcc=>(by first | exact awake37_f _ | exact cf _ | exact cs _ | exact kA _ | exact kB _)) ?_|(refine lP ?_;refine lQ (fun hcc m=>(by first | exact awake37_f _ | exact cf _ | exact cs _ | exact kA _ | exact kB _)) ?_))|(show XCallQ ..;first|refine xQ (fun hcc=>(by first | exact awake37_f _ | exact cf _ | exact cs _ | exact kA _ | exact kB _)) ?_|(refine xlP ?_;refine xlQ (fun hcc m=>(by first | exact awake37_f _ | exact cf _ | exact cs _ | exact kA _ | exact kB _)) ?_))|refine fctI fun hf=>?_|(show CondG ..;first|refine cBG (fun hc=>?_) (fun hc=>?_)|refine cUG ?_ ?_)))
      exact DVR
    · have e2 : BE = AE := by omega
      subst e2
      have e3 : BE = BE := rfl
      (have := Nonempty.intro e3)
      refine pureC (n := 175) (rs := [.tmp 14]) (ts := [4]) Tryz.func6 rfl (by decide) [] (by (exact SD)) ?_
      (repeat' (first|refine swp_seq [0,1,2,3,4,5,6,7,9,14,15,16,17,18,19,20,21,22,23,24,26,27,28,30,41,73,121,124,130,131,132,133] ?_|refine st2 ?_|(show CallQ ..;first|refine cQ (fun hcc=>(by first | exact awake37_f _ | exact cf _ | exact cs _ | exact kA _ | exact kB _)) ?_|(refine lP ?_;refine lQ (fun hcc m=>(by first | exact awake37_f _ | exact cf _ | exact cs _ | exact kA _ | exact kB _)) ?_))|(show XCallQ ..;first|refine xQ (fun hcc=>(by first | exact awake37_f _ | exact cf _ | exact cs _ | exact kA _ | exact kB _)) ?_|(refine xlP ?_;refine xlQ (fun hcc m=>(by first | exact awake37_f _ | exact cf _ | exact cs _ | exact kA _ | exact kB _)) ?_))|refine fctI fun hf=>?_|(show CondG ..;first|refine cBG (fun hc=>?_) (fun hc=>?_)|refine cUG ?_ ?_)))
      exact DVR
  have e1 : BE = 0 := TR.e e0
  subst e0 e1
  obtain ⟨l1, l2, l3, l4⟩ := TR.la rfl
  obtain ⟨t1, t2⟩ := TR.t1 rfl
  have hmid := TR.mid rfl
  clear TR
  dsimp only at l1 l2 l3 l4 t1 t2 hmid oA oB
  have cS1 := fun m => same37_f (AS.take i) BS (AG.take i) BG m ⟨by rw [List.length_take]; omega, fun x hx => oA.1 x (List.mem_of_mem_take hx)⟩ ⟨by omega, oB.1⟩ ⟨by rw [List.length_take]; omega, fun x hx => oA.2.1 x (List.mem_of_mem_take hx)⟩ ⟨by omega, oB.2.1⟩
  rw [decide_eq_true t1, decide_eq_true t2] at cS1
  have cS2 := fun m => same37_f (AS.drop i) (AS.drop i) (AG.drop i) (AG.drop i) m ⟨by rw [List.length_drop]; omega, fun x hx => oA.1 x (List.mem_of_mem_drop hx)⟩ ⟨by rw [List.length_drop]; omega, fun x hx => oA.1 x (List.mem_of_mem_drop hx)⟩ ⟨by rw [List.length_drop]; omega, fun x hx => oA.2.1 x (List.mem_of_mem_drop hx)⟩ ⟨by rw [List.length_drop]; omega, fun x hx => oA.2.1 x (List.mem_of_mem_drop hx)⟩
  rw [decide_eq_true rfl, decide_eq_true rfl] at cS2
  have q1 : (AS.length : Int) = (i : Int) + (k : Int) := by omega
  have q2 : (AG.length : Int) = (i : Int) + (k : Int) := by omega
  have q3 : (BS.length : Int) = (i : Int) := by omega
  have hiA : (i : Int) <= (AS.length : Int) := by omega
  have hiG : (i : Int) <= (AG.length : Int) := by omega
  (have := Nonempty.intro q1)
  (have := Nonempty.intro q2)
  (have := Nonempty.intro q3)
  by_cases hi0 : (0 : Int) < (i : Int)
  · (have := Nonempty.intro hi0)
    obtain ⟨om, rm⟩ := hmid _ (if_pos (by omega)).symm
    have hb1 : i - 1 < BS.length := by omega
    have hb2 : (i : Int) - 1 = ((i - 1 : Nat) : Int) := by omega
    generalize hmd : BS.getD (i - 1) default = mid at *
    have kC := fun m => Run_f n l mid (infl.map (cutI i)) sec (k : Int) m no co om (cut_ok37 hi) (by omega)
    rw [rm] at kC
    refine pureC (n := 175) (rs := [.tmp 14]) (ts := [4]) Tryz.func6 rfl (by decide) [] (by (exact SD)) ?_
    (repeat' (first|(show SWp _ _ _ (.seq (.region 16 _ _) _) _ _ _ _;refine (stop_in ?_))|refine swp_seq [0,1,2,3,4,5,6,7,9,14,15,16,17,18,19,20,21,22,23,24,26,27,28,30,41,73,121,124,130,131,132,133] ?_|(show SWp _ _ _ (.region _ _ true) _ _ _ _;refine xG mixed [] ?_)|refine st2 ?_|(show CallQ ..;first|refine cQ (fun hcc=>(by first | exact awake37_f _ | exact cf _ | exact cs _ | exact kA _ | exact kB _ | exact cS1 _)) ?_|(refine lP ?_;refine lQ (fun hcc m=>(by first | exact awake37_f _ | exact cf _ | exact cs _ | exact kA _ | exact kB _ | exact cS1 _)) ?_))|(show XCallQ ..;first|refine xQ (fun hcc=>(by first | exact awake37_f _ | exact cf _ | exact cs _ | exact kA _ | exact kB _ | exact cS1 _)) ?_|(refine xlP ?_;refine xlQ (fun hcc m=>(by first | exact awake37_f _ | exact cf _ | exact cs _ | exact kA _ | exact kB _ | exact cS1 _)) ?_))|refine fctI fun hf=>?_|(show CondG ..;first|refine cBG (fun hc=>?_) (fun hc=>?_)|refine cUG ?_ ?_)))
    refine stop_out ?_
    rw [hmd]
    (refine sN 24 78 2 ?_)
    (repeat' (first|refine swp_seq [0,1,2,3,4,5,6,7,9,14,15,16,17,18,19,20,21,22,23,24,26,27,28,30,41,73,121,124,130,131,132,133] ?_|refine st2 ?_|refine fctI fun hf=>?_|(show CondG ..;first|refine cBG (fun hc=>?_) (fun hc=>?_)|refine cUG ?_ ?_)))
    refine loop_swp [1, 4, 7, 15, 16, 17, 18, 23, 24, 130, 131, 132] [0, 744, 832] 840 (fun q A H => ∃ j : Nat, j <= infl.length /\ q = infl.length - j /\ A = [(1, sectL l), (4, li sec), (7, .ptr 0 0), (15, li i), (16, li k), (17, staL AS), (18, ledgL AG), (23, .ptr 744 0), (24, .gl 832), (130, inflL infl), (131, li infl.length), (132, li j)] /\ H = [(0, .blk 25 (netC n)), (744, .blk 30 (staC mid)), (832, inflLt ((infl.map (cutI i)).take j))]) (by omega) ?_ ?_ ?_
    · rintro q A H ⟨j, g1, g2, rfl, rfl⟩
      exact ⟨by (exact SD), by (exact SD)⟩
    · refine ⟨_, 0, by omega, rfl, ?_, ?_⟩
      · exact DVR
      · exact DVR
    rintro q A H ⟨j, g1, g2, rfl, rfl⟩
    by_cases hj : j < infl.length
    · have hj3 : (j : Int) < (infl.length : Int) := by omega
      have hnx : (infl.map (cutI i)).take (j + 1) = (infl.map (cutI i)).take j ++ [cutI i (infl.getD j default)] := by
        rw [List.take_succ_eq_append_getElem (by rw [List.length_map]; exact hj), List.getElem_map, List.getD_eq_getElem?_getD, List.getElem?_eq_getElem hj]; rfl
      have hlt : ((infl.map (cutI i)).take j).length = j := by rw [List.length_take, List.length_map]; omega
      generalize (infl.map (cutI i)).take j = X at *
      (have := Nonempty.intro hj)
      (have := Nonempty.intro hj3)
      obtain ⟨M, hM1, hM2, hcut⟩ : ∃ M : Nat, min (i : Int) ((infl.getD j default).vols.length : Int) = (M : Int) /\ M <= (infl.getD j default).vols.length /\ cutI i (infl.getD j default) = ⟨(infl.getD j default).nod, (infl.getD j default).vols.drop M⟩ := ⟨min i (infl.getD j default).vols.length, by omega, by omega, rfl⟩
      have hM3 : (M : Int) <= ((infl.getD j default).vols.length : Int) := by omega
      haveI : MinOk (i : Int) ((infl.getD j default).vols.length : Int) (M : Int) := ⟨hM1⟩
      rw [hcut] at hnx
      (have := Nonempty.intro hM3)
      (repeat' (first|refine swp_seq [0,1,2,3,4,5,6,7,9,14,15,16,17,18,19,20,21,22,23,24,26,27,28,30,41,73,121,124,130,131,132,133] ?_|(show SWp _ _ _ (.region _ _ true) _ _ _ _;refine xG mixed [832] ?_)|refine st2 ?_|refine fctI fun hf=>?_|(show CondG ..;first|refine cBG (fun hc=>?_) (fun hc=>?_)|refine cUG ?_ ?_)))
      rw [show rows inflP X ++ [[DV.p (PV.lit (Value.string (infl.getD j default).nod)), DV.p (PV.dat 1 (List.map inRow (List.drop M (infl.getD j default).vols)))]] = rows inflP (X ++ [⟨(infl.getD j default).nod, (infl.getD j default).vols.drop M⟩]) from rows_app inflP X [(⟨(infl.getD j default).nod, (infl.getD j default).vols.drop M⟩ : Infl)], <- hnx]
      (refine lR 984 832 [0, 744, 984] ?_)
      exact ⟨_, by omega, j + 1, by omega, rfl, rfl, by rw [List.map_take]⟩
    obtain rfl : j = infl.length := by omega
    have hj3 : ¬ ((infl.length : Int) < (infl.length : Int)) := by omega
    rw [List.take_of_length_le (by rw [List.length_map]; exact Nat.le_refl _)]
    (have := Nonempty.intro hj3)
    (repeat' (first|(show SWp _ _ _ (.seq (.region 21 _ _) _) _ _ _ _;refine (stop_in ?_))|refine swp_seq [0,1,2,3,4,5,6,7,9,14,15,16,17,18,19,20,21,22,23,24,26,27,28,30,41,73,121,124,130,131,132,133] ?_|(show SWp _ _ _ (.region _ _ true) _ _ _ _;refine xG mixed [] ?_)|refine st2 ?_|(show CallQ ..;first|refine cQ (fun hcc=>(by fail)) ?_|(refine lP ?_;refine lQ (fun hcc m=>(by fail)) ?_))|(show XCallQ ..;first|refine xQ (fun hcc=>(by fail)) ?_|(refine xlP ?_;refine xlQ (fun hcc m=>(by fail)) ?_))|refine fctI fun hf=>?_|(show CondG ..;first|refine cBG (fun hc=>?_) (fun hc=>?_)|refine cUG ?_ ?_)))
    refine stop_out ?_
    (refine sF 832 ?_)
    (repeat' (first|refine swp_seq [0,1,2,3,4,5,6,7,9,14,15,16,17,18,19,20,21,22,23,24,26,27,28,30,41,73,121,124,130,131,132,133] ?_|refine st2 ?_|(show CallQ ..;first|refine cQ (fun hcc=>(by first | exact kC _ | exact cS2 _)) ?_|(refine lP ?_;refine lQ (fun hcc m=>(by first | exact kC _ | exact cS2 _)) ?_))|(show XCallQ ..;first|refine xQ (fun hcc=>(by first | exact kC _ | exact cS2 _)) ?_|(refine xlP ?_;refine xlQ (fun hcc m=>(by first | exact kC _ | exact cS2 _)) ?_))|refine fctI fun hf=>?_|(show CondG ..;first|refine cBG (fun hc=>?_) (fun hc=>?_)|refine cUG ?_ ?_)))
    exact DVR
  · (have := Nonempty.intro hi0)
    obtain ⟨om, rm⟩ := hmid _ (if_neg (by omega)).symm
    obtain ⟨mid, hmd⟩ : ∃ mid, mid = s := ⟨s, rfl⟩
    rw [<- hmd] at om rm
    have kC := fun m => Run_f n l mid (infl.map (cutI i)) sec (k : Int) m no co om (cut_ok37 hi) (by omega)
    rw [rm] at kC
    refine pureC (n := 175) (rs := [.tmp 14]) (ts := [4]) Tryz.func6 rfl (by decide) [] (by (exact SD)) ?_
    (repeat' (first|(show SWp _ _ _ (.seq (.region 16 _ _) _) _ _ _ _;refine (stop_in ?_))|refine swp_seq [0,1,2,3,4,5,6,7,9,14,15,16,17,18,19,20,21,22,23,24,26,27,28,30,41,73,121,124,130,131,132,133] ?_|(show SWp _ _ _ (.region _ _ true) _ _ _ _;refine xG mixed [] ?_)|refine st2 ?_|(show CallQ ..;first|refine cQ (fun hcc=>(by first | exact awake37_f _ | exact cf _ | exact cs _ | exact kA _ | exact kB _ | exact cS1 _)) ?_|(refine lP ?_;refine lQ (fun hcc m=>(by first | exact awake37_f _ | exact cf _ | exact cs _ | exact kA _ | exact kB _ | exact cS1 _)) ?_))|(show XCallQ ..;first|refine xQ (fun hcc=>(by first | exact awake37_f _ | exact cf _ | exact cs _ | exact kA _ | exact kB _ | exact cS1 _)) ?_|(refine xlP ?_;refine xlQ (fun hcc m=>(by first | exact awake37_f _ | exact cf _ | exact cs _ | exact kA _ | exact kB _ | exact cS1 _)) ?_))|refine fctI fun hf=>?_|(show CondG ..;first|refine cBG (fun hc=>?_) (fun hc=>?_)|refine cUG ?_ ?_)))
    refine stop_out ?_
    rw [<- hmd]
    (refine sN 24 78 2 ?_)
    (repeat' (first|refine swp_seq [0,1,2,3,4,5,6,7,9,14,15,16,17,18,19,20,21,22,23,24,26,27,28,30,41,73,121,124,130,131,132,133] ?_|refine st2 ?_|refine fctI fun hf=>?_|(show CondG ..;first|refine cBG (fun hc=>?_) (fun hc=>?_)|refine cUG ?_ ?_)))
    refine loop_swp [1, 4, 7, 15, 16, 17, 18, 23, 24, 130, 131, 132] [0, 744, 784] 792 (fun q A H => ∃ j : Nat, j <= infl.length /\ q = infl.length - j /\ A = [(1, sectL l), (4, li sec), (7, .ptr 0 0), (15, li i), (16, li k), (17, staL AS), (18, ledgL AG), (23, .ptr 744 0), (24, .gl 784), (130, inflL infl), (131, li infl.length), (132, li j)] /\ H = [(0, .blk 25 (netC n)), (744, .blk 30 (staC mid)), (784, inflLt ((infl.map (cutI i)).take j))]) (by omega) ?_ ?_ ?_
    · rintro q A H ⟨j, g1, g2, rfl, rfl⟩
      exact ⟨by (exact SD), by (exact SD)⟩
    · refine ⟨_, 0, by omega, rfl, ?_, ?_⟩
      · exact DVR
      · exact DVR
    rintro q A H ⟨j, g1, g2, rfl, rfl⟩
    by_cases hj : j < infl.length
    · have hj3 : (j : Int) < (infl.length : Int) := by omega
      have hnx : (infl.map (cutI i)).take (j + 1) = (infl.map (cutI i)).take j ++ [cutI i (infl.getD j default)] := by
        rw [List.take_succ_eq_append_getElem (by rw [List.length_map]; exact hj), List.getElem_map, List.getD_eq_getElem?_getD, List.getElem?_eq_getElem hj]; rfl
      have hlt : ((infl.map (cutI i)).take j).length = j := by rw [List.length_take, List.length_map]; omega
      generalize (infl.map (cutI i)).take j = X at *
      (have := Nonempty.intro hj)
      (have := Nonempty.intro hj3)
      obtain ⟨M, hM1, hM2, hcut⟩ : ∃ M : Nat, min (i : Int) ((infl.getD j default).vols.length : Int) = (M : Int) /\ M <= (infl.getD j default).vols.length /\ cutI i (infl.getD j default) = ⟨(infl.getD j default).nod, (infl.getD j default).vols.drop M⟩ := ⟨min i (infl.getD j default).vols.length, by omega, by omega, rfl⟩
      have hM3 : (M : Int) <= ((infl.getD j default).vols.length : Int) := by omega
      haveI : MinOk (i : Int) ((infl.getD j default).vols.length : Int) (M : Int) := ⟨hM1⟩
      rw [hcut] at hnx
      (have := Nonempty.intro hM3)
      (repeat' (first|refine swp_seq [0,1,2,3,4,5,6,7,9,14,15,16,17,18,19,20,21,22,23,24,26,27,28,30,41,73,121,124,130,131,132,133] ?_|(show SWp _ _ _ (.region _ _ true) _ _ _ _;refine xG mixed [784] ?_)|refine st2 ?_|refine fctI fun hf=>?_|(show CondG ..;first|refine cBG (fun hc=>?_) (fun hc=>?_)|refine cUG ?_ ?_)))
      rw [show rows inflP X ++ [[DV.p (PV.lit (Value.string (infl.getD j default).nod)), DV.p (PV.dat 1 (List.map inRow (List.drop M (infl.getD j default).vols)))]] = rows inflP (X ++ [⟨(infl.getD j default).nod, (infl.getD j default).vols.drop M⟩]) from rows_app inflP X [(⟨(infl.getD j default).nod, (infl.getD j default).vols.drop M⟩ : Infl)], <- hnx]
      (refine lR 936 784 [0, 744, 936] ?_)
      exact ⟨_, by omega, j + 1, by omega, rfl, rfl, by rw [List.map_take]⟩
    obtain rfl : j = infl.length := by omega
    have hj3 : ¬ ((infl.length : Int) < (infl.length : Int)) := by omega
    rw [List.take_of_length_le (by rw [List.length_map]; exact Nat.le_refl _)]
    (have := Nonempty.intro hj3)
    (repeat' (first|(show SWp _ _ _ (.seq (.region 21 _ _) _) _ _ _ _;refine (stop_in ?_))|refine swp_seq [0,1,2,3,4,5,6,7,9,14,15,16,17,18,19,20,21,22,23,24,26,27,28,30,41,73,121,124,130,131,132,133] ?_|(show SWp _ _ _ (.region _ _ true) _ _ _ _;refine xG mixed [] ?_)|refine st2 ?_|(show CallQ ..;first|refine cQ (fun hcc=>(by fail)) ?_|(refine lP ?_;refine lQ (fun hcc m=>(by fail)) ?_))|(show XCallQ ..;first|refine xQ (fun hcc=>(by fail)) ?_|(refine xlP ?_;refine xlQ (fun hcc m=>(by fail)) ?_))|refine fctI fun hf=>?_|(show CondG ..;first|refine cBG (fun hc=>?_) (fun hc=>?_)|refine cUG ?_ ?_)))
    refine stop_out ?_
    (refine sF 784 ?_)
    (repeat' (first|refine swp_seq [0,1,2,3,4,5,6,7,9,14,15,16,17,18,19,20,21,22,23,24,26,27,28,30,41,73,121,124,130,131,132,133] ?_|refine st2 ?_|(show CallQ ..;first|refine cQ (fun hcc=>(by first | exact kC _ | exact cS2 _)) ?_|(refine lP ?_;refine lQ (fun hcc m=>(by first | exact kC _ | exact cS2 _)) ?_))|(show XCallQ ..;first|refine xQ (fun hcc=>(by first | exact kC _ | exact cS2 _)) ?_|(refine xlP ?_;refine xlQ (fun hcc m=>(by first | exact kC _ | exact cS2 _)) ?_))|refine fctI fun hf=>?_|(show CondG ..;first|refine cBG (fun hc=>?_) (fun hc=>?_)|refine cUG ?_ ?_)))
    exact DVR

end Go.Proofs.YthacnhidipeckaaGreat
