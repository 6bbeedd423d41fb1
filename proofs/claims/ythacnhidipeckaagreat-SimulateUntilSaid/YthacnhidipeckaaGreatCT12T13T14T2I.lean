/-
  Contracts of functions of the program, over the engine.
  No condition.
-/
import Derived.Test.YthacnhidipeckaaGreatCT8T9T9bT9cT9eT10T11
import Derived.Test.YthacnhidipeckaaGreatCN0N1NBNmT1T2T2eT3
namespace Go.Proofs.YthacnhidipeckaaGreat
open Go.Eng
set_option linter.all false
attribute [local irreducible] DCallsG SWp Fct CallQ XCallQ LCallQ XLCallQ drun xrun
def rangB (l : List Int) (most : Int) : Bool := (List.range l.length).all fun i => btwB (l.getD i default) 0 most
set_option maxHeartbeats 2000000 in
theorem rRanges_f (l : List Int) (k : Int) (m : Nat) (hl : l.length <= 281474976710656) : DCalls Tryz.prog 134 [ints l, li k] (hget []) m (lb (rangB l k)) (hget []) := by
  refine pureC (n := 25) (rs := [.tmp 4]) (ts := [4]) Tryz.func134 rfl (by decide) [] (by (exact SD)) ?_;(repeat' (first|refine swp_seq [0,1,4,5,9,24] ?_|refine st2 ?_|refine fctI fun hf=>?_|(show CondG ..;first|refine cBG (fun hc=>?_) (fun hc=>?_)|refine cUG ?_ ?_)));refine loop_swp [0, 1, 5] [] 0 (fun q A H => ∃ i : Nat, i <= l.length /\ q = l.length - i /\ (∀ j, j < i -> btwB (l.getD j default) 0 k = true) /\ A = [(0, ints l), (1, li k), (5, li i)] /\ H = []) (by omega) ?_ ?_ ?_
  · rintro q A H ⟨i, h1, h2, h3, rfl, rfl⟩;exact SDD
  · refine ⟨_, 0, by omega, rfl, by omega, ?_, ?_⟩
    · exact DVR
    · exact DVR
  rintro q A H ⟨i, h1, h2, h3, rfl, rfl⟩;(repeat' (first|refine swp_seq [0,1,4,5,9,24] ?_|refine st2 ?_|refine fctI fun hf=>?_|(show CondG ..;first|refine cBG (fun hc=>?_) (fun hc=>?_)|refine cUG ?_ ?_)))
  · (refine DVQ ?_);refine lbC ?_;unfold rangB;rw [rall_false (i := i) (by omega) (by unfold btwB; clear h3; grind)]
  · (refine lN [] ?_);exact ⟨_, by omega, i + 1, by omega, rfl, all_next h3 (by unfold btwB; clear h3; grind), rfl, rfl⟩
  · (refine DVQ ?_);refine lbC ?_;unfold rangB;rw [rall_true fun j hj => h3 j (by omega)]
def selI (p : Nat -> Bool) (l : List Int) : Nat -> Int
  | 0 => 0
  | i + 1 => if p i then selI p l i + l.getD i default else selI p l i
theorem selI_le {p : Nat -> Bool} {l : List Int} {b : Int} (h : ∀ i, i < l.length -> 0 <= l.getD i default /\ l.getD i default <= b) : ∀ i, i <= l.length -> 0 <= selI p l i /\ selI p l i <= i * b
  | 0, _ => by simp [selI]
  | i + 1, hi => by
    have h1 := selI_le (p := p) h i (by omega);have h2 := h i (by omega);have : ((i + 1 : Nat) : Int) * b = i * b + b := by push_cast; rw [Int.add_mul]; omega
    unfold selI;split <;> omega
def toB (n : Net) (k : Nat) (i : Nat) : Bool := decide ((n.links.getD i default).til = (n.nodes.getD k default).name)
def froB (n : Net) (k : Nat) (i : Nat) : Bool := decide ((n.links.getD i default).fro = (n.nodes.getD k default).name)
theorem rang_at {l : List Int} {b : Int} (h : rangB l b = true) : ∀ i, i < l.length -> 0 <= l.getD i default /\ l.getD i default <= b := fun i hi => by
  unfold rangB at h;rw [List.all_eq_true] at h;have := h i (List.mem_range.2 hi);unfold btwB at this;simp at this;simp only [List.getD_eq_getElem?_getD];exact this
set_option maxRecDepth 20000 in
set_option maxHeartbeats 8000000 in
theorem rPassed_f (n : Net) (k : Nat) (l : List Int) (m : Nat) (h1 : n.nodes.length <= 300) (h2 : n.links.length <= 400) (hk : k < n.nodes.length) (hl : l.length = n.links.length) (hr : rangB l 9007199254740992 = true) :
    DCalls Tryz.prog 140 [netD n, li k, ints l] (hget []) m (.tup [li (selI (toB n k) l n.links.length), li (selI (froB n k) l n.links.length)]) (hget []) := by
  have hb := rang_at hr;refine pureC (n := 58) (rs := [.tmp 6, .tmp 7]) (ts := [3, 3]) Tryz.func140 rfl (by decide) [] (by (exact SD)) ?_;(repeat' (first|refine swp_seq [0,1,2,3,6,7,8,9,10,15,30,49] ?_|refine st2 ?_|refine fctI fun hf=>?_|(show CondG ..;first|refine cBG (fun hc=>?_) (fun hc=>?_)|refine cUG ?_ ?_)));refine loop_swp [1, 2, 3, 8, 9, 10] [0] 1 (fun q A H => ∃ i : Nat, i <= n.links.length /\ q = n.links.length - i /\ A = [(1, li k), (2, ints l), (3, .ptr 0 0), (8, li (selI (toB n k) l i)), (9, li (selI (froB n k) l i)), (10, li i)] /\ H = [(0, .blk 25 (netC n))]) (by omega) ?_ ?_ ?_
  · rintro q A H ⟨i, h1, h2, rfl, rfl⟩;exact SDD
  · refine ⟨_, 0, by omega, rfl, ?_, ?_⟩
    · exact DVR
    · exact DVR
  rintro q A H ⟨i, k1, k2, rfl, rfl⟩;by_cases hi : i < n.links.length
  · have e1 := selI_le (p := toB n k) hb i (by omega);have e2 := selI_le (p := froB n k) hb i (by omega);have e3 := hb i (by omega);have f1 : selI (toB n k) l (i + 1) = if toB n k i then selI (toB n k) l i + l.getD i default else selI (toB n k) l i := rfl
    have f2 : selI (froB n k) l (i + 1) = if froB n k i then selI (froB n k) l i + l.getD i default else selI (froB n k) l i := rfl
    have g1 : toB n k i = decide ((n.links.getD i default).til = (n.nodes.getD k default).name) := rfl;have g2 : froB n k i = decide ((n.links.getD i default).fro = (n.nodes.getD k default).name) := rfl;generalize hT : selI (toB n k) l i = X at *
    generalize hF : selI (froB n k) l i = Y at *
    by_cases ht : (n.links.getD i default).til = (n.nodes.getD k default).name
    · rw [decide_eq_true ht] at g1;rw [g1, if_pos rfl] at f1;(have:=NeI ht);by_cases hf : (n.links.getD i default).fro = (n.nodes.getD k default).name
      · rw [decide_eq_true hf] at g2;rw [g2, if_pos rfl] at f2;(have:=NeI hf);(repeat' (first|refine swp_seq [0,1,2,3,6,7,8,9,10,15,30,49] ?_|refine st2 ?_|refine fctI fun hf=>?_|(show CondG ..;first|refine cBG (fun hc=>?_) (fun hc=>?_)|refine cUG ?_ ?_)))
        · (refine lN [0] ?_);exact ⟨_, by omega, i + 1, by omega, rfl, by rw [f1, f2]; rfl, rfl⟩
        · omega
      · rw [decide_eq_false hf] at g2;rw [g2, if_neg Bool.false_ne_true] at f2;(have:=NeI hf);(repeat' (first|refine swp_seq [0,1,2,3,6,7,8,9,10,15,30,49] ?_|refine st2 ?_|refine fctI fun hf=>?_|(show CondG ..;first|refine cBG (fun hc=>?_) (fun hc=>?_)|refine cUG ?_ ?_)))
        · (refine lN [0] ?_);exact ⟨_, by omega, i + 1, by omega, rfl, by rw [f1, f2]; rfl, rfl⟩
        · omega
    · rw [decide_eq_false ht] at g1;rw [g1, if_neg Bool.false_ne_true] at f1;(have:=NeI ht);by_cases hf : (n.links.getD i default).fro = (n.nodes.getD k default).name
      · rw [decide_eq_true hf] at g2;rw [g2, if_pos rfl] at f2;(have:=NeI hf);(repeat' (first|refine swp_seq [0,1,2,3,6,7,8,9,10,15,30,49] ?_|refine st2 ?_|refine fctI fun hf=>?_|(show CondG ..;first|refine cBG (fun hc=>?_) (fun hc=>?_)|refine cUG ?_ ?_)))
        · (refine lN [0] ?_);exact ⟨_, by omega, i + 1, by omega, rfl, by rw [f1, f2]; rfl, rfl⟩
        · omega
      · rw [decide_eq_false hf] at g2;rw [g2, if_neg Bool.false_ne_true] at f2;(have:=NeI hf);(repeat' (first|refine swp_seq [0,1,2,3,6,7,8,9,10,15,30,49] ?_|refine st2 ?_|refine fctI fun hf=>?_|(show CondG ..;first|refine cBG (fun hc=>?_) (fun hc=>?_)|refine cUG ?_ ?_)))
        · (refine lN [0] ?_);exact ⟨_, by omega, i + 1, by omega, rfl, by rw [f1, f2]; rfl, rfl⟩
        · omega
  have hi2 : i = n.links.length := by omega
  subst hi2;(repeat' (first|refine swp_seq [0,1,2,3,6,7,8,9,10,15,30,49] ?_|refine st2 ?_|refine fctI fun hf=>?_|(show CondG ..;first|refine cBG (fun hc=>?_) (fun hc=>?_)|refine cUG ?_ ?_)))
  · omega
  exact DVR
def outK (n : Net) (q : Nat) : Nat -> List Int
  | 0 => []
  | i + 1 => if nodeIx n.nodes (n.links.getD i default).fro = (q : Int) then outK n q i ++ [(i : Int)] else outK n q i
theorem outK_len (n : Net) (q : Nat) : ∀ i, (outK n q i).length <= i
  | 0 => by simp [outK]
  | i + 1 => by
    have := outK_len n q i;unfold outK; split
    · simp; omega
    · omega
def outsL (n : Net) : List (List Int) := (List.range n.nodes.length).map fun q => outK n q n.links.length
theorem fam_to (L : Nat -> List Int) (v : HV) : ∀ (k : Nat), k <= 14 -> hkeep [(48, v), (144, inLt (L 0)), (145, inLt (L 1)), (146, inLt (L 2)), (147, inLt (L 3)), (148, inLt (L 4)), (149, inLt (L 5)), (150, inLt (L 6)), (151, inLt (L 7)), (152, inLt (L 8)), (153, inLt (L 9)), (154, inLt (L 10)), (155, inLt (L 11)), (156, inLt (L 12)), (157, inLt (L 13))] (48 :: List.range' 144 k) = (48, v) :: famH inRow 3 1 144 ((List.range k).map L)
  | 0, _ => rfl
  | 1, _ => rfl
  | 2, _ => rfl
  | 3, _ => rfl
  | 4, _ => rfl
  | 5, _ => rfl
  | 6, _ => rfl
  | 7, _ => rfl
  | 8, _ => rfl
  | 9, _ => rfl
  | 10, _ => rfl
  | 11, _ => rfl
  | 12, _ => rfl
  | 13, _ => rfl
  | 14, _ => rfl
  | k + 15, h => by omega
theorem ilRows (l : List (List Int)) : l.map (datRow inRow 1) = rows ilRow l := by simp [rows, datRow, ilRow]
attribute [push_cast] ilRows
set_option maxRecDepth 20000 in
set_option maxHeartbeats 16000000 in
theorem outs_f (n : Net) (m : Nat) (hn : netOk n) (hv : netB n = true) (h14 : n.nodes.length <= 14) : DCalls Tryz.prog 66 [netD n] (hget []) m (.tup [intss (outsL n), pairs (edgeL n)]) (hget []) := by
  have cE := fun m => Edges_f n m hn
  simp only [hv, if_true] at cE;have hel := edgeL_len n;have a1 := netB_len hv;refine pureC (n := 40) (rs := [.tmp 2, .tmp 3]) (ts := [83, 118]) Tryz.func66 rfl (by decide) [48] (by (exact SD)) ?_;(repeat' (first|refine swp_seq [0,1,2,3,4,5,7,8,18,19,20,21] ?_|refine st2 ?_|(show CallQ ..;first|refine cQ (fun hcc=>(cE _)) ?_|(refine lP ?_;refine lQ (fun hcc m=>(cE _)) ?_))|refine fctI fun hf=>?_|(show CondG ..;first|refine cBG (fun hc=>?_) (fun hc=>?_)|refine cUG ?_ ?_)));refine swp_hkeep [48] rfl ?_;refine swp_fam inRow 48 n.nodes.length 14 1 27 3 (nx' := 160) (by omega) h14 (by omega) ?_;refine loop_swp [4, 5, 18, 19, 20] [48, 144, 145, 146, 147, 148, 149, 150, 151, 152, 153, 154, 155, 156, 157] 160 (fun k A H => ∃ i : Nat, i <= n.links.length /\ k = n.links.length - i /\ A = [(4, .gl 48), (5, pairs (edgeL n)), (18, pairs (edgeL n)), (19, li (edgeL n).length), (20, li i)] /\ H = [(48, .lst 27 1 (famR 144 n.nodes.length)), (144, inLt (outK n 0 i)), (145, inLt (outK n 1 i)), (146, inLt (outK n 2 i)), (147, inLt (outK n 3 i)), (148, inLt (outK n 4 i)), (149, inLt (outK n 5 i)), (150, inLt (outK n 6 i)), (151, inLt (outK n 7 i)), (152, inLt (outK n 8 i)), (153, inLt (outK n 9 i)), (154, inLt (outK n 10 i)), (155, inLt (outK n 11 i)), (156, inLt (outK n 12 i)), (157, inLt (outK n 13 i))]) (by omega) ?_ ?_ ?_
  · rintro k A H ⟨i, h1, h2, rfl, rfl⟩;refine ⟨by (exact SD), ⟨by omega, uses_famR _ _ _ fun i hi => by omega, ?_⟩⟩;(exact SD)
  · refine ⟨_, 0, by omega, rfl, ?_, ?_⟩
    · exact DVR
    · rfl
  rintro k A H ⟨i, h1, h2, rfl, rfl⟩;by_cases hi : i < n.links.length
  · have hx1 := edgeL_at hi;have hE : i < (edgeL n).length := by omega
    (have:=NeI hE);have hok := netB_okL hv hi;have hlt := idxI_lt (fun x => decide (x.name = (n.links.getD i default).fro)) n.nodes;change -1 <= nodeIx n.nodes (n.links.getD i default).fro /\ nodeIx n.nodes (n.links.getD i default).fro < n.nodes.length at hlt;have hpos : 0 <= nodeIx n.nodes (n.links.getD i default).fro := by
      unfold okL at hok;simp only [Bool.and_eq_true, decide_eq_true_eq] at hok;exact hok.1.1.2
    clear hok;have z0 := outK_len n 0 i;have z1 := outK_len n 1 i;have z2 := outK_len n 2 i;have z3 := outK_len n 3 i;have z4 := outK_len n 4 i;have z5 := outK_len n 5 i;have z6 := outK_len n 6 i;have z7 := outK_len n 7 i;have z8 := outK_len n 8 i;have z9 := outK_len n 9 i;have z10 := outK_len n 10 i;have z11 := outK_len n 11 i;have z12 := outK_len n 12 i;have z13 := outK_len n 13 i;have hst : ∀ q : Nat, outK n q (i + 1) = if nodeIx n.nodes (n.links.getD i default).fro = (q : Int) then outK n q i ++ [(i : Int)] else outK n q i := fun q => rfl
    (repeat' (first|refine swp_seq [0,1,2,3,4,5,7,8,18,19,20,21] ?_|refine st2 ?_|refine fctI fun hf=>?_|(show CondG ..;first|refine cBG (fun hc=>?_) (fun hc=>?_)|refine cUG ?_ ?_)))
    · rw [hx1];generalize nodeIx n.nodes (n.links.getD i default).fro = x at *
      have hcs : x = 0 ∨ x = 1 ∨ x = 2 ∨ x = 3 ∨ x = 4 ∨ x = 5 ∨ x = 6 ∨ x = 7 ∨ x = 8 ∨ x = 9 ∨ x = 10 ∨ x = 11 ∨ x = 12 ∨ x = 13 := by omega
      rcases hcs with rfl | rfl | rfl | rfl | rfl | rfl | rfl | rfl | rfl | rfl | rfl | rfl | rfl | rfl
      · have hq : 0 < n.nodes.length := by omega
        (have:=NeI hq);(repeat' (first|refine swp_seq [0,1,2,3,4,5,7,8,18,19,20,21] ?_|(show SWp _ _ _ (.region _ _ true) _ _ _ _;refine xG mixed [48, 144] ?_)|refine st2 ?_|refine fctI fun hf=>?_|(show CondG ..;first|refine cBG (fun hc=>?_) (fun hc=>?_)|refine cUG ?_ ?_)));refine lR (H3 := ?H0) 296 144 [48, 296, 145, 146, 147, 148, 149, 150, 151, 152, 153, 154, 155, 156, 157] ?h0 (hH1 := ?u0) (eH := ?e0)
        case e0 =>
          (refine DVQ ?_);rw [famR_set_ren ⟨by omega, by omega, by omega⟩]
        case u0 =>
          refine ⟨⟨by omega, by omega⟩, famR_set_uses (by omega) ⟨by omega, by omega⟩ (fun j hj hne => ⟨by omega, by omega⟩), ?_⟩;(exact SD)
        exact ⟨_, by omega, i + 1, by omega, rfl, rfl, by simp only [hst]; rfl⟩
      · have hq : 1 < n.nodes.length := by omega
        (have:=NeI hq);(repeat' (first|refine swp_seq [0,1,2,3,4,5,7,8,18,19,20,21] ?_|(show SWp _ _ _ (.region _ _ true) _ _ _ _;refine xG mixed [48, 145] ?_)|refine st2 ?_|refine fctI fun hf=>?_|(show CondG ..;first|refine cBG (fun hc=>?_) (fun hc=>?_)|refine cUG ?_ ?_)));refine lR (H3 := ?H1) 296 145 [48, 144, 296, 146, 147, 148, 149, 150, 151, 152, 153, 154, 155, 156, 157] ?h1 (hH1 := ?u1) (eH := ?e1)
        case e1 =>
          (refine DVQ ?_);rw [famR_set_ren ⟨by omega, by omega, by omega⟩]
        case u1 =>
          refine ⟨⟨by omega, by omega⟩, famR_set_uses (by omega) ⟨by omega, by omega⟩ (fun j hj hne => ⟨by omega, by omega⟩), ?_⟩;(exact SD)
        exact ⟨_, by omega, i + 1, by omega, rfl, rfl, by simp only [hst]; rfl⟩
      · have hq : 2 < n.nodes.length := by omega
        (have:=NeI hq);(repeat' (first|refine swp_seq [0,1,2,3,4,5,7,8,18,19,20,21] ?_|(show SWp _ _ _ (.region _ _ true) _ _ _ _;refine xG mixed [48, 146] ?_)|refine st2 ?_|refine fctI fun hf=>?_|(show CondG ..;first|refine cBG (fun hc=>?_) (fun hc=>?_)|refine cUG ?_ ?_)));refine lR (H3 := ?H2) 296 146 [48, 144, 145, 296, 147, 148, 149, 150, 151, 152, 153, 154, 155, 156, 157] ?h2 (hH1 := ?u2) (eH := ?e2)
        case e2 =>
          (refine DVQ ?_);rw [famR_set_ren ⟨by omega, by omega, by omega⟩]
        case u2 =>
          refine ⟨⟨by omega, by omega⟩, famR_set_uses (by omega) ⟨by omega, by omega⟩ (fun j hj hne => ⟨by omega, by omega⟩), ?_⟩;(exact SD)
        exact ⟨_, by omega, i + 1, by omega, rfl, rfl, by simp only [hst]; rfl⟩
      · have hq : 3 < n.nodes.length := by omega
        (have:=NeI hq);(repeat' (first|refine swp_seq [0,1,2,3,4,5,7,8,18,19,20,21] ?_|(show SWp _ _ _ (.region _ _ true) _ _ _ _;refine xG mixed [48, 147] ?_)|refine st2 ?_|refine fctI fun hf=>?_|(show CondG ..;first|refine cBG (fun hc=>?_) (fun hc=>?_)|refine cUG ?_ ?_)));refine lR (H3 := ?H3) 296 147 [48, 144, 145, 146, 296, 148, 149, 150, 151, 152, 153, 154, 155, 156, 157] ?h3 (hH1 := ?u3) (eH := ?e3)
        case e3 =>
          (refine DVQ ?_);rw [famR_set_ren ⟨by omega, by omega, by omega⟩]
        case u3 =>
          refine ⟨⟨by omega, by omega⟩, famR_set_uses (by omega) ⟨by omega, by omega⟩ (fun j hj hne => ⟨by omega, by omega⟩), ?_⟩;(exact SD)
        exact ⟨_, by omega, i + 1, by omega, rfl, rfl, by simp only [hst]; rfl⟩
      · have hq : 4 < n.nodes.length := by omega
        (have:=NeI hq);(repeat' (first|refine swp_seq [0,1,2,3,4,5,7,8,18,19,20,21] ?_|(show SWp _ _ _ (.region _ _ true) _ _ _ _;refine xG mixed [48, 148] ?_)|refine st2 ?_|refine fctI fun hf=>?_|(show CondG ..;first|refine cBG (fun hc=>?_) (fun hc=>?_)|refine cUG ?_ ?_)));refine lR (H3 := ?H4) 296 148 [48, 144, 145, 146, 147, 296, 149, 150, 151, 152, 153, 154, 155, 156, 157] ?h4 (hH1 := ?u4) (eH := ?e4)
        case e4 =>
          (refine DVQ ?_);rw [famR_set_ren ⟨by omega, by omega, by omega⟩]
        case u4 =>
          refine ⟨⟨by omega, by omega⟩, famR_set_uses (by omega) ⟨by omega, by omega⟩ (fun j hj hne => ⟨by omega, by omega⟩), ?_⟩;(exact SD)
        exact ⟨_, by omega, i + 1, by omega, rfl, rfl, by simp only [hst]; rfl⟩
      · have hq : 5 < n.nodes.length := by omega
        (have:=NeI hq);(repeat' (first|refine swp_seq [0,1,2,3,4,5,7,8,18,19,20,21] ?_|(show SWp _ _ _ (.region _ _ true) _ _ _ _;refine xG mixed [48, 149] ?_)|refine st2 ?_|refine fctI fun hf=>?_|(show CondG ..;first|refine cBG (fun hc=>?_) (fun hc=>?_)|refine cUG ?_ ?_)));refine lR (H3 := ?H5) 296 149 [48, 144, 145, 146, 147, 148, 296, 150, 151, 152, 153, 154, 155, 156, 157] ?h5 (hH1 := ?u5) (eH := ?e5)
        case e5 =>
          (refine DVQ ?_);rw [famR_set_ren ⟨by omega, by omega, by omega⟩]
        case u5 =>
          refine ⟨⟨by omega, by omega⟩, famR_set_uses (by omega) ⟨by omega, by omega⟩ (fun j hj hne => ⟨by omega, by omega⟩), ?_⟩;(exact SD)
        exact ⟨_, by omega, i + 1, by omega, rfl, rfl, by simp only [hst]; rfl⟩
      · have hq : 6 < n.nodes.length := by omega
        (have:=NeI hq);(repeat' (first|refine swp_seq [0,1,2,3,4,5,7,8,18,19,20,21] ?_|(show SWp _ _ _ (.region _ _ true) _ _ _ _;refine xG mixed [48, 150] ?_)|refine st2 ?_|refine fctI fun hf=>?_|(show CondG ..;first|refine cBG (fun hc=>?_) (fun hc=>?_)|refine cUG ?_ ?_)));refine lR (H3 := ?H6) 296 150 [48, 144, 145, 146, 147, 148, 149, 296, 151, 152, 153, 154, 155, 156, 157] ?h6 (hH1 := ?u6) (eH := ?e6)
        case e6 =>
          (refine DVQ ?_);rw [famR_set_ren ⟨by omega, by omega, by omega⟩]
        case u6 =>
          refine ⟨⟨by omega, by omega⟩, famR_set_uses (by omega) ⟨by omega, by omega⟩ (fun j hj hne => ⟨by omega, by omega⟩), ?_⟩;(exact SD)
        exact ⟨_, by omega, i + 1, by omega, rfl, rfl, by simp only [hst]; rfl⟩
      · have hq : 7 < n.nodes.length := by omega
        (have:=NeI hq);(repeat' (first|refine swp_seq [0,1,2,3,4,5,7,8,18,19,20,21] ?_|(show SWp _ _ _ (.region _ _ true) _ _ _ _;refine xG mixed [48, 151] ?_)|refine st2 ?_|refine fctI fun hf=>?_|(show CondG ..;first|refine cBG (fun hc=>?_) (fun hc=>?_)|refine cUG ?_ ?_)));refine lR (H3 := ?H7) 296 151 [48, 144, 145, 146, 147, 148, 149, 150, 296, 152, 153, 154, 155, 156, 157] ?h7 (hH1 := ?u7) (eH := ?e7)
        case e7 =>
          (refine DVQ ?_);rw [famR_set_ren ⟨by omega, by omega, by omega⟩]
        case u7 =>
          refine ⟨⟨by omega, by omega⟩, famR_set_uses (by omega) ⟨by omega, by omega⟩ (fun j hj hne => ⟨by omega, by omega⟩), ?_⟩;(exact SD)
        exact ⟨_, by omega, i + 1, by omega, rfl, rfl, by simp only [hst]; rfl⟩
      · have hq : 8 < n.nodes.length := by omega
        (have:=NeI hq);(repeat' (first|refine swp_seq [0,1,2,3,4,5,7,8,18,19,20,21] ?_|(show SWp _ _ _ (.region _ _ true) _ _ _ _;refine xG mixed [48, 152] ?_)|refine st2 ?_|refine fctI fun hf=>?_|(show CondG ..;first|refine cBG (fun hc=>?_) (fun hc=>?_)|refine cUG ?_ ?_)));refine lR (H3 := ?H8) 296 152 [48, 144, 145, 146, 147, 148, 149, 150, 151, 296, 153, 154, 155, 156, 157] ?h8 (hH1 := ?u8) (eH := ?e8)
        case e8 =>
          (refine DVQ ?_);rw [famR_set_ren ⟨by omega, by omega, by omega⟩]
        case u8 =>
          refine ⟨⟨by omega, by omega⟩, famR_set_uses (by omega) ⟨by omega, by omega⟩ (fun j hj hne => ⟨by omega, by omega⟩), ?_⟩;(exact SD)
        exact ⟨_, by omega, i + 1, by omega, rfl, rfl, by simp only [hst]; rfl⟩
      · have hq : 9 < n.nodes.length := by omega
        (have:=NeI hq);(repeat' (first|refine swp_seq [0,1,2,3,4,5,7,8,18,19,20,21] ?_|(show SWp _ _ _ (.region _ _ true) _ _ _ _;refine xG mixed [48, 153] ?_)|refine st2 ?_|refine fctI fun hf=>?_|(show CondG ..;first|refine cBG (fun hc=>?_) (fun hc=>?_)|refine cUG ?_ ?_)));refine lR (H3 := ?H9) 296 153 [48, 144, 145, 146, 147, 148, 149, 150, 151, 152, 296, 154, 155, 156, 157] ?h9 (hH1 := ?u9) (eH := ?e9)
        case e9 =>
          (refine DVQ ?_);rw [famR_set_ren ⟨by omega, by omega, by omega⟩]
        case u9 =>
          refine ⟨⟨by omega, by omega⟩, famR_set_uses (by omega) ⟨by omega, by omega⟩ (fun j hj hne => ⟨by omega, by omega⟩), ?_⟩;(exact SD)
        exact ⟨_, by omega, i + 1, by omega, rfl, rfl, by simp only [hst]; rfl⟩
      · have hq : 10 < n.nodes.length := by omega
        (have:=NeI hq);(repeat' (first|refine swp_seq [0,1,2,3,4,5,7,8,18,19,20,21] ?_|(show SWp _ _ _ (.region _ _ true) _ _ _ _;refine xG mixed [48, 154] ?_)|refine st2 ?_|refine fctI fun hf=>?_|(show CondG ..;first|refine cBG (fun hc=>?_) (fun hc=>?_)|refine cUG ?_ ?_)));refine lR (H3 := ?H10) 296 154 [48, 144, 145, 146, 147, 148, 149, 150, 151, 152, 153, 296, 155, 156, 157] ?h10 (hH1 := ?u10) (eH := ?e10)
        case e10 =>
          (refine DVQ ?_);rw [famR_set_ren ⟨by omega, by omega, by omega⟩]
        case u10 =>
          refine ⟨⟨by omega, by omega⟩, famR_set_uses (by omega) ⟨by omega, by omega⟩ (fun j hj hne => ⟨by omega, by omega⟩), ?_⟩;(exact SD)
        exact ⟨_, by omega, i + 1, by omega, rfl, rfl, by simp only [hst]; rfl⟩
      · have hq : 11 < n.nodes.length := by omega
        (have:=NeI hq);(repeat' (first|refine swp_seq [0,1,2,3,4,5,7,8,18,19,20,21] ?_|(show SWp _ _ _ (.region _ _ true) _ _ _ _;refine xG mixed [48, 155] ?_)|refine st2 ?_|refine fctI fun hf=>?_|(show CondG ..;first|refine cBG (fun hc=>?_) (fun hc=>?_)|refine cUG ?_ ?_)));refine lR (H3 := ?H11) 296 155 [48, 144, 145, 146, 147, 148, 149, 150, 151, 152, 153, 154, 296, 156, 157] ?h11 (hH1 := ?u11) (eH := ?e11)
        case e11 =>
          (refine DVQ ?_);rw [famR_set_ren ⟨by omega, by omega, by omega⟩]
        case u11 =>
          refine ⟨⟨by omega, by omega⟩, famR_set_uses (by omega) ⟨by omega, by omega⟩ (fun j hj hne => ⟨by omega, by omega⟩), ?_⟩;(exact SD)
        exact ⟨_, by omega, i + 1, by omega, rfl, rfl, by simp only [hst]; rfl⟩
      · have hq : 12 < n.nodes.length := by omega
        (have:=NeI hq);(repeat' (first|refine swp_seq [0,1,2,3,4,5,7,8,18,19,20,21] ?_|(show SWp _ _ _ (.region _ _ true) _ _ _ _;refine xG mixed [48, 156] ?_)|refine st2 ?_|refine fctI fun hf=>?_|(show CondG ..;first|refine cBG (fun hc=>?_) (fun hc=>?_)|refine cUG ?_ ?_)));refine lR (H3 := ?H12) 296 156 [48, 144, 145, 146, 147, 148, 149, 150, 151, 152, 153, 154, 155, 296, 157] ?h12 (hH1 := ?u12) (eH := ?e12)
        case e12 =>
          (refine DVQ ?_);rw [famR_set_ren ⟨by omega, by omega, by omega⟩]
        case u12 =>
          refine ⟨⟨by omega, by omega⟩, famR_set_uses (by omega) ⟨by omega, by omega⟩ (fun j hj hne => ⟨by omega, by omega⟩), ?_⟩;(exact SD)
        exact ⟨_, by omega, i + 1, by omega, rfl, rfl, by simp only [hst]; rfl⟩
      · have hq : 13 < n.nodes.length := by omega
        (have:=NeI hq);(repeat' (first|refine swp_seq [0,1,2,3,4,5,7,8,18,19,20,21] ?_|(show SWp _ _ _ (.region _ _ true) _ _ _ _;refine xG mixed [48, 157] ?_)|refine st2 ?_|refine fctI fun hf=>?_|(show CondG ..;first|refine cBG (fun hc=>?_) (fun hc=>?_)|refine cUG ?_ ?_)));refine lR (H3 := ?H13) 296 157 [48, 144, 145, 146, 147, 148, 149, 150, 151, 152, 153, 154, 155, 156, 296] ?h13 (hH1 := ?u13) (eH := ?e13)
        case e13 =>
          (refine DVQ ?_);rw [famR_set_ren ⟨by omega, by omega, by omega⟩]
        case u13 =>
          refine ⟨⟨by omega, by omega⟩, famR_set_uses (by omega) ⟨by omega, by omega⟩ (fun j hj hne => ⟨by omega, by omega⟩), ?_⟩;(exact SD)
        exact ⟨_, by omega, i + 1, by omega, rfl, rfl, by simp only [hst]; rfl⟩
    · omega
  have hi2 : i = n.links.length := by omega
  subst hi2;refine swp_hkeep (48 :: List.range' 144 n.nodes.length) (fam_to (fun q => outK n q n.links.length) _ _ h14) ?_;have hlen : (outsL n).length = n.nodes.length := by simp [outsL]
  change SWp _ _ _ _ _ _ ((48, .lst 27 1 (famR 144 n.nodes.length)) :: famH inRow 3 1 144 (outsL n)) _;rw [show famR 144 n.nodes.length = List.map (datRow inRow 1) [] ++ famR 144 (outsL n).length by rw [hlen]; rfl];refine swp_famfrz inRow 48 1 27 3 (outsL n) [] 144 (by omega) (by omega) (fun j x h1 h2 => ?_) ?_
  · simp only [efrz, DV.frz];rw [if_neg (by omega)];rfl
  · rw [List.nil_append, ilRows];(repeat' (first|refine swp_seq [0,1,2,3,4,5,7,8,18,19,20,21] ?_|refine st2 ?_|refine fctI fun hf=>?_|(show CondG ..;first|refine cBG (fun hc=>?_) (fun hc=>?_)|refine cUG ?_ ?_)))
    · omega
    first | ((refine DVQ ?_); all_goals rfl) | exact DVR
theorem rwithin_f (n k : Int) (m : Nat) : DCalls Tryz.prog 59 [li n, li k] (hget []) m (lb (btwB n 0 k)) (hget []) := by
  refine pureC (n := 12) (rs := [.tmp 4]) (ts := [4]) Tryz.func59 rfl (by decide) [] (by (exact SD)) ?_;(repeat' (first|refine swp_seq [0,1,4] ?_|refine st2 ?_|refine fctI fun hf=>?_|(show CondG ..;first|refine cBG (fun hc=>?_) (fun hc=>?_)|refine cUG ?_ ?_)));exact DVR
theorem any_rang (l : List Int) (k : Int) : (l.any fun n => !btwB n 0 k) = !rangB l k := by
  unfold rangB;rw [Bool.eq_iff_iff];simp only [List.any_eq_true, Bool.not_eq_true', List.all_eq_false, List.mem_range, Bool.not_eq_true];constructor
  · rintro ⟨x, hx, hb⟩;obtain ⟨i, hi, rfl⟩ := List.mem_iff_getElem.1 hx;exact ⟨i, hi, by rw [List.getD_eq_getElem?_getD, List.getElem?_eq_getElem hi]; exact hb⟩
  · rintro ⟨i, hi, hb⟩;exact ⟨_, getD_mem hi, hb⟩
theorem idx_eq {n : Net} (hv : netB n = true) {k : Nat} (hk : k < n.nodes.length) (s : ByteArray) : nodeIx n.nodes s = (k : Int) ↔ s = (n.nodes.getD k default).name := by
  have hok := netB_okN hv hk;unfold okN at hok;simp only [Bool.and_eq_true, decide_eq_true_eq] at hok;constructor
  · intro h;unfold nodeIx idxI at h;cases hf : n.nodes.findIdx? (fun x => decide (x.name = s)) with
    | none =>
      rw [hf] at h;have : (-1 : Int) = (k : Int) := h;omega
    | some i =>
      rw [hf] at h;have e : i = k := by
        have : (i : Int) = (k : Int) := h;omega
      subst e;rw [List.findIdx?_eq_some_iff_getElem] at hf;obtain ⟨hi, hp, _⟩ := hf;simp at hp;rw [List.getD_eq_getElem?_getD, List.getElem?_eq_getElem hi];exact hp.symm
  · rintro rfl;exact hok.2
end Go.Proofs.YthacnhidipeckaaGreat
