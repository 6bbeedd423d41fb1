/-
  Contracts of functions of the program, over the engine.
  No condition.
-/
import Derived.Test.YtgpllheklfbfhaaGreatCT8T9T9bT9cT9eT10T11
import Derived.Test.YtgpllheklfbfhaaGreatCN0N1NBNmT1T2T2eT3
import Derived.Test.YtgpllheklfbfhaaGreatCKSK1K2K3K5K4W0W1W2W3
namespace Go.Proofs.YtgpllheklfbfhaaGreat
open Go.Eng
set_option linter.all false
attribute [local irreducible] DCallsG SWp Fct CallQ XCallQ LCallQ XLCallQ drun xrun
set_option maxHeartbeats 64000000

def rangB (l : List Int) (most : Int) : Bool := (List.range l.length).all fun i => btwB (l.getD i default) 0 most
def selI (p : Nat -> Bool) (l : List Int) : Nat -> Int
  | 0 => 0
  | i + 1 => if p i then selI p l i + l.getD i default else selI p l i
theorem selI_le {p : Nat -> Bool} {l : List Int} {b : Int} (h : ∀ i, i < l.length -> 0 <= l.getD i default /\ l.getD i default <= b) : ∀ i, i <= l.length -> 0 <= selI p l i /\ selI p l i <= i * b
  | 0, _ => by simp [selI]
  | i + 1, hi => by
    have h1 := selI_le (p := p) h i (by omega);have h2 := h i (by omega);have : ((i + 1 : Nat) : Int) * b = i * b + b := by push_cast; rw [Int.add_mul]; omega
    unfold selI;split <;> omega
theorem rang_at {l : List Int} {b : Int} (h : rangB l b = true) : ∀ i, i < l.length -> 0 <= l.getD i default /\ l.getD i default <= b := fun i hi => by
  unfold rangB at h;rw [List.all_eq_true] at h;have := h i (List.mem_range.2 hi);unfold btwB at this;simp at this;simp only [List.getD_eq_getElem?_getD];exact this
def outK (n : Net) (q : Nat) : Nat -> List Int
  | 0 => []
  | i + 1 => if nodeIx n.nodes (n.links.getD i default).fro = (q : Int) then outK n q i ++ [(i : Int)] else outK n q i
theorem outK_len (n : Net) (q : Nat) : ∀ i, (outK n q i).length <= i
  | 0 => by simp [outK]
  | i + 1 => by
    have := outK_len n q i;unfold outK; split
    · simp; omega
    · omega
def outsL (n : Net) : List (List Int) := (List.range n.nodes.length).map fun q => outK n q n.links.length
theorem fam_to (L : Nat -> List Int) (v : HV) : ∀ (k : Nat), k <= 14 -> hkeep [(48, v), (144, inLt (L 0)), (145, inLt (L 1)), (146, inLt (L 2)), (147, inLt (L 3)), (148, inLt (L 4)), (149, inLt (L 5)), (150, inLt (L 6)), (151, inLt (L 7)), (152, inLt (L 8)), (153, inLt (L 9)), (154, inLt (L 10)), (155, inLt (L 11)), (156, inLt (L 12)), (157, inLt (L 13))] (48 :: List.range' 144 k) = (48, v) :: famH inRow 3 1 144 ((List.range k).map L)
  | 0, _ => rfl
  | 1, _ => rfl
  | 2, _ => rfl
  | 3, _ => rfl
  | 4, _ => rfl
  | 5, _ => rfl
  | 6, _ => rfl
  | 7, _ => rfl
  | 8, _ => rfl
  | 9, _ => rfl
  | 10, _ => rfl
  | 11, _ => rfl
  | 12, _ => rfl
  | 13, _ => rfl
  | 14, _ => rfl
  | k + 15, h => by omega
theorem ilRows (l : List (List Int)) : l.map (datRow inRow 1) = rows ilRow l := by simp [rows, datRow, ilRow]
attribute [push_cast] ilRows
set_option maxRecDepth 20000 in
theorem outs_f (n : Net) (m : Nat) (hn : netOk n) (hv : netB n = true) (h14 : n.nodes.length <= 14) : Pu 112 [netD n] m (.tup [intss (outsL n), pairs (edgeL n)]) := by
  have cE := fun m => Edges_f n m hn
  simp only [hv, if_true] at cE;have hel := edgeL_len n;have a1 := netB_len hv;refine pcN 40 [.tmp 2,.tmp 3] [149,150] Tryz.func112 rfl [48] ?_;(repeat' first|refine stW [0,1,2,3,4,5,7,8,18,19,20,21] ?_|(show CallQ ..;first|refine cQ (fun hcc=>(cE _)) ?_|(refine lP ?_;refine lQ (fun hcc m=>(cE _)) ?_))|refine fctI fun hf=>?_|refine twI (fun hc=>?_) fun hc=>?_);refine swp_hkeep [48] rfl ?_;refine swp_fam inRow 48 n.nodes.length 14 1 28 3 (nx' := 160) (by omega) h14 (by omega) ?_;refine loop_swp [4, 5, 18, 19, 20] [48, 144, 145, 146, 147, 148, 149, 150, 151, 152, 153, 154, 155, 156, 157] 160 (fun k A H => ∃ i : Nat, i <= n.links.length /\ k = n.links.length - i /\ A = [(4, .gl 48), (5, pairs (edgeL n)), (18, pairs (edgeL n)), (19, li (edgeL n).length), (20, li i)] /\ H = [(48, .lst 28 1 (famR 144 n.nodes.length)), (144, inLt (outK n 0 i)), (145, inLt (outK n 1 i)), (146, inLt (outK n 2 i)), (147, inLt (outK n 3 i)), (148, inLt (outK n 4 i)), (149, inLt (outK n 5 i)), (150, inLt (outK n 6 i)), (151, inLt (outK n 7 i)), (152, inLt (outK n 8 i)), (153, inLt (outK n 9 i)), (154, inLt (outK n 10 i)), (155, inLt (outK n 11 i)), (156, inLt (outK n 12 i)), (157, inLt (outK n 13 i))]) (by omega) ?_ ?_ ?_
  · rintro k A H ⟨i, h1, h2, rfl, rfl⟩;refine ⟨by (exact SD), ⟨by omega, uses_famR _ _ _ fun i hi => by omega, ?_⟩⟩;(exact SD)
  · refine ⟨_, 0, by omega, rfl, ?_, ?_⟩
    · exact DVR
    · rfl
  rintro k A H ⟨i, h1, h2, rfl, rfl⟩;by_cases hi : i < n.links.length
  · have hx1 := edgeL_at hi;have hE : i < (edgeL n).length := by omega
    (have:=NeI hE);have hok := netB_okL hv hi;have hlt := idxI_lt (fun x => decide (x.name = (n.links.getD i default).fro)) n.nodes;change -1 <= nodeIx n.nodes (n.links.getD i default).fro /\ nodeIx n.nodes (n.links.getD i default).fro < n.nodes.length at hlt;have hpos : 0 <= nodeIx n.nodes (n.links.getD i default).fro := by
      unfold okL at hok;simp only [Bool.and_eq_true, decide_eq_true_eq] at hok;exact hok.1.1.2
    clear hok;have z0 := outK_len n 0 i;have z1 := outK_len n 1 i;have z2 := outK_len n 2 i;have z3 := outK_len n 3 i;have z4 := outK_len n 4 i;have z5 := outK_len n 5 i;have z6 := outK_len n 6 i;have z7 := outK_len n 7 i;have z8 := outK_len n 8 i;have z9 := outK_len n 9 i;have z10 := outK_len n 10 i;have z11 := outK_len n 11 i;have z12 := outK_len n 12 i;have z13 := outK_len n 13 i;have hst : ∀ q : Nat, outK n q (i + 1) = if nodeIx n.nodes (n.links.getD i default).fro = (q : Int) then outK n q i ++ [(i : Int)] else outK n q i := fun q => rfl
    (repeat' first|refine stW [0,1,2,3,4,5,7,8,18,19,20,21] ?_|refine fctI fun hf=>?_|refine twI (fun hc=>?_) fun hc=>?_)
    · rw [hx1];generalize nodeIx n.nodes (n.links.getD i default).fro = x at *
      have hcs : x = 0 ∨ x = 1 ∨ x = 2 ∨ x = 3 ∨ x = 4 ∨ x = 5 ∨ x = 6 ∨ x = 7 ∨ x = 8 ∨ x = 9 ∨ x = 10 ∨ x = 11 ∨ x = 12 ∨ x = 13 := by omega
      rcases hcs with rfl | rfl | rfl | rfl | rfl | rfl | rfl | rfl | rfl | rfl | rfl | rfl | rfl | rfl
      · have hq : 0 < n.nodes.length := by omega
        (have:=NeI hq);(repeat' first|(show SWp _ _ _ (.region _ _ true) _ _ _ _;refine xG mixed [48, 144] ?_)|refine stW [0,1,2,3,4,5,7,8,18,19,20,21] ?_|refine fctI fun hf=>?_|refine twI (fun hc=>?_) fun hc=>?_);refine lR (H3 := ?H0) 296 144 [48, 296, 145, 146, 147, 148, 149, 150, 151, 152, 153, 154, 155, 156, 157] ?h0 (hH1 := ?u0) (eH := ?e0)
        case e0 =>
          (refine DVQ ?_);rw [famR_set_ren ⟨by omega, by omega, by omega⟩]
        case u0 =>
          refine ⟨⟨by omega, by omega⟩, famR_set_uses (by omega) ⟨by omega, by omega⟩ (fun j hj hne => ⟨by omega, by omega⟩), ?_⟩;(exact SD)
        exact ⟨_, by omega, i + 1, by omega, rfl, rfl, by simp only [hst]; rfl⟩
      · have hq : 1 < n.nodes.length := by omega
        (have:=NeI hq);(repeat' first|(show SWp _ _ _ (.region _ _ true) _ _ _ _;refine xG mixed [48, 145] ?_)|refine stW [0,1,2,3,4,5,7,8,18,19,20,21] ?_|refine fctI fun hf=>?_|refine twI (fun hc=>?_) fun hc=>?_);refine lR (H3 := ?H1) 296 145 [48, 144, 296, 146, 147, 148, 149, 150, 151, 152, 153, 154, 155, 156, 157] ?h1 (hH1 := ?u1) (eH := ?e1)
        case e1 =>
          (refine DVQ ?_);rw [famR_set_ren ⟨by omega, by omega, by omega⟩]
        case u1 =>
          refine ⟨⟨by omega, by omega⟩, famR_set_uses (by omega) ⟨by omega, by omega⟩ (fun j hj hne => ⟨by omega, by omega⟩), ?_⟩;(exact SD)
        exact ⟨_, by omega, i + 1, by omega, rfl, rfl, by simp only [hst]; rfl⟩
      · have hq : 2 < n.nodes.length := by omega
        (have:=NeI hq);(repeat' first|(show SWp _ _ _ (.region _ _ true) _ _ _ _;refine xG mixed [48, 146] ?_)|refine stW [0,1,2,3,4,5,7,8,18,19,20,21] ?_|refine fctI fun hf=>?_|refine twI (fun hc=>?_) fun hc=>?_);refine lR (H3 := ?H2) 296 146 [48, 144, 145, 296, 147, 148, 149, 150, 151, 152, 153, 154, 155, 156, 157] ?h2 (hH1 := ?u2) (eH := ?e2)
        case e2 =>
          (refine DVQ ?_);rw [famR_set_ren ⟨by omega, by omega, by omega⟩]
        case u2 =>
          refine ⟨⟨by omega, by omega⟩, famR_set_uses (by omega) ⟨by omega, by omega⟩ (fun j hj hne => ⟨by omega, by omega⟩), ?_⟩;(exact SD)
        exact ⟨_, by omega, i + 1, by omega, rfl, rfl, by simp only [hst]; rfl⟩
      · have hq : 3 < n.nodes.length := by omega
        (have:=NeI hq);(repeat' first|(show SWp _ _ _ (.region _ _ true) _ _ _ _;refine xG mixed [48, 147] ?_)|refine stW [0,1,2,3,4,5,7,8,18,19,20,21] ?_|refine fctI fun hf=>?_|refine twI (fun hc=>?_) fun hc=>?_);refine lR (H3 := ?H3) 296 147 [48, 144, 145, 146, 296, 148, 149, 150, 151, 152, 153, 154, 155, 156, 157] ?h3 (hH1 := ?u3) (eH := ?e3)
        case e3 =>
          (refine DVQ ?_);rw [famR_set_ren ⟨by omega, by omega, by omega⟩]
        case u3 =>
          refine ⟨⟨by omega, by omega⟩, famR_set_uses (by omega) ⟨by omega, by omega⟩ (fun j hj hne => ⟨by omega, by omega⟩), ?_⟩;(exact SD)
        exact ⟨_, by omega, i + 1, by omega, rfl, rfl, by simp only [hst]; rfl⟩
      · have hq : 4 < n.nodes.length := by omega
        (have:=NeI hq);(repeat' first|(show SWp _ _ _ (.region _ _ true) _ _ _ _;refine xG mixed [48, 148] ?_)|refine stW [0,1,2,3,4,5,7,8,18,19,20,21] ?_|refine fctI fun hf=>?_|refine twI (fun hc=>?_) fun hc=>?_);refine lR (H3 := ?H4) 296 148 [48, 144, 145, 146, 147, 296, 149, 150, 151, 152, 153, 154, 155, 156, 157] ?h4 (hH1 := ?u4) (eH := ?e4)
        case e4 =>
          (refine DVQ ?_);rw [famR_set_ren ⟨by omega, by omega, by omega⟩]
        case u4 =>
          refine ⟨⟨by omega, by omega⟩, famR_set_uses (by omega) ⟨by omega, by omega⟩ (fun j hj hne => ⟨by omega, by omega⟩), ?_⟩;(exact SD)
        exact ⟨_, by omega, i + 1, by omega, rfl, rfl, by simp only [hst]; rfl⟩
      · have hq : 5 < n.nodes.length := by omega
        (have:=NeI hq);(repeat' first|(show SWp _ _ _ (.region _ _ true) _ _ _ _;refine xG mixed [48, 149] ?_)|refine stW [0,1,2,3,4,5,7,8,18,19,20,21] ?_|refine fctI fun hf=>?_|refine twI (fun hc=>?_) fun hc=>?_);refine lR (H3 := ?H5) 296 149 [48, 144, 145, 146, 147, 148, 296, 150, 151, 152, 153, 154, 155, 156, 157] ?h5 (hH1 := ?u5) (eH := ?e5)
        case e5 =>
          (refine DVQ ?_);rw [famR_set_ren ⟨by omega, by omega, by omega⟩]
        case u5 =>
          refine ⟨⟨by omega, by omega⟩, famR_set_uses (by omega) ⟨by omega, by omega⟩ (fun j hj hne => ⟨by omega, by omega⟩), ?_⟩;(exact SD)
        exact ⟨_, by omega, i + 1, by omega, rfl, rfl, by simp only [hst]; rfl⟩
      · have hq : 6 < n.nodes.length := by omega
        (have:=NeI hq);(repeat' first|(show SWp _ _ _ (.region _ _ true) _ _ _ _;refine xG mixed [48, 150] ?_)|refine stW [0,1,2,3,4,5,7,8,18,19,20,21] ?_|refine fctI fun hf=>?_|refine twI (fun hc=>?_) fun hc=>?_);refine lR (H3 := ?H6) 296 150 [48, 144, 145, 146, 147, 148, 149, 296, 151, 152, 153, 154, 155, 156, 157] ?h6 (hH1 := ?u6) (eH := ?e6)
        case e6 =>
          (refine DVQ ?_);rw [famR_set_ren ⟨by omega, by omega, by omega⟩]
        case u6 =>
          refine ⟨⟨by omega, by omega⟩, famR_set_uses (by omega) ⟨by omega, by omega⟩ (fun j hj hne => ⟨by omega, by omega⟩), ?_⟩;(exact SD)
        exact ⟨_, by omega, i + 1, by omega, rfl, rfl, by simp only [hst]; rfl⟩
      · have hq : 7 < n.nodes.length := by omega
        (have:=NeI hq);(repeat' first|(show SWp _ _ _ (.region _ _ true) _ _ _ _;refine xG mixed [48, 151] ?_)|refine stW [0,1,2,3,4,5,7,8,18,19,20,21] ?_|refine fctI fun hf=>?_|refine twI (fun hc=>?_) fun hc=>?_);refine lR (H3 := ?H7) 296 151 [48, 144, 145, 146, 147, 148, 149, 150, 296, 152, 153, 154, 155, 156, 157] ?h7 (hH1 := ?u7) (eH := ?e7)
        case e7 =>
          (refine DVQ ?_);rw [famR_set_ren ⟨by omega, by omega, by omega⟩]
        case u7 =>
          refine ⟨⟨by omega, by omega⟩, famR_set_uses (by omega) ⟨by omega, by omega⟩ (fun j hj hne => ⟨by omega, by omega⟩), ?_⟩;(exact SD)
        exact ⟨_, by omega, i + 1, by omega, rfl, rfl, by simp only [hst]; rfl⟩
      · have hq : 8 < n.nodes.length := by omega
        (have:=NeI hq);(repeat' first|(show SWp _ _ _ (.region _ _ true) _ _ _ _;refine xG mixed [48, 152] ?_)|refine stW [0,1,2,3,4,5,7,8,18,19,20,21] ?_|refine fctI fun hf=>?_|refine twI (fun hc=>?_) fun hc=>?_);refine lR (H3 := ?H8) 296 152 [48, 144, 145, 146, 147, 148, 149, 150, 151, 296, 153, 154, 155, 156, 157] ?h8 (hH1 := ?u8) (eH := ?e8)
        case e8 =>
          (refine DVQ ?_);rw [famR_set_ren ⟨by omega, by omega, by omega⟩]
        case u8 =>
          refine ⟨⟨by omega, by omega⟩, famR_set_uses (by omega) ⟨by omega, by omega⟩ (fun j hj hne => ⟨by omega, by omega⟩), ?_⟩;(exact SD)
        exact ⟨_, by omega, i + 1, by omega, rfl, rfl, by simp only [hst]; rfl⟩
      · have hq : 9 < n.nodes.length := by omega
        (have:=NeI hq);(repeat' first|(show SWp _ _ _ (.region _ _ true) _ _ _ _;refine xG mixed [48, 153] ?_)|refine stW [0,1,2,3,4,5,7,8,18,19,20,21] ?_|refine fctI fun hf=>?_|refine twI (fun hc=>?_) fun hc=>?_);refine lR (H3 := ?H9) 296 153 [48, 144, 145, 146, 147, 148, 149, 150, 151, 152, 296, 154, 155, 156, 157] ?h9 (hH1 := ?u9) (eH := ?e9)
        case e9 =>
          (refine DVQ ?_);rw [famR_set_ren ⟨by omega, by omega, by omega⟩]
        case u9 =>
          refine ⟨⟨by omega, by omega⟩, famR_set_uses (by omega) ⟨by omega, by omega⟩ (fun j hj hne => ⟨by omega, by omega⟩), ?_⟩;(exact SD)
        exact ⟨_, by omega, i + 1, by omega, rfl, rfl, by simp only [hst]; rfl⟩
      · have hq : 10 < n.nodes.length := by omega
        (have:=NeI hq);(repeat' first|(show SWp _ _ _ (.region _ _ true) _ _ _ _;refine xG mixed [48, 154] ?_)|refine stW [0,1,2,3,4,5,7,8,18,19,20,21] ?_|refine fctI fun hf=>?_|refine twI (fun hc=>?_) fun hc=>?_);refine lR (H3 := ?H10) 296 154 [48, 144, 145, 146, 147, 148, 149, 150, 151, 152, 153, 296, 155, 156, 157] ?h10 (hH1 := ?u10) (eH := ?e10)
        case e10 =>
          (refine DVQ ?_);rw [famR_set_ren ⟨by omega, by omega, by omega⟩]
        case u10 =>
          refine ⟨⟨by omega, by omega⟩, famR_set_uses (by omega) ⟨by omega, by omega⟩ (fun j hj hne => ⟨by omega, by omega⟩), ?_⟩;(exact SD)
        exact ⟨_, by omega, i + 1, by omega, rfl, rfl, by simp only [hst]; rfl⟩
      · have hq : 11 < n.nodes.length := by omega
        (have:=NeI hq);(repeat' first|(show SWp _ _ _ (.region _ _ true) _ _ _ _;refine xG mixed [48, 155] ?_)|refine stW [0,1,2,3,4,5,7,8,18,19,20,21] ?_|refine fctI fun hf=>?_|refine twI (fun hc=>?_) fun hc=>?_);refine lR (H3 := ?H11) 296 155 [48, 144, 145, 146, 147, 148, 149, 150, 151, 152, 153, 154, 296, 156, 157] ?h11 (hH1 := ?u11) (eH := ?e11)
        case e11 =>
          (refine DVQ ?_);rw [famR_set_ren ⟨by omega, by omega, by omega⟩]
        case u11 =>
          refine ⟨⟨by omega, by omega⟩, famR_set_uses (by omega) ⟨by omega, by omega⟩ (fun j hj hne => ⟨by omega, by omega⟩), ?_⟩;(exact SD)
        exact ⟨_, by omega, i + 1, by omega, rfl, rfl, by simp only [hst]; rfl⟩
      · have hq : 12 < n.nodes.length := by omega
        (have:=NeI hq);(repeat' first|(show SWp _ _ _ (.region _ _ true) _ _ _ _;refine xG mixed [48, 156] ?_)|refine stW [0,1,2,3,4,5,7,8,18,19,20,21] ?_|refine fctI fun hf=>?_|refine twI (fun hc=>?_) fun hc=>?_);refine lR (H3 := ?H12) 296 156 [48, 144, 145, 146, 147, 148, 149, 150, 151, 152, 153, 154, 155, 296, 157] ?h12 (hH1 := ?u12) (eH := ?e12)
        case e12 =>
          (refine DVQ ?_);rw [famR_set_ren ⟨by omega, by omega, by omega⟩]
        case u12 =>
          refine ⟨⟨by omega, by omega⟩, famR_set_uses (by omega) ⟨by omega, by omega⟩ (fun j hj hne => ⟨by omega, by omega⟩), ?_⟩;(exact SD)
        exact ⟨_, by omega, i + 1, by omega, rfl, rfl, by simp only [hst]; rfl⟩
      · have hq : 13 < n.nodes.length := by omega
        (have:=NeI hq);(repeat' first|(show SWp _ _ _ (.region _ _ true) _ _ _ _;refine xG mixed [48, 157] ?_)|refine stW [0,1,2,3,4,5,7,8,18,19,20,21] ?_|refine fctI fun hf=>?_|refine twI (fun hc=>?_) fun hc=>?_);refine lR (H3 := ?H13) 296 157 [48, 144, 145, 146, 147, 148, 149, 150, 151, 152, 153, 154, 155, 156, 296] ?h13 (hH1 := ?u13) (eH := ?e13)
        case e13 =>
          (refine DVQ ?_);rw [famR_set_ren ⟨by omega, by omega, by omega⟩]
        case u13 =>
          refine ⟨⟨by omega, by omega⟩, famR_set_uses (by omega) ⟨by omega, by omega⟩ (fun j hj hne => ⟨by omega, by omega⟩), ?_⟩;(exact SD)
        exact ⟨_, by omega, i + 1, by omega, rfl, rfl, by simp only [hst]; rfl⟩
    · omega
  have hi2 : i = n.links.length := by omega
  subst hi2;refine swp_hkeep (48 :: List.range' 144 n.nodes.length) (fam_to (fun q => outK n q n.links.length) _ _ h14) ?_;have hlen : (outsL n).length = n.nodes.length := by simp [outsL]
  change SWp _ _ _ _ _ _ ((48, .lst 28 1 (famR 144 n.nodes.length)) :: famH inRow 3 1 144 (outsL n)) _;rw [show famR 144 n.nodes.length = List.map (datRow inRow 1) [] ++ famR 144 (outsL n).length by rw [hlen]; rfl];refine swp_famfrz inRow 48 1 28 3 (outsL n) [] 144 (by omega) (by omega) (fun j x h1 h2 => ?_) ?_
  · simp only [efrz, DV.frz];rw [if_neg (by omega)];rfl
  · rw [List.nil_append, ilRows];(repeat' first|refine stW [0,1,2,3,4,5,7,8,18,19,20,21] ?_|refine fctI fun hf=>?_|refine twI (fun hc=>?_) fun hc=>?_)
    · omega
    first | ((refine DVQ ?_); all_goals rfl) | exact DVR
theorem rwithin_f (n k : Int) (m : Nat) : Pu 105 [li n, li k] m (lb (btwB n 0 k)) := by
  refine pcN 12 [.tmp 4] [4] Tryz.func105 rfl [] ?_;(repeat' first|refine stW [0,1,4] ?_|refine fctI fun hf=>?_|refine twI (fun hc=>?_) fun hc=>?_);exact DVR
theorem any_rang (l : List Int) (k : Int) : (l.any fun n => !btwB n 0 k) = !rangB l k := by
  unfold rangB;rw [Bool.eq_iff_iff];simp only [List.any_eq_true, Bool.not_eq_true', List.all_eq_false, List.mem_range, Bool.not_eq_true];constructor
  · rintro ⟨x, hx, hb⟩;obtain ⟨i, hi, rfl⟩ := List.mem_iff_getElem.1 hx;exact ⟨i, hi, by rw [List.getD_eq_getElem?_getD, List.getElem?_eq_getElem hi]; exact hb⟩
  · rintro ⟨i, hi, hb⟩;exact ⟨_, getD_mem hi, hb⟩
theorem idx_c0 (a : List PV) (l : List (List PV)) : idx (a :: l) 0 = a := rfl
theorem idx_c1 (a b : List PV) (l : List (List PV)) : idx (a :: b :: l) 1 = b := rfl
theorem idx_c2 (a b c : List PV) (l : List (List PV)) : idx (a :: b :: c :: l) 2 = c := rfl
attribute [push_cast] idx_c0 idx_c1 idx_c2 List.map_cons List.map_nil List.length_cons List.length_nil decide_true decide_false
section
open Go.Eng
def idD : DV -> Bool
  | .gl _ => true
  | .p (.lit _) => true
  | _ => false
def idR : DV -> Bool
  | .tup l => l.all idD
  | d => idD d
theorem idD_rel {ρ : Nat -> Hd} {S S' : Nat -> Prop} {w : World} {d : DV} {v : Value} (h : idD d = true) (hr : Rel ρ S w d v) : Rel ρ S' w d v := by
  unfold idD at h;split at h
  · exact hr
  · exact litD_rel rfl hr
  · cases h
theorem idL_rel {ρ : Nat -> Hd} {S S' : Nat -> Prop} {w : World} : ∀ {l : List DV} {vs : List Value}, l.all idD = true -> RelL ρ S w l vs -> RelL ρ S' w l vs
  | [], [], _, _ => trivial
  | d :: l, v :: vs, h, hr => by
    simp only [List.all_cons, Bool.and_eq_true] at h;exact ⟨idD_rel h.1 hr.1, idL_rel h.2 hr.2⟩
  | [], _ :: _, _, h => h.elim
  | _ :: _, [], _, h => h.elim
theorem idR_rel {ρ : Nat -> Hd} {S S' : Nat -> Prop} {w : World} {d : DV} {v : Value} (h : idR d = true) (hr : Rel ρ S w d v) : Rel ρ S' w d v := by
  unfold idR at h;split at h
  · next l =>
    simp only [Rel] at hr ⊢;obtain ⟨vs, rfl, hr⟩ := hr;exact ⟨vs, rfl, idL_rel h hr⟩
  · exact idD_rel h hr
def litH : HV -> Bool
  | .lst _ _ l => l.flatten.all litD
  | _ => false
theorem litH_rel {ρ : Nat -> Hd} {S S' : Nat -> Prop} {w : World} {i : Nat} {v : HV} (h : litH v = true) (hr : HRel ρ S w i v) : HRel ρ S' w i v := by
  cases v with
  | lst t n l =>
    simp only [HRel] at hr ⊢;obtain ⟨h1, h2, h3, h4, h5⟩ := hr;refine ⟨h1, h2, h3, h4, ?_⟩;rcases h5 with h5 | ⟨b, vs, sp, fz, k1, k2, k3, k4, k5⟩
    · exact .inl h5
    · exact .inr ⟨b, vs, sp, fz, k1, k2, litL_rel h k3, k4, k5⟩
  | _ => cases h
def litHs : LH -> Bool
  | [] => true
  | (_, v) :: H => litH v && litHs H
theorem litHs_get : ∀ {H : LH}, litHs H = true -> ∀ i v, hget H i = some v -> litH v = true
  | [], _, _, _, h => by cases h
  | (j, u) :: H, k, i, v, h => by
    simp only [litHs, Bool.and_eq_true] at k;simp only [hget] at h;split at h
    · cases h; exact k.1
    · exact litHs_get k.2 i v h
theorem lit_frz {o : Nat} {x : FV} {d : DV} (h : litD d = true) : d.frz o x = d := by
  unfold litD at h;split at h
  · rfl
  · cases h
theorem frzL_id {o : Nat} {x : FV} : ∀ {l : List DV}, (∀ d, d ∈ l -> d.frz o x = d) -> DV.frzL o x l = id l
  | [], _ => rfl
  | d :: l, h => by
    have e1 := h d (by simp);have e2 := frzL_id (l := l) fun a ha => h a (by simp [ha])
    show DV.frz o x d :: DV.frzL o x l = d :: l;rw [e1, e2]; rfl
theorem hfrz_lit {o : Nat} {x : FV} : ∀ {H : LH}, litHs H = true -> hget H o = none -> hfrzL o x H = H
  | [], _, _ => rfl
  | (j, u) :: H, k, h => by
    simp only [litHs, Bool.and_eq_true] at k;simp only [hget] at h;split at h
    · cases h
    · next e =>
      simp only [hfrzL];rw [if_neg (fun q => e q.symm), hfrz_lit k.2 h];congr 2
      cases u with
      | lst t n l =>
        simp only [HV.frz];congr 1
        have k1 := k.1;simp only [litH, List.all_eq_true] at k1;refine (List.map_congr_left fun r hr => ?_).trans (List.map_id l);exact frzL_id fun d hd => lit_frz (k1 d (List.mem_flatten.2 ⟨r, hr, hd⟩))
      | _ => exact absurd k.1 (by simp [litH])
theorem DCallsG.lendLit {P : Program} {g : FuncId} {args : List DV} {d : DV} {m o : Nat} {hv : HV} {x : FV} {h0 h2 : LH} (hx : hv.fv = some x) (hl0 : litHs h0 = true) (hl2 : litHs h2 = true) (ho0 : hget h0 o = none) (ho2 : hget h2 o = none) (hd : idR d = true)
    (hc : DCallsG P g [] (DV.frzL o x args) (hget h0) m d (hget h2)) : DCallsG P g [] args (hget ((o, hv) :: h0)) m d (hget ((o, hv) :: h2)) := by
  unfold DCallsG at hc ⊢;refine ⟨hc.1, fun U ρ S w vs H0 hmU hr huU => ?_⟩;have ho : hget ((o, hv) :: h0) o = some hv := by simp [hget]
  have hO := H0.heap o hv ho;have hOu := H0.heapU o hv ho;have hr1 := RelL.frz hx hO args vs hr;have hz := HSat.frz (HSat0.to (C := fun _ => True) (U0 := fun _ => False) H0 (fun _ _ _ => .inl trivial)) ho hx (fun k => k);rw [<- hget_frz, show hfrzL o x ((o, hv) :: h0) = h0 by simp only [hfrzL, if_true]; exact hfrz_lit hl0 ho0] at hz;have hz0 := hz.to0;have hS1 : ∀ b, hblk (ρ o) hv = some b -> Sfrz S (hblk (ρ o) hv) b := fun b e => .inr e
  refine (hc.2 U ρ _ w vs hz0 hmU hr1 (usesL_frz args huU)).mono ?_;rintro e w' ⟨v, ρ', S', rfl, HS, hr', hu'⟩;have up : ∀ i v, hget h0 i = some v -> i ≠ o /\ hget ((o, hv) :: h0) i = some v := fun i v hi => by
    have e : i ≠ o := fun e => by subst e; rw [ho0] at hi; cases hi
    exact ⟨e, by simp only [hget, if_neg e]; exact hi⟩
  have keepS : ∀ b, Sfrz S (hblk (ρ o) hv) b -> w'.heap[b]? = w.heap[b]? := fun b hb =>
    HS.keep b (hz0.sIn b hb) (fun i ⟨_, _, v, k1, k2⟩ => hz0.sep i v b k1 k2 hb) (fun ⟨i, v, k, _⟩ => by cases k)
  have hoo : HRel ρ' S w' o hv := HRel.mono (U := U) (fun i hi => HS.pin i hi) (fun _ k => k) (fun b hb => keepS b (.inl hb)) hOu.1 hOu.2 (fun b hb => keepS b (hS1 b hb)) hO;have get2 : ∀ i v, hget ((o, hv) :: h2) i = some v -> (i = o /\ v = hv) ∨ (i ≠ o /\ hget h2 i = some v) := fun i v hi => by
    simp only [hget] at hi;split at hi
    · next e => exact .inl ⟨e, (Option.some.inj hi).symm⟩
    · next e => exact .inr ⟨e, hi⟩
  have own : ∀ i b, (Base.of (fun i => i ∈ ([] : List Nat)) U ρ (Sfrz S (hblk (ρ o) hv)) w (hget h0)).own0 i b -> (Base.of (fun i => i ∈ ([] : List Nat)) U ρ S w (hget ((o, hv) :: h0))).own0 i b := fun i b ⟨k1, k2, u, k3, k4⟩ =>
    ⟨k1, k2, u, (up i u k3).2, k4⟩
  have fre : ∀ b, (Base.of (fun i => i ∈ ([] : List Nat)) U ρ (Sfrz S (hblk (ρ o) hv)) w (hget h0)).fresh b -> (Base.of (fun i => i ∈ ([] : List Nat)) U ρ S w (hget ((o, hv) :: h0))).fresh b := fun b hb => by
    rcases hb with ⟨i, v, k, _⟩ | k
    · cases k
    · exact .inr k
  have hρo : ρ' o = ρ o := HS.pin o hOu.1;refine ⟨v, ρ', S, rfl, ?_, idR_rel hd hr', hu'⟩;exact {
    heap := fun i v k => by
      rcases get2 i v k with ⟨rfl, rfl⟩ | ⟨_, k⟩
      · exact hoo
      · exact litH_rel (litHs_get hl2 i v k) (HS.heap i v k)
    heapU := fun i v k => by
      rcases get2 i v k with ⟨rfl, rfl⟩ | ⟨_, k⟩
      · exact ⟨.inl hOu.1, HV.uses_mono (fun i k => .inl k) _ hOu.2⟩
      · exact HS.heapU i v k
    disj := fun i j v u b hi hj hbi hbj => by
      rcases get2 i v hi with ⟨rfl, rfl⟩ | ⟨ni, hi2⟩ <;> rcases get2 j u hj with ⟨rfl, rfl⟩ | ⟨nj, hj2⟩
      · rfl
      · rw [hρo] at hbi;exact absurd (HS.sOld b (hS1 b hbi)) (HS.sep j u b hj2 hbj)
      · rw [hρo] at hbj;exact absurd (HS.sOld b (hS1 b hbj)) (HS.sep i v b hi2 hbi)
      · exact HS.disj i j v u b hi2 hj2 hbi hbj
    sep := fun i v b hi hb => by
      rcases get2 i v hi with ⟨rfl, rfl⟩ | ⟨_, hi⟩
      · rw [hρo] at hb;exact H0.sep i _ b ho hb
      · exact fun k => HS.sep i v b hi hb (HS.sOld b (.inl k))
    prov := fun i v b hi hb => by
      rcases get2 i v hi with ⟨rfl, rfl⟩ | ⟨_, hi⟩
      · rw [hρo] at hb;exact .inl ⟨by simp, hOu.1, _, ho, hb⟩
      · rcases HS.prov i v b hi hb with k | k
        · exact .inl (own i b k)
        · exact .inr (fre b k)
    sIn := fun b hb => Nat.lt_of_lt_of_le (H0.sIn b hb) HS.size
    sProv := fun b hb => .inl hb
    sOld := fun b hb => hb
    pin := HS.pin
    ownU := fun i b hb => hb.2.1
    os := HS.os
    tape := HS.tape
    output := HS.output
    size := HS.size
    keep := fun b hb k1 k2 => HS.keep b hb (fun i k => k1 i (own i b k)) (fun ⟨i, v, k, _⟩ => by cases k) }
end
theorem part_hi {t a b p : Nat} (ht : t < 9223372036854775808) (hab : a <= b) (hb : 0 < b) (hp : t * a = p) : p / 18446744073709551616 < b /\ p / b <= t := by
  subst hp;have h1 : t * a <= t * b := Nat.mul_le_mul_left t hab;constructor
  · have h2 : t * b <= 9223372036854775808 * b := Nat.mul_le_mul_right b (by omega);have h3 : t * a / 18446744073709551616 <= 9223372036854775808 * b / 18446744073709551616 := Nat.div_le_div_right (by omega);generalize t * a / 18446744073709551616 = q at *
    omega
  · have h2 : t * a / b <= t * b / b := Nat.div_le_div_right h1;rw [Nat.mul_div_cancel t hb] at h2;exact h2
theorem partG_f (t a b : Nat) (m : Nat) (ht : t < 9223372036854775808) (hab : a <= b) (hb : 0 < b /\ b < 9223372036854775808) :
    Pu 152 [li t, li a, li b] m (li ((t * a / b : Nat) : Int)) := by
  have w1 : IntKind.u64.wrap (t : Int) = (t : Int) := by rw [u64w]; omega
  have w2 : IntKind.u64.wrap (a : Int) = (a : Int) := by rw [u64w]; omega
  have w3 : IntKind.u64.wrap (b : Int) = (b : Int) := by rw [u64w]; omega
  have cM := fun m => mul64_f t a m (by omega) (by omega)
  obtain ⟨p, hp⟩ : ∃ p, t * a = p := ⟨_, rfl⟩;obtain ⟨h1, h2⟩ := part_hi ht hab hb.1 hp;rw [hp] at cM ⊢;have hdm : p / 18446744073709551616 * 18446744073709551616 + p % 18446744073709551616 = p := by rw [Nat.mul_comm]; exact Nat.div_add_mod p _
  have hlt : p % 18446744073709551616 < 18446744073709551616 := Nat.mod_lt _ (by decide);have cD := fun m => div64g_f (p / 18446744073709551616) (p % 18446744073709551616) b m h1 (by omega) hlt
  rw [hdm] at cD;clear hdm hp;generalize p / 18446744073709551616 = hi at *
  generalize p % 18446744073709551616 = lo at *
  generalize p % b = r at *
  generalize p / b = q at *
  have hq : q < 9223372036854775808 := by omega
  refine pcN 29 [.tmp 6] [3] Tryz.func152 rfl [] ?_;(repeat' first|refine stW [0,1,2,6,7,8,9] ?_|refine fctI fun hf=>?_|refine twI (fun hc=>?_) fun hc=>?_);rw [w1, w2];(repeat' first|refine stW [0,1,2,6,7,8,9] ?_|(show CallQ ..;first|refine cQ (fun hcc=>(cM _)) ?_|(refine lP ?_;refine lQ (fun hcc m=>(cM _)) ?_))|refine fctI fun hf=>?_|refine twI (fun hc=>?_) fun hc=>?_);rw [w3];(repeat' first|refine stW [0,1,2,6,7,8,9] ?_|(show CallQ ..;first|refine cQ (fun hcc=>(cD _)) ?_|(refine lP ?_;refine lQ (fun hcc m=>(cD _)) ?_))|refine fctI fun hf=>?_|refine twI (fun hc=>?_) fun hc=>?_);exact DVR
theorem partI_f (h a b : Int) (m : Nat) (hh : 0 <= h /\ h < 9223372036854775808) (ha : 0 <= a /\ a <= b) (hb : 0 < b /\ b < 9223372036854775808) : Pu 152 [li h, li a, li b] m (li (h * a / b)) := by
  obtain ⟨x, rfl⟩ : ∃ x : Nat, h = x := ⟨h.toNat, by omega⟩;obtain ⟨y, rfl⟩ : ∃ y : Nat, a = y := ⟨a.toNat, by omega⟩;obtain ⟨z, rfl⟩ : ∃ z : Nat, b = z := ⟨b.toNat, by omega⟩;have := partG_f x y z m (by omega) (by omega) (by omega);rw [show ((x * y / z : Nat) : Int) = (x : Int) * (y : Int) / (z : Int) by push_cast; rfl] at this;exact this
class GetAt (l : List Int) (j : Nat) (v : outParam Int) : Prop where
  out : l.getD j default = v
theorem get_at {l : List Int} {j : Nat} {v : Int} [h : GetAt l j v] : l.getD j default = v := h.out
attribute [push_cast] get_at
def shareI (P : Nat -> Bool) (h : Int) (w : List Int) (L k : Nat) : Int :=
  if selI P w L <= h then w.getD k default else h * selI P w (k + 1) / selI P w L - h * selI P w k / selI P w L
theorem selI_nn {P : Nat -> Bool} {w : List Int} : ∀ n, (∀ i, i < n -> 0 <= w.getD i default) -> 0 <= selI P w n
  | 0, _ => by simp [selI]
  | n + 1, h => by
    have h1 := selI_nn (P := P) n fun i hi => h i (by omega)
    have h2 := h n (by omega);unfold selI; split <;> omega
theorem selI_mono {P : Nat -> Bool} {w : List Int} {a : Nat} : ∀ n, a <= n -> (∀ i, i < n -> 0 <= w.getD i default) -> selI P w a <= selI P w n
  | 0, h, _ => by rw [Nat.le_zero.1 h]; exact Int.le_refl _
  | n + 1, h, hw => by
    by_cases e : a = n + 1
    · rw [e]; exact Int.le_refl _
    · have h1 := selI_mono (P := P) (a := a) n (by omega) fun i hi => hw i (by omega)
      have h2 := hw n (by omega);rw [show selI P w (n + 1) = if P n then selI P w n + w.getD n default else selI P w n from rfl];split <;> omega
theorem selI_hit {P : Nat -> Bool} {w : List Int} {k : Nat} (h : P k = true) : selI P w (k + 1) = selI P w k + w.getD k default := by
  rw [show selI P w (k + 1) = if P k then selI P w k + w.getD k default else selI P w k from rfl, if_pos h]
theorem selI_miss {P : Nat -> Bool} {w : List Int} {k : Nat} (h : P k = false) : selI P w (k + 1) = selI P w k := by
  rw [show selI P w (k + 1) = if P k then selI P w k + w.getD k default else selI P w k from rfl, if_neg (by rw [h]; decide)]
theorem selI_skip {P : Nat -> Bool} {w : List Int} {a : Nat} : ∀ n, a <= n -> (∀ i, a <= i -> i < n -> P i = false) -> selI P w n = selI P w a
  | 0, h, _ => by rw [Nat.le_zero.1 h]
  | n + 1, h, hP => by
    by_cases e : a = n + 1
    · rw [e]
    · rw [selI_miss (hP n (by omega) (by omega)), selI_skip (a := a) n (by omega) fun i h1 h2 => hP i h1 (by omega)]
section
variable {P : Nat -> Bool} {h : Int} {w : List Int} {L : Nat}
theorem share_in (hw : ∀ i, i < L -> 0 <= w.getD i default) (h0 : 0 <= h) {k : Nat} (hk : k < L) (hp : P k = true) : 0 <= shareI P h w L k /\ shareI P h w L k <= w.getD k default := by
  have hwk := hw k hk;unfold shareI;split
  · exact ⟨hwk, Int.le_refl _⟩
  next hS =>
  have e := selI_hit (w := w) hp;have m1 := selI_mono (P := P) L (a := k + 1) (by omega) hw;have m0 := selI_nn (P := P) (w := w) k fun i hi => hw i (by omega)
  generalize selI P w L = S at *
  generalize selI P w (k + 1) = B at *
  generalize selI P w k = A at *
  generalize w.getD k default = x at *
  have hS0 : 0 < S := by omega
  subst e;rw [Int.mul_add];have hx : 0 <= h * x := Int.mul_nonneg h0 hwk;constructor
  · have := Int.ediv_le_ediv (c := S) hS0 (show h * A <= h * A + h * x by omega);omega
  · have h1 : h * x <= S * x := Int.mul_le_mul_of_nonneg_right (by omega) hwk;have h2 := Int.ediv_le_ediv (c := S) hS0 (show h * A + h * x <= h * A + S * x by omega);rw [Int.add_mul_ediv_left _ _ (by omega)] at h2;omega
theorem share_sum {X : List Int} (hX : ∀ k, k < L -> P k = true -> X.getD k default = shareI P h w L k) : ∀ i, i <= L -> selI P X i = if selI P w L <= h then selI P w i else h * selI P w i / selI P w L
  | 0, _ => by
    show (0 : Int) = if _ then 0 else h * 0 / _
    rw [Int.mul_zero, Int.zero_ediv, ite_self]
  | i + 1, hi => by
    have ih := share_sum hX i (by omega);cases hp : P i
    · rw [selI_miss hp, selI_miss hp, ih]
    · rw [selI_hit hp, ih, hX i (by omega) hp];unfold shareI;split
      · rw [selI_hit hp]
      · omega
theorem share_all {X : List Int} (hX : ∀ k, k < L -> P k = true -> X.getD k default = shareI P h w L k) (hw : ∀ i, i < L -> 0 <= w.getD i default) (h0 : 0 <= h) : selI P X L <= h := by
  rw [share_sum hX L (Nat.le_refl _)];split
  · assumption
  next hS =>
  have hS0 : 0 < selI P w L := by
    have := selI_nn (P := P) (w := w) L hw;omega
  rw [Int.mul_ediv_cancel _ (by omega)];exact Int.le_refl _
end
end Go.Proofs.YtgpllheklfbfhaaGreat
