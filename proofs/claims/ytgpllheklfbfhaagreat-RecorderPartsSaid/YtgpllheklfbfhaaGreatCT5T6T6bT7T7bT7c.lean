/-
  Contracts of functions of the program, over the engine.
  No condition.
-/
import Derived.Test.YtgpllheklfbfhaaGreatCN0N1NBNmT1T2T2eT3
import Derived.Test.YtgpllheklfbfhaaGreatCT3nT4T4bT4cT4eT4fT4gT4d
namespace Go.Proofs.YtgpllheklfbfhaaGreat
open Go.Eng
set_option linter.all false
attribute [local irreducible] DCallsG SWp Fct CallQ XCallQ LCallQ XLCallQ drun xrun
set_option maxHeartbeats 64000000

def nodeIx (l : List Node) (s : ByteArray) : Int := idxI (fun x => decide (x.name = s)) l
def linkIx (l : List Link) (s : ByteArray) : Int := idxI (fun x => decide (x.name = s)) l
theorem idxI_lt {α : Type} (p : α -> Bool) (l : List α) : -1 <= idxI p l /\ idxI p l < l.length := by
  unfold idxI;cases h : l.findIdx? p with
  | none => simp; omega
  | some i =>
    rw [List.findIdx?_eq_some_iff_getElem] at h;obtain ⟨hi, _⟩ := h;simp; omega
theorem node1_f (x : Node) (s : ByteArray) (m : Nat) : DCalls Tryz.prog 134 [nodeD x, .ptr 0 0] (hget [(0, .blk 9 [.p (.lit (.string s))])]) m (lb (decide (x.name = s))) (hget [(0, .blk 9 [.p (.lit (.string s))])]) := by
  refine contract (n := 8) (rs := [.tmp 3]) (ts := [4]) Tryz.func134 rfl (by decide) 1 1 [] [] [] (lb (decide (x.name = s))) [(0, .blk 9 [.p (.lit (.string s))])] (by (exact SD)) (by (exact SD)) ?_;(repeat' first|refine stW [0,1,2,3] ?_|refine fctI fun hf=>?_|refine twI (fun hc=>?_) fun hc=>?_);exact DVR
theorem link1_f (x : Link) (s : ByteArray) (m : Nat) : DCalls Tryz.prog 140 [linkD x, .ptr 0 0] (hget [(0, .blk 9 [.p (.lit (.string s))])]) m (lb (decide (x.name = s))) (hget [(0, .blk 9 [.p (.lit (.string s))])]) := by
  refine contract (n := 8) (rs := [.tmp 3]) (ts := [4]) Tryz.func140 rfl (by decide) 1 1 [] [] [] (lb (decide (x.name = s))) [(0, .blk 9 [.p (.lit (.string s))])] (by (exact SD)) (by (exact SD)) ?_;(repeat' first|refine stW [0,1,2,3] ?_|refine fctI fun hf=>?_|refine twI (fun hc=>?_) fun hc=>?_);exact DVR
theorem node_f (n : Net) (s : ByteArray) (m : Nat) (hl : n.nodes.length <= 281474976710656) : Pu 87 [netD n, ls s] m (li (nodeIx n.nodes s)) := by
  refine pcN 9 [.tmp 4] [3] Tryz.func87 rfl [] ?_;(repeat' first|refine stW [0,1,2,3,4] ?_|refine fctI fun hf=>?_|refine twI (fun hc=>?_) fun hc=>?_);(refine cQT [8] (fun hcc => (idxNodeC_f 134 9 [.lit (.string s)] (fun x => decide (x.name = s)) n.nodes hl (fun x _ m => node1_f x s m))) ?_);(repeat' first|refine stW [0,1,2,3,4] ?_|refine fctI fun hf=>?_|refine twI (fun hc=>?_) fun hc=>?_);exact DVR
theorem link_f (n : Net) (s : ByteArray) (m : Nat) (hl : n.links.length <= 281474976710656) : Pu 89 [netD n, ls s] m (li (linkIx n.links s)) := by
  refine pcN 9 [.tmp 4] [3] Tryz.func89 rfl [] ?_;(repeat' first|refine stW [0,1,2,3,4] ?_|refine fctI fun hf=>?_|refine twI (fun hc=>?_) fun hc=>?_);(refine cQT [8] (fun hcc => (idxLinkC_f 140 9 [.lit (.string s)] (fun x => decide (x.name = s)) n.links hl (fun x _ m => link1_f x s m))) ?_);(repeat' first|refine stW [0,1,2,3,4] ?_|refine fctI fun hf=>?_|refine twI (fun hc=>?_) fun hc=>?_);exact DVR
theorem rFindNode_f (n : Net) (s : ByteArray) (m : Nat) (hl : n.nodes.length <= 281474976710656) : Pu 71 [netD n, ls s] m (li (nodeIx n.nodes s)) := by
  refine pcN 22 [.tmp 4] [3] Tryz.func71 rfl [] ?_;(repeat' first|refine stW [0,1,2,4,5,10,20] ?_|refine fctI fun hf=>?_|refine twI (fun hc=>?_) fun hc=>?_);refine loop_swp [1, 2, 5] [0] 1 (fun q A H => ∃ i : Nat, i <= n.nodes.length /\ q = n.nodes.length - i /\ (n.nodes.take i).any (fun x => decide (x.name = s)) = false /\ A = [(1, ls s), (2, .ptr 0 0), (5, li i)] /\ H = [(0, .blk 25 (netC n))]) (by omega) ?_ ?_ ?_
  · rintro q A H ⟨i, h1, h2, h3, rfl, rfl⟩;exact SDD
  · refine ⟨_, 0, by omega, rfl, by simp, ?_, ?_⟩
    · exact DVR
    · exact DVR
  · rintro q A H ⟨i, h1, h2, h3, rfl, rfl⟩;(repeat' first|refine stW [0,1,2,4,5,10,20] ?_|refine fctI fun hf=>?_|refine twI (fun hc=>?_) fun hc=>?_)
    · (refine DVQ ?_);unfold nodeIx;rw [idxI_hit h3 (by omega) (by simpa using hc)]
    · (refine lN [0] ?_);exact ⟨_, by omega, i + 1, by omega, rfl, any_step h3 (by omega) (by simpa using hc), rfl, rfl⟩
    · (refine DVQ ?_);rw [List.take_of_length_le (by omega)] at h3;unfold nodeIx;rw [idxI_none h3]
theorem rFindLink_f (n : Net) (s : ByteArray) (m : Nat) (hl : n.links.length <= 281474976710656) : Pu 73 [netD n, ls s] m (li (linkIx n.links s)) := by
  refine pcN 22 [.tmp 4] [3] Tryz.func73 rfl [] ?_;(repeat' first|refine stW [0,1,2,4,5,10,20] ?_|refine fctI fun hf=>?_|refine twI (fun hc=>?_) fun hc=>?_);refine loop_swp [1, 2, 5] [0] 1 (fun q A H => ∃ i : Nat, i <= n.links.length /\ q = n.links.length - i /\ (n.links.take i).any (fun x => decide (x.name = s)) = false /\ A = [(1, ls s), (2, .ptr 0 0), (5, li i)] /\ H = [(0, .blk 25 (netC n))]) (by omega) ?_ ?_ ?_
  · rintro q A H ⟨i, h1, h2, h3, rfl, rfl⟩;exact SDD
  · refine ⟨_, 0, by omega, rfl, by simp, ?_, ?_⟩
    · exact DVR
    · exact DVR
  · rintro q A H ⟨i, h1, h2, h3, rfl, rfl⟩;(repeat' first|refine stW [0,1,2,4,5,10,20] ?_|refine fctI fun hf=>?_|refine twI (fun hc=>?_) fun hc=>?_)
    · (refine DVQ ?_);unfold linkIx;rw [idxI_hit h3 (by omega) (by simpa using hc)]
    · (refine lN [0] ?_);exact ⟨_, by omega, i + 1, by omega, rfl, any_step h3 (by omega) (by simpa using hc), rfl, rfl⟩
    · (refine DVQ ?_);rw [List.take_of_length_le (by omega)] at h3;unfold linkIx;rw [idxI_none h3]
def okN (n : Net) (i : Nat) : Bool := nodeR (n.nodes.getD i default) && decide (nodeIx n.nodes (n.nodes.getD i default).name = i)
def okL (n : Net) (i : Nat) : Bool := linkR (n.links.getD i default) && decide (linkIx n.links (n.links.getD i default).name = i) && decide (0 <= nodeIx n.nodes (n.links.getD i default).fro) && decide (0 <= nodeIx n.nodes (n.links.getD i default).til) && !decide ((n.nodes.getD (nodeIx n.nodes (n.links.getD i default).fro).toNat default).kind = 3)
def netB (n : Net) : Bool := decide (n.nodes.length <= 300) && decide (n.links.length <= 400) && (List.range n.nodes.length).all (okN n) && (List.range n.links.length).all (okL n)
theorem netB_no1 {n : Net} {i : Nat} (hi : i < n.nodes.length) (h : okN n i = false) : netB n = false := by
  unfold netB; rw [rall_false hi h]; simp
theorem netB_no2 {n : Net} {i : Nat} (hi : i < n.links.length) (h : okL n i = false) : netB n = false := by
  unfold netB; rw [rall_false hi h]; simp
theorem netB_yes {n : Net} (h1 : n.nodes.length <= 300) (h2 : n.links.length <= 400) (h3 : ∀ i, i < n.nodes.length -> okN n i = true) (h4 : ∀ i, i < n.links.length -> okL n i = true) : netB n = true := by
  unfold netB; rw [rall_true h3, rall_true h4, decide_eq_true h1, decide_eq_true h2]; rfl
theorem all_next {f : Nat -> Bool} {i : Nat} (h : ∀ j, j < i -> f j = true) (hi : f i = true) : ∀ j, j < i + 1 -> f j = true := fun j hj => by
  by_cases e : j = i
  · subst e; exact hi
  · exact h j (by omega)
set_option maxRecDepth 20000 in
theorem netValid_f (n : Net) (m : Nat) (hn : netOk n) : Pu 46 [netD n] m (lb (netB n)) := by
  obtain ⟨⟨a1, a2⟩, b1, b2⟩ := hn;refine pcN 80 [.tmp 2] [4] Tryz.func46 rfl [] ?_;(repeat' first|refine stW [0,1,2,3,4,5,6,7,17,19,20,21,22,36,39,40,41,42,56,78] ?_|refine fctI fun hf=>?_|refine twI (fun hc=>?_) fun hc=>?_)
  · (refine DVQ ?_);refine lbC ?_;unfold netB;rcases hc with h | h
    · rw [decide_eq_false (p := n.nodes.length <= 300) (by omega)]; rfl
    · rw [decide_eq_false (p := n.links.length <= 400) (by omega)]; simp
  refine loop_swp [1, 19, 20, 21] [0] 1 (fun q A H => ∃ i : Nat, i <= n.nodes.length /\ q = n.nodes.length - i /\ (∀ j, j < i -> okN n j = true) /\ A = [(1, .ptr 0 0), (19, nodeL n.nodes), (20, li n.nodes.length), (21, li i)] /\ H = [(0, .blk 25 (netC n))]) (by omega) ?_ ?_ ?_
  · rintro q A H ⟨i, h1, h2, h3, rfl, rfl⟩;exact SDD
  · refine ⟨_, 0, by omega, rfl, by omega, ?_, ?_⟩
    · exact DVR
    · exact DVR
  rintro q A H ⟨i, h1, h2, h3, rfl, rfl⟩;by_cases hi : i < n.nodes.length
  · have cr := fun m => rightNode_f (n.nodes.getD i default) m (a2 _ (getD_mem hi))
    have cn := fun m => node_f n (n.nodes.getD i default).name m a1
    (repeat' first|refine stW [0,1,2,3,4,5,6,7,17,19,20,21,22,36,39,40,41,42,56,78] ?_|refine fctI fun hf=>?_|refine twI (fun hc=>?_) fun hc=>?_)
    · (refine DVQ ?_);refine lbC ?_;rw [netB_no1 hi (by unfold okN; clear cr cn h3; grind)]
    · (refine lN [0] ?_);exact ⟨_, by omega, i + 1, by omega, rfl, all_next h3 (by unfold okN; clear cr cn h3; grind), rfl, rfl⟩
    · omega
  have hi2 : i = n.nodes.length := by omega
  subst hi2;(repeat' first|refine stW [0,1,2,3,4,5,6,7,17,19,20,21,22,36,39,40,41,42,56,78] ?_|refine fctI fun hf=>?_|refine twI (fun hc=>?_) fun hc=>?_)
  · omega
  clear h1 h2 hi hc;refine loop_swp [1, 39, 40, 41] [0] 1 (fun q A H => ∃ i : Nat, i <= n.links.length /\ q = n.links.length - i /\ (∀ j, j < i -> okL n j = true) /\ A = [(1, .ptr 0 0), (39, linkL n.links), (40, li n.links.length), (41, li i)] /\ H = [(0, .blk 25 (netC n))]) (by omega) ?_ ?_ ?_
  · rintro q A H ⟨i, h1, h2, h3, rfl, rfl⟩;exact SDD
  · refine ⟨_, 0, by omega, rfl, by omega, ?_, ?_⟩
    · exact DVR
    · exact DVR
  rintro q A H ⟨i, h1, h2, h4, rfl, rfl⟩;by_cases hi : i < n.links.length
  · have cr := fun m => rightLink_f (n.links.getD i default) m (b2 _ (getD_mem hi))
    have cl := fun m => link_f n (n.links.getD i default).name m b1
    have cf := fun m => node_f n (n.links.getD i default).fro m a1
    have ct := fun m => node_f n (n.links.getD i default).til m a1
    have hlt := idxI_lt (fun x => decide (x.name = (n.links.getD i default).fro)) n.nodes;change -1 <= nodeIx n.nodes (n.links.getD i default).fro /\ nodeIx n.nodes (n.links.getD i default).fro < n.nodes.length at hlt;by_cases hf : nodeIx n.nodes (n.links.getD i default).fro < 0
    · (have:=NeI hf);(repeat' first|refine stW [0,1,2,3,4,5,6,7,17,19,20,21,22,36,39,40,41,42,56,78] ?_|(show CallQ ..;first|refine cQ (fun hcc=>(by first | exact cl _ | exact cf _)) ?_|(refine lP ?_;refine lQ (fun hcc m=>(by first | exact cl _ | exact cf _)) ?_))|refine fctI fun hf=>?_|refine twI (fun hc=>?_) fun hc=>?_)
      · (refine DVQ ?_);refine lbC ?_;rw [netB_no2 hi (by unfold okL; clear cr cl cf ct h3 h4; grind)]
      · (refine DVQ ?_);refine lbC ?_;rw [netB_no2 hi (by unfold okL; clear cr cl cf ct h3 h4; grind)]
      · omega
    · (have:=NeI hf);(repeat' first|refine stW [0,1,2,3,4,5,6,7,17,19,20,21,22,36,39,40,41,42,56,78] ?_|(show CallQ ..;first|refine cQ (fun hcc=>(by first | exact cl _ | exact cf _)) ?_|(refine lP ?_;refine lQ (fun hcc m=>(by first | exact cl _ | exact cf _)) ?_))|refine fctI fun hf=>?_|refine twI (fun hc=>?_) fun hc=>?_)
      · (refine DVQ ?_);refine lbC ?_;rw [netB_no2 hi (by unfold okL; clear cr cl cf ct h3 h4; grind)]
      · (refine DVQ ?_);refine lbC ?_;rw [netB_no2 hi (by unfold okL; clear cr cl cf ct h3 h4; grind)]
      · (refine lN [0] ?_);exact ⟨_, by omega, i + 1, by omega, rfl, all_next h4 (by unfold okL; clear cr cl cf ct h3 h4; grind), rfl, rfl⟩
      · omega
  have hi2 : i = n.links.length := by omega
  subst hi2;(repeat' first|refine stW [0,1,2,3,4,5,6,7,17,19,20,21,22,36,39,40,41,42,56,78] ?_|refine fctI fun hf=>?_|refine twI (fun hc=>?_) fun hc=>?_)
  · omega
  (refine DVQ ?_);refine lbC ?_;rw [netB_yes (by omega) (by omega) h3 h4]
set_option maxRecDepth 20000 in
theorem rNetValid_f (n : Net) (m : Nat) (hn : netOk n) : Pu 40 [netD n] m (lb (netB n)) := by
  obtain ⟨⟨a1, a2⟩, b1, b2⟩ := hn;refine pcN 88 [.tmp 2] [4] Tryz.func40 rfl [] ?_;(repeat' first|refine stW [0,1,2,3,4,5,6,16,21,42,47,72,87] ?_|refine fctI fun hf=>?_|refine twI (fun hc=>?_) fun hc=>?_)
  · (refine DVQ ?_);refine lbC ?_;unfold netB;rcases hc with h | h
    · rw [decide_eq_false (p := n.nodes.length <= 300) (by omega)]; rfl
    · rw [decide_eq_false (p := n.links.length <= 400) (by omega)]; simp
  refine loop_swp [1, 3] [0] 1 (fun q A H => ∃ i : Nat, i <= n.nodes.length /\ q = n.nodes.length - i /\ (∀ j, j < i -> okN n j = true) /\ A = [(1, .ptr 0 0), (3, li i)] /\ H = [(0, .blk 25 (netC n))]) (by omega) ?_ ?_ ?_
  · rintro q A H ⟨i, h1, h2, h3, rfl, rfl⟩;exact SDD
  · refine ⟨_, 0, by omega, rfl, by omega, ?_, ?_⟩
    · exact DVR
    · exact DVR
  rintro q A H ⟨i, h1, h2, h3, rfl, rfl⟩;by_cases hi : i < n.nodes.length
  · have cr := fun m => rRightNode_f (n.nodes.getD i default) m (a2 _ (getD_mem hi))
    have cn := fun m => rFindNode_f n (n.nodes.getD i default).name m a1
    (repeat' first|refine stW [0,1,2,3,4,5,6,16,21,42,47,72,87] ?_|refine fctI fun hf=>?_|refine twI (fun hc=>?_) fun hc=>?_)
    · (refine DVQ ?_);refine lbC ?_;rw [netB_no1 hi (by unfold okN; clear cr cn h3; grind)]
    · (refine lN [0] ?_);exact ⟨_, by omega, i + 1, by omega, rfl, all_next h3 (by unfold okN; clear cr cn h3; grind), rfl, rfl⟩
    · omega
  have hi2 : i = n.nodes.length := by omega
  subst hi2;(repeat' first|refine stW [0,1,2,3,4,5,6,16,21,42,47,72,87] ?_|refine fctI fun hf=>?_|refine twI (fun hc=>?_) fun hc=>?_)
  · omega
  clear h1 h2 hi hc;refine loop_swp [1, 4] [0] 1 (fun q A H => ∃ i : Nat, i <= n.links.length /\ q = n.links.length - i /\ (∀ j, j < i -> okL n j = true) /\ A = [(1, .ptr 0 0), (4, li i)] /\ H = [(0, .blk 25 (netC n))]) (by omega) ?_ ?_ ?_
  · rintro q A H ⟨i, h1, h2, h3, rfl, rfl⟩;exact SDD
  · refine ⟨_, 0, by omega, rfl, by omega, ?_, ?_⟩
    · exact DVR
    · exact DVR
  rintro q A H ⟨i, h1, h2, h4, rfl, rfl⟩;by_cases hi : i < n.links.length
  · have cr := fun m => rRightLink_f (n.links.getD i default) m (b2 _ (getD_mem hi))
    have cl := fun m => rFindLink_f n (n.links.getD i default).name m b1
    have cf := fun m => rFindNode_f n (n.links.getD i default).fro m a1
    have ct := fun m => rFindNode_f n (n.links.getD i default).til m a1
    have hlt := idxI_lt (fun x => decide (x.name = (n.links.getD i default).fro)) n.nodes;change -1 <= nodeIx n.nodes (n.links.getD i default).fro /\ nodeIx n.nodes (n.links.getD i default).fro < n.nodes.length at hlt;by_cases hf : nodeIx n.nodes (n.links.getD i default).fro < 0
    · (have:=NeI hf);(repeat' first|refine stW [0,1,2,3,4,5,6,16,21,42,47,72,87] ?_|(show CallQ ..;first|refine cQ (fun hcc=>(by first | exact cl _ | exact cf _)) ?_|(refine lP ?_;refine lQ (fun hcc m=>(by first | exact cl _ | exact cf _)) ?_))|(show XCallQ ..;first|refine xQ (fun hcc=>(by first | exact cl _ | exact cf _)) ?_|(refine xlP ?_;refine xlQ (fun hcc m=>(by first | exact cl _ | exact cf _)) ?_))|refine fctI fun hf=>?_|refine twI (fun hc=>?_) fun hc=>?_)
      · (refine DVQ ?_);refine lbC ?_;rw [netB_no2 hi (by unfold okL; clear cr cl cf ct h3 h4; grind)]
      · (refine DVQ ?_);refine lbC ?_;rw [netB_no2 hi (by unfold okL; clear cr cl cf ct h3 h4; grind)]
      · omega
    · (have:=NeI hf);(repeat' first|refine stW [0,1,2,3,4,5,6,16,21,42,47,72,87] ?_|(show CallQ ..;first|refine cQ (fun hcc=>(by first | exact cl _ | exact cf _)) ?_|(refine lP ?_;refine lQ (fun hcc m=>(by first | exact cl _ | exact cf _)) ?_))|(show XCallQ ..;first|refine xQ (fun hcc=>(by first | exact cl _ | exact cf _)) ?_|(refine xlP ?_;refine xlQ (fun hcc m=>(by first | exact cl _ | exact cf _)) ?_))|refine fctI fun hf=>?_|refine twI (fun hc=>?_) fun hc=>?_)
      · (refine DVQ ?_);refine lbC ?_;rw [netB_no2 hi (by unfold okL; clear cr cl cf ct h3 h4; grind)]
      · (refine DVQ ?_);refine lbC ?_;rw [netB_no2 hi (by unfold okL; clear cr cl cf ct h3 h4; grind)]
      · (refine lN [0] ?_);exact ⟨_, by omega, i + 1, by omega, rfl, all_next h4 (by unfold okL; clear cr cl cf ct h3 h4; grind), rfl, rfl⟩
      · omega
  have hi2 : i = n.links.length := by omega
  subst hi2;(repeat' first|refine stW [0,1,2,3,4,5,6,16,21,42,47,72,87] ?_|refine fctI fun hf=>?_|refine twI (fun hc=>?_) fun hc=>?_)
  · omega
  (refine DVQ ?_);refine lbC ?_;rw [netB_yes (by omega) (by omega) h3 h4]
def capN (x : Node) : Int := if x.kind = 3 then 0 else (x.shape.getD (x.shape.length - 1) default).y
def hasShape (x : Node) : Prop := x.kind = 3 ∨ (1 <= x.shape.length /\ x.shape.length <= 100)
theorem nodeR_shape {x : Node} (h : nodeR x = true) : hasShape x := by
  unfold nodeR kindB at h;by_cases h3 : x.kind = 3
  · exact .inl h3
  · refine .inr (shapeB_len (d := x.gnd - x.inv) ?_);by_cases h1 : x.kind = 1 ∨ x.kind = 2
    · simp [h1] at h;exact h.2.1.1.2
    · simp [h1, h3] at h
theorem swithin_f (n lo hi : Int) (m : Nat) : Pu 92 [li n, li lo, li hi] m (lb (btwB n lo hi)) := by
  refine pcN 15 [.tmp 6] [4] Tryz.func92 rfl [] ?_;(repeat' first|refine stW [0,1,2,6] ?_|refine fctI fun hf=>?_|refine twI (fun hc=>?_) fun hc=>?_);exact DVR
theorem sholds_f (n : Int) (m : Nat) : Pu 94 [li n] m (lb (volB n)) := by
  refine pcN 5 [.tmp 2] [4] Tryz.func94 rfl [] ?_;(repeat' first|refine stW [0,2] ?_|(show CallQ ..;first|refine cQ (fun hcc=>(swithin_f _ _ _ _)) ?_|(refine lP ?_;refine lQ (fun hcc m=>(swithin_f _ _ _ _)) ?_))|refine fctI fun hf=>?_|refine twI (fun hc=>?_) fun hc=>?_);exact DVR
theorem last_f (t : List Knot) (m : Nat) (h : 1 <= t.length /\ t.length <= 100) : Pu 142 [knotL t] m (knotD (t.getD (t.length - 1) default)) := by
  refine pcN 9 [.cell 2 160] [160] Tryz.func142 rfl [] ?_;(repeat' first|refine stW [0,2] ?_|refine fctI fun hf=>?_|refine twI (fun hc=>?_) fun hc=>?_);(refine DVQ ?_);simp;rfl
theorem capacity_f (x : Node) (m : Nat) (h : hasShape x) : Pu 93 [nodeD x] m (li (capN x)) := by
  refine pcN 10 [.tmp 2] [3] Tryz.func93 rfl [] ?_;by_cases h3 : x.kind = 3
  · (have:=NeI h3);(repeat' first|refine stW [0,1,2,5] ?_|refine fctI fun hf=>?_|refine twI (fun hc=>?_) fun hc=>?_);(refine DVQ ?_);unfold capN; rw [if_pos h3]
  · (have:=NeI h3);have h4 := h.resolve_left h3;(repeat' first|refine stW [0,1,2,5] ?_|(show CallQ ..;first|refine cQ (fun hcc=>(last_f _ _ h4)) ?_|(refine lP ?_;refine lQ (fun hcc m=>(last_f _ _ h4)) ?_))|refine fctI fun hf=>?_|refine twI (fun hc=>?_) fun hc=>?_);(refine DVQ ?_);unfold capN; rw [if_neg h3]
theorem rCapacity_f (x : Node) (m : Nat) (h : hasShape x) : Pu 77 [nodeD x] m (li (capN x)) := by
  refine pcN 15 [.tmp 2] [3] Tryz.func77 rfl [] ?_;by_cases h3 : x.kind = 3
  · (have:=NeI h3);(repeat' first|refine stW [0,1,2,5] ?_|refine fctI fun hf=>?_|refine twI (fun hc=>?_) fun hc=>?_);(refine DVQ ?_);unfold capN; rw [if_pos h3]
  · (have:=NeI h3);have h4 := h.resolve_left h3;(repeat' first|refine stW [0,1,2,5] ?_|refine fctI fun hf=>?_|refine twI (fun hc=>?_) fun hc=>?_);(refine DVQ ?_);unfold capN; rw [if_neg h3];all_goals simp
theorem netB_one (x : Node) : netB ⟨[x], []⟩ = nodeR x := by
  unfold netB okN okL nodeIx idxI;simp [List.range_succ]
theorem right_f (x : Node) (m : Nat) (h : nodeOk x) : Pu 169 [nodeD x] m (lb (nodeR x)) := by
  have hn : netOk ⟨[x], []⟩ := ⟨⟨by simp, fun y hy => by simp at hy; subst hy; exact h⟩, by simp, by simp⟩;rw [<- netB_one];refine pcN 7 [.tmp 2] [4] Tryz.func169 rfl [] ?_;(repeat' first|refine stW [0,1,2] ?_|(show CallQ ..;first|refine cQ (fun hcc=>(netValid_f ⟨[x], []⟩ _ hn)) ?_|(refine lP ?_;refine lQ (fun hcc m=>(netValid_f ⟨[x], []⟩ _ hn)) ?_))|refine fctI fun hf=>?_|refine twI (fun hc=>?_) fun hc=>?_);exact DVR
theorem Capacity_f (x : Node) (m : Nat) (h : nodeOk x) : Pu 147 [nodeD x] m (.tup [li (if nodeR x = true then capN x else 0), li (if nodeR x = true then 0 else 1)]) := by
  have cr := fun m => right_f x m h
  refine pcN 9 [.tmp 2,.tmp 3] [3,45] Tryz.func147 rfl [] ?_;cases hr : nodeR x <;> simp only [hr] at cr
  · (repeat' first|refine stW [0,1,2,3,6] ?_|(show CallQ ..;first|refine cQ (fun hcc=>(cr _)) ?_|(refine lP ?_;refine lQ (fun hcc m=>(cr _)) ?_))|refine fctI fun hf=>?_|refine twI (fun hc=>?_) fun hc=>?_);exact DVR
  · (repeat' first|refine stW [0,1,2,3,6] ?_|(show CallQ ..;first|refine cQ (fun hcc=>(by exact capacity_f x _ (nodeR_shape hr))) ?_|(refine lP ?_;refine lQ (fun hcc m=>(by exact capacity_f x _ (nodeR_shape hr))) ?_))|refine fctI fun hf=>?_|refine twI (fun hc=>?_) fun hc=>?_);exact DVR
def okSN (n : Net) (s : Sta) (i : Nat) : Bool := btwB (s.vol.getD i default) 0 (capN (n.nodes.getD i default)) && volB (s.pon.getD i default) && !(decide ((n.nodes.getD i default).kind = 3) && !decide (s.pon.getD i default = 0))
def okSL (n : Net) (s : Sta) (i : Nat) : Bool := btwB (s.set.getD i default) 0 1000 && !(s.on.getD i default && !decide ((n.links.getD i default).kind = 4))
def lensB (n : Net) (s : Sta) : Bool := decide (s.vol.length = n.nodes.length) && decide (s.pon.length = n.nodes.length) && decide (s.set.length = n.links.length) && decide (s.on.length = n.links.length)
def staB (n : Net) (s : Sta) : Bool := lensB n s && (List.range n.nodes.length).all (okSN n s) && (List.range n.links.length).all (okSL n s)
theorem netB_len {n : Net} (h : netB n = true) : n.nodes.length <= 300 /\ n.links.length <= 400 := by unfold netB at h; simp at h; omega
theorem netB_okN {n : Net} (h : netB n = true) {i : Nat} (hi : i < n.nodes.length) : okN n i = true := by
  unfold netB at h; simp only [Bool.and_eq_true, List.all_eq_true, List.mem_range] at h; exact h.1.2 i hi
theorem netB_okL {n : Net} (h : netB n = true) {i : Nat} (hi : i < n.links.length) : okL n i = true := by
  unfold netB at h; simp only [Bool.and_eq_true, List.all_eq_true, List.mem_range] at h; exact h.2 i hi
theorem netB_node {n : Net} (h : netB n = true) {i : Nat} (hi : i < n.nodes.length) : nodeR (n.nodes.getD i default) = true := by
  have := netB_okN h hi;unfold okN at this; simp only [Bool.and_eq_true] at this; exact this.1
theorem lensB_of {n : Net} {s : Sta} (h : lensB n s = true) : s.vol.length = n.nodes.length /\ s.pon.length = n.nodes.length /\ s.set.length = n.links.length /\ s.on.length = n.links.length := by
  unfold lensB at h; simp at h; omega
theorem staB_no0 {n : Net} {s : Sta} (h : lensB n s = false) : staB n s = false := by unfold staB; rw [h]; rfl
theorem staB_no1 {n : Net} {s : Sta} {i : Nat} (hi : i < n.nodes.length) (h : okSN n s i = false) : staB n s = false := by
  unfold staB; rw [rall_false hi h]; simp
theorem staB_no2 {n : Net} {s : Sta} {i : Nat} (hi : i < n.links.length) (h : okSL n s i = false) : staB n s = false := by
  unfold staB; rw [rall_false hi h]; simp
theorem staB_yes {n : Net} {s : Sta} (h : lensB n s = true) (h3 : ∀ i, i < n.nodes.length -> okSN n s i = true) (h4 : ∀ i, i < n.links.length -> okSL n s i = true) : staB n s = true := by
  unfold staB; rw [h, rall_true h3, rall_true h4]; rfl
set_option maxRecDepth 20000 in
theorem staValid_f (n : Net) (s : Sta) (m : Nat) (hn : netOk n) (hs : staOk s) : Pu 49 [netD n, staD s] m (lb (netB n && staB n s)) := by
  have cv := fun m => netValid_f n m hn
  obtain ⟨⟨a1, a2⟩, b1, b2⟩ := hn;obtain ⟨⟨s1, _⟩, ⟨s2, _⟩, ⟨s3, _⟩, s4⟩ := hs;refine pcN 116 [.tmp 4] [4] Tryz.func49 rfl [] ?_;cases hv : netB n <;> simp only [hv] at cv
  · (repeat' first|refine stW [0,1,2,3,4,5,6,7,8,47,49,50,51,52,86,89,90,91,92,114] ?_|(show CallQ ..;first|refine cQ (fun hcc=>(cv _)) ?_|(refine lP ?_;refine lQ (fun hcc m=>(cv _)) ?_))|(show XCallQ ..;first|refine xQ (fun hcc=>(cv _)) ?_|(refine xlP ?_;refine xlQ (fun hcc m=>(cv _)) ?_))|refine fctI fun hf=>?_|refine twI (fun hc=>?_) fun hc=>?_);exact DVR
  cases hl : lensB n s
  · (repeat' first|refine stW [0,1,2,3,4,5,6,7,8,47,49,50,51,52,86,89,90,91,92,114] ?_|(show CallQ ..;first|refine cQ (fun hcc=>(cv _)) ?_|(refine lP ?_;refine lQ (fun hcc m=>(cv _)) ?_))|(show XCallQ ..;first|refine xQ (fun hcc=>(cv _)) ?_|(refine xlP ?_;refine xlQ (fun hcc m=>(cv _)) ?_))|refine fctI fun hf=>?_|refine twI (fun hc=>?_) fun hc=>?_)
    · (refine DVQ ?_);rw [staB_no0 hl]
    · exfalso
      unfold lensB at hl; simp at hl; omega
  obtain ⟨l1, l2, l3, l4⟩ := lensB_of hl;(repeat' first|refine stW [0,1,2,3,4,5,6,7,8,47,49,50,51,52,86,89,90,91,92,114] ?_|(show CallQ ..;first|refine cQ (fun hcc=>(cv _)) ?_|(refine lP ?_;refine lQ (fun hcc m=>(cv _)) ?_))|(show XCallQ ..;first|refine xQ (fun hcc=>(cv _)) ?_|(refine xlP ?_;refine xlQ (fun hcc m=>(cv _)) ?_))|refine fctI fun hf=>?_|refine twI (fun hc=>?_) fun hc=>?_)
  · omega
  refine loop_swp [2, 3, 49, 50, 51] [0, 8] 9 (fun q A H => ∃ i : Nat, i <= n.nodes.length /\ q = n.nodes.length - i /\ (∀ j, j < i -> okSN n s j = true) /\ A = [(2, .ptr 0 0), (3, .ptr 8 0), (49, nodeL n.nodes), (50, li n.nodes.length), (51, li i)] /\ H = [(0, .blk 25 (netC n)), (8, .blk 31 (staC s))]) (by omega) ?_ ?_ ?_
  · rintro q A H ⟨i, h1, h2, h3, rfl, rfl⟩;exact SDD
  · refine ⟨_, 0, by omega, rfl, by omega, ?_, ?_⟩
    · exact DVR
    · exact DVR
  rintro q A H ⟨i, h1, h2, h3, rfl, rfl⟩;by_cases hi : i < n.nodes.length
  · have cc := fun m => capacity_f (n.nodes.getD i default) m (nodeR_shape (netB_node hv hi))
    (repeat' first|refine stW [0,1,2,3,4,5,6,7,8,47,49,50,51,52,86,89,90,91,92,114] ?_|(show CallQ ..;first|refine cQ (fun hcc=>(by first | exact swithin_f _ _ _ _ | exact sholds_f _ _)) ?_|(refine lP ?_;refine lQ (fun hcc m=>(by first | exact swithin_f _ _ _ _ | exact sholds_f _ _)) ?_))|(show XCallQ ..;first|refine xQ (fun hcc=>(by first | exact swithin_f _ _ _ _ | exact sholds_f _ _)) ?_|(refine xlP ?_;refine xlQ (fun hcc m=>(by first | exact swithin_f _ _ _ _ | exact sholds_f _ _)) ?_))|refine fctI fun hf=>?_|refine twI (fun hc=>?_) fun hc=>?_)
    · (refine DVQ ?_);refine lbC ?_;rw [staB_no1 hi (by unfold okSN; clear cv cc h3; grind)]
    · (refine lN [0, 8] ?_);exact ⟨_, by omega, i + 1, by omega, rfl, all_next h3 (by unfold okSN; clear cv cc h3; grind), rfl, rfl⟩
    · omega
  have hi2 : i = n.nodes.length := by omega
  subst hi2;(repeat' first|refine stW [0,1,2,3,4,5,6,7,8,47,49,50,51,52,86,89,90,91,92,114] ?_|refine fctI fun hf=>?_|refine twI (fun hc=>?_) fun hc=>?_)
  · omega
  clear h1 h2 hi hc;refine loop_swp [2, 3, 89, 90, 91] [0, 8] 9 (fun q A H => ∃ i : Nat, i <= n.links.length /\ q = n.links.length - i /\ (∀ j, j < i -> okSL n s j = true) /\ A = [(2, .ptr 0 0), (3, .ptr 8 0), (89, linkL n.links), (90, li n.links.length), (91, li i)] /\ H = [(0, .blk 25 (netC n)), (8, .blk 31 (staC s))]) (by omega) ?_ ?_ ?_
  · rintro q A H ⟨i, h1, h2, h3, rfl, rfl⟩;exact SDD
  · refine ⟨_, 0, by omega, rfl, by omega, ?_, ?_⟩
    · exact DVR
    · exact DVR
  rintro q A H ⟨i, h1, h2, h4, rfl, rfl⟩;by_cases hi : i < n.links.length
  · (repeat' first|refine stW [0,1,2,3,4,5,6,7,8,47,49,50,51,52,86,89,90,91,92,114] ?_|(show CallQ ..;first|refine cQ (fun hcc=>(swithin_f _ _ _ _)) ?_|(refine lP ?_;refine lQ (fun hcc m=>(swithin_f _ _ _ _)) ?_))|(show XCallQ ..;first|refine xQ (fun hcc=>(swithin_f _ _ _ _)) ?_|(refine xlP ?_;refine xlQ (fun hcc m=>(swithin_f _ _ _ _)) ?_))|refine fctI fun hf=>?_|refine twI (fun hc=>?_) fun hc=>?_)
    · (refine DVQ ?_);refine lbC ?_;rw [staB_no2 hi (by unfold okSL; clear cv h3 h4; grind)]
    · (refine lN [0, 8] ?_);exact ⟨_, by omega, i + 1, by omega, rfl, all_next h4 (by unfold okSL; clear cv h3 h4; grind), rfl, rfl⟩
    · omega
  have hi2 : i = n.links.length := by omega
  subst hi2;(repeat' first|refine stW [0,1,2,3,4,5,6,7,8,47,49,50,51,52,86,89,90,91,92,114] ?_|refine fctI fun hf=>?_|refine twI (fun hc=>?_) fun hc=>?_)
  · omega
  (refine DVQ ?_);refine lbC ?_;rw [staB_yes hl h3 h4]
set_option maxRecDepth 20000 in
theorem rStaValid_f (n : Net) (s : Sta) (m : Nat) (hv : netB n = true) (hs : staOk s) : Pu 43 [netD n, staD s] m (lb (staB n s)) := by
  have a1 := netB_len hv;obtain ⟨⟨s1, _⟩, ⟨s2, _⟩, ⟨s3, _⟩, s4⟩ := hs;refine pcN 131 [.tmp 4] [4] Tryz.func43 rfl [] ?_;cases hl : lensB n s
  · (repeat' first|refine stW [0,1,2,3,4,5,6,40,45,93,98,130] ?_|refine fctI fun hf=>?_|refine twI (fun hc=>?_) fun hc=>?_)
    · (refine DVQ ?_);rw [staB_no0 hl]
    · exfalso
      unfold lensB at hl; simp at hl; omega
  obtain ⟨l1, l2, l3, l4⟩ := lensB_of hl;(repeat' first|refine stW [0,1,2,3,4,5,6,40,45,93,98,130] ?_|refine fctI fun hf=>?_|refine twI (fun hc=>?_) fun hc=>?_)
  · omega
  refine loop_swp [2, 3, 5] [0, 8] 9 (fun q A H => ∃ i : Nat, i <= n.nodes.length /\ q = n.nodes.length - i /\ (∀ j, j < i -> okSN n s j = true) /\ A = [(2, .ptr 0 0), (3, .ptr 8 0), (5, li i)] /\ H = [(0, .blk 25 (netC n)), (8, .blk 31 (staC s))]) (by omega) ?_ ?_ ?_
  · rintro q A H ⟨i, h1, h2, h3, rfl, rfl⟩;exact SDD
  · refine ⟨_, 0, by omega, rfl, by omega, ?_, ?_⟩
    · exact DVR
    · exact DVR
  rintro q A H ⟨i, h1, h2, h3, rfl, rfl⟩;by_cases hi : i < n.nodes.length
  · have cc := fun m => rCapacity_f (n.nodes.getD i default) m (nodeR_shape (netB_node hv hi))
    (repeat' first|refine stW [0,1,2,3,4,5,6,40,45,93,98,130] ?_|(show XCallQ ..;first|refine xQ (fun hcc=>(by exact rVol_f _ _)) ?_|(refine xlP ?_;refine xlQ (fun hcc m=>(by exact rVol_f _ _)) ?_))|refine fctI fun hf=>?_|refine twI (fun hc=>?_) fun hc=>?_)
    · (refine DVQ ?_);refine lbC ?_;rw [staB_no1 hi (by unfold okSN btwB; clear cc h3; grind)]
    · (refine lN [0, 8] ?_);exact ⟨_, by omega, i + 1, by omega, rfl, all_next h3 (by unfold okSN btwB; clear cc h3; grind), rfl, rfl⟩
    · omega
  have hi2 : i = n.nodes.length := by omega
  subst hi2;(repeat' first|refine stW [0,1,2,3,4,5,6,40,45,93,98,130] ?_|refine fctI fun hf=>?_|refine twI (fun hc=>?_) fun hc=>?_)
  · omega
  clear h1 h2 hi hc;refine loop_swp [2, 3, 6] [0, 8] 9 (fun q A H => ∃ i : Nat, i <= n.links.length /\ q = n.links.length - i /\ (∀ j, j < i -> okSL n s j = true) /\ A = [(2, .ptr 0 0), (3, .ptr 8 0), (6, li i)] /\ H = [(0, .blk 25 (netC n)), (8, .blk 31 (staC s))]) (by omega) ?_ ?_ ?_
  · rintro q A H ⟨i, h1, h2, h3, rfl, rfl⟩;exact SDD
  · refine ⟨_, 0, by omega, rfl, by omega, ?_, ?_⟩
    · exact DVR
    · exact DVR
  rintro q A H ⟨i, h1, h2, h4, rfl, rfl⟩;by_cases hi : i < n.links.length
  · (repeat' first|refine stW [0,1,2,3,4,5,6,40,45,93,98,130] ?_|refine fctI fun hf=>?_|refine twI (fun hc=>?_) fun hc=>?_)
    · (refine DVQ ?_);refine lbC ?_;rw [staB_no2 hi (by unfold okSL btwB; clear h3 h4; grind)]
    · (refine lN [0, 8] ?_);exact ⟨_, by omega, i + 1, by omega, rfl, all_next h4 (by unfold okSL btwB; clear h3 h4; grind), rfl, rfl⟩
    · omega
  have hi2 : i = n.links.length := by omega
  subst hi2;(repeat' first|refine stW [0,1,2,3,4,5,6,40,45,93,98,130] ?_|refine fctI fun hf=>?_|refine twI (fun hc=>?_) fun hc=>?_)
  · omega
  (refine DVQ ?_);refine lbC ?_;rw [staB_yes hl h3 h4]

end Go.Proofs.YtgpllheklfbfhaaGreat
