/-
  Contracts of functions of the program, over the engine.
  No condition.
-/
import Derived.Test.YtlgfdfljnbncfaaGreatCU5
import Derived.Test.YtlgfdfljnbncfaaGreatCU0
namespace Go.Proofs.YtlgfdfljnbncfaaGreat
open Go.Eng
set_option linter.all false
attribute [local irreducible] DCallsG SWp Fct CallQ XCallQ LCallQ XLCallQ drun xrun
set_option maxHeartbeats 64000000

theorem idxRuleP_f (g : FuncId) (u : PV) (p : Rule -> Bool) (l : List (Rule)) (m : Nat) (hl : l.length <= 281474976710656) (hg : ∀ x, x ∈ l -> ∀ m, Pu g [ruleD x, .p u] m (lb (p x))) :
    Pu 76 [ruleL l, .clo g [.p u]] m (li (idxI p l)) := by
  refine pcN 19 [.tmp 4] [3] Tryz.func76 rfl [] ?_;(repeat' first|refine stW [0,1,4,5,7,8,9,16] ?_|refine fctI fun hf=>?_|refine twI (fun hc=>?_) fun hc=>?_);refine loop_swp [0, 1, 7, 8] [] 0 (fun q A H => ∃ i : Nat, i <= l.length /\ q = l.length - i /\ (l.take i).any p = false /\ A = [(0, ruleL l), (1, .clo g [.p u]), (7, li l.length), (8, li i)] /\ H = []) (by omega) ?_ ?_ ?_
  · rintro q A H ⟨i, h1, h2, h3, rfl, rfl⟩;exact SDD
  · refine ⟨_, 0, by omega, rfl, rfl, ?_, ?_⟩
    · exact DVR
    · exact DVR
  · rintro q A H ⟨i, h1, h2, h3, rfl, rfl⟩;(repeat' first|refine stW [0,1,4,5,7,8,9,16] ?_|(show CallQ ..;first|refine cQ (fun hcc=>(hg _ (getD_mem SC) _)) ?_|(refine lP ?_;refine lQ (fun hcc m=>(hg _ (getD_mem SC) _)) ?_))|refine fctI fun hf=>?_|refine twI (fun hc=>?_) fun hc=>?_)
    · (refine DVQ ?_);rw [idxI_hit h3 (by omega) (by assumption)]
    · (refine lN [] ?_);exact ⟨_, by omega, i + 1, by omega, rfl, any_step h3 (by omega) (by assumption), rfl, rfl⟩
    · (refine DVQ ?_);rw [List.take_of_length_le (by omega)] at h3;rw [idxI_none h3]
theorem conRuleP_f (g : FuncId) (u : PV) (p : Rule -> Bool) (l : List (Rule)) (m : Nat) (hl : l.length <= 281474976710656) (hg : ∀ x, x ∈ l -> ∀ m, Pu g [ruleD x, .p u] m (lb (p x))) :
    Pu 22 [ruleL l, .clo g [.p u]] m (lb (l.any p)) := by
  have ci := fun m => idxRuleP_f g u p l m hl hg
  refine pcN 9 [.tmp 4] [4] Tryz.func22 rfl [] ?_;(repeat' first|refine stW [0,1,4] ?_|refine fctI fun hf=>?_|refine twI (fun hc=>?_) fun hc=>?_);(refine DVQ ?_);rw [idxI_any]
section
variable {D : Dfr} {P : Program} {N pin nx : Nat} {Q : Exit -> LE -> LH -> Nat -> Prop} {A : LE} {H : LH}
theorem sR43 {c : Code} (o n : Nat) {A3 : LE} {H3 : LH} (h : @SWp D P N pin c Q A3 H3 nx) (h1 : pin <= o := by omega) (h2 : pin <= n := by omega) (h3 : n < nx := by omega) (hA1 : neA nx n A := by exact Go.Eng.SD) (hH1 : neH nx n H := by exact Go.Eng.SD) (eA : eren o n A = A3 := by exact Go.Eng.DR) (eH : hkr o n H = H3 := by exact Go.Eng.DR) : @SWp D P N pin c Q A H nx := by
  subst eA eH;unfold SWp at h ⊢;intro hp B hB a w hS;exact h hp B hB a w (hS.ren hB h1 h2 h3 (neA_get hA1) (neH_get hH1))
end
@[push_cast] theorem td43_37 : td Tryz.prog 37 = some { size := 1, bytes := 0, zero := [.tuple { toList := [.int .i64 (.ofNat 0), .int .i64 (.ofNat 0)] }], held := false, eqg := false, fok := false, sc := [none], k := .other } := by kernel_rfl
theorem idxLink43C_f (g : FuncId) (t : TypeId) (cs : List PV) (p : Link -> Bool) (l : List (Link)) (hl : l.length <= 281474976710656) (hg : ∀ x, x ∈ l -> ∀ m, DCalls Tryz.prog g [linkD x, .ptr 0 0] (hget [(0, .blk t (cs.map .p))]) m (lb (p x)) (hget [(0, .blk t (cs.map .p))])) :
    DCalls Tryz.prog 77 [linkL l, .clo g [.ptr 0 0]] (hget [(0, .blk t (cs.map .p))]) 1 (li (idxI p l)) (hget [(0, .blk t (cs.map .p))]) := by
  refine contract (n := 19) (rs := [.tmp 4]) (ts := [3]) Tryz.func77 rfl (by decide) 1 1 [] [] [] (li (idxI p l)) [(0, .blk t (cs.map .p))] (by (exact SD)) (by (exact SD)) ?_;(repeat' first|refine stW [0,1,4,5,7,8,9,16] ?_|refine fctI fun hf=>?_|refine twI (fun hc=>?_) fun hc=>?_);refine loop_swp [0, 1, 7, 8] [0] 1 (fun q A H => ∃ i : Nat, i <= l.length /\ q = l.length - i /\ (l.take i).any p = false /\ A = [(0, linkL l), (1, .clo g [.ptr 0 0]), (7, li l.length), (8, li i)] /\ H = [(0, .blk t (cs.map .p))]) (by omega) ?_ ?_ ?_
  · rintro q A H ⟨i, h1, h2, h3, rfl, rfl⟩;exact SDD
  · refine ⟨_, 0, by omega, rfl, rfl, ?_, ?_⟩
    · exact DVR
    · exact DVR
  · rintro q A H ⟨i, h1, h2, h3, rfl, rfl⟩;(repeat' first|refine stW [0,1,4,5,7,8,9,16] ?_|(show CallQ ..;first|refine cQ (fun hcc=>(hg _ (getD_mem SC) _)) ?_|(refine lP ?_;refine lQ (fun hcc m=>(hg _ (getD_mem SC) _)) ?_))|refine fctI fun hf=>?_|refine twI (fun hc=>?_) fun hc=>?_)
    · (refine DVQ ?_);rw [idxI_hit h3 (by omega) (by assumption)]
    · (refine lN [0] ?_);exact ⟨_, by omega, i + 1, by omega, rfl, any_step h3 (by omega) (by assumption), rfl, rfl⟩
    · (refine DVQ ?_);rw [List.take_of_length_le (by omega)] at h3;rw [idxI_none h3]
theorem link1_43 (x : Link) (s : ByteArray) (m : Nat) : DCalls Tryz.prog 166 [linkD x, .ptr 0 0] (hget [(0, .blk 9 [.p (.lit (.string s))])]) m (lb (decide (x.name = s))) (hget [(0, .blk 9 [.p (.lit (.string s))])]) := by
  refine contract (n := 8) (rs := [.tmp 3]) (ts := [4]) Tryz.func166 rfl (by decide) 1 1 [] [] [] (lb (decide (x.name = s))) [(0, .blk 9 [.p (.lit (.string s))])] (by (exact SD)) (by (exact SD)) ?_;(repeat' first|refine stW [0,1,2,3] ?_|refine fctI fun hf=>?_|refine twI (fun hc=>?_) fun hc=>?_);exact DVR
theorem link43_f (n : Net) (s : ByteArray) (m : Nat) (hl : n.links.length <= 281474976710656) : Pu 112 [netD n, ls s] m (li (linkIx n.links s)) := by
  refine pcN 9 [.tmp 4] [3] Tryz.func112 rfl [] ?_;(repeat' first|refine stW [0,1,2,3,4] ?_|refine fctI fun hf=>?_|refine twI (fun hc=>?_) fun hc=>?_);(refine cQT [8] (fun hcc => (idxLink43C_f 166 9 [.lit (.string s)] (fun x => decide (x.name = s)) n.links hl (fun x _ m => link1_43 x s m))) ?_);(repeat' first|refine stW [0,1,2,3,4] ?_|refine fctI fun hf=>?_|refine twI (fun hc=>?_) fun hc=>?_);exact DVR
theorem found43_f (n : Net) (k : Int) (m : Nat) : Pu 142 [netD n, li k] m (if 0 <= k then .tup [li k, li 0] else .tup [li 0, li 9]) := by
  by_cases h : k < 0
  · rw [if_neg (by omega)];(have:=NeI h);refine pcN 9 [.tmp 4,.tmp 5] [3,32] Tryz.func142 rfl [] ?_;(repeat' first|refine stW [0,1,4,5,7] ?_|refine fctI fun hf=>?_|refine twI (fun hc=>?_) fun hc=>?_);exact DVR
  · rw [if_pos (by omega)];(have:=NeI h);refine pcN 9 [.tmp 4,.tmp 5] [3,32] Tryz.func142 rfl [] ?_;(repeat' first|refine stW [0,1,4,5,7] ?_|refine fctI fun hf=>?_|refine twI (fun hc=>?_) fun hc=>?_);exact DVR
theorem netLink43_f (n : Net) (s : ByteArray) (m : Nat) (no : netOk n) (nb : netB n = true) : Pu 83 [netD n, ls s] m (if 0 <= linkIx n.links s then .tup [li (linkIx n.links s), li 0] else .tup [li 0, li 9]) := by
  have c1 := fun m => netValid_f n m no
  rw [nb] at c1;have c2 := fun m => link43_f n s m no.2.1
  have c3 := fun m => found43_f n (linkIx n.links s) m
  generalize linkIx n.links s = k at *
  by_cases h : 0 <= k
  · rw [if_pos h] at c3 ⊢;refine pcN 16 [.tmp 4,.tmp 5] [3,32] Tryz.func83 rfl [] ?_;(repeat' first|refine stW [0,1,2,4,5,8] ?_|refine fctI fun hf=>?_|refine twI (fun hc=>?_) fun hc=>?_);exact DVR
  · rw [if_neg h] at c3 ⊢;refine pcN 16 [.tmp 4,.tmp 5] [3,32] Tryz.func83 rfl [] ?_;(repeat' first|refine stW [0,1,2,4,5,8] ?_|refine fctI fun hf=>?_|refine twI (fun hc=>?_) fun hc=>?_);exact DVR
theorem cells_kn (b : Knot) (l : List Knot) : CellsB (knotC b ++ (rows knotP l).flatten) = True := by
  refine propext ⟨fun _ => trivial, fun _ d hd => ?_⟩;rcases List.mem_append.1 hd with h | h
  · simp only [knotC, List.mem_cons, List.not_mem_nil, or_false] at h;rcases h with rfl | rfl <;> rfl
  · obtain ⟨r, hr, h2⟩ := List.mem_flatten.1 h;obtain ⟨x, _, rfl⟩ := List.mem_map.1 hr;obtain ⟨y, _, rfl⟩ := List.mem_map.1 h2;rfl
attribute [push_cast] cells_kn
theorem cloneKn_f (l : List Knot) (m : Nat) (hl : l.length <= 1048576) : Pu 84 [knotL l] m (knotL l) := by
  refine pcN 8 [.tmp 2] [42] Tryz.func84 rfl [24] ?_;cases l with
  | nil =>
    (repeat' (first | refine swp_seq [0, 2, 4] ?_ | (first | refine rF (fun hf => ?_) | refine tN ?_ | refine swp_skip ?_ | refine swp_block ?_ | refine swp_scope ?_ | refine blockK_normal ?_ | refine scopeK_normal ?_ | (refine cB (fun hc => ?_) (fun hc => ?_) <;> first | exact False.elim hc | exact absurd hc Bool.false_ne_true | exact absurd hc.symm Bool.false_ne_true | skip) | refine cU ?_ ?_)))
    · (refine sN 2 139 2 ?_);refine sR43 32 24 ?_;(repeat' (first | refine swp_seq [0, 2, 4] ?_ | (first|refine rF (fun hf=>?_)|refine st0 ?_|refine dF mixed ?_|(refine cB (fun hc=>?_) (fun hc=>?_)<;>first|exact False.elim hc|exact absurd hc Bool.false_ne_true|exact absurd hc.symm Bool.false_ne_true|skip)|refine cU ?_ ?_)));exact DVR
    · (repeat' (first | refine swp_seq [0, 2, 4] ?_ | (first|refine rF (fun hf=>?_)|refine st0 ?_|refine dF mixed ?_|(refine cB (fun hc=>?_) (fun hc=>?_)<;>first|exact False.elim hc|exact absurd hc Bool.false_ne_true|exact absurd hc.symm Bool.false_ne_true|skip)|refine cU ?_ ?_)));exact DVR
  | cons b l =>
    have h2 : l.length + 1 <= 1048576 := hl;(repeat' first|refine stW [0,2,4] ?_|refine fctI fun hf=>?_|refine twI (fun hc=>?_) fun hc=>?_);exact DVR
theorem nodeC_put6 (x : Node) : List.take 6 (nodeC x) ++ [.p (.dat 2 (x.shape.map knotP))] ++ List.drop 7 (nodeC x) = nodeC x := rfl
theorem nodeC_put6a (x : Node) : List.take 6 (nodeC x) ++ ([.p (.dat 2 (x.shape.map knotP))] ++ List.drop 7 (nodeC x)) = nodeC x := rfl
theorem nodeC_put6b (x : Node) : List.take 6 (nodeC x) ++ (.p (.dat 2 (x.shape.map knotP)) :: List.drop 7 (nodeC x)) = nodeC x := rfl
theorem linkC_put10 (x : Link) : List.take 10 (linkC x) ++ [.p (.dat 2 (x.curve.map knotP))] ++ List.drop 11 (linkC x) = linkC x := rfl
theorem linkC_put10a (x : Link) : List.take 10 (linkC x) ++ ([.p (.dat 2 (x.curve.map knotP))] ++ List.drop 11 (linkC x)) = linkC x := rfl
theorem linkC_put10b (x : Link) : List.take 10 (linkC x) ++ (.p (.dat 2 (x.curve.map knotP)) :: List.drop 11 (linkC x)) = linkC x := rfl
attribute [push_cast] nodeC_put6 nodeC_put6a nodeC_put6b linkC_put10 linkC_put10a linkC_put10b
def rmK (l : List Link) (p k : Nat) : List Link := (l.take k).eraseIdx p
theorem rmK_same {l : List Link} {p : Nat} (h : p < l.length) : rmK l p (p + 1) = rmK l p p := by
  unfold rmK;have e1 : (l.take p).eraseIdx p = l.take p := List.eraseIdx_of_length_le (by rw [List.length_take]; omega);rw [take_snocD h, List.eraseIdx_append_of_length_le (by rw [List.length_take]; omega), e1, List.length_take, Nat.min_eq_left (by omega), Nat.sub_self];exact List.append_nil _
theorem rmK_other {l : List Link} {p k : Nat} (h : k < l.length) (e : k ≠ p) : rmK l p (k + 1) = rmK l p k ++ [l.getD k default] := by
  unfold rmK;rw [take_snocD h];by_cases hp : p < k
  · rw [List.eraseIdx_append_of_lt_length (by rw [List.length_take]; omega)]
  · rw [List.eraseIdx_append_of_length_le (by rw [List.length_take]; omega), List.eraseIdx_of_length_le (l := l.take k) (by rw [List.length_take]; omega), List.length_take, Nat.min_eq_left (by omega)];obtain ⟨d, hd⟩ : ∃ d, p - k = d + 1 := ⟨p - k - 1, by omega⟩;rw [hd]; rfl
theorem rmK_all (l : List Link) (p : Nat) : rmK l p l.length = l.eraseIdx p := by unfold rmK; rw [List.take_length]
theorem rmK_len (l : List Link) (p k : Nat) : (rmK l p k).length <= k := by
  unfold rmK;exact Nat.le_trans (List.eraseIdx_sublist ..).length_le (by rw [List.length_take]; omega)
theorem nodeOk_shape {x : Node} (h : nodeR x = true) : x.shape.length <= 1048576 := by
  by_cases k : x.kind = 3
  · unfold nodeR at h;simp only [Bool.and_eq_true] at h;have h2 := h.2;unfold kindB at h2;rw [if_neg (by omega), if_pos k] at h2;simp only [Bool.and_eq_true, decide_eq_true_eq] at h2;omega
  · have := (tabB_len (nodeR_tab h k).1).2;omega
set_option maxRecDepth 20000 in
theorem remove_f (n : Net) (s : ByteArray) (p : Nat) (m : Nat) (no : netOk n) (nb : netB n = true) (hp : linkIx n.links s = (p : Int)) (hcu : ∀ x, x ∈ n.links -> x.curve.length <= 1048576) :
    Pu 38 [netD n, ls s] m (.tup [netD ⟨n.nodes, n.links.eraseIdx p⟩, li 0]) := by
  have k1 := fun m => netLink43_f n s m no nb
  have hlt := lix_lt n.links s;rw [hp] at k1 hlt;rw [if_pos (by omega)] at k1;obtain ⟨h300, h400⟩ := netB_len nb;have ni := (netB_iff n).1 nb;refine pcN 64 [.cell 4 25,.tmp 5] [25,32] Tryz.func38 rfl [144, 152] ?_;(repeat' first|refine stW [0,1,2,4,5,6,7,8,10,11,12,20,24,25,26,27,42,43,44,45,51] ?_|refine fctI fun hf=>?_|refine twI (fun hc=>?_) fun hc=>?_);refine swp_hkeep [104, 8, 0] rfl ?_;change SWp _ _ _ _ _ _ ((104, .blk 25 ([] ++ .p (.lit (.slice none 0 0)) :: [nilS])) :: _) _;refine swp_nilC 104 25 44 9 [] [nilS] rfl ?_;change SWp _ _ _ _ _ _ ((104, .blk 25 ([.gl 144] ++ .p (.lit (.slice none 0 0)) :: [])) :: _) _;refine swp_nilC 104 25 57 11 [.gl 144] [] rfl ?_;refine loop_swp [2, 4, 6, 8, 24, 25, 26] [0, 8, 104, 144, 152] 160 (fun q A H => ∃ i : Nat, i <= n.nodes.length /\ q = n.nodes.length - i /\ A = [(2, .ptr 0 0), (4, .ptr 8 0), (6, li p), (8, .ptr 104 0), (24, nodeL n.nodes), (25, li n.nodes.length), (26, li i)] /\ H = [(0, .blk 25 (netC n)), (8, .blk 25 [nilS, nilS]), (104, .blk 25 [.gl 144, .gl 152]), (144, ndHt (n.nodes.take i)), (152, lkHt [])]) (by omega) ?_ ?_ ?_
  · rintro q A H ⟨i, g1, g2, rfl, rfl⟩;exact SDD
  · refine ⟨_, 0, by omega, rfl, ?_, ?_⟩
    · exact DVR
    · exact DVR
  rintro q A H ⟨i, g1, g2, rfl, rfl⟩;by_cases hi : i < n.nodes.length
  · have hi3 : (i : Int) < (n.nodes.length : Int) := by omega
    have k2 := fun m => cloneKn_f (n.nodes.getD i default).shape m (nodeOk_shape (ni.nr _ (mem_getD hi)))
    have hnx := take_snocD hi;have hlt2 : (n.nodes.take i).length = i := by rw [List.length_take]; omega
    generalize n.nodes.take i = X at *
    (have:=NeI hi);(have:=NeI hi3);clear hcu;(repeat' first|refine stW [0,1,2,4,5,6,7,8,10,11,12,20,24,25,26,27,42,43,44,45,51] ?_|refine fctI fun hf=>?_|refine twI (fun hc=>?_) fun hc=>?_);(refine lN [0, 8, 104, 144, 152] ?_);exact ⟨_, by omega, i + 1, by omega, rfl, rfl, by rw [hnx] <;> rfl⟩
  obtain rfl : i = n.nodes.length := by omega
  have hi3 : ¬ ((n.nodes.length : Int) < (n.nodes.length : Int)) := by omega
  (have:=NeI hi3);rw [List.take_length];(repeat' first|refine stW [0,1,2,4,5,6,7,8,10,11,12,20,24,25,26,27,42,43,44,45,51] ?_|refine fctI fun hf=>?_|refine twI (fun hc=>?_) fun hc=>?_);refine loop_swp [4, 6, 8, 42, 43, 44] [8, 104, 144, 152] 200 (fun q A H => ∃ i : Nat, i <= n.links.length /\ q = n.links.length - i /\ A = [(4, .ptr 8 0), (6, li p), (8, .ptr 104 0), (42, linkL n.links), (43, li n.links.length), (44, li i)] /\ H = [(8, .blk 25 [nilS, nilS]), (104, .blk 25 [.gl 144, .gl 152]), (144, ndHt n.nodes), (152, lkHt (rmK n.links p i))]) (by omega) ?_ ?_ ?_
  · rintro q A H ⟨i, g1, g2, rfl, rfl⟩;exact SDD
  · refine ⟨_, 0, by omega, rfl, ?_, ?_⟩
    · exact DVR
    · exact DVR
  rintro q A H ⟨i, g1, g2, rfl, rfl⟩;by_cases hi : i < n.links.length
  · have hi3 : (i : Int) < (n.links.length : Int) := by omega
    have k2 := fun m => cloneKn_f (n.links.getD i default).curve m (hcu _ (mem_getD hi))
    have hXl := rmK_len n.links p i;by_cases e : i = p
    · have hnx := rmK_same (l := n.links) (p := p) (by omega);have e3 : (i : Int) = (p : Int) := by omega
      rw [<- e] at hnx;rw [e] at hnx ⊢;subst e;generalize rmK n.links i i = X at *
      (have:=NeI hi);(have:=NeI hi3);(have:=NeI e3);clear hcu;(repeat' first|refine stW [0,1,2,4,5,6,7,8,10,11,12,20,24,25,26,27,42,43,44,45,51] ?_|refine fctI fun hf=>?_|refine twI (fun hc=>?_) fun hc=>?_);(refine lN [8, 104, 144, 152] ?_);exact ⟨_, by omega, i + 1, by omega, rfl, rfl, by rw [hnx] <;> rfl⟩
    · have hnx := rmK_other (l := n.links) (p := p) hi e;have e3 : ¬ (i : Int) = (p : Int) := by omega
      generalize rmK n.links p i = X at *
      (have:=NeI hi);(have:=NeI hi3);(have:=NeI e3);clear hcu;(repeat' first|refine stW [0,1,2,4,5,6,7,8,10,11,12,20,24,25,26,27,42,43,44,45,51] ?_|refine fctI fun hf=>?_|refine twI (fun hc=>?_) fun hc=>?_);(refine lN [8, 104, 144, 152] ?_);exact ⟨_, by omega, i + 1, by omega, rfl, rfl, by rw [hnx] <;> rfl⟩
  obtain rfl : i = n.links.length := by omega
  have hi3 : ¬ ((n.links.length : Int) < (n.links.length : Int)) := by omega
  (have:=NeI hi3);rw [rmK_all];generalize n.links.eraseIdx p = X at *
  clear hcu;(repeat' first|refine stW [0,1,2,4,5,6,7,8,10,11,12,20,24,25,26,27,42,43,44,45,51] ?_|refine fctI fun hf=>?_|refine twI (fun hc=>?_) fun hc=>?_);exact DVR

end Go.Proofs.YtlgfdfljnbncfaaGreat
