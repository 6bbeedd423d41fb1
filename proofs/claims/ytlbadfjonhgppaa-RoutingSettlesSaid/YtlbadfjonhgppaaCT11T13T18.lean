/-
  Contracts of functions of the program, over the engine.
  No condition.
-/
import Derived.Test.YtlbadfjonhgppaaCT9e
namespace Go.Proofs.Ytlbadfjonhgppaa
open Go.Eng
set_option linter.all false
attribute [local irreducible] DCallsG SWp Fct CallQ XCallQ LCallQ XLCallQ drun xrun

abbrev paL (l : List (Int × Int)) : HV := .lst 79 2 (rows pairP l)
theorem app_pair (l : List (Int × Int)) (a b : Int) : rows pairP l ++ [[.p (.lit (.int .i64 a)), .p (.lit (.int .i64 b))]] = rows pairP (l ++ [(a, b)]) := by simp [rows, pairP]
attribute [push_cast] app_pair
def edgeL (n : Net) : List (Int × Int) := n.links.map fun l => (nodeIx n.nodes l.fro, nodeIx n.nodes l.til)
theorem edgeL_len (n : Net) : (edgeL n).length = n.links.length := by simp [edgeL]
theorem edgeL_at {n : Net} {i : Nat} (h : i < n.links.length) : (edgeL n).getD i default = (nodeIx n.nodes (n.links.getD i default).fro, nodeIx n.nodes (n.links.getD i default).til) := by
  simp [edgeL, List.getD_eq_getElem?_getD, h]
theorem take_snoc {α : Type} [Inhabited α] {l : List α} {i : Nat} (h : i < l.length) : l.take (i + 1) = l.take i ++ [l.getD i default] := by
  rw [List.take_succ_eq_append_getElem h]
  simp [List.getD_eq_getElem?_getD, List.getElem?_eq_getElem h]
set_option maxRecDepth 20000 in
set_option maxHeartbeats 8000000 in
theorem edges_f (n : Net) (m : Nat) (h1 : n.nodes.length ≤ 300) (h2 : n.links.length ≤ 400) : DCalls Try.prog 82 [netD n] (hget []) m (pairs (edgeL n)) (hget []) := by
  have hel := edgeL_len n
  refine pureC (n := 27) (rs := [.tmp 2]) (ts := [76]) Try.func82 rfl (by decide) [8] (by (exact SD)) ?_
  (repeat' (first | refine swp_seq [0, 1, 2, 3, 5, 7, 8, 9, 10] ?_ | refine st1 ?_ | (show Fct ..; refine fctI (fun hf => ?_)) | (show SWp _ _ _ (.region _ _ true) _ _ _ _; refine xG mixed [] ?_) | (show SWp _ _ _ (.cond _ _ _) _ _ _ _; first | (refine cB (fun hc => ?_) (fun hc => ?_) <;> first | exact False.elim hc | exact absurd hc Bool.false_ne_true | exact absurd hc.symm Bool.false_ne_true | skip) | refine cU ?_ ?_)))
  refine loop_swp [1, 3, 7, 8, 9] [0, 8] 9 (fun q A H => ∃ (i : Nat) (d : DV), i ≤ n.links.length ∧ q = n.links.length - i ∧ ((i = 0 ∧ d = nilS ∧ H = [(0, .blk 25 (netC n))]) ∨ (d = .gl 8 ∧ H = [(0, .blk 25 (netC n)), (8, paL ((edgeL n).take i))])) ∧ A = [(1, .ptr 0 0), (3, d), (7, linkL n.links), (8, li n.links.length), (9, li i)]) (by omega) ?_ ?_ ?_
  · rintro q A H ⟨i, d, h1, h2, h3, rfl⟩
    rcases h3 with ⟨_, rfl, rfl⟩ | ⟨rfl, rfl⟩
    · exact ⟨by (exact SD), by (exact SD)⟩
    · exact ⟨by (exact SD), by (exact SD)⟩
  · refine ⟨_, 0, nilS, by omega, rfl, .inl ⟨rfl, rfl, ?_⟩, ?_⟩
    · (((simp only [push_cast, reduceIte, reduceDIte, reduceCtorEq, Nat.reduceLT, Nat.reduceLeDiff, Nat.reduceEqDiff, Nat.reduceAdd, Nat.reduceMul, Nat.reduceBEq, Nat.reducePow, Int.zero_add, Int.reduceAdd, Int.reduceSub, Int.reduceLT, Int.reduceLE, Int.reduceToNat, Int.reduceNeg, Nat.reduceSub, Int.reduceBNe, Int.reduceBEq]); repeat (simp (disch := omega) only [idx_nat, idx_mapT, i64w, rows_getS, rows_get, getD_set_self, famR_get]; try (simp only [push_cast, reduceIte, reduceDIte, reduceCtorEq, Nat.reduceLT, Nat.reduceLeDiff, Nat.reduceEqDiff, Nat.reduceAdd, Nat.reduceMul, Nat.reduceBEq, Nat.reducePow, Int.zero_add, Int.reduceAdd, Int.reduceSub, Int.reduceLT, Int.reduceLE, Int.reduceToNat, Int.reduceNeg, Nat.reduceSub, Int.reduceBNe, Int.reduceBEq]))))
    · (((simp only [push_cast, reduceIte, reduceDIte, reduceCtorEq, Nat.reduceLT, Nat.reduceLeDiff, Nat.reduceEqDiff, Nat.reduceAdd, Nat.reduceMul, Nat.reduceBEq, Nat.reducePow, Int.zero_add, Int.reduceAdd, Int.reduceSub, Int.reduceLT, Int.reduceLE, Int.reduceToNat, Int.reduceNeg, Nat.reduceSub, Int.reduceBNe, Int.reduceBEq]); repeat (simp (disch := omega) only [idx_nat, idx_mapT, i64w, rows_getS, rows_get, getD_set_self, famR_get]; try (simp only [push_cast, reduceIte, reduceDIte, reduceCtorEq, Nat.reduceLT, Nat.reduceLeDiff, Nat.reduceEqDiff, Nat.reduceAdd, Nat.reduceMul, Nat.reduceBEq, Nat.reducePow, Int.zero_add, Int.reduceAdd, Int.reduceSub, Int.reduceLT, Int.reduceLE, Int.reduceToNat, Int.reduceNeg, Nat.reduceSub, Int.reduceBNe, Int.reduceBEq]))))
  rintro q A H ⟨i, d, k1, k2, h3, rfl⟩
  by_cases hi : i < n.links.length
  · have hnext := take_snoc (l := edgeL n) (i := i) (by omega)
    rw [edgeL_at hi] at hnext
    have c1 := fun s m => node_f n s m (by omega)
    rcases h3 with ⟨rfl, rfl, rfl⟩ | ⟨rfl, rfl⟩
    · (repeat' (first | refine swp_seq [0, 1, 2, 3, 5, 7, 8, 9, 10] ?_ | refine st1 ?_ | (show CallQ ..; first | refine cF ?_ | refine cQ (fun hcc => (c1 _ _)) ?_ | (refine lP ?_; refine lQ (fun hcc m => (c1 _ _)) ?_)) | (show Fct ..; refine fctI (fun hf => ?_)) | (show XCallQ ..; first | refine xcF ?_ | refine xQ (fun hcc => (c1 _ _)) ?_ | (refine xlP ?_; refine xlQ (fun hcc m => (c1 _ _)) ?_)) | (show SWp _ _ _ (.region _ _ true) _ _ _ _; refine xG mixed [] ?_) | (show SWp _ _ _ (.cond _ _ _) _ _ _ _; first | (refine cB (fun hc => ?_) (fun hc => ?_) <;> first | exact False.elim hc | exact absurd hc Bool.false_ne_true | exact absurd hc.symm Bool.false_ne_true | skip) | refine cU ?_ ?_)))
      · (refine lR 137 8 [0, 137] ?_)
        exact ⟨_, by omega, 1, _, by omega, rfl, .inr ⟨rfl, by rw [hnext]; rfl⟩, rfl⟩
      · omega
    · (repeat' (first | refine swp_seq [0, 1, 2, 3, 5, 7, 8, 9, 10] ?_ | refine st1 ?_ | (show CallQ ..; first | refine cF ?_ | refine cQ (fun hcc => (c1 _ _)) ?_ | (refine lP ?_; refine lQ (fun hcc m => (c1 _ _)) ?_)) | (show Fct ..; refine fctI (fun hf => ?_)) | (show XCallQ ..; first | refine xcF ?_ | refine xQ (fun hcc => (c1 _ _)) ?_ | (refine xlP ?_; refine xlQ (fun hcc m => (c1 _ _)) ?_)) | (show SWp _ _ _ (.region _ _ true) _ _ _ _; refine xG mixed [8] ?_) | (show SWp _ _ _ (.cond _ _ _) _ _ _ _; first | (refine cB (fun hc => ?_) (fun hc => ?_) <;> first | exact False.elim hc | exact absurd hc Bool.false_ne_true | exact absurd hc.symm Bool.false_ne_true | skip) | refine cU ?_ ?_)))
      · (refine lR 137 8 [0, 137] ?_)
        exact ⟨_, by omega, i + 1, _, by omega, rfl, .inr ⟨rfl, by rw [hnext]⟩, rfl⟩
      · omega
  have hi2 : i = n.links.length := by omega
  subst hi2
  rcases h3 with ⟨h0, rfl, rfl⟩ | ⟨rfl, rfl⟩
  · (repeat' (first | refine swp_seq [0, 1, 2, 3, 5, 7, 8, 9, 10] ?_ | refine st1 ?_ | (show Fct ..; refine fctI (fun hf => ?_)) | (show SWp _ _ _ (.region _ _ true) _ _ _ _; refine xG mixed [] ?_) | (show SWp _ _ _ (.cond _ _ _) _ _ _ _; first | (refine cB (fun hc => ?_) (fun hc => ?_) <;> first | exact False.elim hc | exact absurd hc Bool.false_ne_true | exact absurd hc.symm Bool.false_ne_true | skip) | refine cU ?_ ?_)))
    · omega
    have : edgeL n = [] := List.eq_nil_of_length_eq_zero (by omega)
    rw [this]
    (((simp only [push_cast, reduceIte, reduceDIte, reduceCtorEq, Nat.reduceLT, Nat.reduceLeDiff, Nat.reduceEqDiff, Nat.reduceAdd, Nat.reduceMul, Nat.reduceBEq, Nat.reducePow, Int.zero_add, Int.reduceAdd, Int.reduceSub, Int.reduceLT, Int.reduceLE, Int.reduceToNat, Int.reduceNeg, Nat.reduceSub, Int.reduceBNe, Int.reduceBEq]); repeat (simp (disch := omega) only [idx_nat, idx_mapT, i64w, rows_getS, rows_get, getD_set_self, famR_get]; try (simp only [push_cast, reduceIte, reduceDIte, reduceCtorEq, Nat.reduceLT, Nat.reduceLeDiff, Nat.reduceEqDiff, Nat.reduceAdd, Nat.reduceMul, Nat.reduceBEq, Nat.reducePow, Int.zero_add, Int.reduceAdd, Int.reduceSub, Int.reduceLT, Int.reduceLE, Int.reduceToNat, Int.reduceNeg, Nat.reduceSub, Int.reduceBNe, Int.reduceBEq]))))
    all_goals rfl
  · (repeat' (first | refine swp_seq [0, 1, 2, 3, 5, 7, 8, 9, 10] ?_ | refine st1 ?_ | (show Fct ..; refine fctI (fun hf => ?_)) | (show SWp _ _ _ (.region _ _ true) _ _ _ _; refine xG mixed [] ?_) | (show SWp _ _ _ (.cond _ _ _) _ _ _ _; first | (refine cB (fun hc => ?_) (fun hc => ?_) <;> first | exact False.elim hc | exact absurd hc Bool.false_ne_true | exact absurd hc.symm Bool.false_ne_true | skip) | refine cU ?_ ?_)))
    · omega
    rw [List.take_of_length_le (by omega)]
    (((simp only [push_cast, reduceIte, reduceDIte, reduceCtorEq, Nat.reduceLT, Nat.reduceLeDiff, Nat.reduceEqDiff, Nat.reduceAdd, Nat.reduceMul, Nat.reduceBEq, Nat.reducePow, Int.zero_add, Int.reduceAdd, Int.reduceSub, Int.reduceLT, Int.reduceLE, Int.reduceToNat, Int.reduceNeg, Nat.reduceSub, Int.reduceBNe, Int.reduceBEq]); repeat (simp (disch := omega) only [idx_nat, idx_mapT, i64w, rows_getS, rows_get, getD_set_self, famR_get]; try (simp only [push_cast, reduceIte, reduceDIte, reduceCtorEq, Nat.reduceLT, Nat.reduceLeDiff, Nat.reduceEqDiff, Nat.reduceAdd, Nat.reduceMul, Nat.reduceBEq, Nat.reducePow, Int.zero_add, Int.reduceAdd, Int.reduceSub, Int.reduceLT, Int.reduceLE, Int.reduceToNat, Int.reduceNeg, Nat.reduceSub, Int.reduceBNe, Int.reduceBEq]))))
    all_goals rfl
theorem Edges_f (n : Net) (m : Nat) (hn : netOk n) : DCalls Try.prog 61 [netD n] (hget []) m (if netB n then .tup [pairs (edgeL n), li 0] else .tup [pairs [], li 1]) (hget []) := by
  have cv := fun m => netValid_f n m hn
  cases hv : netB n <;> simp only [hv] at cv
  · refine pureC (n := 9) (rs := [.tmp 2, .tmp 3]) (ts := [76, 33]) Try.func61 rfl (by decide) [] (by (exact SD)) ?_
    (repeat' (first | refine swp_seq [0, 1, 2, 3, 6] ?_ | refine st1 ?_ | (show CallQ ..; first | refine cF ?_ | refine cQ (fun hcc => (cv _)) ?_ | (refine lP ?_; refine lQ (fun hcc m => (cv _)) ?_)) | (show Fct ..; refine fctI (fun hf => ?_)) | (show XCallQ ..; first | refine xcF ?_ | refine xQ (fun hcc => (cv _)) ?_ | (refine xlP ?_; refine xlQ (fun hcc m => (cv _)) ?_)) | (show SWp _ _ _ (.region _ _ true) _ _ _ _; refine xG mixed [] ?_) | (show SWp _ _ _ (.cond _ _ _) _ _ _ _; first | (refine cB (fun hc => ?_) (fun hc => ?_) <;> first | exact False.elim hc | exact absurd hc Bool.false_ne_true | exact absurd hc.symm Bool.false_ne_true | skip) | refine cU ?_ ?_)))
    (((simp only [push_cast, reduceIte, reduceDIte, reduceCtorEq, Nat.reduceLT, Nat.reduceLeDiff, Nat.reduceEqDiff, Nat.reduceAdd, Nat.reduceMul, Nat.reduceBEq, Nat.reducePow, Int.zero_add, Int.reduceAdd, Int.reduceSub, Int.reduceLT, Int.reduceLE, Int.reduceToNat, Int.reduceNeg, Nat.reduceSub, Int.reduceBNe, Int.reduceBEq]); repeat (simp (disch := omega) only [idx_nat, idx_mapT, i64w, rows_getS, rows_get, getD_set_self, famR_get]; try (simp only [push_cast, reduceIte, reduceDIte, reduceCtorEq, Nat.reduceLT, Nat.reduceLeDiff, Nat.reduceEqDiff, Nat.reduceAdd, Nat.reduceMul, Nat.reduceBEq, Nat.reducePow, Int.zero_add, Int.reduceAdd, Int.reduceSub, Int.reduceLT, Int.reduceLE, Int.reduceToNat, Int.reduceNeg, Nat.reduceSub, Int.reduceBNe, Int.reduceBEq])))); rfl
  · obtain ⟨h1, h2⟩ := netB_len hv
    refine pureC (n := 9) (rs := [.tmp 2, .tmp 3]) (ts := [76, 33]) Try.func61 rfl (by decide) [] (by (exact SD)) ?_
    (repeat' (first | refine swp_seq [0, 1, 2, 3, 6] ?_ | refine st1 ?_ | (show CallQ ..; first | refine cF ?_ | refine cQ (fun hcc => (by first | exact cv _ | exact edges_f n _ h1 h2)) ?_ | (refine lP ?_; refine lQ (fun hcc m => (by first | exact cv _ | exact edges_f n _ h1 h2)) ?_)) | (show Fct ..; refine fctI (fun hf => ?_)) | (show XCallQ ..; first | refine xcF ?_ | refine xQ (fun hcc => (by first | exact cv _ | exact edges_f n _ h1 h2)) ?_ | (refine xlP ?_; refine xlQ (fun hcc m => (by first | exact cv _ | exact edges_f n _ h1 h2)) ?_)) | (show SWp _ _ _ (.region _ _ true) _ _ _ _; refine xG mixed [] ?_) | (show SWp _ _ _ (.cond _ _ _) _ _ _ _; first | (refine cB (fun hc => ?_) (fun hc => ?_) <;> first | exact False.elim hc | exact absurd hc Bool.false_ne_true | exact absurd hc.symm Bool.false_ne_true | skip) | refine cU ?_ ?_)))
    (((simp only [push_cast, reduceIte, reduceDIte, reduceCtorEq, Nat.reduceLT, Nat.reduceLeDiff, Nat.reduceEqDiff, Nat.reduceAdd, Nat.reduceMul, Nat.reduceBEq, Nat.reducePow, Int.zero_add, Int.reduceAdd, Int.reduceSub, Int.reduceLT, Int.reduceLE, Int.reduceToNat, Int.reduceNeg, Nat.reduceSub, Int.reduceBNe, Int.reduceBEq]); repeat (simp (disch := omega) only [idx_nat, idx_mapT, i64w, rows_getS, rows_get, getD_set_self, famR_get]; try (simp only [push_cast, reduceIte, reduceDIte, reduceCtorEq, Nat.reduceLT, Nat.reduceLeDiff, Nat.reduceEqDiff, Nat.reduceAdd, Nat.reduceMul, Nat.reduceBEq, Nat.reducePow, Int.zero_add, Int.reduceAdd, Int.reduceSub, Int.reduceLT, Int.reduceLE, Int.reduceToNat, Int.reduceNeg, Nat.reduceSub, Int.reduceBNe, Int.reduceBEq]))))
    all_goals rfl
def outK (n : Net) (q : Nat) : Nat → List Int
  | 0 => []
  | i + 1 => if nodeIx n.nodes (n.links.getD i default).fro = (q : Int) then outK n q i ++ [(i : Int)] else outK n q i
theorem outK_len (n : Net) (q : Nat) : ∀ i, (outK n q i).length ≤ i
  | 0 => by simp [outK]
  | i + 1 => by
    have := outK_len n q i
    unfold outK; split
    · simp; omega
    · omega
def outsL (n : Net) : List (List Int) := (List.range n.nodes.length).map fun q => outK n q n.links.length
theorem fam_to (L : Nat → List Int) (v : HV) : ∀ (k : Nat), k ≤ 14 → hkeep [(48, v), (144, inLt (L 0)), (145, inLt (L 1)), (146, inLt (L 2)), (147, inLt (L 3)), (148, inLt (L 4)), (149, inLt (L 5)), (150, inLt (L 6)), (151, inLt (L 7)), (152, inLt (L 8)), (153, inLt (L 9)), (154, inLt (L 10)), (155, inLt (L 11)), (156, inLt (L 12)), (157, inLt (L 13))] (48 :: List.range' 144 k) = (48, v) :: famH inRow 3 1 144 ((List.range k).map L)
  | 0, _ => rfl
  | 1, _ => rfl
  | 2, _ => rfl
  | 3, _ => rfl
  | 4, _ => rfl
  | 5, _ => rfl
  | 6, _ => rfl
  | 7, _ => rfl
  | 8, _ => rfl
  | 9, _ => rfl
  | 10, _ => rfl
  | 11, _ => rfl
  | 12, _ => rfl
  | 13, _ => rfl
  | 14, _ => rfl
  | k + 15, h => by omega
theorem ilRows (l : List (List Int)) : l.map (datRow inRow 1) = rows ilRow l := by simp [rows, datRow, ilRow]
attribute [push_cast] ilRows
set_option maxRecDepth 20000 in
set_option maxHeartbeats 16000000 in
theorem outs_f (n : Net) (m : Nat) (hn : netOk n) (hv : netB n = true) (h14 : n.nodes.length ≤ 14) : DCalls Try.prog 35 [netD n] (hget []) m (.tup [intss (outsL n), pairs (edgeL n)]) (hget []) := by
  have cE := fun m => Edges_f n m hn
  simp only [hv, if_true] at cE
  have hel := edgeL_len n
  have a1 := netB_len hv
  refine pureC (n := 40) (rs := [.tmp 2, .tmp 3]) (ts := [67, 76]) Try.func35 rfl (by decide) [48] (by (exact SD)) ?_
  (repeat' (first | refine swp_seq [0, 1, 2, 3, 4, 5, 7, 8, 18, 19, 20, 21] ?_ | refine st1 ?_ | (show CallQ ..; first | refine cF ?_ | refine cQ (fun hcc => (cE _)) ?_ | (refine lP ?_; refine lQ (fun hcc m => (cE _)) ?_)) | (show Fct ..; refine fctI (fun hf => ?_)) | (show XCallQ ..; first | refine xcF ?_ | refine xQ (fun hcc => (cE _)) ?_ | (refine xlP ?_; refine xlQ (fun hcc m => (cE _)) ?_)) | (show SWp _ _ _ (.region _ _ true) _ _ _ _; refine xG mixed [] ?_) | (show SWp _ _ _ (.cond _ _ _) _ _ _ _; first | (refine cB (fun hc => ?_) (fun hc => ?_) <;> first | exact False.elim hc | exact absurd hc Bool.false_ne_true | exact absurd hc.symm Bool.false_ne_true | skip) | refine cU ?_ ?_)))
  refine swp_hkeep [48] rfl ?_
  refine swp_fam inRow 48 n.nodes.length 14 1 26 3 (nx' := 160) (by omega) h14 (by omega) ?_
  refine loop_swp [4, 5, 18, 19, 20] [48, 144, 145, 146, 147, 148, 149, 150, 151, 152, 153, 154, 155, 156, 157] 160 (fun k A H => ∃ i : Nat, i ≤ n.links.length ∧ k = n.links.length - i ∧ A = [(4, .gl 48), (5, pairs (edgeL n)), (18, pairs (edgeL n)), (19, li (edgeL n).length), (20, li i)] ∧ H = [(48, .lst 26 1 (famR 144 n.nodes.length)), (144, inLt (outK n 0 i)), (145, inLt (outK n 1 i)), (146, inLt (outK n 2 i)), (147, inLt (outK n 3 i)), (148, inLt (outK n 4 i)), (149, inLt (outK n 5 i)), (150, inLt (outK n 6 i)), (151, inLt (outK n 7 i)), (152, inLt (outK n 8 i)), (153, inLt (outK n 9 i)), (154, inLt (outK n 10 i)), (155, inLt (outK n 11 i)), (156, inLt (outK n 12 i)), (157, inLt (outK n 13 i))]) (by omega) ?_ ?_ ?_
  · rintro k A H ⟨i, h1, h2, rfl, rfl⟩
    refine ⟨by (exact SD), ⟨by omega, uses_famR _ _ _ fun i hi => by omega, ?_⟩⟩
    (exact SD)
  · refine ⟨_, 0, by omega, rfl, ?_, ?_⟩
    · (((simp only [push_cast, reduceIte, reduceDIte, reduceCtorEq, Nat.reduceLT, Nat.reduceLeDiff, Nat.reduceEqDiff, Nat.reduceAdd, Nat.reduceMul, Nat.reduceBEq, Nat.reducePow, Int.zero_add, Int.reduceAdd, Int.reduceSub, Int.reduceLT, Int.reduceLE, Int.reduceToNat, Int.reduceNeg, Nat.reduceSub, Int.reduceBNe, Int.reduceBEq]); repeat (simp (disch := omega) only [idx_nat, idx_mapT, i64w, rows_getS, rows_get, getD_set_self, famR_get]; try (simp only [push_cast, reduceIte, reduceDIte, reduceCtorEq, Nat.reduceLT, Nat.reduceLeDiff, Nat.reduceEqDiff, Nat.reduceAdd, Nat.reduceMul, Nat.reduceBEq, Nat.reducePow, Int.zero_add, Int.reduceAdd, Int.reduceSub, Int.reduceLT, Int.reduceLE, Int.reduceToNat, Int.reduceNeg, Nat.reduceSub, Int.reduceBNe, Int.reduceBEq]))))
    · rfl
  rintro k A H ⟨i, h1, h2, rfl, rfl⟩
  by_cases hi : i < n.links.length
  · have hx1 := edgeL_at hi
    have hE : i < (edgeL n).length := by omega
    (have := Nonempty.intro hE)
    have hok := netB_okL hv hi
    have hlt := idxI_lt (fun x => decide (x.name = (n.links.getD i default).fro)) n.nodes
    change -1 ≤ nodeIx n.nodes (n.links.getD i default).fro ∧ nodeIx n.nodes (n.links.getD i default).fro < n.nodes.length at hlt
    have hpos : 0 ≤ nodeIx n.nodes (n.links.getD i default).fro := by
      unfold okL at hok
      simp only [Bool.and_eq_true, decide_eq_true_eq] at hok
      exact hok.1.1.2
    clear hok
    have z0 := outK_len n 0 i
    have z1 := outK_len n 1 i
    have z2 := outK_len n 2 i
    have z3 := outK_len n 3 i
    have z4 := outK_len n 4 i
    have z5 := outK_len n 5 i
    have z6 := outK_len n 6 i
    have z7 := outK_len n 7 i
    have z8 := outK_len n 8 i
    have z9 := outK_len n 9 i
    have z10 := outK_len n 10 i
    have z11 := outK_len n 11 i
    have z12 := outK_len n 12 i
    have z13 := outK_len n 13 i
    have hst : ∀ q : Nat, outK n q (i + 1) = if nodeIx n.nodes (n.links.getD i default).fro = (q : Int) then outK n q i ++ [(i : Int)] else outK n q i := fun q => rfl
    (repeat' (first | refine swp_seq [0, 1, 2, 3, 4, 5, 7, 8, 18, 19, 20, 21] ?_ | refine st1 ?_ | (show Fct ..; refine fctI (fun hf => ?_)) | (show SWp _ _ _ (.region _ _ true) _ _ _ _; refine xG mixed [] ?_) | (show SWp _ _ _ (.cond _ _ _) _ _ _ _; first | (refine cB (fun hc => ?_) (fun hc => ?_) <;> first | exact False.elim hc | exact absurd hc Bool.false_ne_true | exact absurd hc.symm Bool.false_ne_true | skip) | refine cU ?_ ?_)))
    · rw [hx1]
      generalize nodeIx n.nodes (n.links.getD i default).fro = x at *
      have hcs : x = 0 ∨ x = 1 ∨ x = 2 ∨ x = 3 ∨ x = 4 ∨ x = 5 ∨ x = 6 ∨ x = 7 ∨ x = 8 ∨ x = 9 ∨ x = 10 ∨ x = 11 ∨ x = 12 ∨ x = 13 := by omega
      rcases hcs with rfl | rfl | rfl | rfl | rfl | rfl | rfl | rfl | rfl | rfl | rfl | rfl | rfl | rfl
      · have hq : 0 < n.nodes.length := by omega
        (have := Nonempty.intro hq)
        (repeat' (first | refine swp_seq [0, 1, 2, 3, 4, 5, 7, 8, 18, 19, 20, 21] ?_ | refine st1 ?_ | (show Fct ..; refine fctI (fun hf => ?_)) | (show SWp _ _ _ (.region _ _ true) _ _ _ _; refine xG mixed [48, 144] ?_) | (show SWp _ _ _ (.cond _ _ _) _ _ _ _; first | (refine cB (fun hc => ?_) (fun hc => ?_) <;> first | exact False.elim hc | exact absurd hc Bool.false_ne_true | exact absurd hc.symm Bool.false_ne_true | skip) | refine cU ?_ ?_)))
        refine lR (H3 := ?H0) 296 144 [48, 296, 145, 146, 147, 148, 149, 150, 151, 152, 153, 154, 155, 156, 157] ?h0 (hH1 := ?u0) (eH := ?e0)
        case e0 =>
          (((simp only [push_cast, reduceIte, reduceDIte, reduceCtorEq, Nat.reduceLT, Nat.reduceLeDiff, Nat.reduceEqDiff, Nat.reduceAdd, Nat.reduceMul, Nat.reduceBEq, Nat.reducePow, Int.zero_add, Int.reduceAdd, Int.reduceSub, Int.reduceLT, Int.reduceLE, Int.reduceToNat, Int.reduceNeg, Nat.reduceSub, Int.reduceBNe, Int.reduceBEq]); repeat (simp (disch := omega) only [idx_nat, idx_mapT, i64w, rows_getS, rows_get, getD_set_self, famR_get]; try (simp only [push_cast, reduceIte, reduceDIte, reduceCtorEq, Nat.reduceLT, Nat.reduceLeDiff, Nat.reduceEqDiff, Nat.reduceAdd, Nat.reduceMul, Nat.reduceBEq, Nat.reducePow, Int.zero_add, Int.reduceAdd, Int.reduceSub, Int.reduceLT, Int.reduceLE, Int.reduceToNat, Int.reduceNeg, Nat.reduceSub, Int.reduceBNe, Int.reduceBEq]))))
          rw [famR_set_ren ⟨by omega, by omega, by omega⟩]
        case u0 =>
          refine ⟨⟨by omega, by omega⟩, famR_set_uses (by omega) ⟨by omega, by omega⟩ (fun j hj hne => ⟨by omega, by omega⟩), ?_⟩
          (exact SD)
        exact ⟨_, by omega, i + 1, by omega, rfl, rfl, by simp only [hst]; rfl⟩
      · have hq : 1 < n.nodes.length := by omega
        (have := Nonempty.intro hq)
        (repeat' (first | refine swp_seq [0, 1, 2, 3, 4, 5, 7, 8, 18, 19, 20, 21] ?_ | refine st1 ?_ | (show Fct ..; refine fctI (fun hf => ?_)) | (show SWp _ _ _ (.region _ _ true) _ _ _ _; refine xG mixed [48, 145] ?_) | (show SWp _ _ _ (.cond _ _ _) _ _ _ _; first | (refine cB (fun hc => ?_) (fun hc => ?_) <;> first | exact False.elim hc | exact absurd hc Bool.false_ne_true | exact absurd hc.symm Bool.false_ne_true | skip) | refine cU ?_ ?_)))
        refine lR (H3 := ?H1) 296 145 [48, 144, 296, 146, 147, 148, 149, 150, 151, 152, 153, 154, 155, 156, 157] ?h1 (hH1 := ?u1) (eH := ?e1)
        case e1 =>
          (((simp only [push_cast, reduceIte, reduceDIte, reduceCtorEq, Nat.reduceLT, Nat.reduceLeDiff, Nat.reduceEqDiff, Nat.reduceAdd, Nat.reduceMul, Nat.reduceBEq, Nat.reducePow, Int.zero_add, Int.reduceAdd, Int.reduceSub, Int.reduceLT, Int.reduceLE, Int.reduceToNat, Int.reduceNeg, Nat.reduceSub, Int.reduceBNe, Int.reduceBEq]); repeat (simp (disch := omega) only [idx_nat, idx_mapT, i64w, rows_getS, rows_get, getD_set_self, famR_get]; try (simp only [push_cast, reduceIte, reduceDIte, reduceCtorEq, Nat.reduceLT, Nat.reduceLeDiff, Nat.reduceEqDiff, Nat.reduceAdd, Nat.reduceMul, Nat.reduceBEq, Nat.reducePow, Int.zero_add, Int.reduceAdd, Int.reduceSub, Int.reduceLT, Int.reduceLE, Int.reduceToNat, Int.reduceNeg, Nat.reduceSub, Int.reduceBNe, Int.reduceBEq]))))
          rw [famR_set_ren ⟨by omega, by omega, by omega⟩]
        case u1 =>
          refine ⟨⟨by omega, by omega⟩, famR_set_uses (by omega) ⟨by omega, by omega⟩ (fun j hj hne => ⟨by omega, by omega⟩), ?_⟩
          (exact SD)
        exact ⟨_, by omega, i + 1, by omega, rfl, rfl, by simp only [hst]; rfl⟩
      · have hq : 2 < n.nodes.length := by omega
        (have := Nonempty.intro hq)
        (repeat' (first | refine swp_seq [0, 1, 2, 3, 4, 5, 7, 8, 18, 19, 20, 21] ?_ | refine st1 ?_ | (show Fct ..; refine fctI (fun hf => ?_)) | (show SWp _ _ _ (.region _ _ true) _ _ _ _; refine xG mixed [48, 146] ?_) | (show SWp _ _ _ (.cond _ _ _) _ _ _ _; first | (refine cB (fun hc => ?_) (fun hc => ?_) <;> first | exact False.elim hc | exact absurd hc Bool.false_ne_true | exact absurd hc.symm Bool.false_ne_true | skip) | refine cU ?_ ?_)))
        refine lR (H3 := ?H2) 296 146 [48, 144, 145, 296, 147, 148, 149, 150, 151, 152, 153, 154, 155, 156, 157] ?h2 (hH1 := ?u2) (eH := ?e2)
        case e2 =>
          (((simp only [push_cast, reduceIte, reduceDIte, reduceCtorEq, Nat.reduceLT, Nat.reduceLeDiff, Nat.reduceEqDiff, Nat.reduceAdd, Nat.reduceMul, Nat.reduceBEq, Nat.reducePow, Int.zero_add, Int.reduceAdd, Int.reduceSub, Int.reduceLT, Int.reduceLE, Int.reduceToNat, Int.reduceNeg, Nat.reduceSub, Int.reduceBNe, Int.reduceBEq]); repeat (simp (disch := omega) only [idx_nat, idx_mapT, i64w, rows_getS, rows_get, getD_set_self, famR_get]; try (simp only [push_cast, reduceIte, reduceDIte, reduceCtorEq, Nat.reduceLT, Nat.reduceLeDiff, Nat.reduceEqDiff, Nat.reduceAdd, Nat.reduceMul, Nat.reduceBEq, Nat.reducePow, Int.zero_add, Int.reduceAdd, Int.reduceSub, Int.reduceLT, Int.reduceLE, Int.reduceToNat, Int.reduceNeg, Nat.reduceSub, Int.reduceBNe, Int.reduceBEq]))))
          rw [famR_set_ren ⟨by omega, by omega, by omega⟩]
        case u2 =>
          refine ⟨⟨by omega, by omega⟩, famR_set_uses (by omega) ⟨by omega, by omega⟩ (fun j hj hne => ⟨by omega, by omega⟩), ?_⟩
          (exact SD)
        exact ⟨_, by omega, i + 1, by omega, rfl, rfl, by simp only [hst]; rfl⟩
      · have hq : 3 < n.nodes.length := by omega
        (have := Nonempty.intro hq)
        (repeat' (first | refine swp_seq [0, 1, 2, 3, 4, 5, 7, 8, 18, 19, 20, 21] ?_ | refine st1 ?_ | (show Fct ..; refine fctI (fun hf => ?_)) | (show SWp _ _ _ (.region _ _ true) _ _ _ _; refine xG mixed [48, 147] ?_) | (show SWp _ _ _ (.cond _ _ _) _ _ _ _; first | (refine cB (fun hc => ?_) (fun hc => ?_) <;> first | exact False.elim hc | exact absurd hc Bool.false_ne_true | exact absurd hc.symm Bool.false_ne_true | skip) | refine cU ?_ ?_)))
        refine lR (H3 := ?H3) 296 147 [48, 144, 145, 146, 296, 148, 149, 150, 151, 152, 153, 154, 155, 156, 157] ?h3 (hH1 := ?u3) (eH := ?e3)
        case e3 =>
          (((simp only [push_cast, reduceIte, reduceDIte, reduceCtorEq, Nat.reduceLT, Nat.reduceLeDiff, Nat.reduceEqDiff, Nat.reduceAdd, Nat.reduceMul, Nat.reduceBEq, Nat.reducePow, Int.zero_add, Int.reduceAdd, Int.reduceSub, Int.reduceLT, Int.reduceLE, Int.reduceToNat, Int.reduceNeg, Nat.reduceSub, Int.reduceBNe, Int.reduceBEq]); repeat (simp (disch := omega) only [idx_nat, idx_mapT, i64w, rows_getS, rows_get, getD_set_self, famR_get]; try (simp only [push_cast, reduceIte, reduceDIte, reduceCtorEq, Nat.reduceLT, Nat.reduceLeDiff, Nat.reduceEqDiff, Nat.reduceAdd, Nat.reduceMul, Nat.reduceBEq, Nat.reducePow, Int.zero_add, Int.reduceAdd, Int.reduceSub, Int.reduceLT, Int.reduceLE, Int.reduceToNat, Int.reduceNeg, Nat.reduceSub, Int.reduceBNe, Int.reduceBEq]))))
          rw [famR_set_ren ⟨by omega, by omega, by omega⟩]
        case u3 =>
          refine ⟨⟨by omega, by omega⟩, famR_set_uses (by omega) ⟨by omega, by omega⟩ (fun j hj hne => ⟨by omega, by omega⟩), ?_⟩
          (exact SD)
        exact ⟨_, by omega, i + 1, by omega, rfl, rfl, by simp only [hst]; rfl⟩
      · have hq : 4 < n.nodes.length := by omega
        (have := Nonempty.intro hq)
        (repeat' (first | refine swp_seq [0, 1, 2, 3, 4, 5, 7, 8, 18, 19, 20, 21] ?_ | refine st1 ?_ | (show Fct ..; refine fctI (fun hf => ?_)) | (show SWp _ _ _ (.region _ _ true) _ _ _ _; refine xG mixed [48, 148] ?_) | (show SWp _ _ _ (.cond _ _ _) _ _ _ _; first | (refine cB (fun hc => ?_) (fun hc => ?_) <;> first | exact False.elim hc | exact absurd hc Bool.false_ne_true | exact absurd hc.symm Bool.false_ne_true | skip) | refine cU ?_ ?_)))
        refine lR (H3 := ?H4) 296 148 [48, 144, 145, 146, 147, 296, 149, 150, 151, 152, 153, 154, 155, 156, 157] ?h4 (hH1 := ?u4) (eH := ?e4)
        case e4 =>
          (((simp only [push_cast, reduceIte, reduceDIte, reduceCtorEq, Nat.reduceLT, Nat.reduceLeDiff, Nat.reduceEqDiff, Nat.reduceAdd, Nat.reduceMul, Nat.reduceBEq, Nat.reducePow, Int.zero_add, Int.reduceAdd, Int.reduceSub, Int.reduceLT, Int.reduceLE, Int.reduceToNat, Int.reduceNeg, Nat.reduceSub, Int.reduceBNe, Int.reduceBEq]); repeat (simp (disch := omega) only [idx_nat, idx_mapT, i64w, rows_getS, rows_get, getD_set_self, famR_get]; try (simp only [push_cast, reduceIte, reduceDIte, reduceCtorEq, Nat.reduceLT, Nat.reduceLeDiff, Nat.reduceEqDiff, Nat.reduceAdd, Nat.reduceMul, Nat.reduceBEq, Nat.reducePow, Int.zero_add, Int.reduceAdd, Int.reduceSub, Int.reduceLT, Int.reduceLE, Int.reduceToNat, Int.reduceNeg, Nat.reduceSub, Int.reduceBNe, Int.reduceBEq]))))
          rw [famR_set_ren ⟨by omega, by omega, by omega⟩]
        case u4 =>
          refine ⟨⟨by omega, by omega⟩, famR_set_uses (by omega) ⟨by omega, by omega⟩ (fun j hj hne => ⟨by omega, by omega⟩), ?_⟩
          (exact SD)
        exact ⟨_, by omega, i + 1, by omega, rfl, rfl, by simp only [hst]; rfl⟩
      · have hq : 5 < n.nodes.length := by omega
        (have := Nonempty.intro hq)
        (repeat' (first | refine swp_seq [0, 1, 2, 3, 4, 5, 7, 8, 18, 19, 20, 21] ?_ | refine st1 ?_ | (show Fct ..; refine fctI (fun hf => ?_)) | (show SWp _ _ _ (.region _ _ true) _ _ _ _; refine xG mixed [48, 149] ?_) | (show SWp _ _ _ (.cond _ _ _) _ _ _ _; first | (refine cB (fun hc => ?_) (fun hc => ?_) <;> first | exact False.elim hc | exact absurd hc Bool.false_ne_true | exact absurd hc.symm Bool.false_ne_true | skip) | refine cU ?_ ?_)))
        refine lR (H3 := ?H5) 296 149 [48, 144, 145, 146, 147, 148, 296, 150, 151, 152, 153, 154, 155, 156, 157] ?h5 (hH1 := ?u5) (eH := ?e5)
        case e5 =>
          (((simp only [push_cast, reduceIte, reduceDIte, reduceCtorEq, Nat.reduceLT, Nat.reduceLeDiff, Nat.reduceEqDiff, Nat.reduceAdd, Nat.reduceMul, Nat.reduceBEq, Nat.reducePow, Int.zero_add, Int.reduceAdd, Int.reduceSub, Int.reduceLT, Int.reduceLE, Int.reduceToNat, Int.reduceNeg, Nat.reduceSub, Int.reduceBNe, Int.reduceBEq]); repeat (simp (disch := omega) only [idx_nat, idx_mapT, i64w, rows_getS, rows_get, getD_set_self, famR_get]; try (simp only [push_cast, reduceIte, reduceDIte, reduceCtorEq, Nat.reduceLT, Nat.reduceLeDiff, Nat.reduceEqDiff, Nat.reduceAdd, Nat.reduceMul, Nat.reduceBEq, Nat.reducePow, Int.zero_add, Int.reduceAdd, Int.reduceSub, Int.reduceLT, Int.reduceLE, Int.reduceToNat, Int.reduceNeg, Nat.reduceSub, Int.reduceBNe, Int.reduceBEq]))))
          rw [famR_set_ren ⟨by omega, by omega, by omega⟩]
        case u5 =>
          refine ⟨⟨by omega, by omega⟩, famR_set_uses (by omega) ⟨by omega, by omega⟩ (fun j hj hne => ⟨by omega, by omega⟩), ?_⟩
          (exact SD)
        exact ⟨_, by omega, i + 1, by omega, rfl, rfl, by simp only [hst]; rfl⟩
      · have hq : 6 < n.nodes.length := by omega
        (have := Nonempty.intro hq)
        (repeat' (first | refine swp_seq [0, 1, 2, 3, 4, 5, 7, 8, 18, 19, 20, 21] ?_ | refine st1 ?_ | (show Fct ..; refine fctI (fun hf => ?_)) | (show SWp _ _ _ (.region _ _ true) _ _ _ _; refine xG mixed [48, 150] ?_) | (show SWp _ _ _ (.cond _ _ _) _ _ _ _; first | (refine cB (fun hc => ?_) (fun hc => ?_) <;> first | exact False.elim hc | exact absurd hc Bool.false_ne_true | exact absurd hc.symm Bool.false_ne_true | skip) | refine cU ?_ ?_)))
        refine lR (H3 := ?H6) 296 150 [48, 144, 145, 146, 147, 148, 149, 296, 151, 152, 153, 154, 155, 156, 157] ?h6 (hH1 := ?u6) (eH := ?e6)
        case e6 =>
          (((simp only [push_cast, reduceIte, reduceDIte, reduceCtorEq, Nat.reduceLT, Nat.reduceLeDiff, Nat.reduceEqDiff, Nat.reduceAdd, Nat.reduceMul, Nat.reduceBEq, Nat.reducePow, Int.zero_add, Int.reduceAdd, Int.reduceSub, Int.reduceLT, Int.reduceLE, Int.reduceToNat, Int.reduceNeg, Nat.reduceSub, Int.reduceBNe, Int.reduceBEq]); repeat (simp (disch := omega) only [idx_nat, idx_mapT, i64w, rows_getS, rows_get, getD_set_self, famR_get]; try (simp only [push_cast, reduceIte, reduceDIte, reduceCtorEq, Nat.reduceLT, Nat.reduceLeDiff, Nat.reduceEqDiff, Nat.reduceAdd, Nat.reduceMul, Nat.reduceBEq, Nat.reducePow, Int.zero_add, Int.reduceAdd, Int.reduceSub, Int.reduceLT, Int.reduceLE, Int.reduceToNat, Int.reduceNeg, Nat.reduceSub, Int.reduceBNe, Int.reduceBEq]))))
          rw [famR_set_ren ⟨by omega, by omega, by omega⟩]
        case u6 =>
          refine ⟨⟨by omega, by omega⟩, famR_set_uses (by omega) ⟨by omega, by omega⟩ (fun j hj hne => ⟨by omega, by omega⟩), ?_⟩
          (exact SD)
        exact ⟨_, by omega, i + 1, by omega, rfl, rfl, by simp only [hst]; rfl⟩
      · have hq : 7 < n.nodes.length := by omega
        (have := Nonempty.intro hq)
        (repeat' (first | refine swp_seq [0, 1, 2, 3, 4, 5, 7, 8, 18, 19, 20, 21] ?_ | refine st1 ?_ | (show Fct ..; refine fctI (fun hf => ?_)) | (show SWp _ _ _ (.region _ _ true) _ _ _ _; refine xG mixed [48, 151] ?_) | (show SWp _ _ _ (.cond _ _ _) _ _ _ _; first | (refine cB (fun hc => ?_) (fun hc => ?_) <;> first | exact False.elim hc | exact absurd hc Bool.false_ne_true | exact absurd hc.symm Bool.false_ne_true | skip) | refine cU ?_ ?_)))
        refine lR (H3 := ?H7) 296 151 [48, 144, 145, 146, 147, 148, 149, 150, 296, 152, 153, 154, 155, 156, 157] ?h7 (hH1 := ?u7) (eH := ?e7)
        case e7 =>
          (((simp only [push_cast, reduceIte, reduceDIte, reduceCtorEq, Nat.reduceLT, Nat.reduceLeDiff, Nat.reduceEqDiff, Nat.reduceAdd, Nat.reduceMul, Nat.reduceBEq, Nat.reducePow, Int.zero_add, Int.reduceAdd, Int.reduceSub, Int.reduceLT, Int.reduceLE, Int.reduceToNat, Int.reduceNeg, Nat.reduceSub, Int.reduceBNe, Int.reduceBEq]); repeat (simp (disch := omega) only [idx_nat, idx_mapT, i64w, rows_getS, rows_get, getD_set_self, famR_get]; try (simp only [push_cast, reduceIte, reduceDIte, reduceCtorEq, Nat.reduceLT, Nat.reduceLeDiff, Nat.reduceEqDiff, Nat.reduceAdd, Nat.reduceMul, Nat.reduceBEq, Nat.reducePow, Int.zero_add, Int.reduceAdd, Int.reduceSub, Int.reduceLT, Int.reduceLE, Int.reduceToNat, Int.reduceNeg, Nat.reduceSub, Int.reduceBNe, Int.reduceBEq]))))
          rw [famR_set_ren ⟨by omega, by omega, by omega⟩]
        case u7 =>
          refine ⟨⟨by omega, by omega⟩, famR_set_uses (by omega) ⟨by omega, by omega⟩ (fun j hj hne => ⟨by omega, by omega⟩), ?_⟩
          (exact SD)
        exact ⟨_, by omega, i + 1, by omega, rfl, rfl, by simp only [hst]; rfl⟩
      · have hq : 8 < n.nodes.length := by omega
        (have := Nonempty.intro hq)
        (repeat' (first | refine swp_seq [0, 1, 2, 3, 4, 5, 7, 8, 18, 19, 20, 21] ?_ | refine st1 ?_ | (show Fct ..; refine fctI (fun hf => ?_)) | (show SWp _ _ _ (.region _ _ true) _ _ _ _; refine xG mixed [48, 152] ?_) | (show SWp _ _ _ (.cond _ _ _) _ _ _ _; first | (refine cB (fun hc => ?_) (fun hc => ?_) <;> first | exact False.elim hc | exact absurd hc Bool.false_ne_true | exact absurd hc.symm Bool.false_ne_true | skip) | refine cU ?_ ?_)))
        refine lR (H3 := ?H8) 296 152 [48, 144, 145, 146, 147, 148, 149, 150, 151, 296, 153, 154, 155, 156, 157] ?h8 (hH1 := ?u8) (eH := ?e8)
        case e8 =>
          (((simp only [push_cast, reduceIte, reduceDIte, reduceCtorEq, Nat.reduceLT, Nat.reduceLeDiff, Nat.reduceEqDiff, Nat.reduceAdd, Nat.reduceMul, Nat.reduceBEq, Nat.reducePow, Int.zero_add, Int.reduceAdd, Int.reduceSub, Int.reduceLT, Int.reduceLE, Int.reduceToNat, Int.reduceNeg, Nat.reduceSub, Int.reduceBNe, Int.reduceBEq]); repeat (simp (disch := omega) only [idx_nat, idx_mapT, i64w, rows_getS, rows_get, getD_set_self, famR_get]; try (simp only [push_cast, reduceIte, reduceDIte, reduceCtorEq, Nat.reduceLT, Nat.reduceLeDiff, Nat.reduceEqDiff, Nat.reduceAdd, Nat.reduceMul, Nat.reduceBEq, Nat.reducePow, Int.zero_add, Int.reduceAdd, Int.reduceSub, Int.reduceLT, Int.reduceLE, Int.reduceToNat, Int.reduceNeg, Nat.reduceSub, Int.reduceBNe, Int.reduceBEq]))))
          rw [famR_set_ren ⟨by omega, by omega, by omega⟩]
        case u8 =>
          refine ⟨⟨by omega, by omega⟩, famR_set_uses (by omega) ⟨by omega, by omega⟩ (fun j hj hne => ⟨by omega, by omega⟩), ?_⟩
          (exact SD)
        exact ⟨_, by omega, i + 1, by omega, rfl, rfl, by simp only [hst]; rfl⟩
      · have hq : 9 < n.nodes.length := by omega
        (have := Nonempty.intro hq)
        (repeat' (first | refine swp_seq [0, 1, 2, 3, 4, 5, 7, 8, 18, 19, 20, 21] ?_ | refine st1 ?_ | (show Fct ..; refine fctI (fun hf => ?_)) | (show SWp _ _ _ (.region _ _ true) _ _ _ _; refine xG mixed [48, 153] ?_) | (show SWp _ _ _ (.cond _ _ _) _ _ _ _; first | (refine cB (fun hc => ?_) (fun hc => ?_) <;> first | exact False.elim hc | exact absurd hc Bool.false_ne_true | exact absurd hc.symm Bool.false_ne_true | skip) | refine cU ?_ ?_)))
        refine lR (H3 := ?H9) 296 153 [48, 144, 145, 146, 147, 148, 149, 150, 151, 152, 296, 154, 155, 156, 157] ?h9 (hH1 := ?u9) (eH := ?e9)
        case e9 =>
          (((simp only [push_cast, reduceIte, reduceDIte, reduceCtorEq, Nat.reduceLT, Nat.reduceLeDiff, Nat.reduceEqDiff, Nat.reduceAdd, Nat.reduceMul, Nat.reduceBEq, Nat.reducePow, Int.zero_add, Int.reduceAdd, Int.reduceSub, Int.reduceLT, Int.reduceLE, Int.reduceToNat, Int.reduceNeg, Nat.reduceSub, Int.reduceBNe, Int.reduceBEq]); repeat (simp (disch := omega) only [idx_nat, idx_mapT, i64w, rows_getS, rows_get, getD_set_self, famR_get]; try (simp only [push_cast, reduceIte, reduceDIte, reduceCtorEq, Nat.reduceLT, Nat.reduceLeDiff, Nat.reduceEqDiff, Nat.reduceAdd, Nat.reduceMul, Nat.reduceBEq, Nat.reducePow, Int.zero_add, Int.reduceAdd, Int.reduceSub, Int.reduceLT, Int.reduceLE, Int.reduceToNat, Int.reduceNeg, Nat.reduceSub, Int.reduceBNe, Int.reduceBEq]))))
          rw [famR_set_ren ⟨by omega, by omega, by omega⟩]
        case u9 =>
          refine ⟨⟨by omega, by omega⟩, famR_set_uses (by omega) ⟨by omega, by omega⟩ (fun j hj hne => ⟨by omega, by omega⟩), ?_⟩
          (exact SD)
        exact ⟨_, by omega, i + 1, by omega, rfl, rfl, by simp only [hst]; rfl⟩
      · have hq : 10 < n.nodes.length := by omega
        (have := Nonempty.intro hq)
        (repeat' (first | refine swp_seq [0, 1, 2, 3, 4, 5, 7, 8, 18, 19, 20, 21] ?_ | refine st1 ?_ | (show Fct ..; refine fctI (fun hf => ?_)) | (show SWp _ _ _ (.region _ _ true) _ _ _ _; refine xG mixed [48, 154] ?_) | (show SWp _ _ _ (.cond _ _ _) _ _ _ _; first | (refine cB (fun hc => ?_) (fun hc => ?_) <;> first | exact False.elim hc | exact absurd hc Bool.false_ne_true | exact absurd hc.symm Bool.false_ne_true | skip) | refine cU ?_ ?_)))
        refine lR (H3 := ?H10) 296 154 [48, 144, 145, 146, 147, 148, 149, 150, 151, 152, 153, 296, 155, 156, 157] ?h10 (hH1 := ?u10) (eH := ?e10)
        case e10 =>
          (((simp only [push_cast, reduceIte, reduceDIte, reduceCtorEq, Nat.reduceLT, Nat.reduceLeDiff, Nat.reduceEqDiff, Nat.reduceAdd, Nat.reduceMul, Nat.reduceBEq, Nat.reducePow, Int.zero_add, Int.reduceAdd, Int.reduceSub, Int.reduceLT, Int.reduceLE, Int.reduceToNat, Int.reduceNeg, Nat.reduceSub, Int.reduceBNe, Int.reduceBEq]); repeat (simp (disch := omega) only [idx_nat, idx_mapT, i64w, rows_getS, rows_get, getD_set_self, famR_get]; try (simp only [push_cast, reduceIte, reduceDIte, reduceCtorEq, Nat.reduceLT, Nat.reduceLeDiff, Nat.reduceEqDiff, Nat.reduceAdd, Nat.reduceMul, Nat.reduceBEq, Nat.reducePow, Int.zero_add, Int.reduceAdd, Int.reduceSub, Int.reduceLT, Int.reduceLE, Int.reduceToNat, Int.reduceNeg, Nat.reduceSub, Int.reduceBNe, Int.reduceBEq]))))
          rw [famR_set_ren ⟨by omega, by omega, by omega⟩]
        case u10 =>
          refine ⟨⟨by omega, by omega⟩, famR_set_uses (by omega) ⟨by omega, by omega⟩ (fun j hj hne => ⟨by omega, by omega⟩), ?_⟩
          (exact SD)
        exact ⟨_, by omega, i + 1, by omega, rfl, rfl, by simp only [hst]; rfl⟩
      · have hq : 11 < n.nodes.length := by omega
        (have := Nonempty.intro hq)
        (repeat' (first | refine swp_seq [0, 1, 2, 3, 4, 5, 7, 8, 18, 19, 20, 21] ?_ | refine st1 ?_ | (show Fct ..; refine fctI (fun hf => ?_)) | (show SWp _ _ _ (.region _ _ true) _ _ _ _; refine xG mixed [48, 155] ?_) | (show SWp _ _ _ (.cond _ _ _) _ _ _ _; first | (refine cB (fun hc => ?_) (fun hc => ?_) <;> first | exact False.elim hc | exact absurd hc Bool.false_ne_true | exact absurd hc.symm Bool.false_ne_true | skip) | refine cU ?_ ?_)))
        refine lR (H3 := ?H11) 296 155 [48, 144, 145, 146, 147, 148, 149, 150, 151, 152, 153, 154, 296, 156, 157] ?h11 (hH1 := ?u11) (eH := ?e11)
        case e11 =>
          (((simp only [push_cast, reduceIte, reduceDIte, reduceCtorEq, Nat.reduceLT, Nat.reduceLeDiff, Nat.reduceEqDiff, Nat.reduceAdd, Nat.reduceMul, Nat.reduceBEq, Nat.reducePow, Int.zero_add, Int.reduceAdd, Int.reduceSub, Int.reduceLT, Int.reduceLE, Int.reduceToNat, Int.reduceNeg, Nat.reduceSub, Int.reduceBNe, Int.reduceBEq]); repeat (simp (disch := omega) only [idx_nat, idx_mapT, i64w, rows_getS, rows_get, getD_set_self, famR_get]; try (simp only [push_cast, reduceIte, reduceDIte, reduceCtorEq, Nat.reduceLT, Nat.reduceLeDiff, Nat.reduceEqDiff, Nat.reduceAdd, Nat.reduceMul, Nat.reduceBEq, Nat.reducePow, Int.zero_add, Int.reduceAdd, Int.reduceSub, Int.reduceLT, Int.reduceLE, Int.reduceToNat, Int.reduceNeg, Nat.reduceSub, Int.reduceBNe, Int.reduceBEq]))))
          rw [famR_set_ren ⟨by omega, by omega, by omega⟩]
        case u11 =>
          refine ⟨⟨by omega, by omega⟩, famR_set_uses (by omega) ⟨by omega, by omega⟩ (fun j hj hne => ⟨by omega, by omega⟩), ?_⟩
          (exact SD)
        exact ⟨_, by omega, i + 1, by omega, rfl, rfl, by simp only [hst]; rfl⟩
      · have hq : 12 < n.nodes.length := by omega
        (have := Nonempty.intro hq)
        (repeat' (first | refine swp_seq [0, 1, 2, 3, 4, 5, 7, 8, 18, 19, 20, 21] ?_ | refine st1 ?_ | (show Fct ..; refine fctI (fun hf => ?_)) | (show SWp _ _ _ (.region _ _ true) _ _ _ _; refine xG mixed [48, 156] ?_) | (show SWp _ _ _ (.cond _ _ _) _ _ _ _; first | (refine cB (fun hc => ?_) (fun hc => ?_) <;> first | exact False.elim hc | exact absurd hc Bool.false_ne_true | exact absurd hc.symm Bool.false_ne_true | skip) | refine cU ?_ ?_)))
        refine lR (H3 := ?H12) 296 156 [48, 144, 145, 146, 147, 148, 149, 150, 151, 152, 153, 154, 155, 296, 157] ?h12 (hH1 := ?u12) (eH := ?e12)
        case e12 =>
          (((simp only [push_cast, reduceIte, reduceDIte, reduceCtorEq, Nat.reduceLT, Nat.reduceLeDiff, Nat.reduceEqDiff, Nat.reduceAdd, Nat.reduceMul, Nat.reduceBEq, Nat.reducePow, Int.zero_add, Int.reduceAdd, Int.reduceSub, Int.reduceLT, Int.reduceLE, Int.reduceToNat, Int.reduceNeg, Nat.reduceSub, Int.reduceBNe, Int.reduceBEq]); repeat (simp (disch := omega) only [idx_nat, idx_mapT, i64w, rows_getS, rows_get, getD_set_self, famR_get]; try (simp only [push_cast, reduceIte, reduceDIte, reduceCtorEq, Nat.reduceLT, Nat.reduceLeDiff, Nat.reduceEqDiff, Nat.reduceAdd, Nat.reduceMul, Nat.reduceBEq, Nat.reducePow, Int.zero_add, Int.reduceAdd, Int.reduceSub, Int.reduceLT, Int.reduceLE, Int.reduceToNat, Int.reduceNeg, Nat.reduceSub, Int.reduceBNe, Int.reduceBEq]))))
          rw [famR_set_ren ⟨by omega, by omega, by omega⟩]
        case u12 =>
          refine ⟨⟨by omega, by omega⟩, famR_set_uses (by omega) ⟨by omega, by omega⟩ (fun j hj hne => ⟨by omega, by omega⟩), ?_⟩
          (exact SD)
        exact ⟨_, by omega, i + 1, by omega, rfl, rfl, by simp only [hst]; rfl⟩
      · have hq : 13 < n.nodes.length := by omega
        (have := Nonempty.intro hq)
        (repeat' (first | refine swp_seq [0, 1, 2, 3, 4, 5, 7, 8, 18, 19, 20, 21] ?_ | refine st1 ?_ | (show Fct ..; refine fctI (fun hf => ?_)) | (show SWp _ _ _ (.region _ _ true) _ _ _ _; refine xG mixed [48, 157] ?_) | (show SWp _ _ _ (.cond _ _ _) _ _ _ _; first | (refine cB (fun hc => ?_) (fun hc => ?_) <;> first | exact False.elim hc | exact absurd hc Bool.false_ne_true | exact absurd hc.symm Bool.false_ne_true | skip) | refine cU ?_ ?_)))
        refine lR (H3 := ?H13) 296 157 [48, 144, 145, 146, 147, 148, 149, 150, 151, 152, 153, 154, 155, 156, 296] ?h13 (hH1 := ?u13) (eH := ?e13)
        case e13 =>
          (((simp only [push_cast, reduceIte, reduceDIte, reduceCtorEq, Nat.reduceLT, Nat.reduceLeDiff, Nat.reduceEqDiff, Nat.reduceAdd, Nat.reduceMul, Nat.reduceBEq, Nat.reducePow, Int.zero_add, Int.reduceAdd, Int.reduceSub, Int.reduceLT, Int.reduceLE, Int.reduceToNat, Int.reduceNeg, Nat.reduceSub, Int.reduceBNe, Int.reduceBEq]); repeat (simp (disch := omega) only [idx_nat, idx_mapT, i64w, rows_getS, rows_get, getD_set_self, famR_get]; try (simp only [push_cast, reduceIte, reduceDIte, reduceCtorEq, Nat.reduceLT, Nat.reduceLeDiff, Nat.reduceEqDiff, Nat.reduceAdd, Nat.reduceMul, Nat.reduceBEq, Nat.reducePow, Int.zero_add, Int.reduceAdd, Int.reduceSub, Int.reduceLT, Int.reduceLE, Int.reduceToNat, Int.reduceNeg, Nat.reduceSub, Int.reduceBNe, Int.reduceBEq]))))
          rw [famR_set_ren ⟨by omega, by omega, by omega⟩]
        case u13 =>
          refine ⟨⟨by omega, by omega⟩, famR_set_uses (by omega) ⟨by omega, by omega⟩ (fun j hj hne => ⟨by omega, by omega⟩), ?_⟩
          (exact SD)
        exact ⟨_, by omega, i + 1, by omega, rfl, rfl, by simp only [hst]; rfl⟩
    · omega
  have hi2 : i = n.links.length := by omega
  subst hi2
  refine swp_hkeep (48 :: List.range' 144 n.nodes.length) (fam_to (fun q => outK n q n.links.length) _ _ h14) ?_
  have hlen : (outsL n).length = n.nodes.length := by simp [outsL]
  change SWp _ _ _ _ _ _ ((48, .lst 26 1 (famR 144 n.nodes.length)) :: famH inRow 3 1 144 (outsL n)) _
  rw [show famR 144 n.nodes.length = List.map (datRow inRow 1) [] ++ famR 144 (outsL n).length by rw [hlen]; rfl]
  refine swp_famfrz inRow 48 1 26 3 (outsL n) [] 144 (by omega) (by omega) (fun j x h1 h2 => ?_) ?_
  · simp only [efrz, DV.frz]
    rw [if_neg (by omega)]
    rfl
  · rw [List.nil_append, ilRows]
    (repeat' (first | refine swp_seq [0, 1, 2, 3, 4, 5, 7, 8, 18, 19, 20, 21] ?_ | refine st1 ?_ | (show Fct ..; refine fctI (fun hf => ?_)) | (show SWp _ _ _ (.region _ _ true) _ _ _ _; refine xG mixed [] ?_) | (show SWp _ _ _ (.cond _ _ _) _ _ _ _; first | (refine cB (fun hc => ?_) (fun hc => ?_) <;> first | exact False.elim hc | exact absurd hc Bool.false_ne_true | exact absurd hc.symm Bool.false_ne_true | skip) | refine cU ?_ ?_)))
    · omega
    (((simp only [push_cast, reduceIte, reduceDIte, reduceCtorEq, Nat.reduceLT, Nat.reduceLeDiff, Nat.reduceEqDiff, Nat.reduceAdd, Nat.reduceMul, Nat.reduceBEq, Nat.reducePow, Int.zero_add, Int.reduceAdd, Int.reduceSub, Int.reduceLT, Int.reduceLE, Int.reduceToNat, Int.reduceNeg, Nat.reduceSub, Int.reduceBNe, Int.reduceBEq]); repeat (simp (disch := omega) only [idx_nat, idx_mapT, i64w, rows_getS, rows_get, getD_set_self, famR_get]; try (simp only [push_cast, reduceIte, reduceDIte, reduceCtorEq, Nat.reduceLT, Nat.reduceLeDiff, Nat.reduceEqDiff, Nat.reduceAdd, Nat.reduceMul, Nat.reduceBEq, Nat.reducePow, Int.zero_add, Int.reduceAdd, Int.reduceSub, Int.reduceLT, Int.reduceLE, Int.reduceToNat, Int.reduceNeg, Nat.reduceSub, Int.reduceBNe, Int.reduceBEq]))))
    all_goals rfl
def gN : Net := ⟨[⟨⟨#[116]⟩, 2, ⟨0, 0⟩, 0, 1000, [⟨0, 0⟩, ⟨1000, 5000⟩], false, 0⟩, ⟨⟨#[97]⟩, 3, ⟨0, 0⟩, 0, 0, [], false, 0⟩, ⟨⟨#[98]⟩, 3, ⟨0, 0⟩, 0, 0, [], false, 0⟩],
  [⟨⟨#[120]⟩, ⟨#[116]⟩, ⟨#[97]⟩, 2, 0, 100, 0, .empty, 50, 0, []⟩, ⟨⟨#[121]⟩, ⟨#[116]⟩, ⟨#[98]⟩, 2, 0, 100, 0, .empty, 50, 0, []⟩]⟩
theorem gN_valid : netB gN = true := by decide +kernel
theorem gN_outs : outsL gN = [[0, 1], [], []] := by decide +kernel
def nilP : PV := .lit (.slice none 0 0)
set_option maxRecDepth 20000 in
set_option maxHeartbeats 8000000 in
theorem example_0 (m : Nat) : DCalls Try.prog 19 [] (hget []) m (.agg ([.dat 9 [nodeP (gN.nodes.getD 0 default), (nodeP (gN.nodes.getD 1 default)).set 6 nilP, (nodeP (gN.nodes.getD 2 default)).set 6 nilP], .dat 11 [(linkP (gN.links.getD 0 default)).set 10 nilP, (linkP (gN.links.getD 1 default)).set 10 nilP]].map .p)) (hget []) := by
  refine pureC (n := 12) (rs := [.cell 0 25]) (ts := [25]) Try.func19 rfl (by decide) [24, 56, 80] (by (exact SD)) ?_
  (repeat' (first | refine swp_seq [0] ?_ | refine st1 ?_ | (show Fct ..; refine fctI (fun hf => ?_)) | (show SWp _ _ _ (.region _ _ true) _ _ _ _; refine xG mixed [] ?_) | (show SWp _ _ _ (.cond _ _ _) _ _ _ _; first | (refine cB (fun hc => ?_) (fun hc => ?_) <;> first | exact False.elim hc | exact absurd hc Bool.false_ne_true | exact absurd hc.symm Bool.false_ne_true | skip) | refine cU ?_ ?_)))
  (((simp only [push_cast, reduceIte, reduceDIte, reduceCtorEq, Nat.reduceLT, Nat.reduceLeDiff, Nat.reduceEqDiff, Nat.reduceAdd, Nat.reduceMul, Nat.reduceBEq, Nat.reducePow, Int.zero_add, Int.reduceAdd, Int.reduceSub, Int.reduceLT, Int.reduceLE, Int.reduceToNat, Int.reduceNeg, Nat.reduceSub, Int.reduceBNe, Int.reduceBEq]); repeat (simp (disch := omega) only [idx_nat, idx_mapT, i64w, rows_getS, rows_get, getD_set_self, famR_get]; try (simp only [push_cast, reduceIte, reduceDIte, reduceCtorEq, Nat.reduceLT, Nat.reduceLeDiff, Nat.reduceEqDiff, Nat.reduceAdd, Nat.reduceMul, Nat.reduceBEq, Nat.reducePow, Int.zero_add, Int.reduceAdd, Int.reduceSub, Int.reduceLT, Int.reduceLE, Int.reduceToNat, Int.reduceNeg, Nat.reduceSub, Int.reduceBNe, Int.reduceBEq]))))
  all_goals rfl
theorem example_f (m : Nat) : DCalls Try.prog 19 [] (hget []) m (netD gN) (hget []) := by
  have h := (example_0 m).weakenAgg (b := netP gN) (by repeat' (first | exact PLe.rfl | exact PLe.nil _ | exact PLeL.nil | exact PLeR.nil | exact rfl | (show PLeL (_ :: _) _; refine PLeL.cons ?_ ?_) | (show PLeR _ (_ :: _) _; refine PLeR.cons ?_ rfl ?_) | refine PLe.rows ?_))
  exact h

end Go.Proofs.Ytlbadfjonhgppaa
