/-
  Contracts of functions of the program, over the engine.
  No condition.
-/
import Derived.Test.YthacnhidipeckaaGreatCZ1Z2Z7
namespace Go.Proofs.YthacnhidipeckaaGreat
open Go.Eng
set_option linter.all false
attribute [local irreducible] DCallsG SWp Fct CallQ XCallQ LCallQ XLCallQ drun xrun
theorem rows_noC (l : List Node) (x : Node) : rows nodeP l ++ [nodeC x] = rows nodeP (l ++ [x]) := rows_app nodeP l [x]
theorem rows_liC (l : List Link) (x : Link) : rows linkP l ++ [linkC x] = rows linkP (l ++ [x]) := rows_app linkP l [x]
theorem cells_noC (x : Node) : CellsB (nodeC x) = True := by
  refine propext ⟨fun _ => trivial, fun _ d hd => ?_⟩
  simp only [nodeC, List.mem_cons, List.not_mem_nil, or_false] at hd
  rcases hd with rfl | rfl | rfl | rfl | rfl | rfl | rfl | rfl | rfl <;> rfl
theorem cells_liC (x : Link) : CellsB (linkC x) = True := by
  refine propext ⟨fun _ => trivial, fun _ d hd => ?_⟩
  simp only [linkC, List.mem_cons, List.not_mem_nil, or_false] at hd
  rcases hd with rfl | rfl | rfl | rfl | rfl | rfl | rfl | rfl | rfl | rfl | rfl <;> rfl
theorem linkC_n1 (x : Link) (s : ByteArray) : DV.p (.lit (.string s)) :: (linkC x).drop 1 = linkC (renLi x s x.fro x.til) := rfl
theorem linkC_n2 (x : Link) (a b c s : ByteArray) : DV.p (.lit (.string (renLi x a b c).name)) :: DV.p (.lit (.string s)) :: (linkC (renLi x a b c)).drop 2 = linkC (renLi x a s c) := rfl
theorem linkC_n3 (x : Link) (a b c s : ByteArray) : List.take 2 (linkC (renLi x a b c)) ++ [DV.p (.lit (.string s))] ++ List.drop 3 (linkC (renLi x a b c)) = linkC (renLi x a b s) := rfl
theorem i64_okI {n : Int} [h : Nonempty (-9223372036854775808 ≤ n ∧ n ≤ 9223372036854775807)] : IntKind.i64.wrap n = n := h.elim fun h => i64w h
section
attribute [local push_cast] i64_okI
attribute [local push_cast] linkC_n1 linkC_n2 linkC_n3
attribute [local push_cast] nodeC_nm rows_noC rows_liC cells_noC cells_liC
set_option maxRecDepth 20000 in
set_option maxHeartbeats 64000000 in
theorem parts_go (n : Net) (l : List Sect) (s t : Sta) (i1 i2 : List Int) (sec : Int) (m : Nat) (no : netOk n) (co : catOk l) (so : staOk s) (to : staOk t) (hi : intsOk i1) (hj : intsOk i2) (hL : largeB n = false) (h7 : ¬ (7 : Int) < (n.nodes.length : Int)) (h8 : ¬ (7 : Int) < (n.links.length : Int)) (hM : manyB l = false) (hG : longB s [i1, i2] = false) (hH : longB t [] = false) (e1 : stepE n l s i1 sec = 0) (e2 : stepE n l t i2 sec = 0) : DCalls Tryz.prog 3 [netD n, sectL l, staD s, staD t, ints i1, ints i2, li sec] (hget []) m (lb true) (hget []) := by
  have hil := hi.1
  have hjl := hj.1
  have eL := fun m => large_f n m no
  have eM := fun m => many_f l m co
  have eG := fun m => long_f s [i1, i2] m so (by simp) (fun x hx => by
    simp only [List.mem_cons, List.not_mem_nil, or_false] at hx
    rcases hx with rfl | rfl
    · exact hil
    · exact hjl)
  have eH := fun m => long_f t [] m to (by simp) (fun x hx => by cases hx)
  simp only [hL] at eL
  simp only [hM] at eM
  simp only [hG] at eG
  simp only [hH] at eH
  (have := Nonempty.intro h7)
  (have := Nonempty.intro h8)
  have h14 : n.nodes.length ≤ 14 := by omega
  have kkS := fun m => Step_f n l s i1 sec m no co so hil h14
  have kkT := fun m => Step_f n l t i2 sec m no co to hjl h14
  rw [stepR_good e1] at kkS
  rw [stepR_good e2] at kkT
  obtain ⟨S, f1, g1⟩ := stepE_0 no co e1
  obtain ⟨T, f2, g2⟩ := stepE_0 no co e2
  have soS := staOk_of S.nb (S.fin f1 g1)
  have soT := staOk_of T.nb (T.fin f2 g2)
  have kn := fun m => cloneNo_f n.nodes m (by omega)
  have kl := fun m => cloneLi_f n.links m (by omega)
  have kz := fun s m hs => nmz_f s m hs
  have pok := parN_ok no (by omega) (by omega)
  have kv := fun m => rNetValid_f (parN nmZ n) m pok
  have hpar := fun mb => par_step (z := nmZ) pok mb S T f1 f2 g1 g2
  have hzn := fun i (h : i < n.nodes.length) => nodZ_snoc n h
  have hzl := fun i (h : i < n.links.length) => lnkZ_snoc n h
  have hn0 : nodZ n 0 = n.nodes := by unfold nodZ; rw [List.take_zero]; exact List.append_nil _
  have hl0 : lnkZ n 0 = n.links := by unfold lnkZ; rw [List.take_zero]; exact List.append_nil _
  have hpz := parN_Z n
  obtain ⟨bS1, bS2, bS3⟩ := ledg_in S f1 (by omega) (by omega)
  obtain ⟨bT1, bT2, bT3⟩ := ledg_in T f2 (by omega) (by omega)
  have SF := S.fin f1 g1
  have TF := T.fin f2 g2
  obtain ⟨y1, y2, y3, y4⟩ := lensB_of (staB_in S.nb SF).1
  obtain ⟨v1, v2, v3, v4⟩ := lensB_of (staB_in T.nb TF).1
  generalize stepS n l s i1 sec = SS at *
  generalize stepS n l t i2 sec = TT at *
  generalize stepL n l s i1 sec = LS at *
  generalize stepL n l t i2 sec = LT at *
  refine pureC (n := 246) (rs := [.tmp 14]) (ts := [4]) Tryz.func3 rfl (by decide) [] (by (exact SD)) ?_
  (repeat' (first | refine swp_seq [0, 1, 2, 3, 4, 5, 6, 7, 9, 10, 14, 15, 16, 17, 18, 19, 20, 21, 22, 24, 26, 27, 28, 29, 30, 31, 33, 62, 88, 97, 98, 99, 100, 116, 117, 118, 119, 146, 186] ?_ | (show SWp _ _ _ (.region _ _ true) _ _ _ _; refine xG mixed [624] ?_) | refine st2 ?_ | (show CallQ ..; first | refine cQ (fun hcc => (by first | exact awake_f _ | exact eL _ | exact eM _ | exact eG _ | exact eH _ | exact kkS _ | exact kkT _ | exact kn _ | exact kl _)) ?_ | (refine lP ?_; refine lQ (fun hcc m => (by first | exact awake_f _ | exact eL _ | exact eM _ | exact eG _ | exact eH _ | exact kkS _ | exact kkT _ | exact kn _ | exact kl _)) ?_)) | (show XCallQ ..; first | refine xQ (fun hcc => (by first | exact awake_f _ | exact eL _ | exact eM _ | exact eG _ | exact eH _ | exact kkS _ | exact kkT _ | exact kn _ | exact kl _)) ?_ | (refine xlP ?_; refine xlQ (fun hcc m => (by first | exact awake_f _ | exact eL _ | exact eM _ | exact eG _ | exact eH _ | exact kkS _ | exact kkT _ | exact kn _ | exact kl _)) ?_)) | (show Fct ..; refine fctI (fun hf => ?_)) | (show SWp _ _ _ (.cond _ _ _) _ _ _ _; first | refine cB (fun hc => ?_) (fun hc => ?_) | refine cU ?_ ?_)))
  refine loop_swp [1, 4, 5, 6, 7, 9, 10, 15, 16, 18, 19, 21, 22, 97, 98, 99] [0, 8, 16, 360, 368, 480, 488, 584, 608, 624] 680 (fun q A H => ∃ i : Nat, i ≤ n.nodes.length ∧ q = n.nodes.length - i ∧ A = [(1, sectL l), (4, ints i1), (5, ints i2), (6, li sec), (7, .ptr 0 0), (9, .ptr 8 0), (10, .ptr 16 0), (15, .ptr 360 0), (16, .ptr 368 0), (18, .ptr 480 0), (19, .ptr 488 0), (21, .ptr 624 0), (22, .clo 17 []), (97, nodeL n.nodes), (98, li n.nodes.length), (99, li i)] ∧ H = [(0, .blk 25 (netC n)), (8, .blk 30 (staC s)), (16, .blk 30 (staC t)), (360, .blk 30 (staC SS)), (368, .blk 36 (ledgC LS)), (480, .blk 30 (staC TT)), (488, .blk 36 (ledgC LT)), (584, nodeLt (nodZ n i)), (608, linkLt n.links), (624, .blk 25 [.gl 584, .gl 608])]) (by omega) ?_ ?_ ?_
  · rintro q A H ⟨i, g1, g2, rfl, rfl⟩
    exact ⟨by (exact SD), by (exact SD)⟩
  · refine ⟨_, 0, by omega, rfl, ?_, ?_⟩
    · exact DVR
    · rw [hn0]
      exact DVR
  rintro q A H ⟨i, g1, g2, rfl, rfl⟩
  by_cases hin : i < n.nodes.length
  · have hi3 : (i : Int) < (n.nodes.length : Int) := by omega
    have hnx := hzn _ hin
    have hxs := (no.1.2 _ (getD_mem hin)).1
    have kz := fun m => nmz_f (n.nodes.getD i default).name m hxs
    have hlz : (nodZ n i).length ≤ 14 := by unfold nodZ; rw [List.length_append, List.length_map, List.length_take]; omega
    generalize nodZ n i = X at *
    (have := Nonempty.intro hin)
    (have := Nonempty.intro hi3)
    (repeat' (first | refine swp_seq [0, 1, 2, 3, 4, 5, 6, 7, 9, 10, 14, 15, 16, 17, 18, 19, 20, 21, 22, 24, 26, 27, 28, 29, 30, 31, 33, 62, 88, 97, 98, 99, 100, 116, 117, 118, 119, 146, 186] ?_ | refine st2 ?_ | (show CallQ ..; first | refine cQ (fun hcc => (by first | exact kz _)) ?_ | (refine lP ?_; refine lQ (fun hcc m => (by first | exact kz _)) ?_)) | (show XCallQ ..; first | refine xQ (fun hcc => (by first | exact kz _)) ?_ | (refine xlP ?_; refine xlQ (fun hcc m => (by first | exact kz _)) ?_)) | (show Fct ..; refine fctI (fun hf => ?_)) | (show SWp _ _ _ (.cond _ _ _) _ _ _ _; first | refine cB (fun hc => ?_) (fun hc => ?_) | refine cU ?_ ?_)))
    (refine lN [0, 8, 16, 360, 368, 480, 488, 584, 608, 624] ?_)
    exact ⟨_, by omega, i + 1, by omega, rfl, rfl, by rw [hnx]⟩
  obtain rfl : i = n.nodes.length := by omega
  have hi3 : ¬ ((n.nodes.length : Int) < (n.nodes.length : Int)) := by omega
  (have := Nonempty.intro hi3)
  generalize hX : nodZ n n.nodes.length = X at *
  (repeat' (first | refine swp_seq [0, 1, 2, 3, 4, 5, 6, 7, 9, 10, 14, 15, 16, 17, 18, 19, 20, 21, 22, 24, 26, 27, 28, 29, 30, 31, 33, 62, 88, 97, 98, 99, 100, 116, 117, 118, 119, 146, 186] ?_ | refine st2 ?_ | (show Fct ..; refine fctI (fun hf => ?_)) | (show SWp _ _ _ (.cond _ _ _) _ _ _ _; first | refine cB (fun hc => ?_) (fun hc => ?_) | refine cU ?_ ?_)))
  refine loop_swp [1, 4, 5, 6, 7, 9, 10, 15, 16, 18, 19, 21, 22, 116, 117, 118] [0, 8, 16, 360, 368, 480, 488, 584, 608, 624] 712 (fun q A H => ∃ i : Nat, i ≤ n.links.length ∧ q = n.links.length - i ∧ A = [(1, sectL l), (4, ints i1), (5, ints i2), (6, li sec), (7, .ptr 0 0), (9, .ptr 8 0), (10, .ptr 16 0), (15, .ptr 360 0), (16, .ptr 368 0), (18, .ptr 480 0), (19, .ptr 488 0), (21, .ptr 624 0), (22, .clo 17 []), (116, linkL n.links), (117, li n.links.length), (118, li i)] ∧ H = [(0, .blk 25 (netC n)), (8, .blk 30 (staC s)), (16, .blk 30 (staC t)), (360, .blk 30 (staC SS)), (368, .blk 36 (ledgC LS)), (480, .blk 30 (staC TT)), (488, .blk 36 (ledgC LT)), (584, nodeLt X), (608, linkLt (lnkZ n i)), (624, .blk 25 [.gl 584, .gl 608])]) (by omega) ?_ ?_ ?_
  · rintro q A H ⟨i, g1, g2, rfl, rfl⟩
    exact ⟨by (exact SD), by (exact SD)⟩
  · refine ⟨_, 0, by omega, rfl, ?_, ?_⟩
    · exact DVR
    · rw [hl0]
      exact DVR
  rintro q A H ⟨i, g1, g2, rfl, rfl⟩
  by_cases hin : i < n.links.length
  · have hi3 : (i : Int) < (n.links.length : Int) := by omega
    have hnx := hzl _ hin
    have hxs := no.2.2 _ (getD_mem hin)
    have kz1 := fun m => nmz_f (n.links.getD i default).name m hxs.1
    have kz2 := fun m => nmz_f (n.links.getD i default).fro m hxs.2.1
    have kz3 := fun m => nmz_f (n.links.getD i default).til m hxs.2.2.1
    have hlz : (lnkZ n i).length ≤ 14 := by unfold lnkZ; rw [List.length_append, List.length_map, List.length_take]; omega
    generalize lnkZ n i = Y at *
    (have := Nonempty.intro hin)
    (have := Nonempty.intro hi3)
    (repeat' (first | refine swp_seq [0, 1, 2, 3, 4, 5, 6, 7, 9, 10, 14, 15, 16, 17, 18, 19, 20, 21, 22, 24, 26, 27, 28, 29, 30, 31, 33, 62, 88, 97, 98, 99, 100, 116, 117, 118, 119, 146, 186] ?_ | (show SWp _ _ _ (.region _ _ true) _ _ _ _; refine xG mixed [736, 1000003, 1000007, 1000011] ?_) | refine st2 ?_ | (show CallQ ..; first | refine cQ (fun hcc => (by first | exact kz1 _ | exact kz2 _ | exact kz3 _)) ?_ | (refine lP ?_; refine lQ (fun hcc m => (by first | exact kz1 _ | exact kz2 _ | exact kz3 _)) ?_)) | (show XCallQ ..; first | refine xQ (fun hcc => (by first | exact kz1 _ | exact kz2 _ | exact kz3 _)) ?_ | (refine xlP ?_; refine xlQ (fun hcc m => (by first | exact kz1 _ | exact kz2 _ | exact kz3 _)) ?_)) | (show Fct ..; refine fctI (fun hf => ?_)) | (show SWp _ _ _ (.cond _ _ _) _ _ _ _; first | refine cB (fun hc => ?_) (fun hc => ?_) | refine cU ?_ ?_)))
    (refine lN [0, 8, 16, 360, 368, 480, 488, 584, 608, 624] ?_)
    exact ⟨_, by omega, i + 1, by omega, rfl, rfl, by rw [hnx]⟩
  obtain rfl : i = n.links.length := by omega
  have hi3 : ¬ ((n.links.length : Int) < (n.links.length : Int)) := by omega
  (have := Nonempty.intro hi3)
  generalize lnkZ n n.links.length = Y at *
  (repeat' (first | (show SWp _ _ _ (.seq (.region 23 _ _) _) _ _ _ _; refine (stop_in ?_)) | refine swp_seq [0, 1, 2, 3, 4, 5, 6, 7, 9, 10, 14, 15, 16, 17, 18, 19, 20, 21, 22, 24, 26, 27, 28, 29, 30, 31, 33, 62, 88, 97, 98, 99, 100, 116, 117, 118, 119, 146, 186] ?_ | (show SWp _ _ _ (.region _ _ true) _ _ _ _; refine xG mixed [] ?_) | refine st2 ?_ | (show CallQ ..; first | refine cQ (fun hcc => (by fail)) ?_ | (refine lP ?_; refine lQ (fun hcc m => (by fail)) ?_)) | (show XCallQ ..; first | refine xQ (fun hcc => (by fail)) ?_ | (refine xlP ?_; refine xlQ (fun hcc m => (by fail)) ?_)) | (show Fct ..; refine fctI (fun hf => ?_)) | (show SWp _ _ _ (.cond _ _ _) _ _ _ _; first | refine cB (fun hc => ?_) (fun hc => ?_) | refine cU ?_ ?_)))
  refine stop_out ?_
  (refine sF 584 ?_)
  (refine sF 608 ?_)
  rw [show [DV.p (.dat 9 (X.map nodeP)), .p (.dat 11 (Y.map linkP))] = netC (parN nmZ n) by rw [← hpz]; rfl]
  cases hB : netB (parN nmZ n) <;> simp only [hB] at kv
  · (repeat' (first | refine swp_seq [0, 1, 2, 3, 4, 5, 6, 7, 9, 10, 14, 15, 16, 17, 18, 19, 20, 21, 22, 24, 26, 27, 28, 29, 30, 31, 33, 62, 88, 97, 98, 99, 100, 116, 117, 118, 119, 146, 186] ?_ | refine st2 ?_ | (show CallQ ..; first | refine cQ (fun hcc => (by first | exact kv _)) ?_ | (refine lP ?_; refine lQ (fun hcc m => (by first | exact kv _)) ?_)) | (show XCallQ ..; first | refine xQ (fun hcc => (by first | exact kv _)) ?_ | (refine xlP ?_; refine xlQ (fun hcc m => (by first | exact kv _)) ?_)) | (show Fct ..; refine fctI (fun hf => ?_)) | (show SWp _ _ _ (.cond _ _ _) _ _ _ _; first | refine cB (fun hc => ?_) (fun hc => ?_) | refine cU ?_ ?_)))
    exact DVR
  obtain ⟨P, q1, q2, hS, hL⟩ := hpar hB
  have hsi := S.il
  have hti := T.il
  have kkU := fun m => Step_f (parN nmZ n) l (parS s t) (i1 ++ i2) sec m pok co (staOk_of hB P.sb) (by rw [List.length_append]; omega) (by rw [parN_nl]; omega)
  rw [stepR_good (by rw [stepE_mid P, q1, q2]; rfl), hS, hL] at kkU
  obtain ⟨z1, z2, z3, z4⟩ := lensB_of (staB_in S.nb S.sb).1
  obtain ⟨w1, w2, w3, w4⟩ := lensB_of (staB_in T.nb T.sb).1
  have soP : staOk (parS SS TT) := hS ▸ staOk_of hB (P.fin q1 q2)
  have kkE := fun m => same_f (parS SS TT) (parS SS TT) m soP soP
  rw [decide_eq_true rfl] at kkE
  have k1 := concIo s.vol t.vol (by omega) (by omega)
  have k2 := concIo s.pon t.pon (by omega) (by omega)
  have k3 := concIo s.set t.set (by omega) (by omega)
  have k4 := concBo s.on t.on (by omega) (by omega)
  have k5 := concIo i1 i2 (by omega) (by omega)
  have j1 := concIo SS.vol TT.vol (by omega) (by omega)
  have j2 := concIo SS.pon TT.pon (by omega) (by omega)
  have j3 := concIo SS.set TT.set (by omega) (by omega)
  have j4 := concBo SS.on TT.on (by omega) (by omega)
  have j5 := concIo LS.passed LT.passed (by omega) (by omega)
  have kkG : DCallsG Tryz.prog 14 [0] [netD (parN nmZ n), sectL l, staD (parS s t), .gl 0, li sec] (hget [(0, inLt (i1 ++ i2))]) 1 (.tup [staD (parS SS TT), ledgD ⟨LS.inn + LT.inn, LS.out + LT.out, LS.passed ++ LT.passed⟩, li 0]) (hget []) :=
    DCallsG.giveG (x := .elems 1 ((i1 ++ i2).map inRow)) (fv_rows inRow _ _ _) rfl (kkU 1)
  have hw1 : -9223372036854775808 ≤ LS.inn + LT.inn ∧ LS.inn + LT.inn ≤ 9223372036854775807 := by omega
  have hw2 : -9223372036854775808 ≤ LS.out + LT.out ∧ LS.out + LT.out ≤ 9223372036854775807 := by omega
  (have := Nonempty.intro hw1)
  (have := Nonempty.intro hw2)
  have kkQ := fun m => eqlInt_f (LS.passed ++ LT.passed) (LS.passed ++ LT.passed) m (by rw [List.length_append]; omega) (by rw [List.length_append]; omega)
  rw [decide_eq_true rfl] at kkQ
  clear hpar hzn hzl
  (repeat' (first | refine swp_seq [0, 1, 2, 3, 4, 5, 6, 7, 9, 10, 14, 15, 16, 17, 18, 19, 20, 21, 22, 24, 26, 27, 28, 29, 30, 31, 33, 62, 88, 97, 98, 99, 100, 116, 117, 118, 119, 146, 186] ?_ | (show SWp _ _ _ (.region _ _ true) _ _ _ _; refine xG mixed [776, 824, 872, 920, 944] ?_) | refine st2 ?_ | (show CallQ ..; first | refine cQ (fun hcc => (by first | exact kv _)) ?_ | (refine lP ?_; refine lQ (fun hcc m => (by first | exact kv _)) ?_)) | (show XCallQ ..; first | refine xQ (fun hcc => (by first | exact kv _)) ?_ | (refine xlP ?_; refine xlQ (fun hcc m => (by first | exact kv _)) ?_)) | (show Fct ..; refine fctI (fun hf => ?_)) | (show SWp _ _ _ (.cond _ _ _) _ _ _ _; first | refine cB (fun hc => ?_) (fun hc => ?_) | refine cU ?_ ?_)))
  (refine xQT [776] (fun hcc => k1) ?_)
  (repeat' (first | refine swp_seq [0, 1, 2, 3, 4, 5, 6, 7, 9, 10, 14, 15, 16, 17, 18, 19, 20, 21, 22, 24, 26, 27, 28, 29, 30, 31, 33, 62, 88, 97, 98, 99, 100, 116, 117, 118, 119, 146, 186] ?_ | (show SWp _ _ _ (.region _ _ true) _ _ _ _; refine xG mixed [776, 824, 872, 920, 944] ?_) | refine st2 ?_ | (show Fct ..; refine fctI (fun hf => ?_)) | (show SWp _ _ _ (.cond _ _ _) _ _ _ _; first | refine cB (fun hc => ?_) (fun hc => ?_) | refine cU ?_ ?_)))
  (refine xQT [824] (fun hcc => k2) ?_)
  (repeat' (first | refine swp_seq [0, 1, 2, 3, 4, 5, 6, 7, 9, 10, 14, 15, 16, 17, 18, 19, 20, 21, 22, 24, 26, 27, 28, 29, 30, 31, 33, 62, 88, 97, 98, 99, 100, 116, 117, 118, 119, 146, 186] ?_ | (show SWp _ _ _ (.region _ _ true) _ _ _ _; refine xG mixed [776, 824, 872, 920, 944] ?_) | refine st2 ?_ | (show Fct ..; refine fctI (fun hf => ?_)) | (show SWp _ _ _ (.cond _ _ _) _ _ _ _; first | refine cB (fun hc => ?_) (fun hc => ?_) | refine cU ?_ ?_)))
  (refine xQT [872] (fun hcc => k3) ?_)
  (repeat' (first | refine swp_seq [0, 1, 2, 3, 4, 5, 6, 7, 9, 10, 14, 15, 16, 17, 18, 19, 20, 21, 22, 24, 26, 27, 28, 29, 30, 31, 33, 62, 88, 97, 98, 99, 100, 116, 117, 118, 119, 146, 186] ?_ | (show SWp _ _ _ (.region _ _ true) _ _ _ _; refine xG mixed [776, 824, 872, 920, 944] ?_) | refine st2 ?_ | (show Fct ..; refine fctI (fun hf => ?_)) | (show SWp _ _ _ (.cond _ _ _) _ _ _ _; first | refine cB (fun hc => ?_) (fun hc => ?_) | refine cU ?_ ?_)))
  (refine xQT [920] (fun hcc => k4) ?_)
  (repeat' (first | (show SWp _ _ _ (.seq (.region 26 _ _) _) _ _ _ _; refine (stop_in ?_)) | refine swp_seq [0, 1, 2, 3, 4, 5, 6, 7, 9, 10, 14, 15, 16, 17, 18, 19, 20, 21, 22, 24, 26, 27, 28, 29, 30, 31, 33, 62, 88, 97, 98, 99, 100, 116, 117, 118, 119, 146, 186] ?_ | (show SWp _ _ _ (.region _ _ true) _ _ _ _; refine xG mixed [776, 824, 872, 920, 944] ?_) | refine st2 ?_ | (show CallQ ..; first | refine cQ (fun hcc => (by fail)) ?_ | (refine lP ?_; refine lQ (fun hcc m => (by fail)) ?_)) | (show XCallQ ..; first | refine xQ (fun hcc => (by fail)) ?_ | (refine xlP ?_; refine xlQ (fun hcc m => (by fail)) ?_)) | (show Fct ..; refine fctI (fun hf => ?_)) | (show SWp _ _ _ (.cond _ _ _) _ _ _ _; first | refine cB (fun hc => ?_) (fun hc => ?_) | refine cU ?_ ?_)))
  refine stop_out ?_
  (refine sF 784 ?_)
  (refine sF 832 ?_)
  (refine sF 880 ?_)
  (refine sF 928 ?_)
  rw [show [DV.p (.dat 1 ((s.vol ++ t.vol).map inRow)), .p (.dat 1 ((s.pon ++ t.pon).map inRow)), .p (.dat 1 ((s.set ++ t.set).map inRow)), .p (.dat 1 ((s.on ++ t.on).map boRow))] = staC (parS s t) from rfl]
  (repeat' (first | refine swp_seq [0, 1, 2, 3, 4, 5, 6, 7, 9, 10, 14, 15, 16, 17, 18, 19, 20, 21, 22, 24, 26, 27, 28, 29, 30, 31, 33, 62, 88, 97, 98, 99, 100, 116, 117, 118, 119, 146, 186] ?_ | (show SWp _ _ _ (.region _ _ true) _ _ _ _; refine xG mixed [1000, 1008, 1064, 1072] ?_) | refine st2 ?_ | (show Fct ..; refine fctI (fun hf => ?_)) | (show SWp _ _ _ (.cond _ _ _) _ _ _ _; first | refine cB (fun hc => ?_) (fun hc => ?_) | refine cU ?_ ?_)))
  (refine xQT [1000] (fun hcc => k5) ?_)
  (repeat' (first | refine swp_seq [0, 1, 2, 3, 4, 5, 6, 7, 9, 10, 14, 15, 16, 17, 18, 19, 20, 21, 22, 24, 26, 27, 28, 29, 30, 31, 33, 62, 88, 97, 98, 99, 100, 116, 117, 118, 119, 146, 186] ?_ | (show SWp _ _ _ (.region _ _ true) _ _ _ _; refine xG mixed [1000, 1008, 1064, 1072] ?_) | refine st2 ?_ | (show Fct ..; refine fctI (fun hf => ?_)) | (show SWp _ _ _ (.cond _ _ _) _ _ _ _; first | refine cB (fun hc => ?_) (fun hc => ?_) | refine cU ?_ ?_)))
  (refine xQT [1008] (fun hcc => kkG) ?_)
  (repeat' (first | (show SWp _ _ _ (.seq (.region 29 _ _) _) _ _ _ _; refine (stop_in ?_)) | refine swp_seq [0, 1, 2, 3, 4, 5, 6, 7, 9, 10, 14, 15, 16, 17, 18, 19, 20, 21, 22, 24, 26, 27, 28, 29, 30, 31, 33, 62, 88, 97, 98, 99, 100, 116, 117, 118, 119, 146, 186] ?_ | (show SWp _ _ _ (.region _ _ true) _ _ _ _; refine xG mixed [1000, 1008, 1064, 1072] ?_) | refine st2 ?_ | (show CallQ ..; first | refine cQ (fun hcc => (by fail)) ?_ | (refine lP ?_; refine lQ (fun hcc m => (by fail)) ?_)) | (show XCallQ ..; first | refine xQ (fun hcc => (by fail)) ?_ | (refine xlP ?_; refine xlQ (fun hcc m => (by fail)) ?_)) | (show Fct ..; refine fctI (fun hf => ?_)) | (show SWp _ _ _ (.cond _ _ _) _ _ _ _; first | refine cB (fun hc => ?_) (fun hc => ?_) | refine cU ?_ ?_)))
  refine stop_out ?_
  (repeat' (first | refine swp_seq [0, 1, 2, 3, 4, 5, 6, 7, 9, 10, 14, 15, 16, 17, 18, 19, 20, 21, 22, 24, 26, 27, 28, 29, 30, 31, 33, 62, 88, 97, 98, 99, 100, 116, 117, 118, 119, 146, 186] ?_ | (show SWp _ _ _ (.region _ _ true) _ _ _ _; refine xG mixed [1152, 1200, 1248, 1296, 1320] ?_) | refine st2 ?_ | (show Fct ..; refine fctI (fun hf => ?_)) | (show SWp _ _ _ (.cond _ _ _) _ _ _ _; first | refine cB (fun hc => ?_) (fun hc => ?_) | refine cU ?_ ?_)))
  (refine xQT [1152] (fun hcc => j1) ?_)
  (repeat' (first | refine swp_seq [0, 1, 2, 3, 4, 5, 6, 7, 9, 10, 14, 15, 16, 17, 18, 19, 20, 21, 22, 24, 26, 27, 28, 29, 30, 31, 33, 62, 88, 97, 98, 99, 100, 116, 117, 118, 119, 146, 186] ?_ | (show SWp _ _ _ (.region _ _ true) _ _ _ _; refine xG mixed [1152, 1200, 1248, 1296, 1320] ?_) | refine st2 ?_ | (show Fct ..; refine fctI (fun hf => ?_)) | (show SWp _ _ _ (.cond _ _ _) _ _ _ _; first | refine cB (fun hc => ?_) (fun hc => ?_) | refine cU ?_ ?_)))
  (refine xQT [1200] (fun hcc => j2) ?_)
  (repeat' (first | refine swp_seq [0, 1, 2, 3, 4, 5, 6, 7, 9, 10, 14, 15, 16, 17, 18, 19, 20, 21, 22, 24, 26, 27, 28, 29, 30, 31, 33, 62, 88, 97, 98, 99, 100, 116, 117, 118, 119, 146, 186] ?_ | (show SWp _ _ _ (.region _ _ true) _ _ _ _; refine xG mixed [1152, 1200, 1248, 1296, 1320] ?_) | refine st2 ?_ | (show Fct ..; refine fctI (fun hf => ?_)) | (show SWp _ _ _ (.cond _ _ _) _ _ _ _; first | refine cB (fun hc => ?_) (fun hc => ?_) | refine cU ?_ ?_)))
  (refine xQT [1248] (fun hcc => j3) ?_)
  (repeat' (first | refine swp_seq [0, 1, 2, 3, 4, 5, 6, 7, 9, 10, 14, 15, 16, 17, 18, 19, 20, 21, 22, 24, 26, 27, 28, 29, 30, 31, 33, 62, 88, 97, 98, 99, 100, 116, 117, 118, 119, 146, 186] ?_ | (show SWp _ _ _ (.region _ _ true) _ _ _ _; refine xG mixed [1152, 1200, 1248, 1296, 1320] ?_) | refine st2 ?_ | (show Fct ..; refine fctI (fun hf => ?_)) | (show SWp _ _ _ (.cond _ _ _) _ _ _ _; first | refine cB (fun hc => ?_) (fun hc => ?_) | refine cU ?_ ?_)))
  (refine xQT [1296] (fun hcc => j4) ?_)
  (repeat' (first | (show SWp _ _ _ (.seq (.region 30 _ _) _) _ _ _ _; refine (stop_in ?_)) | refine swp_seq [0, 1, 2, 3, 4, 5, 6, 7, 9, 10, 14, 15, 16, 17, 18, 19, 20, 21, 22, 24, 26, 27, 28, 29, 30, 31, 33, 62, 88, 97, 98, 99, 100, 116, 117, 118, 119, 146, 186] ?_ | (show SWp _ _ _ (.region _ _ true) _ _ _ _; refine xG mixed [1152, 1200, 1248, 1296, 1320] ?_) | refine st2 ?_ | (show CallQ ..; first | refine cQ (fun hcc => (by fail)) ?_ | (refine lP ?_; refine lQ (fun hcc m => (by fail)) ?_)) | (show XCallQ ..; first | refine xQ (fun hcc => (by fail)) ?_ | (refine xlP ?_; refine xlQ (fun hcc m => (by fail)) ?_)) | (show Fct ..; refine fctI (fun hf => ?_)) | (show SWp _ _ _ (.cond _ _ _) _ _ _ _; first | refine cB (fun hc => ?_) (fun hc => ?_) | refine cU ?_ ?_)))
  refine stop_out ?_
  (refine sF 1160 ?_)
  (refine sF 1208 ?_)
  (refine sF 1256 ?_)
  (refine sF 1304 ?_)
  rw [show [DV.p (.dat 1 ((SS.vol ++ TT.vol).map inRow)), .p (.dat 1 ((SS.pon ++ TT.pon).map inRow)), .p (.dat 1 ((SS.set ++ TT.set).map inRow)), .p (.dat 1 ((SS.on ++ TT.on).map boRow))] = staC (parS SS TT) from rfl]
  (repeat' (first | refine swp_seq [0, 1, 2, 3, 4, 5, 6, 7, 9, 10, 14, 15, 16, 17, 18, 19, 20, 21, 22, 24, 26, 27, 28, 29, 30, 31, 33, 62, 88, 97, 98, 99, 100, 116, 117, 118, 119, 146, 186] ?_ | (show SWp _ _ _ (.region _ _ true) _ _ _ _; refine xG mixed [1576] ?_) | refine st2 ?_ | (show CallQ ..; first | refine cQ (fun hcc => (by first | exact kkE _)) ?_ | (refine lP ?_; refine lQ (fun hcc m => (by first | exact kkE _)) ?_)) | (show XCallQ ..; first | refine xQ (fun hcc => (by first | exact kkE _)) ?_ | (refine xlP ?_; refine xlQ (fun hcc m => (by first | exact kkE _)) ?_)) | (show Fct ..; refine fctI (fun hf => ?_)) | (show SWp _ _ _ (.cond _ _ _) _ _ _ _; first | refine cB (fun hc => ?_) (fun hc => ?_) | refine cU ?_ ?_)))
  (refine xQT [1576] (fun hcc => j5) ?_)
  (repeat' (first | refine swp_seq [0, 1, 2, 3, 4, 5, 6, 7, 9, 10, 14, 15, 16, 17, 18, 19, 20, 21, 22, 24, 26, 27, 28, 29, 30, 31, 33, 62, 88, 97, 98, 99, 100, 116, 117, 118, 119, 146, 186] ?_ | (show SWp _ _ _ (.region _ _ true) _ _ _ _; refine xG mixed [1576] ?_) | refine st2 ?_ | (show CallQ ..; first | refine cQ (fun hcc => (by first | exact kkQ _)) ?_ | (refine lP ?_; refine lQ (fun hcc m => (by first | exact kkQ _)) ?_)) | (show XCallQ ..; first | refine xQ (fun hcc => (by first | exact kkQ _)) ?_ | (refine xlP ?_; refine xlQ (fun hcc m => (by first | exact kkQ _)) ?_)) | (show Fct ..; refine fctI (fun hf => ?_)) | (show SWp _ _ _ (.cond _ _ _) _ _ _ _; first | refine cB (fun hc => ?_) (fun hc => ?_) | refine cU ?_ ?_)))
  exact DVR
end
set_option maxRecDepth 20000 in
set_option maxHeartbeats 64000000 in
theorem parts_f (n : Net) (l : List Sect) (s t : Sta) (i1 i2 : List Int) (sec : Int) (m : Nat) (no : netOk n) (co : catOk l) (so : staOk s) (to : staOk t) (hi : intsOk i1) (hj : intsOk i2) : DCalls Tryz.prog 3 [netD n, sectL l, staD s, staD t, ints i1, ints i2, li sec] (hget []) m (lb true) (hget []) := by
  have hil := hi.1
  have hjl := hj.1
  have eL := fun m => large_f n m no
  have eM := fun m => many_f l m co
  have eG := fun m => long_f s [i1, i2] m so (by simp) (fun x hx => by
    simp only [List.mem_cons, List.not_mem_nil, or_false] at hx
    rcases hx with rfl | rfl
    · exact hil
    · exact hjl)
  have eH := fun m => long_f t [] m to (by simp) (fun x hx => by cases hx)
  cases hL : largeB n <;> simp only [hL] at eL
  case true =>
    refine pureC (n := 246) (rs := [.tmp 14]) (ts := [4]) Tryz.func3 rfl (by decide) [] (by (exact SD)) ?_
    (repeat' (first | refine swp_seq [0, 1, 2, 3, 4, 5, 6, 7, 9, 10, 14, 15, 16, 17, 18, 19, 20, 21, 22, 24, 26, 27, 28, 29, 30, 31, 33, 62, 88, 97, 98, 99, 100, 116, 117, 118, 119, 146, 186] ?_ | refine st2 ?_ | (show CallQ ..; first | refine cQ (fun hcc => (by first | exact awake_f _ | exact eL _)) ?_ | (refine lP ?_; refine lQ (fun hcc m => (by first | exact awake_f _ | exact eL _)) ?_)) | (show XCallQ ..; first | refine xQ (fun hcc => (by first | exact awake_f _ | exact eL _)) ?_ | (refine xlP ?_; refine xlQ (fun hcc m => (by first | exact awake_f _ | exact eL _)) ?_)) | (show Fct ..; refine fctI (fun hf => ?_)) | (show SWp _ _ _ (.cond _ _ _) _ _ _ _; first | refine cB (fun hc => ?_) (fun hc => ?_) | refine cU ?_ ?_)))
    exact DVR
  by_cases h7 : (7 : Int) < (n.nodes.length : Int)
  · (have := Nonempty.intro h7)
    refine pureC (n := 246) (rs := [.tmp 14]) (ts := [4]) Tryz.func3 rfl (by decide) [] (by (exact SD)) ?_
    (repeat' (first | refine swp_seq [0, 1, 2, 3, 4, 5, 6, 7, 9, 10, 14, 15, 16, 17, 18, 19, 20, 21, 22, 24, 26, 27, 28, 29, 30, 31, 33, 62, 88, 97, 98, 99, 100, 116, 117, 118, 119, 146, 186] ?_ | refine st2 ?_ | (show CallQ ..; first | refine cQ (fun hcc => (by first | exact awake_f _ | exact eL _)) ?_ | (refine lP ?_; refine lQ (fun hcc m => (by first | exact awake_f _ | exact eL _)) ?_)) | (show XCallQ ..; first | refine xQ (fun hcc => (by first | exact awake_f _ | exact eL _)) ?_ | (refine xlP ?_; refine xlQ (fun hcc m => (by first | exact awake_f _ | exact eL _)) ?_)) | (show Fct ..; refine fctI (fun hf => ?_)) | (show SWp _ _ _ (.cond _ _ _) _ _ _ _; first | refine cB (fun hc => ?_) (fun hc => ?_) | refine cU ?_ ?_)))
    exact DVR
  by_cases h8 : (7 : Int) < (n.links.length : Int)
  · (have := Nonempty.intro h7)
    (have := Nonempty.intro h8)
    refine pureC (n := 246) (rs := [.tmp 14]) (ts := [4]) Tryz.func3 rfl (by decide) [] (by (exact SD)) ?_
    (repeat' (first | refine swp_seq [0, 1, 2, 3, 4, 5, 6, 7, 9, 10, 14, 15, 16, 17, 18, 19, 20, 21, 22, 24, 26, 27, 28, 29, 30, 31, 33, 62, 88, 97, 98, 99, 100, 116, 117, 118, 119, 146, 186] ?_ | refine st2 ?_ | (show CallQ ..; first | refine cQ (fun hcc => (by first | exact awake_f _ | exact eL _)) ?_ | (refine lP ?_; refine lQ (fun hcc m => (by first | exact awake_f _ | exact eL _)) ?_)) | (show XCallQ ..; first | refine xQ (fun hcc => (by first | exact awake_f _ | exact eL _)) ?_ | (refine xlP ?_; refine xlQ (fun hcc m => (by first | exact awake_f _ | exact eL _)) ?_)) | (show Fct ..; refine fctI (fun hf => ?_)) | (show SWp _ _ _ (.cond _ _ _) _ _ _ _; first | refine cB (fun hc => ?_) (fun hc => ?_) | refine cU ?_ ?_)))
    exact DVR
  (have := Nonempty.intro h7)
  (have := Nonempty.intro h8)
  cases hM : manyB l <;> simp only [hM] at eM
  case true =>
    refine pureC (n := 246) (rs := [.tmp 14]) (ts := [4]) Tryz.func3 rfl (by decide) [] (by (exact SD)) ?_
    (repeat' (first | refine swp_seq [0, 1, 2, 3, 4, 5, 6, 7, 9, 10, 14, 15, 16, 17, 18, 19, 20, 21, 22, 24, 26, 27, 28, 29, 30, 31, 33, 62, 88, 97, 98, 99, 100, 116, 117, 118, 119, 146, 186] ?_ | refine st2 ?_ | (show CallQ ..; first | refine cQ (fun hcc => (by first | exact awake_f _ | exact eL _ | exact eM _)) ?_ | (refine lP ?_; refine lQ (fun hcc m => (by first | exact awake_f _ | exact eL _ | exact eM _)) ?_)) | (show XCallQ ..; first | refine xQ (fun hcc => (by first | exact awake_f _ | exact eL _ | exact eM _)) ?_ | (refine xlP ?_; refine xlQ (fun hcc m => (by first | exact awake_f _ | exact eL _ | exact eM _)) ?_)) | (show Fct ..; refine fctI (fun hf => ?_)) | (show SWp _ _ _ (.cond _ _ _) _ _ _ _; first | refine cB (fun hc => ?_) (fun hc => ?_) | refine cU ?_ ?_)))
    exact DVR
  cases hG : longB s [i1, i2] <;> simp only [hG] at eG
  case true =>
    refine pureC (n := 246) (rs := [.tmp 14]) (ts := [4]) Tryz.func3 rfl (by decide) [] (by (exact SD)) ?_
    (repeat' (first | refine swp_seq [0, 1, 2, 3, 4, 5, 6, 7, 9, 10, 14, 15, 16, 17, 18, 19, 20, 21, 22, 24, 26, 27, 28, 29, 30, 31, 33, 62, 88, 97, 98, 99, 100, 116, 117, 118, 119, 146, 186] ?_ | refine st2 ?_ | (show CallQ ..; first | refine cQ (fun hcc => (by first | exact awake_f _ | exact eL _ | exact eM _ | exact eG _)) ?_ | (refine lP ?_; refine lQ (fun hcc m => (by first | exact awake_f _ | exact eL _ | exact eM _ | exact eG _)) ?_)) | (show XCallQ ..; first | refine xQ (fun hcc => (by first | exact awake_f _ | exact eL _ | exact eM _ | exact eG _)) ?_ | (refine xlP ?_; refine xlQ (fun hcc m => (by first | exact awake_f _ | exact eL _ | exact eM _ | exact eG _)) ?_)) | (show Fct ..; refine fctI (fun hf => ?_)) | (show SWp _ _ _ (.cond _ _ _) _ _ _ _; first | refine cB (fun hc => ?_) (fun hc => ?_) | refine cU ?_ ?_)))
    exact DVR
  cases hH : longB t [] <;> simp only [hH] at eH
  case true =>
    refine pureC (n := 246) (rs := [.tmp 14]) (ts := [4]) Tryz.func3 rfl (by decide) [] (by (exact SD)) ?_
    (repeat' (first | refine swp_seq [0, 1, 2, 3, 4, 5, 6, 7, 9, 10, 14, 15, 16, 17, 18, 19, 20, 21, 22, 24, 26, 27, 28, 29, 30, 31, 33, 62, 88, 97, 98, 99, 100, 116, 117, 118, 119, 146, 186] ?_ | refine st2 ?_ | (show CallQ ..; first | refine cQ (fun hcc => (by first | exact awake_f _ | exact eL _ | exact eM _ | exact eG _ | exact eH _)) ?_ | (refine lP ?_; refine lQ (fun hcc m => (by first | exact awake_f _ | exact eL _ | exact eM _ | exact eG _ | exact eH _)) ?_)) | (show XCallQ ..; first | refine xQ (fun hcc => (by first | exact awake_f _ | exact eL _ | exact eM _ | exact eG _ | exact eH _)) ?_ | (refine xlP ?_; refine xlQ (fun hcc m => (by first | exact awake_f _ | exact eL _ | exact eM _ | exact eG _ | exact eH _)) ?_)) | (show Fct ..; refine fctI (fun hf => ?_)) | (show SWp _ _ _ (.cond _ _ _) _ _ _ _; first | refine cB (fun hc => ?_) (fun hc => ?_) | refine cU ?_ ?_)))
    exact DVR
  have h14 : n.nodes.length ≤ 14 := by omega
  have kkS := fun m => Step_f n l s i1 sec m no co so hil h14
  have kkT := fun m => Step_f n l t i2 sec m no co to hjl h14
  by_cases e1 : stepE n l s i1 sec = 0
  case neg =>
    rw [stepR_bad rfl e1] at kkS
    generalize stepE n l s i1 sec = e at *
    generalize stepR n l t i2 sec = R at *
    obtain ⟨r1, r2, r3⟩ := R
    (have := Nonempty.intro e1)
    refine pureC (n := 246) (rs := [.tmp 14]) (ts := [4]) Tryz.func3 rfl (by decide) [] (by (exact SD)) ?_
    (repeat' (first | refine swp_seq [0, 1, 2, 3, 4, 5, 6, 7, 9, 10, 14, 15, 16, 17, 18, 19, 20, 21, 22, 24, 26, 27, 28, 29, 30, 31, 33, 62, 88, 97, 98, 99, 100, 116, 117, 118, 119, 146, 186] ?_ | refine st2 ?_ | (show CallQ ..; first | refine cQ (fun hcc => (by first | exact awake_f _ | exact eL _ | exact eM _ | exact eG _ | exact eH _ | exact kkS _ | exact kkT _)) ?_ | (refine lP ?_; refine lQ (fun hcc m => (by first | exact awake_f _ | exact eL _ | exact eM _ | exact eG _ | exact eH _ | exact kkS _ | exact kkT _)) ?_)) | (show XCallQ ..; first | refine xQ (fun hcc => (by first | exact awake_f _ | exact eL _ | exact eM _ | exact eG _ | exact eH _ | exact kkS _ | exact kkT _)) ?_ | (refine xlP ?_; refine xlQ (fun hcc m => (by first | exact awake_f _ | exact eL _ | exact eM _ | exact eG _ | exact eH _ | exact kkS _ | exact kkT _)) ?_)) | (show Fct ..; refine fctI (fun hf => ?_)) | (show SWp _ _ _ (.cond _ _ _) _ _ _ _; first | refine cB (fun hc => ?_) (fun hc => ?_) | refine cU ?_ ?_)))
    exact DVR
  by_cases e2 : stepE n l t i2 sec = 0
  case neg =>
    rw [stepR_bad rfl e2] at kkT
    rw [stepR_good e1] at kkS
    generalize stepE n l t i2 sec = e at *
    generalize stepS n l s i1 sec = r1 at *
    generalize stepL n l s i1 sec = r2 at *
    (have := Nonempty.intro e2)
    refine pureC (n := 246) (rs := [.tmp 14]) (ts := [4]) Tryz.func3 rfl (by decide) [] (by (exact SD)) ?_
    (repeat' (first | refine swp_seq [0, 1, 2, 3, 4, 5, 6, 7, 9, 10, 14, 15, 16, 17, 18, 19, 20, 21, 22, 24, 26, 27, 28, 29, 30, 31, 33, 62, 88, 97, 98, 99, 100, 116, 117, 118, 119, 146, 186] ?_ | refine st2 ?_ | (show CallQ ..; first | refine cQ (fun hcc => (by first | exact awake_f _ | exact eL _ | exact eM _ | exact eG _ | exact eH _ | exact kkS _ | exact kkT _)) ?_ | (refine lP ?_; refine lQ (fun hcc m => (by first | exact awake_f _ | exact eL _ | exact eM _ | exact eG _ | exact eH _ | exact kkS _ | exact kkT _)) ?_)) | (show XCallQ ..; first | refine xQ (fun hcc => (by first | exact awake_f _ | exact eL _ | exact eM _ | exact eG _ | exact eH _ | exact kkS _ | exact kkT _)) ?_ | (refine xlP ?_; refine xlQ (fun hcc m => (by first | exact awake_f _ | exact eL _ | exact eM _ | exact eG _ | exact eH _ | exact kkS _ | exact kkT _)) ?_)) | (show Fct ..; refine fctI (fun hf => ?_)) | (show SWp _ _ _ (.cond _ _ _) _ _ _ _; first | refine cB (fun hc => ?_) (fun hc => ?_) | refine cU ?_ ?_)))
    exact DVR
  exact parts_go n l s t i1 i2 sec m no co so to hi hj hL h7 h8 hM hG hH e1 e2

end Go.Proofs.YthacnhidipeckaaGreat
