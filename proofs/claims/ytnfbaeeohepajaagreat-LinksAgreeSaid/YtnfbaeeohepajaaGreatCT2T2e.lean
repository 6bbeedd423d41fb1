/-
  Contracts of functions of the program, over the engine.
  No condition.
-/
import Derived.Test.YtnfbaeeohepajaaGreatCN0N1NBKSK1
import Derived.Test.YtnfbaeeohepajaaGreatCNmT1
namespace Go.Proofs.YtnfbaeeohepajaaGreat
open Go.Eng
set_option linter.all false
attribute [local irreducible] DCallsG SWp Fct CallQ XCallQ LCallQ XLCallQ drun xrun
set_option maxHeartbeats 1000000 in
theorem idxNode_f (g : FuncId) (p : Node → Bool) (l : List (Node)) (m : Nat) (hl : l.length ≤ 281474976710656) (hg : ∀ x, x ∈ l → ∀ m, DCalls Tryz.prog g [nodeD x] (hget []) m (lb (p x)) (hget [])) :
    DCalls Tryz.prog 85 [nodeL l, .clo g []] (hget []) m (li (idxI p l)) (hget []) := by
  refine pureC (n := 19) (rs := [.tmp 4]) (ts := [3]) Tryz.func85 rfl (by decide) [] (by (exact SD)) ?_
  (repeat' (first | refine swp_seq [0, 1, 4, 5, 7, 8, 9, 16] ?_ | refine st2 ?_ | (show Fct ..; refine fctI (fun hf => ?_)) | (show SWp _ _ _ (.cond _ _ _) _ _ _ _; first | refine cB (fun hc => ?_) (fun hc => ?_) | refine cU ?_ ?_)))
  refine loop_swp [0, 1, 7, 8] [] 0 (fun q A H => ∃ i : Nat, i ≤ l.length ∧ q = l.length - i ∧ (l.take i).any p = false ∧ A = [(0, nodeL l), (1, .clo g []), (7, li l.length), (8, li i)] ∧ H = []) (by omega) ?_ ?_ ?_
  · rintro q A H ⟨i, h1, h2, h3, rfl, rfl⟩
    exact ⟨by (exact SD), by (exact SD)⟩
  · refine ⟨_, 0, by omega, rfl, rfl, ?_, ?_⟩
    · exact DVR
    · exact DVR
  · rintro q A H ⟨i, h1, h2, h3, rfl, rfl⟩
    (repeat' (first | refine swp_seq [0, 1, 4, 5, 7, 8, 9, 16] ?_ | refine st2 ?_ | (show CallQ ..; first | refine cQ (fun hcc => (hg _ (getD_mem SC) _)) ?_ | (refine lP ?_; refine lQ (fun hcc m => (hg _ (getD_mem SC) _)) ?_)) | (show Fct ..; refine fctI (fun hf => ?_)) | (show SWp _ _ _ (.cond _ _ _) _ _ _ _; first | refine cB (fun hc => ?_) (fun hc => ?_) | refine cU ?_ ?_)))
    · (refine DVQ ?_)
      rw [idxI_hit h3 (by omega) (by assumption)]
    · (refine lN [] ?_)
      exact ⟨_, by omega, i + 1, by omega, rfl, any_step h3 (by omega) (by assumption), rfl, rfl⟩
    · (refine DVQ ?_)
      rw [List.take_of_length_le (by omega)] at h3
      rw [idxI_none h3]
theorem conNode_f (g : FuncId) (p : Node → Bool) (l : List (Node)) (m : Nat) (hl : l.length ≤ 281474976710656) (hg : ∀ x, x ∈ l → ∀ m, DCalls Tryz.prog g [nodeD x] (hget []) m (lb (p x)) (hget [])) :
    DCalls Tryz.prog 40 [nodeL l, .clo g []] (hget []) m (lb (l.any p)) (hget []) := by
  refine pureC (n := 9) (rs := [.tmp 4]) (ts := [4]) Tryz.func40 rfl (by decide) [] (by (exact SD)) ?_
  (repeat' (first | refine swp_seq [0, 1, 4] ?_ | refine st2 ?_ | (show CallQ ..; first | refine cQ (fun hcc => (idxNode_f g p l _ hl hg)) ?_ | (refine lP ?_; refine lQ (fun hcc m => (idxNode_f g p l _ hl hg)) ?_)) | (show Fct ..; refine fctI (fun hf => ?_)) | (show SWp _ _ _ (.cond _ _ _) _ _ _ _; first | refine cB (fun hc => ?_) (fun hc => ?_) | refine cU ?_ ?_)))
  (refine DVQ ?_)
  rw [idxI_any]
set_option maxHeartbeats 1000000 in
theorem idxNodeC_f (g : FuncId) (t : TypeId) (cs : List PV) (p : Node → Bool) (l : List (Node)) (hl : l.length ≤ 281474976710656) (hg : ∀ x, x ∈ l → ∀ m, DCalls Tryz.prog g [nodeD x, .ptr 0 0] (hget [(0, .blk t (cs.map .p))]) m (lb (p x)) (hget [(0, .blk t (cs.map .p))])) :
    DCalls Tryz.prog 85 [nodeL l, .clo g [.ptr 0 0]] (hget [(0, .blk t (cs.map .p))]) 1 (li (idxI p l)) (hget [(0, .blk t (cs.map .p))]) := by
  refine contract (n := 19) (rs := [.tmp 4]) (ts := [3]) Tryz.func85 rfl (by decide) 1 1 [] [] [] (li (idxI p l)) [(0, .blk t (cs.map .p))] (by (exact SD)) (by (exact SD)) ?_
  (repeat' (first | refine swp_seq [0, 1, 4, 5, 7, 8, 9, 16] ?_ | refine st2 ?_ | (show Fct ..; refine fctI (fun hf => ?_)) | (show SWp _ _ _ (.cond _ _ _) _ _ _ _; first | refine cB (fun hc => ?_) (fun hc => ?_) | refine cU ?_ ?_)))
  refine loop_swp [0, 1, 7, 8] [0] 1 (fun q A H => ∃ i : Nat, i ≤ l.length ∧ q = l.length - i ∧ (l.take i).any p = false ∧ A = [(0, nodeL l), (1, .clo g [.ptr 0 0]), (7, li l.length), (8, li i)] ∧ H = [(0, .blk t (cs.map .p))]) (by omega) ?_ ?_ ?_
  · rintro q A H ⟨i, h1, h2, h3, rfl, rfl⟩
    exact ⟨by (exact SD), by (exact SD)⟩
  · refine ⟨_, 0, by omega, rfl, rfl, ?_, ?_⟩
    · exact DVR
    · exact DVR
  · rintro q A H ⟨i, h1, h2, h3, rfl, rfl⟩
    (repeat' (first | refine swp_seq [0, 1, 4, 5, 7, 8, 9, 16] ?_ | refine st2 ?_ | (show CallQ ..; first | refine cQ (fun hcc => (hg _ (getD_mem SC) _)) ?_ | (refine lP ?_; refine lQ (fun hcc m => (hg _ (getD_mem SC) _)) ?_)) | (show Fct ..; refine fctI (fun hf => ?_)) | (show SWp _ _ _ (.cond _ _ _) _ _ _ _; first | refine cB (fun hc => ?_) (fun hc => ?_) | refine cU ?_ ?_)))
    · (refine DVQ ?_)
      rw [idxI_hit h3 (by omega) (by assumption)]
    · (refine lN [0] ?_)
      exact ⟨_, by omega, i + 1, by omega, rfl, any_step h3 (by omega) (by assumption), rfl, rfl⟩
    · (refine DVQ ?_)
      rw [List.take_of_length_le (by omega)] at h3
      rw [idxI_none h3]
set_option maxHeartbeats 1000000 in
theorem idxLink_f (g : FuncId) (p : Link → Bool) (l : List (Link)) (m : Nat) (hl : l.length ≤ 281474976710656) (hg : ∀ x, x ∈ l → ∀ m, DCalls Tryz.prog g [linkD x] (hget []) m (lb (p x)) (hget [])) :
    DCalls Tryz.prog 86 [linkL l, .clo g []] (hget []) m (li (idxI p l)) (hget []) := by
  refine pureC (n := 19) (rs := [.tmp 4]) (ts := [3]) Tryz.func86 rfl (by decide) [] (by (exact SD)) ?_
  (repeat' (first | refine swp_seq [0, 1, 4, 5, 7, 8, 9, 16] ?_ | refine st2 ?_ | (show Fct ..; refine fctI (fun hf => ?_)) | (show SWp _ _ _ (.cond _ _ _) _ _ _ _; first | refine cB (fun hc => ?_) (fun hc => ?_) | refine cU ?_ ?_)))
  refine loop_swp [0, 1, 7, 8] [] 0 (fun q A H => ∃ i : Nat, i ≤ l.length ∧ q = l.length - i ∧ (l.take i).any p = false ∧ A = [(0, linkL l), (1, .clo g []), (7, li l.length), (8, li i)] ∧ H = []) (by omega) ?_ ?_ ?_
  · rintro q A H ⟨i, h1, h2, h3, rfl, rfl⟩
    exact ⟨by (exact SD), by (exact SD)⟩
  · refine ⟨_, 0, by omega, rfl, rfl, ?_, ?_⟩
    · exact DVR
    · exact DVR
  · rintro q A H ⟨i, h1, h2, h3, rfl, rfl⟩
    (repeat' (first | refine swp_seq [0, 1, 4, 5, 7, 8, 9, 16] ?_ | refine st2 ?_ | (show CallQ ..; first | refine cQ (fun hcc => (hg _ (getD_mem SC) _)) ?_ | (refine lP ?_; refine lQ (fun hcc m => (hg _ (getD_mem SC) _)) ?_)) | (show Fct ..; refine fctI (fun hf => ?_)) | (show SWp _ _ _ (.cond _ _ _) _ _ _ _; first | refine cB (fun hc => ?_) (fun hc => ?_) | refine cU ?_ ?_)))
    · (refine DVQ ?_)
      rw [idxI_hit h3 (by omega) (by assumption)]
    · (refine lN [] ?_)
      exact ⟨_, by omega, i + 1, by omega, rfl, any_step h3 (by omega) (by assumption), rfl, rfl⟩
    · (refine DVQ ?_)
      rw [List.take_of_length_le (by omega)] at h3
      rw [idxI_none h3]
theorem conLink_f (g : FuncId) (p : Link → Bool) (l : List (Link)) (m : Nat) (hl : l.length ≤ 281474976710656) (hg : ∀ x, x ∈ l → ∀ m, DCalls Tryz.prog g [linkD x] (hget []) m (lb (p x)) (hget [])) :
    DCalls Tryz.prog 42 [linkL l, .clo g []] (hget []) m (lb (l.any p)) (hget []) := by
  refine pureC (n := 9) (rs := [.tmp 4]) (ts := [4]) Tryz.func42 rfl (by decide) [] (by (exact SD)) ?_
  (repeat' (first | refine swp_seq [0, 1, 4] ?_ | refine st2 ?_ | (show CallQ ..; first | refine cQ (fun hcc => (idxLink_f g p l _ hl hg)) ?_ | (refine lP ?_; refine lQ (fun hcc m => (idxLink_f g p l _ hl hg)) ?_)) | (show Fct ..; refine fctI (fun hf => ?_)) | (show SWp _ _ _ (.cond _ _ _) _ _ _ _; first | refine cB (fun hc => ?_) (fun hc => ?_) | refine cU ?_ ?_)))
  (refine DVQ ?_)
  rw [idxI_any]
set_option maxHeartbeats 1000000 in
theorem idxLinkC_f (g : FuncId) (t : TypeId) (cs : List PV) (p : Link → Bool) (l : List (Link)) (hl : l.length ≤ 281474976710656) (hg : ∀ x, x ∈ l → ∀ m, DCalls Tryz.prog g [linkD x, .ptr 0 0] (hget [(0, .blk t (cs.map .p))]) m (lb (p x)) (hget [(0, .blk t (cs.map .p))])) :
    DCalls Tryz.prog 86 [linkL l, .clo g [.ptr 0 0]] (hget [(0, .blk t (cs.map .p))]) 1 (li (idxI p l)) (hget [(0, .blk t (cs.map .p))]) := by
  refine contract (n := 19) (rs := [.tmp 4]) (ts := [3]) Tryz.func86 rfl (by decide) 1 1 [] [] [] (li (idxI p l)) [(0, .blk t (cs.map .p))] (by (exact SD)) (by (exact SD)) ?_
  (repeat' (first | refine swp_seq [0, 1, 4, 5, 7, 8, 9, 16] ?_ | refine st2 ?_ | (show Fct ..; refine fctI (fun hf => ?_)) | (show SWp _ _ _ (.cond _ _ _) _ _ _ _; first | refine cB (fun hc => ?_) (fun hc => ?_) | refine cU ?_ ?_)))
  refine loop_swp [0, 1, 7, 8] [0] 1 (fun q A H => ∃ i : Nat, i ≤ l.length ∧ q = l.length - i ∧ (l.take i).any p = false ∧ A = [(0, linkL l), (1, .clo g [.ptr 0 0]), (7, li l.length), (8, li i)] ∧ H = [(0, .blk t (cs.map .p))]) (by omega) ?_ ?_ ?_
  · rintro q A H ⟨i, h1, h2, h3, rfl, rfl⟩
    exact ⟨by (exact SD), by (exact SD)⟩
  · refine ⟨_, 0, by omega, rfl, rfl, ?_, ?_⟩
    · exact DVR
    · exact DVR
  · rintro q A H ⟨i, h1, h2, h3, rfl, rfl⟩
    (repeat' (first | refine swp_seq [0, 1, 4, 5, 7, 8, 9, 16] ?_ | refine st2 ?_ | (show CallQ ..; first | refine cQ (fun hcc => (hg _ (getD_mem SC) _)) ?_ | (refine lP ?_; refine lQ (fun hcc m => (hg _ (getD_mem SC) _)) ?_)) | (show Fct ..; refine fctI (fun hf => ?_)) | (show SWp _ _ _ (.cond _ _ _) _ _ _ _; first | refine cB (fun hc => ?_) (fun hc => ?_) | refine cU ?_ ?_)))
    · (refine DVQ ?_)
      rw [idxI_hit h3 (by omega) (by assumption)]
    · (refine lN [0] ?_)
      exact ⟨_, by omega, i + 1, by omega, rfl, any_step h3 (by omega) (by assumption), rfl, rfl⟩
    · (refine DVQ ?_)
      rw [List.take_of_length_le (by omega)] at h3
      rw [idxI_none h3]
set_option maxHeartbeats 1000000 in
theorem idxInt_f (g : FuncId) (p : Int → Bool) (l : List (Int)) (m : Nat) (hl : l.length ≤ 281474976710656) (hg : ∀ x, x ∈ l → ∀ m, DCalls Tryz.prog g [li x] (hget []) m (lb (p x)) (hget [])) :
    DCalls Tryz.prog 158 [ints l, .clo g []] (hget []) m (li (idxI p l)) (hget []) := by
  refine pureC (n := 19) (rs := [.tmp 4]) (ts := [3]) Tryz.func158 rfl (by decide) [] (by (exact SD)) ?_
  (repeat' (first | refine swp_seq [0, 1, 4, 5, 7, 8, 9, 16] ?_ | refine st2 ?_ | (show Fct ..; refine fctI (fun hf => ?_)) | (show SWp _ _ _ (.cond _ _ _) _ _ _ _; first | refine cB (fun hc => ?_) (fun hc => ?_) | refine cU ?_ ?_)))
  refine loop_swp [0, 1, 7, 8] [] 0 (fun q A H => ∃ i : Nat, i ≤ l.length ∧ q = l.length - i ∧ (l.take i).any p = false ∧ A = [(0, ints l), (1, .clo g []), (7, li l.length), (8, li i)] ∧ H = []) (by omega) ?_ ?_ ?_
  · rintro q A H ⟨i, h1, h2, h3, rfl, rfl⟩
    exact ⟨by (exact SD), by (exact SD)⟩
  · refine ⟨_, 0, by omega, rfl, rfl, ?_, ?_⟩
    · exact DVR
    · exact DVR
  · rintro q A H ⟨i, h1, h2, h3, rfl, rfl⟩
    (repeat' (first | refine swp_seq [0, 1, 4, 5, 7, 8, 9, 16] ?_ | refine st2 ?_ | (show CallQ ..; first | refine cQ (fun hcc => (hg _ (getD_mem SC) _)) ?_ | (refine lP ?_; refine lQ (fun hcc m => (hg _ (getD_mem SC) _)) ?_)) | (show Fct ..; refine fctI (fun hf => ?_)) | (show SWp _ _ _ (.cond _ _ _) _ _ _ _; first | refine cB (fun hc => ?_) (fun hc => ?_) | refine cU ?_ ?_)))
    · (refine DVQ ?_)
      rw [idxI_hit h3 (by omega) (by assumption)]
    · (refine lN [] ?_)
      exact ⟨_, by omega, i + 1, by omega, rfl, any_step h3 (by omega) (by assumption), rfl, rfl⟩
    · (refine DVQ ?_)
      rw [List.take_of_length_le (by omega)] at h3
      rw [idxI_none h3]
theorem conInt_f (g : FuncId) (p : Int → Bool) (l : List (Int)) (m : Nat) (hl : l.length ≤ 281474976710656) (hg : ∀ x, x ∈ l → ∀ m, DCalls Tryz.prog g [li x] (hget []) m (lb (p x)) (hget [])) :
    DCalls Tryz.prog 114 [ints l, .clo g []] (hget []) m (lb (l.any p)) (hget []) := by
  refine pureC (n := 9) (rs := [.tmp 4]) (ts := [4]) Tryz.func114 rfl (by decide) [] (by (exact SD)) ?_
  (repeat' (first | refine swp_seq [0, 1, 4] ?_ | refine st2 ?_ | (show CallQ ..; first | refine cQ (fun hcc => (idxInt_f g p l _ hl hg)) ?_ | (refine lP ?_; refine lQ (fun hcc m => (idxInt_f g p l _ hl hg)) ?_)) | (show Fct ..; refine fctI (fun hf => ?_)) | (show SWp _ _ _ (.cond _ _ _) _ _ _ _; first | refine cB (fun hc => ?_) (fun hc => ?_) | refine cU ?_ ?_)))
  (refine DVQ ?_)
  rw [idxI_any]
set_option maxHeartbeats 1000000 in
theorem idxSect_f (g : FuncId) (p : Sect → Bool) (l : List (Sect)) (m : Nat) (hl : l.length ≤ 281474976710656) (hg : ∀ x, x ∈ l → ∀ m, DCalls Tryz.prog g [sectD x] (hget []) m (lb (p x)) (hget [])) :
    DCalls Tryz.prog 87 [sectL l, .clo g []] (hget []) m (li (idxI p l)) (hget []) := by
  refine pureC (n := 19) (rs := [.tmp 4]) (ts := [3]) Tryz.func87 rfl (by decide) [] (by (exact SD)) ?_
  (repeat' (first | refine swp_seq [0, 1, 4, 5, 7, 8, 9, 16] ?_ | refine st2 ?_ | (show Fct ..; refine fctI (fun hf => ?_)) | (show SWp _ _ _ (.cond _ _ _) _ _ _ _; first | refine cB (fun hc => ?_) (fun hc => ?_) | refine cU ?_ ?_)))
  refine loop_swp [0, 1, 7, 8] [] 0 (fun q A H => ∃ i : Nat, i ≤ l.length ∧ q = l.length - i ∧ (l.take i).any p = false ∧ A = [(0, sectL l), (1, .clo g []), (7, li l.length), (8, li i)] ∧ H = []) (by omega) ?_ ?_ ?_
  · rintro q A H ⟨i, h1, h2, h3, rfl, rfl⟩
    exact ⟨by (exact SD), by (exact SD)⟩
  · refine ⟨_, 0, by omega, rfl, rfl, ?_, ?_⟩
    · exact DVR
    · exact DVR
  · rintro q A H ⟨i, h1, h2, h3, rfl, rfl⟩
    (repeat' (first | refine swp_seq [0, 1, 4, 5, 7, 8, 9, 16] ?_ | refine st2 ?_ | (show CallQ ..; first | refine cQ (fun hcc => (hg _ (getD_mem SC) _)) ?_ | (refine lP ?_; refine lQ (fun hcc m => (hg _ (getD_mem SC) _)) ?_)) | (show Fct ..; refine fctI (fun hf => ?_)) | (show SWp _ _ _ (.cond _ _ _) _ _ _ _; first | refine cB (fun hc => ?_) (fun hc => ?_) | refine cU ?_ ?_)))
    · (refine DVQ ?_)
      rw [idxI_hit h3 (by omega) (by assumption)]
    · (refine lN [] ?_)
      exact ⟨_, by omega, i + 1, by omega, rfl, any_step h3 (by omega) (by assumption), rfl, rfl⟩
    · (refine DVQ ?_)
      rw [List.take_of_length_le (by omega)] at h3
      rw [idxI_none h3]
theorem conSect_f (g : FuncId) (p : Sect → Bool) (l : List (Sect)) (m : Nat) (hl : l.length ≤ 281474976710656) (hg : ∀ x, x ∈ l → ∀ m, DCalls Tryz.prog g [sectD x] (hget []) m (lb (p x)) (hget [])) :
    DCalls Tryz.prog 44 [sectL l, .clo g []] (hget []) m (lb (l.any p)) (hget []) := by
  refine pureC (n := 9) (rs := [.tmp 4]) (ts := [4]) Tryz.func44 rfl (by decide) [] (by (exact SD)) ?_
  (repeat' (first | refine swp_seq [0, 1, 4] ?_ | refine st2 ?_ | (show CallQ ..; first | refine cQ (fun hcc => (idxSect_f g p l _ hl hg)) ?_ | (refine lP ?_; refine lQ (fun hcc m => (idxSect_f g p l _ hl hg)) ?_)) | (show Fct ..; refine fctI (fun hf => ?_)) | (show SWp _ _ _ (.cond _ _ _) _ _ _ _; first | refine cB (fun hc => ?_) (fun hc => ?_) | refine cU ?_ ?_)))
  (refine DVQ ?_)
  rw [idxI_any]
set_option maxHeartbeats 1000000 in
theorem idxSectC_f (g : FuncId) (t : TypeId) (cs : List PV) (p : Sect → Bool) (l : List (Sect)) (hl : l.length ≤ 281474976710656) (hg : ∀ x, x ∈ l → ∀ m, DCalls Tryz.prog g [sectD x, .ptr 0 0] (hget [(0, .blk t (cs.map .p))]) m (lb (p x)) (hget [(0, .blk t (cs.map .p))])) :
    DCalls Tryz.prog 87 [sectL l, .clo g [.ptr 0 0]] (hget [(0, .blk t (cs.map .p))]) 1 (li (idxI p l)) (hget [(0, .blk t (cs.map .p))]) := by
  refine contract (n := 19) (rs := [.tmp 4]) (ts := [3]) Tryz.func87 rfl (by decide) 1 1 [] [] [] (li (idxI p l)) [(0, .blk t (cs.map .p))] (by (exact SD)) (by (exact SD)) ?_
  (repeat' (first | refine swp_seq [0, 1, 4, 5, 7, 8, 9, 16] ?_ | refine st2 ?_ | (show Fct ..; refine fctI (fun hf => ?_)) | (show SWp _ _ _ (.cond _ _ _) _ _ _ _; first | refine cB (fun hc => ?_) (fun hc => ?_) | refine cU ?_ ?_)))
  refine loop_swp [0, 1, 7, 8] [0] 1 (fun q A H => ∃ i : Nat, i ≤ l.length ∧ q = l.length - i ∧ (l.take i).any p = false ∧ A = [(0, sectL l), (1, .clo g [.ptr 0 0]), (7, li l.length), (8, li i)] ∧ H = [(0, .blk t (cs.map .p))]) (by omega) ?_ ?_ ?_
  · rintro q A H ⟨i, h1, h2, h3, rfl, rfl⟩
    exact ⟨by (exact SD), by (exact SD)⟩
  · refine ⟨_, 0, by omega, rfl, rfl, ?_, ?_⟩
    · exact DVR
    · exact DVR
  · rintro q A H ⟨i, h1, h2, h3, rfl, rfl⟩
    (repeat' (first | refine swp_seq [0, 1, 4, 5, 7, 8, 9, 16] ?_ | refine st2 ?_ | (show CallQ ..; first | refine cQ (fun hcc => (hg _ (getD_mem SC) _)) ?_ | (refine lP ?_; refine lQ (fun hcc m => (hg _ (getD_mem SC) _)) ?_)) | (show Fct ..; refine fctI (fun hf => ?_)) | (show SWp _ _ _ (.cond _ _ _) _ _ _ _; first | refine cB (fun hc => ?_) (fun hc => ?_) | refine cU ?_ ?_)))
    · (refine DVQ ?_)
      rw [idxI_hit h3 (by omega) (by assumption)]
    · (refine lN [0] ?_)
      exact ⟨_, by omega, i + 1, by omega, rfl, any_step h3 (by omega) (by assumption), rfl, rfl⟩
    · (refine DVQ ?_)
      rw [List.take_of_length_le (by omega)] at h3
      rw [idxI_none h3]
set_option maxHeartbeats 1000000 in
theorem idxKnot_f (g : FuncId) (p : Knot → Bool) (l : List (Knot)) (m : Nat) (hl : l.length ≤ 281474976710656) (hg : ∀ x, x ∈ l → ∀ m, DCalls Tryz.prog g [knotD x] (hget []) m (lb (p x)) (hget [])) :
    DCalls Tryz.prog 171 [knotL l, .clo g []] (hget []) m (li (idxI p l)) (hget []) := by
  refine pureC (n := 19) (rs := [.tmp 4]) (ts := [3]) Tryz.func171 rfl (by decide) [] (by (exact SD)) ?_
  (repeat' (first | refine swp_seq [0, 1, 4, 5, 7, 8, 9, 16] ?_ | refine st2 ?_ | (show Fct ..; refine fctI (fun hf => ?_)) | (show SWp _ _ _ (.cond _ _ _) _ _ _ _; first | refine cB (fun hc => ?_) (fun hc => ?_) | refine cU ?_ ?_)))
  refine loop_swp [0, 1, 7, 8] [] 0 (fun q A H => ∃ i : Nat, i ≤ l.length ∧ q = l.length - i ∧ (l.take i).any p = false ∧ A = [(0, knotL l), (1, .clo g []), (7, li l.length), (8, li i)] ∧ H = []) (by omega) ?_ ?_ ?_
  · rintro q A H ⟨i, h1, h2, h3, rfl, rfl⟩
    exact ⟨by (exact SD), by (exact SD)⟩
  · refine ⟨_, 0, by omega, rfl, rfl, ?_, ?_⟩
    · exact DVR
    · exact DVR
  · rintro q A H ⟨i, h1, h2, h3, rfl, rfl⟩
    (repeat' (first | refine swp_seq [0, 1, 4, 5, 7, 8, 9, 16] ?_ | refine st2 ?_ | (show CallQ ..; first | refine cQ (fun hcc => (hg _ (getD_mem SC) _)) ?_ | (refine lP ?_; refine lQ (fun hcc m => (hg _ (getD_mem SC) _)) ?_)) | (show Fct ..; refine fctI (fun hf => ?_)) | (show SWp _ _ _ (.cond _ _ _) _ _ _ _; first | refine cB (fun hc => ?_) (fun hc => ?_) | refine cU ?_ ?_)))
    · (refine DVQ ?_)
      rw [idxI_hit h3 (by omega) (by assumption)]
    · (refine lN [] ?_)
      exact ⟨_, by omega, i + 1, by omega, rfl, any_step h3 (by omega) (by assumption), rfl, rfl⟩
    · (refine DVQ ?_)
      rw [List.take_of_length_le (by omega)] at h3
      rw [idxI_none h3]
theorem conKnot_f (g : FuncId) (p : Knot → Bool) (l : List (Knot)) (m : Nat) (hl : l.length ≤ 281474976710656) (hg : ∀ x, x ∈ l → ∀ m, DCalls Tryz.prog g [knotD x] (hget []) m (lb (p x)) (hget [])) :
    DCalls Tryz.prog 139 [knotL l, .clo g []] (hget []) m (lb (l.any p)) (hget []) := by
  refine pureC (n := 9) (rs := [.tmp 4]) (ts := [4]) Tryz.func139 rfl (by decide) [] (by (exact SD)) ?_
  (repeat' (first | refine swp_seq [0, 1, 4] ?_ | refine st2 ?_ | (show CallQ ..; first | refine cQ (fun hcc => (idxKnot_f g p l _ hl hg)) ?_ | (refine lP ?_; refine lQ (fun hcc m => (idxKnot_f g p l _ hl hg)) ?_)) | (show Fct ..; refine fctI (fun hf => ?_)) | (show SWp _ _ _ (.cond _ _ _) _ _ _ _; first | refine cB (fun hc => ?_) (fun hc => ?_) | refine cU ?_ ?_)))
  (refine DVQ ?_)
  rw [idxI_any]
set_option maxHeartbeats 1000000 in
theorem eqlInt_f (l k : List (Int)) (m : Nat) (hl : l.length ≤ 281474976710656) (hk : k.length ≤ 281474976710656) : DCalls Tryz.prog 35 [ints l, ints k] (hget []) m (lb (decide (l = k))) (hget []) := by
  refine pureC (n := 26) (rs := [.tmp 4]) (ts := [4]) Tryz.func35 rfl (by decide) [] (by (exact SD)) ?_
  (repeat' (first | refine swp_seq [0, 1, 4, 5, 10, 12, 13, 14, 24] ?_ | refine st2 ?_ | (show Fct ..; refine fctI (fun hf => ?_)) | (show SWp _ _ _ (.cond _ _ _) _ _ _ _; first | refine cB (fun hc => ?_) (fun hc => ?_) | refine cU ?_ ?_)))
  · (refine DVQ ?_)
    refine lbC ?_
    have : ¬ l = k := fun e => by subst e; exact hc rfl
    simp [this]
  · refine loop_swp [0, 1, 12, 13] [] 0 (fun q A H => ∃ i : Nat, i ≤ l.length ∧ q = l.length - i ∧ l.take i = k.take i ∧ A = [(0, ints l), (1, ints k), (12, li l.length), (13, li i)] ∧ H = []) (by omega) ?_ ?_ ?_
    · rintro q A H ⟨i, h1, h2, h3, rfl, rfl⟩
      exact ⟨by (exact SD), by (exact SD)⟩
    · refine ⟨_, 0, by omega, rfl, rfl, ?_, ?_⟩
      · exact DVR
      · exact DVR
    · rintro q A H ⟨i, h1, h2, h3, rfl, rfl⟩
      (repeat' (first | refine swp_seq [0, 1, 4, 5, 10, 12, 13, 14, 24] ?_ | refine st2 ?_ | (show Fct ..; refine fctI (fun hf => ?_)) | (show SWp _ _ _ (.cond _ _ _) _ _ _ _; first | refine cB (fun hc => ?_) (fun hc => ?_) | refine cU ?_ ?_)))
      · (refine DVQ ?_)
        refine lbC ?_
        have : ¬ l = k := fun e => by subst e; simp at hc
        simp [this]
      · (refine lN [] ?_)
        exact ⟨_, by omega, i + 1, by omega, rfl, take_next h3 (by omega) (by omega) (by exact hc), rfl, rfl⟩
      · (refine DVQ ?_)
        refine lbC ?_
        have : l = k := by
          have h4 := h3
          rw [List.take_of_length_le (by omega), List.take_of_length_le (by omega)] at h4
          exact h4
        simp [this]
set_option maxHeartbeats 1000000 in
theorem eqlKnot_f (l k : List (Knot)) (m : Nat) (hl : l.length ≤ 281474976710656) (hk : k.length ≤ 281474976710656) : DCalls Tryz.prog 177 [knotL l, knotL k] (hget []) m (lb (decide (l = k))) (hget []) := by
  refine pureC (n := 26) (rs := [.tmp 4]) (ts := [4]) Tryz.func177 rfl (by decide) [] (by (exact SD)) ?_
  (repeat' (first | refine swp_seq [0, 1, 4, 5, 10, 12, 13, 14, 24] ?_ | refine st2 ?_ | (show Fct ..; refine fctI (fun hf => ?_)) | (show SWp _ _ _ (.cond _ _ _) _ _ _ _; first | refine cB (fun hc => ?_) (fun hc => ?_) | refine cU ?_ ?_)))
  · (refine DVQ ?_)
    refine lbC ?_
    have : ¬ l = k := fun e => by subst e; exact hc rfl
    simp [this]
  · refine loop_swp [0, 1, 12, 13] [] 0 (fun q A H => ∃ i : Nat, i ≤ l.length ∧ q = l.length - i ∧ l.take i = k.take i ∧ A = [(0, knotL l), (1, knotL k), (12, li l.length), (13, li i)] ∧ H = []) (by omega) ?_ ?_ ?_
    · rintro q A H ⟨i, h1, h2, h3, rfl, rfl⟩
      exact ⟨by (exact SD), by (exact SD)⟩
    · refine ⟨_, 0, by omega, rfl, rfl, ?_, ?_⟩
      · exact DVR
      · exact DVR
    · rintro q A H ⟨i, h1, h2, h3, rfl, rfl⟩
      (repeat' (first | refine swp_seq [0, 1, 4, 5, 10, 12, 13, 14, 24] ?_ | refine st2 ?_ | (show Fct ..; refine fctI (fun hf => ?_)) | (show SWp _ _ _ (.cond _ _ _) _ _ _ _; first | refine cB (fun hc => ?_) (fun hc => ?_) | refine cU ?_ ?_)))
      · (refine DVQ ?_)
        refine lbC ?_
        have : ¬ l = k := fun e => by subst e; simp at hc
        simp [this]
      · (refine lN [] ?_)
        exact ⟨_, by omega, i + 1, by omega, rfl, take_next h3 (by omega) (by omega) (by refine knot_ext ?_; simpa using hc), rfl, rfl⟩
      · (refine DVQ ?_)
        refine lbC ?_
        have : l = k := by
          have h4 := h3
          rw [List.take_of_length_le (by omega), List.take_of_length_le (by omega)] at h4
          exact h4
        simp [this]
set_option maxHeartbeats 1000000 in
theorem eqlBool_f (l k : List (Bool)) (m : Nat) (hl : l.length ≤ 281474976710656) (hk : k.length ≤ 281474976710656) : DCalls Tryz.prog 36 [bools l, bools k] (hget []) m (lb (decide (l = k))) (hget []) := by
  refine pureC (n := 26) (rs := [.tmp 4]) (ts := [4]) Tryz.func36 rfl (by decide) [] (by (exact SD)) ?_
  (repeat' (first | refine swp_seq [0, 1, 4, 5, 10, 12, 13, 14, 24] ?_ | refine st2 ?_ | (show Fct ..; refine fctI (fun hf => ?_)) | (show SWp _ _ _ (.cond _ _ _) _ _ _ _; first | refine cB (fun hc => ?_) (fun hc => ?_) | refine cU ?_ ?_)))
  · (refine DVQ ?_)
    refine lbC ?_
    have : ¬ l = k := fun e => by subst e; exact hc rfl
    simp [this]
  · refine loop_swp [0, 1, 12, 13] [] 0 (fun q A H => ∃ i : Nat, i ≤ l.length ∧ q = l.length - i ∧ l.take i = k.take i ∧ A = [(0, bools l), (1, bools k), (12, li l.length), (13, li i)] ∧ H = []) (by omega) ?_ ?_ ?_
    · rintro q A H ⟨i, h1, h2, h3, rfl, rfl⟩
      exact ⟨by (exact SD), by (exact SD)⟩
    · refine ⟨_, 0, by omega, rfl, rfl, ?_, ?_⟩
      · exact DVR
      · exact DVR
    · rintro q A H ⟨i, h1, h2, h3, rfl, rfl⟩
      (repeat' (first | refine swp_seq [0, 1, 4, 5, 10, 12, 13, 14, 24] ?_ | refine st2 ?_ | (show Fct ..; refine fctI (fun hf => ?_)) | (show SWp _ _ _ (.cond _ _ _) _ _ _ _; first | refine cB (fun hc => ?_) (fun hc => ?_) | refine cU ?_ ?_)))
      · (refine DVQ ?_)
        refine lbC ?_
        have : ¬ l = k := fun e => by subst e; simp at hc
        simp [this]
      · (refine lN [] ?_)
        exact ⟨_, by omega, i + 1, by omega, rfl, take_next h3 (by omega) (by omega) (by simpa using hc), rfl, rfl⟩
      · (refine DVQ ?_)
        refine lbC ?_
        have : l = k := by
          have h4 := h3
          rw [List.take_of_length_le (by omega), List.take_of_length_le (by omega)] at h4
          exact h4
        simp [this]

end Go.Proofs.YtnfbaeeohepajaaGreat
