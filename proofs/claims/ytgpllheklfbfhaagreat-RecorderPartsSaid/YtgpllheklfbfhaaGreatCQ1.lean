/-
  Contracts of functions of the program, over the engine.
  No condition.
-/
import Derived.Test.YtgpllheklfbfhaaGreatCN0N1NBNmT1T2T2eT3
namespace Go.Proofs.YtgpllheklfbfhaaGreat
open Go.Eng
set_option linter.all false
attribute [local irreducible] DCallsG SWp Fct CallQ XCallQ LCallQ XLCallQ drun xrun
set_option maxHeartbeats 64000000
set_option maxRecDepth 20000

def textB (s : ByteArray) : Bool := decide (1 <= s.size) && decide (s.size <= 500) && (bs s).all fun b => decide (32 <= b.toNat) && decide (b.toNat <= 126)
theorem all_step {l : List UInt8} {p : UInt8 -> Bool} {i : Nat} (h : (l.take i).all p = true) (hi : i < l.length) (hp : p (l.getD i 0) = true) : (l.take (i + 1)).all p = true := by
  rw [List.take_succ_eq_append_getElem hi, List.all_append, h];simpa [List.getD_eq_getElem?_getD, List.getElem?_eq_getElem hi] using hp
theorem all_fail {l : List UInt8} {p : UInt8 -> Bool} {i : Nat} (hi : i < l.length) (hp : p (l.getD i 0) = false) : l.all p = false := by
  rw [List.all_eq_false];refine ⟨l[i], List.getElem_mem hi, ?_⟩;simpa [List.getD_eq_getElem?_getD, List.getElem?_eq_getElem hi] using hp
theorem rText_f (s : ByteArray) (m : Nat) (hs : s.size <= 281474976710656) : Pu 38 [ls s] m (lb (textB s)) := by
  refine pcN 28 [.tmp 2] [4] Tryz.func38 rfl [] ?_;(repeat' (first | refine swp_seq [0,2,3,7,19] ?_ | (first|refine rF (fun hf=>?_)|refine st0 ?_|refine dF mixed ?_|(refine cB (fun hc=>?_) (fun hc=>?_)<;>first|exact False.elim hc|exact absurd hc Bool.false_ne_true|exact absurd hc.symm Bool.false_ne_true|skip)|refine cU ?_ ?_)));refine loop_swp [0, 3] [] 0 (fun k A H => ∃ i : Nat, i <= s.size /\ k = s.size - i /\ ((bs s).take i).all (fun b => decide (32 <= b.toNat) && decide (b.toNat <= 126)) = true /\ A = [(0, ls s), (3, li i)] /\ H = []) (by omega) ?_ ?_ ?_
  · rintro k A H ⟨i, h1, h2, h3, rfl, rfl⟩;exact SDD
  · refine ⟨_, 0, by omega, rfl, by simp, ?_, ?_⟩
    · exact DVR
    · exact DVR
  · rintro k A H ⟨i, h1, h2, h3, rfl, rfl⟩;(repeat' (first | refine swp_seq [0,2,3,7,19] ?_ | (first|refine rF (fun hf=>?_)|refine st0 ?_|refine dF mixed ?_|(refine cB (fun hc=>?_) (fun hc=>?_)<;>first|exact False.elim hc|exact absurd hc Bool.false_ne_true|exact absurd hc.symm Bool.false_ne_true|skip)|refine cU ?_ ?_)))
    · have := all_fail (l := bs s) (p := fun b => decide (32 <= b.toNat) && decide (b.toNat <= 126)) (i := i) (by rw [bsz]; omega) (by grind);(refine DVQ ?_);unfold textB;rw [this, Bool.and_false]
    · (refine lN [] ?_);exact ⟨_, by omega, i + 1, by omega, rfl, all_step h3 (by rw [bsz]; omega) (by grind), rfl, rfl⟩
    · (refine DVQ ?_);rw [List.take_of_length_le (by rw [bsz]; omega)] at h3;unfold textB;rw [h3, Bool.and_true];congr 3
      grind
structure Msg where
  node : ByteArray
  number : Int
  att : Int
  arrived : Int
  level : Int
def msgP (m : Msg) : List PV := [.lit (.string m.node), .lit (.int .i64 m.number), .lit (.int .i64 m.att), .lit (.int .i64 m.arrived), .lit (.int .i64 m.level)]
abbrev msgC (m : Msg) : List DV := [ls m.node, li m.number, li m.att, li m.arrived, li m.level]
abbrev msgD (m : Msg) : DV := .agg (msgC m)
attribute [push_cast] msgP
def inB (n lo hi : Int) : Bool := decide (lo <= n) && decide (n <= hi)
def timeB (n : Int) : Bool := inB n (-68719476736) 68719476736
def msgB (m : Msg) : Bool := nameB m.node && inB m.number 0 1073741824 && timeB m.att && timeB m.arrived && decide (m.att <= m.arrived) && inB m.level (-4194304) 4194304
theorem within_f (n lo hi : Int) (m : Nat) : Pu 160 [li n, li lo, li hi] m (lb (inB n lo hi)) := by
  refine pcN 15 [.tmp 6] [4] Tryz.func160 rfl [] ?_;(repeat' (first | refine swp_seq [0,1,2,6] ?_ | (first|refine rF (fun hf=>?_)|refine st0 ?_|refine dF mixed ?_|(refine cB (fun hc=>?_) (fun hc=>?_)<;>first|exact False.elim hc|exact absurd hc Bool.false_ne_true|exact absurd hc.symm Bool.false_ne_true|skip)|refine cU ?_ ?_)));exact DVR
theorem instant_f (n : Int) (m : Nat) : Pu 161 [li n] m (lb (timeB n)) := by
  refine pcN 5 [.tmp 2] [4] Tryz.func161 rfl [] ?_;(repeat' (first | refine swp_seq [0,2] ?_ | (first|refine rF (fun hf=>?_)|refine st0 ?_|refine dF mixed ?_|(refine cB (fun hc=>?_) (fun hc=>?_)<;>first|exact False.elim hc|exact absurd hc Bool.false_ne_true|exact absurd hc.symm Bool.false_ne_true|skip)|refine cU ?_ ?_)))
  ((refine rC (fun hf => ?_); refine cA (within_f _ _ _ _) (fun hf => ?_); refine drun_end ?_))
  (repeat' (first | refine swp_seq [0,2] ?_ | (first|refine rF (fun hf=>?_)|refine st0 ?_|refine dF mixed ?_|(refine cB (fun hc=>?_) (fun hc=>?_)<;>first|exact False.elim hc|exact absurd hc Bool.false_ne_true|exact absurd hc.symm Bool.false_ne_true|skip)|refine cU ?_ ?_)));exact DVR
theorem rTime_f (n : Int) (m : Nat) : Pu 68 [li n] m (lb (timeB n)) := by
  refine pcN 9 [.tmp 2] [4] Tryz.func68 rfl [] ?_;(repeat' (first | refine swp_seq [0,2] ?_ | (first|refine rF (fun hf=>?_)|refine st0 ?_|refine dF mixed ?_|(refine cB (fun hc=>?_) (fun hc=>?_)<;>first|exact False.elim hc|exact absurd hc Bool.false_ne_true|exact absurd hc.symm Bool.false_ne_true|skip)|refine cU ?_ ?_)));exact DVR
theorem keyOf_f (x : Msg) (m : Nat) : Pu 129 [msgD x] m (.agg [ls x.node, li x.number]) := by
  refine pcN 8 [.cell 2 167] [167] Tryz.func129 rfl [] ?_;(repeat' (first | refine swp_seq [0,1,2] ?_ | (first|refine rF (fun hf=>?_)|refine st0 ?_|refine dF mixed ?_|(refine cB (fun hc=>?_) (fun hc=>?_)<;>first|exact False.elim hc|exact absurd hc Bool.false_ne_true|exact absurd hc.symm Bool.false_ne_true|skip)|refine cU ?_ ?_)));exact DVR
theorem right52_f (x : Msg) (m : Nat) (hs : x.node.size <= 281474976710656) : Pu 128 [msgD x] m (lb (msgB x)) := by
  refine pcN 33 [.tmp 2] [4] Tryz.func128 rfl [] ?_;(repeat' (first | refine swp_seq [0,1,2] ?_ | (first|refine rF (fun hf=>?_)|refine st0 ?_|refine dF mixed ?_|(refine cB (fun hc=>?_) (fun hc=>?_)<;>first|exact False.elim hc|exact absurd hc Bool.false_ne_true|exact absurd hc.symm Bool.false_ne_true|skip)|refine cU ?_ ?_)));(refine rC (fun hf => ?_));(refine cA (name_f _ _ hs) (fun hf => ?_));(refine cA (within_f _ _ _ _) (fun hf => ?_));(refine cA (instant_f _ _) (fun hf => ?_));(refine cA (instant_f _ _) (fun hf => ?_));(refine cA (within_f _ _ _ _) (fun hf => ?_));(refine drun_end ?_);(repeat' (first | refine swp_seq [0,1,2] ?_ | (first|refine rF (fun hf=>?_)|refine st0 ?_|refine dF mixed ?_|(refine cB (fun hc=>?_) (fun hc=>?_)<;>first|exact False.elim hc|exact absurd hc Bool.false_ne_true|exact absurd hc.symm Bool.false_ne_true|skip)|refine cU ?_ ?_)));exact DVR
theorem rRight52_f (x : Msg) (m : Nat) (hs : x.node.size <= 281474976710656) : Pu 37 [msgD x] m (lb (msgB x)) := by
  refine pcN 43 [.tmp 2] [4] Tryz.func37 rfl [] ?_;(repeat' (first | refine swp_seq [0,1,2] ?_ | (first|refine rF (fun hf=>?_)|refine st0 ?_|refine dF mixed ?_|(refine cB (fun hc=>?_) (fun hc=>?_)<;>first|exact False.elim hc|exact absurd hc Bool.false_ne_true|exact absurd hc.symm Bool.false_ne_true|skip)|refine cU ?_ ?_)));(refine rC (fun hf => ?_));(refine cA (rName_f _ _ hs) (fun hf => ?_));(refine cA (rTime_f _ _) (fun hf => ?_));(refine cA (rTime_f _ _) (fun hf => ?_));(refine drun_end ?_);(repeat' (first | refine swp_seq [0,1,2] ?_ | (first|refine rF (fun hf=>?_)|refine st0 ?_|refine dF mixed ?_|(refine cB (fun hc=>?_) (fun hc=>?_)<;>first|exact False.elim hc|exact absurd hc Bool.false_ne_true|exact absurd hc.symm Bool.false_ne_true|skip)|refine cU ?_ ?_)));(refine DVQ ?_);unfold msgB inB timeB inB;congr 3
  grind
theorem tValid_f (x : Msg) (m : Nat) (hs : x.node.size <= 281474976710656) : DCalls Tryz.prog 83 [.gl 0] (hget [(0, .lst 39 5 [msgC x])]) m (lb (msgB x)) (hget [(0, .lst 39 5 [msgC x])]) := by
  refine contract (n := 29) (rs := [.tmp 2]) (ts := [4]) Tryz.func83 rfl (by decide) 1 1 [] [] [] (lb (msgB x)) [(0, .lst 39 5 [msgC x])] (by (exact SD)) (by (exact SD)) ?_;(repeat' (first | refine swp_seq [0,2,3,5,8,10,11,12,13,24] ?_ | (first|refine rF (fun hf=>?_)|refine st0 ?_|refine dF mixed ?_|(refine cB (fun hc=>?_) (fun hc=>?_)<;>first|exact False.elim hc|exact absurd hc Bool.false_ne_true|exact absurd hc.symm Bool.false_ne_true|skip)|refine cU ?_ ?_)));refine loop_swp [3, 10, 11, 12] [0, 33] 34 (fun k A H => ∃ (i : Int) (es : List (Value × DV)), ((i = 0 /\ k = 1 /\ es = []) ∨ (i = 1 /\ k = 0 /\ msgB x = true /\ es = [(.agg #[.string x.node, .int .i64 x.number], lb true)])) /\ A = [(3, .mref 33), (10, .gl 0), (11, li 1), (12, li i)] /\ H = [(0, .lst 39 5 [msgC x]), (33, .map es)]) (by omega) ?_ ?_ ?_
  · rintro k A H ⟨i, es, h, rfl, rfl⟩;rcases h with ⟨_, _, rfl⟩ | ⟨_, _, _, rfl⟩
    · exact SDD
    · exact SDD
  · refine ⟨1, 0, [], .inl ⟨rfl, rfl, rfl⟩, ?_, ?_⟩
    · exact DVR
    · exact DVR
  · rintro k A H ⟨i, es, h, rfl, rfl⟩;rcases h with ⟨rfl, rfl, rfl⟩ | ⟨rfl, rfl, hx, rfl⟩
    · (repeat' (first | refine swp_seq [0,2,3,5,8,10,11,12,13,24] ?_ | (first|refine rF (fun hf=>?_)|refine st0 ?_|refine dF mixed ?_|(refine cB (fun hc=>?_) (fun hc=>?_)<;>first|exact False.elim hc|exact absurd hc Bool.false_ne_true|exact absurd hc.symm Bool.false_ne_true|skip)|refine cU ?_ ?_)));(refine rC (fun hf => ?_));(refine cA (right52_f _ _ hs) (fun hf => ?_));(refine cA (keyOf_f _ _) (fun hf => ?_));(refine drun_end ?_);(repeat' (first | refine swp_seq [0,2,3,5,8,10,11,12,13,24] ?_ | (first|refine rF (fun hf=>?_)|refine st0 ?_|refine dF mixed ?_|(refine cB (fun hc=>?_) (fun hc=>?_)<;>first|exact False.elim hc|exact absurd hc Bool.false_ne_true|exact absurd hc.symm Bool.false_ne_true|skip)|refine cU ?_ ?_)))
      · (refine DVQ ?_);rw [hc]
      · (repeat' (first | refine swp_seq [0,2,3,5,8,10,11,12,13,24] ?_ | (first|refine rF (fun hf=>?_)|refine st0 ?_|refine dF mixed ?_|(refine cB (fun hc=>?_) (fun hc=>?_)<;>first|exact False.elim hc|exact absurd hc Bool.false_ne_true|exact absurd hc.symm Bool.false_ne_true|skip)|refine cU ?_ ?_)));(refine rC (fun hf => ?_));(refine cA (keyOf_f _ _) (fun hf => ?_));(refine drun_end ?_);(repeat' (first | refine swp_seq [0,2,3,5,8,10,11,12,13,24] ?_ | (first|refine rF (fun hf=>?_)|refine st0 ?_|refine dF mixed ?_|(refine cB (fun hc=>?_) (fun hc=>?_)<;>first|exact False.elim hc|exact absurd hc Bool.false_ne_true|exact absurd hc.symm Bool.false_ne_true|skip)|refine cU ?_ ?_)));(refine lN [0, 33] ?_);exact ⟨0, by omega, 1, _, .inr ⟨rfl, rfl, hc, rfl⟩, rfl, rfl⟩
    · (repeat' (first | refine swp_seq [0,2,3,5,8,10,11,12,13,24] ?_ | (first|refine rF (fun hf=>?_)|refine st0 ?_|refine dF mixed ?_|(refine cB (fun hc=>?_) (fun hc=>?_)<;>first|exact False.elim hc|exact absurd hc Bool.false_ne_true|exact absurd hc.symm Bool.false_ne_true|skip)|refine cU ?_ ?_)));(refine DVQ ?_);rw [hx]
theorem idxFb_f (g : FuncId) (caps : List DV) (p : UInt8 -> Bool) (hp : ∀ n : UInt8, ∀ m, DCalls Tryz.prog g (u8 n.toNat :: caps) (hget []) m (lb (p n)) (hget [])) (hcl : DV.cleanL caps) (l : List UInt8) (m : Nat) (hl : l.length <= 281474976710656) :
    Pu 130 [bys l, .clo g caps] m (li (idxI p l)) := by
  refine pcN 19 [.tmp 4] [3] Tryz.func130 rfl [] ?_;(repeat' (first | refine swp_seq [0,1,4,5,7,8,9,16] ?_ | (first|refine rF (fun hf=>?_)|refine st0 ?_|refine dF mixed ?_|(refine cB (fun hc=>?_) (fun hc=>?_)<;>first|exact False.elim hc|exact absurd hc Bool.false_ne_true|exact absurd hc.symm Bool.false_ne_true|skip)|refine cU ?_ ?_)));refine loop_swp [0, 1, 7, 8] [] 0 (fun k A H => ∃ i : Nat, i <= l.length /\ k = l.length - i /\ (l.take i).any p = false /\ A = [(0, bys l), (1, .clo g caps), (7, li l.length), (8, li i)] /\ H = []) (by omega) ?_ ?_ ?_
  · rintro k A H ⟨i, h1, h2, h3, rfl, rfl⟩;exact ⟨⟨by (exact SD), cleanL_uses _ _ hcl, by (exact SD)⟩, by (exact SD)⟩
  · refine ⟨_, 0, by omega, rfl, by simp, ?_, ?_⟩
    · exact DVR
    · exact DVR
  · rintro k A H ⟨i, h1, h2, h3, rfl, rfl⟩;(repeat' (first | refine swp_seq [0,1,4,5,7,8,9,16] ?_ | (first|refine rF (fun hf=>?_)|refine st0 ?_|refine dF mixed ?_|(refine cB (fun hc=>?_) (fun hc=>?_)<;>first|exact False.elim hc|exact absurd hc Bool.false_ne_true|exact absurd hc.symm Bool.false_ne_true|skip)|refine cU ?_ ?_)))
    · ((refine rC (fun hf => ?_); refine cA (hp _ _) (fun hf => ?_); refine drun_end ?_))
      (repeat' (first | refine swp_seq [0,1,4,5,7,8,9,16] ?_ | (first|refine rF (fun hf=>?_)|refine st0 ?_|refine dF mixed ?_|(refine cB (fun hc=>?_) (fun hc=>?_)<;>first|exact False.elim hc|exact absurd hc Bool.false_ne_true|exact absurd hc.symm Bool.false_ne_true|skip)|refine cU ?_ ?_)))
      · (refine DVQ ?_);rw [idxI_hit h3 (by omega) hc]
      · (refine lN [] ?_);exact ⟨_, by omega, i + 1, by omega, rfl, any_step h3 (by omega) hc, rfl, rfl⟩
    · (refine DVQ ?_);rw [List.take_of_length_le (by omega)] at h3;rw [idxI_none h3]
theorem conFb_f (g : FuncId) (caps : List DV) (p : UInt8 -> Bool) (hp : ∀ n : UInt8, ∀ m, DCalls Tryz.prog g (u8 n.toNat :: caps) (hget []) m (lb (p n)) (hget [])) (hcl : DV.cleanL caps) (l : List UInt8) (m : Nat) (hl : l.length <= 281474976710656) :
    Pu 84 [bys l, .clo g caps] m (lb (l.any p)) := by
  refine pcN 9 [.tmp 4] [4] Tryz.func84 rfl [] ?_;(repeat' (first | refine swp_seq [0,1,4] ?_ | (first|refine rF (fun hf=>?_)|refine st0 ?_|refine dF mixed ?_|(refine cB (fun hc=>?_) (fun hc=>?_)<;>first|exact False.elim hc|exact absurd hc Bool.false_ne_true|exact absurd hc.symm Bool.false_ne_true|skip)|refine cU ?_ ?_)))
  ((refine rC (fun hf => ?_); refine cA (idxFb_f g caps p hp hcl l _ hl) (fun hf => ?_); refine drun_end ?_))
  (repeat' (first | refine swp_seq [0,1,4] ?_ | (first|refine rF (fun hf=>?_)|refine st0 ?_|refine dF mixed ?_|(refine cB (fun hc=>?_) (fun hc=>?_)<;>first|exact False.elim hc|exact absurd hc Bool.false_ne_true|exact absurd hc.symm Bool.false_ne_true|skip)|refine cU ?_ ?_)));(refine DVQ ?_);rw [idxI_any]
theorem sameInts54_f (l k : List Int) (m : Nat) (hl : l.length <= 281474976710656) (hk : k.length <= 281474976710656) :
    Pu 69 [ints l, ints k] m (lb (decide (l = k))) := by
  refine pcN 26 [.tmp 4] [4] Tryz.func69 rfl [] ?_;(repeat' (first | refine swp_seq [0,1,4,5,10,14,25] ?_ | (first|refine rF (fun hf=>?_)|refine st0 ?_|refine dF mixed ?_|(refine cB (fun hc=>?_) (fun hc=>?_)<;>first|exact False.elim hc|exact absurd hc Bool.false_ne_true|exact absurd hc.symm Bool.false_ne_true|skip)|refine cU ?_ ?_)))
  · (refine DVQ ?_);have : ¬ l = k := fun e => by subst e; exact hc rfl
    simp [this]
  · refine loop_swp [0, 1, 5] [] 0 (fun q A H => ∃ i : Nat, i <= l.length /\ q = l.length - i /\ l.take i = k.take i /\ A = [(0, ints l), (1, ints k), (5, li i)] /\ H = []) (by omega) ?_ ?_ ?_
    · rintro q A H ⟨i, h1, h2, h3, rfl, rfl⟩;exact SDD
    · refine ⟨_, 0, by omega, rfl, rfl, ?_, ?_⟩
      · exact DVR
      · exact DVR
    · rintro q A H ⟨i, h1, h2, h3, rfl, rfl⟩;(repeat' (first | refine swp_seq [0,1,4,5,10,14,25] ?_ | (first|refine rF (fun hf=>?_)|refine st0 ?_|refine dF mixed ?_|(refine cB (fun hc=>?_) (fun hc=>?_)<;>first|exact False.elim hc|exact absurd hc Bool.false_ne_true|exact absurd hc.symm Bool.false_ne_true|skip)|refine cU ?_ ?_)))
      · (refine DVQ ?_);have : ¬ l = k := fun e => by subst e; exact hc rfl
        simp [this]
      · (refine lN [] ?_);exact ⟨_, by omega, i + 1, by omega, rfl, take_next h3 (by omega) (by omega) hc, rfl, rfl⟩
      · (refine DVQ ?_);have : l = k := by
          have h4 := h3
          rwa [List.take_of_length_le (by omega), List.take_of_length_le (by omega)] at h4
        simp [this]
theorem bytesEq_f (l k : List UInt8) (m : Nat) : Pu 23 [bys l, bys k] m (lb (decide (l = k))) := by
  refine pcN 10 [.tmp 4] [4] Tryz.func23 rfl [] ?_;(repeat' (first | refine swp_seq [0,1,4] ?_ | (first|refine rF (fun hf=>?_)|refine st0 ?_|refine dF mixed ?_|(refine cB (fun hc=>?_) (fun hc=>?_)<;>first|exact False.elim hc|exact absurd hc Bool.false_ne_true|exact absurd hc.symm Bool.false_ne_true|skip)|refine cU ?_ ?_)));(refine DVQ ?_);congr 3
  simp
theorem sumStep_u32 (n : Nat) (c : UInt8) : IntKind.u32.wrap (IntKind.u32.wrap (IntKind.u32.wrap (31 * (n : Int)) + (c.toNat : Int)) + 1) = (sumStep n c : Nat) := by
  simp only [IntKind.wrap_u32, sumStep]; have := u8lt c; omega
theorem asum_f (l : List UInt8) (m : Nat) (hl : l.length <= 281474976710656) : Pu 179 [bys l] m (lv (.int .u32 (Go.Eng.sumN l : Nat))) := by
  refine pcN 20 [.tmp 2] [210] Tryz.func179 rfl [] ?_;(repeat' (first | refine swp_seq [0,2,3,5,6,7,8,9] ?_ | (first|refine rF (fun hf=>?_)|refine st0 ?_|refine dF mixed ?_|(refine cB (fun hc=>?_) (fun hc=>?_)<;>first|exact False.elim hc|exact absurd hc Bool.false_ne_true|exact absurd hc.symm Bool.false_ne_true|skip)|refine cU ?_ ?_)));refine loop_swp [3, 6, 7, 8] [] 0 (fun k A H => ∃ i : Nat, i <= l.length /\ k = l.length - i /\ A = [(3, lv (.int .u32 (Go.Eng.sumN (l.take i) : Nat))), (6, bys l), (7, li l.length), (8, li i)] /\ H = []) (by omega) ?_ ?_ ?_
  · rintro k A H ⟨i, h1, h2, rfl, rfl⟩;exact SDD
  · refine ⟨_, 0, by omega, rfl, ?_, ?_⟩
    · exact DVR
    · exact DVR
  · rintro k A H ⟨i, h1, h2, rfl, rfl⟩;(repeat' (first | refine swp_seq [0,2,3,5,6,7,8,9] ?_ | (first|refine rF (fun hf=>?_)|refine st0 ?_|refine dF mixed ?_|(refine cB (fun hc=>?_) (fun hc=>?_)<;>first|exact False.elim hc|exact absurd hc Bool.false_ne_true|exact absurd hc.symm Bool.false_ne_true|skip)|refine cU ?_ ?_)))
    · (refine lN [] ?_);refine ⟨_, by omega, i + 1, by omega, rfl, ?_, rfl⟩;rw [sumStep_u32, sumN_snoc l i (by omega)]; rfl
    · (refine DVQ ?_);rw [List.take_of_length_le (by omega)]
theorem aSum_f (l : List UInt8) (m : Nat) (hl : l.length <= 1048576) : Pu 157 [bys l] m (.tup [li (Go.Eng.sumN l : Nat), li 0]) := by
  have hlt := sumN_lt l;refine pcN 10 [.tmp 2,.tmp 3] [3,45] Tryz.func157 rfl [] ?_;(repeat' (first | refine swp_seq [0,2,3,6] ?_ | (first|refine rF (fun hf=>?_)|refine st0 ?_|refine dF mixed ?_|(refine cB (fun hc=>?_) (fun hc=>?_)<;>first|exact False.elim hc|exact absurd hc Bool.false_ne_true|exact absurd hc.symm Bool.false_ne_true|skip)|refine cU ?_ ?_)))
  · exfalso; omega
  · ((refine rC (fun hf => ?_); refine cA (asum_f l _ (by omega)) (fun hf => ?_); refine drun_end ?_))
    (repeat' (first | refine swp_seq [0,2,3,6] ?_ | (first|refine rF (fun hf=>?_)|refine st0 ?_|refine dF mixed ?_|(refine cB (fun hc=>?_) (fun hc=>?_)<;>first|exact False.elim hc|exact absurd hc Bool.false_ne_true|exact absurd hc.symm Bool.false_ne_true|skip)|refine cU ?_ ?_)));exact DVR
theorem rsum_f (l : List UInt8) (m : Nat) (hl : l.length <= 1048576) : Pu 115 [bys l] m (li (Go.Eng.sumN l : Nat)) := by
  refine pcN 11 [.tmp 2] [3] Tryz.func115 rfl [] ?_;(repeat' (first | refine swp_seq [0,2,3] ?_ | (first|refine rF (fun hf=>?_)|refine st0 ?_|refine dF mixed ?_|(refine cB (fun hc=>?_) (fun hc=>?_)<;>first|exact False.elim hc|exact absurd hc Bool.false_ne_true|exact absurd hc.symm Bool.false_ne_true|skip)|refine cU ?_ ?_)))
  ((refine rC (fun hf => ?_); refine cA (aSum_f l _ hl) (fun hf => ?_); refine drun_end ?_))
  (repeat' (first | refine swp_seq [0,2,3] ?_ | (first|refine rF (fun hf=>?_)|refine st0 ?_|refine dF mixed ?_|(refine cB (fun hc=>?_) (fun hc=>?_)<;>first|exact False.elim hc|exact absurd hc Bool.false_ne_true|exact absurd hc.symm Bool.false_ne_true|skip)|refine cU ?_ ?_)));exact DVR
structure Rec where
  kind : Int
  seconds : Int
  inflows : List Int
  link : ByteArray
  setting : Int
  msg : Msg
  text : ByteArray
abbrev recC (r : Rec) : List DV := [li r.kind, li r.seconds, ints r.inflows, ls r.link, li r.setting, ls r.msg.node, li r.msg.number, li r.msg.att, li r.msg.arrived, li r.msg.level, ls r.text]
abbrev recD (r : Rec) : DV := .agg (recC r)
def recP (r : Rec) : List PV := [.lit (.int .i64 r.kind), .lit (.int .i64 r.seconds), .dat 1 (r.inflows.map inRow), .lit (.string r.link), .lit (.int .i64 r.setting), .lit (.string r.msg.node), .lit (.int .i64 r.msg.number), .lit (.int .i64 r.msg.att), .lit (.int .i64 r.msg.arrived), .lit (.int .i64 r.msg.level), .lit (.string r.text)]
attribute [push_cast] recP
abbrev recs (l : List Rec) : DV := .p (.dat 11 (l.map recP))
def recOk (r : Rec) : Prop := r.inflows.length <= 281474976710656 /\ r.link.size <= 281474976710656 /\ r.msg.node.size <= 281474976710656 /\ r.text.size <= 281474976710656
def msgSame (a b : Msg) : Bool := decide (a.node = b.node) && (a.number == b.number) && (a.att == b.att) && (a.arrived == b.arrived) && (a.level == b.level)
def recSame (a b : Rec) : Bool := (a.kind == b.kind) && (a.seconds == b.seconds) && decide (a.inflows = b.inflows) && decide (a.link = b.link) && (a.setting == b.setting) && msgSame a.msg b.msg && decide (a.text = b.text)
theorem recSame_iff (a b : Rec) : recSame a b = true ↔ a = b := by
  obtain ⟨k, s, i, l, t, ⟨n, m, x, y, z⟩, tx⟩ := a;obtain ⟨k', s', i', l', t', ⟨n', m', x', y', z'⟩, tx'⟩ := b;simp [recSame, msgSame];grind
def zMsg : Msg := ⟨.empty, 0, 0, 0, 0⟩
def zRec : Rec := ⟨0, 0, [], .empty, 0, zMsg, .empty⟩
def recPlain (r : Rec) : Rec :=
  if r.kind = 1 then { zRec with kind := r.kind, seconds := r.seconds, inflows := r.inflows }
  else if r.kind = 2 then { zRec with kind := r.kind, link := r.link, setting := r.setting }
  else if r.kind = 3 then { zRec with kind := r.kind, msg := r.msg }
  else if r.kind = 4 then { zRec with kind := r.kind, text := r.text }
  else { zRec with kind := r.kind }
theorem same54_f (a b : Rec) (m : Nat) (ha : recOk a) (hb : recOk b) : Pu 39 [recD a, recD b] m (lb (recSame a b)) := by
  refine pcN 52 [.tmp 4] [4] Tryz.func39 rfl [] ?_;(repeat' (first | refine swp_seq [0,1,2,3,4] ?_ | (first|refine rF (fun hf=>?_)|refine st0 ?_|refine dF mixed ?_|(refine cB (fun hc=>?_) (fun hc=>?_)<;>first|exact False.elim hc|exact absurd hc Bool.false_ne_true|exact absurd hc.symm Bool.false_ne_true|skip)|refine cU ?_ ?_)))
  ((refine rC (fun hf => ?_); refine cA (sameInts54_f _ _ _ ha.1 hb.1) (fun hf => ?_); refine drun_end ?_))
  (repeat' (first | refine swp_seq [0,1,2,3,4] ?_ | (first|refine rF (fun hf=>?_)|refine st0 ?_|refine dF mixed ?_|(refine cB (fun hc=>?_) (fun hc=>?_)<;>first|exact False.elim hc|exact absurd hc Bool.false_ne_true|exact absurd hc.symm Bool.false_ne_true|skip)|refine cU ?_ ?_)));(refine DVQ ?_);unfold recSame msgSame;congr 3
  grind
theorem equal_f (a b : Rec) (m : Nat) (ha : recOk a) (hb : recOk b) : Pu 78 [recD a, recD b] m (lb (recSame a b)) := by
  refine pcN 52 [.tmp 4] [4] Tryz.func78 rfl [] ?_;(repeat' (first | refine swp_seq [0,1,2,3,4] ?_ | (first|refine rF (fun hf=>?_)|refine st0 ?_|refine dF mixed ?_|(refine cB (fun hc=>?_) (fun hc=>?_)<;>first|exact False.elim hc|exact absurd hc Bool.false_ne_true|exact absurd hc.symm Bool.false_ne_true|skip)|refine cU ?_ ?_)))
  ((refine rC (fun hf => ?_); refine cA (eqlInt_f _ _ _ ha.1 hb.1) (fun hf => ?_); refine drun_end ?_))
  (repeat' (first | refine swp_seq [0,1,2,3,4] ?_ | (first|refine rF (fun hf=>?_)|refine st0 ?_|refine dF mixed ?_|(refine cB (fun hc=>?_) (fun hc=>?_)<;>first|exact False.elim hc|exact absurd hc Bool.false_ne_true|exact absurd hc.symm Bool.false_ne_true|skip)|refine cU ?_ ?_)));(refine DVQ ?_);unfold recSame msgSame;congr 3
  grind
theorem plain54_f (a : Rec) (m : Nat) : Pu 79 [recD a] m (recD (recPlain a)) := by
  refine pcN 36 [.cell 2 41] [41] Tryz.func79 rfl [] ?_;(repeat' (first | refine swp_seq [0,1,2,3,8,9,17,25,30] ?_ | (first|refine rF (fun hf=>?_)|refine st0 ?_|refine dF mixed ?_|(refine cB (fun hc=>?_) (fun hc=>?_)<;>first|exact False.elim hc|exact absurd hc Bool.false_ne_true|exact absurd hc.symm Bool.false_ne_true|skip)|refine cU ?_ ?_) | refine xF mixed [40] ?_));all_goals (refine DVQ ?_)
  all_goals simp [recPlain, zRec, zMsg, li, ls, *]
instance : Inhabited Rec := ⟨zRec⟩
def volsB (l : List Int) : Bool := l.all volB
def recB (r : Rec) : Bool := recSame r (recPlain r) &&
  (if r.kind = 1 then decide (1 <= r.seconds) && decide (r.seconds <= 86400) && decide (r.inflows.length <= 300) && volsB r.inflows
   else if r.kind = 2 then nameB r.link && inB r.setting 0 1000
   else if r.kind = 3 then msgB r.msg
   else if r.kind = 4 then textB r.text else false)
theorem recPlain_ok {r : Rec} (h : recOk r) : recOk (recPlain r) := by
  obtain ⟨h1, h2, h3, h4⟩ := h;unfold recPlain recOk;have e : ByteArray.empty.size = 0 := rfl;split
  · simp [zRec, zMsg]; omega
  · split
    · simp [zRec, zMsg]; omega
    · split
      · simp [zRec, zMsg]; omega
      · split <;> simp [zRec, zMsg] <;> omega
theorem valid1_f (n : Int) (m : Nat) : DCalls Tryz.prog 81 (li n :: []) (hget []) m (lb (!volB n)) (hget []) := by
  refine pcN 9 [.tmp 2] [4] Tryz.func81 rfl [] ?_;(repeat' (first | refine swp_seq [0,2] ?_ | (first|refine rF (fun hf=>?_)|refine st0 ?_|refine dF mixed ?_|(refine cB (fun hc=>?_) (fun hc=>?_)<;>first|exact False.elim hc|exact absurd hc Bool.false_ne_true|exact absurd hc.symm Bool.false_ne_true|skip)|refine cU ?_ ?_)));(refine DVQ ?_);unfold volB;congr 3
  grind
theorem valid2_f (n : UInt8) (m : Nat) : DCalls Tryz.prog 85 (u8 n.toNat :: []) (hget []) m (lb (!(decide (32 <= n.toNat) && decide (n.toNat <= 126)))) (hget []) := by
  refine pcN 9 [.tmp 2] [4] Tryz.func85 rfl [] ?_;(repeat' (first | refine swp_seq [0,2] ?_ | (first|refine rF (fun hf=>?_)|refine st0 ?_|refine dF mixed ?_|(refine cB (fun hc=>?_) (fun hc=>?_)<;>first|exact False.elim hc|exact absurd hc Bool.false_ne_true|exact absurd hc.symm Bool.false_ne_true|skip)|refine cU ?_ ?_)));(refine DVQ ?_);congr 3
  grind
theorem any_not {α : Type} (p : α -> Bool) (l : List α) : (!(l.any fun x => !p x)) = l.all p := by
  induction l with
  | nil => rfl
  | cons x l ih => simp only [List.any_cons, List.all_cons, <- ih]; cases p x <;> simp
theorem recV_f (r : Rec) (m : Nat) (hr : recOk r) : Pu 45 [recD r] m (lb (recB r)) := by
  obtain ⟨h1, h2, h3, h4⟩ := id hr;refine pcN 72 [.tmp 2] [4] Tryz.func45 rfl [] ?_;(repeat' (first | refine swp_seq [0,1,2,7,9,10,32,47,53] ?_ | (first|refine rF (fun hf=>?_)|refine st0 ?_|refine dF mixed ?_|(refine cB (fun hc=>?_) (fun hc=>?_)<;>first|exact False.elim hc|exact absurd hc Bool.false_ne_true|exact absurd hc.symm Bool.false_ne_true|skip)|refine cU ?_ ?_)));(refine xC mixed [] ?_);(refine yA (plain54_f _ _) ?_);(refine yA (equal_f _ _ _ hr (recPlain_ok hr)) ?_);(refine xrun_end ?_);(repeat' (first | refine swp_seq [0,1,2,7,9,10,32,47,53] ?_ | (first|refine rF (fun hf=>?_)|refine st0 ?_|refine dF mixed ?_|(refine cB (fun hc=>?_) (fun hc=>?_)<;>first|exact False.elim hc|exact absurd hc Bool.false_ne_true|exact absurd hc.symm Bool.false_ne_true|skip)|refine cU ?_ ?_)))
  · (refine DVQ ?_); simp [recB, hc]
  · ((refine rC (fun hf => ?_); refine cA (conInt_f _ (fun n => !volB n) _ _ h1 (fun n _ m => valid1_f n m)) (fun hf => ?_); refine drun_end ?_))
    (repeat' (first | refine swp_seq [0,1,2,7,9,10,32,47,53] ?_ | (first|refine rF (fun hf=>?_)|refine st0 ?_|refine dF mixed ?_|(refine cB (fun hc=>?_) (fun hc=>?_)<;>first|exact False.elim hc|exact absurd hc Bool.false_ne_true|exact absurd hc.symm Bool.false_ne_true|skip)|refine cU ?_ ?_)));(refine DVQ ?_);have hs : recSame r (recPlain r) = true := by assumption
    unfold recB volsB;rw [hs, if_pos hc, <- any_not volB r.inflows];generalize r.inflows.any (fun x => !volB x) = t;congr 3
    grind
  · ((refine rC (fun hf => ?_); refine cA (name_f _ _ h2) (fun hf => ?_); refine drun_end ?_))
    (repeat' (first | refine swp_seq [0,1,2,7,9,10,32,47,53] ?_ | (first|refine rF (fun hf=>?_)|refine st0 ?_|refine dF mixed ?_|(refine cB (fun hc=>?_) (fun hc=>?_)<;>first|exact False.elim hc|exact absurd hc Bool.false_ne_true|exact absurd hc.symm Bool.false_ne_true|skip)|refine cU ?_ ?_)));(refine DVQ ?_);simp only [recB, inB, *];congr 3
    grind
  · (refine rC (fun hf => ?_));(refine cT [136] (tValid_f r.msg 1 h3) (fun hf => ?_));(refine drun_end ?_);(repeat' (first | refine swp_seq [0,1,2,7,9,10,32,47,53] ?_ | (first|refine rF (fun hf=>?_)|refine st0 ?_|refine dF mixed ?_|(refine cB (fun hc=>?_) (fun hc=>?_)<;>first|exact False.elim hc|exact absurd hc Bool.false_ne_true|exact absurd hc.symm Bool.false_ne_true|skip)|refine cU ?_ ?_)));(refine DVQ ?_);simp [recB, *]
  · ((refine rC (fun hf => ?_); refine cA (conFb_f _ [] (fun n => !(decide (32 <= n.toNat) && decide (n.toNat <= 126))) (fun n m => valid2_f n m) trivial _ _ (by rw [bsz]; exact h4)) (fun hf => ?_); refine drun_end ?_))
    (repeat' (first | refine swp_seq [0,1,2,7,9,10,32,47,53] ?_ | (first|refine rF (fun hf=>?_)|refine st0 ?_|refine dF mixed ?_|(refine cB (fun hc=>?_) (fun hc=>?_)<;>first|exact False.elim hc|exact absurd hc Bool.false_ne_true|exact absurd hc.symm Bool.false_ne_true|skip)|refine cU ?_ ?_)));(refine DVQ ?_);have hs : recSame r (recPlain r) = true := by assumption
    rw [any_not (fun n : UInt8 => decide (32 <= n.toNat) && decide (n.toNat <= 126))];simp only [recB, textB, hs, hc];generalize (r.text.data.toList.all fun n => decide (32 <= n.toNat) && decide (n.toNat <= 126)) = t;congr 3
    grind
  · (refine DVQ ?_); simp [recB, *]
theorem rRight54_f (r : Rec) (m : Nat) (hr : recOk r) : Pu 9 [recD r] m (lb (recB r)) := by
  obtain ⟨h1, h2, h3, h4⟩ := id hr;refine pcN 89 [.tmp 2] [4] Tryz.func9 rfl [] ?_;(repeat' (first | refine swp_seq [0,1,2,3,4,9,10,31,36,45,46,67,68,76,77,85] ?_ | (first|refine rF (fun hf=>?_)|refine st0 ?_|refine dF mixed ?_|(refine cB (fun hc=>?_) (fun hc=>?_)<;>first|exact False.elim hc|exact absurd hc Bool.false_ne_true|exact absurd hc.symm Bool.false_ne_true|skip)|refine cU ?_ ?_)))
  · (refine DVQ ?_);have : (decide (1 <= r.seconds) && decide (r.seconds <= 86400) && decide (r.inflows.length <= 300)) = false := by grind
    unfold recB;rw [if_pos (by assumption), this]; simp
  · refine loop_swp [1, 3, 4] [0, 40] 41 (fun q A H => ∃ i : Nat, i <= r.inflows.length /\ q = r.inflows.length - i /\ (r.inflows.take i).all volB = true /\ A = [(1, .ptr 0 0), (3, .ptr 40 0), (4, li i)] /\ H = [(0, .blk 41 (recC r)), (40, .blk 41 [li r.kind, li r.seconds, ints r.inflows, ls .empty, li 0, ls .empty, li 0, li 0, li 0, li 0, ls .empty])]) (by omega) ?_ ?_ ?_
    · rintro q A H ⟨i, h1, h2, h3, rfl, rfl⟩;exact SDD
    · refine ⟨_, 0, by omega, rfl, rfl, ?_, ?_⟩
      · exact DVR
      · exact DVR
    · rintro q A H ⟨i, g1, g2, g3, rfl, rfl⟩;(repeat' (first | refine swp_seq [0,1,2,3,4,9,10,31,36,45,46,67,68,76,77,85] ?_ | (first|refine rF (fun hf=>?_)|refine st0 ?_|refine dF mixed ?_|(refine cB (fun hc=>?_) (fun hc=>?_)<;>first|exact False.elim hc|exact absurd hc Bool.false_ne_true|exact absurd hc.symm Bool.false_ne_true|skip)|refine cU ?_ ?_)))
      · ((refine rC (fun hf => ?_); refine cA (rVol_f _ _) (fun hf => ?_); refine drun_end ?_))
        (repeat' (first | refine swp_seq [0,1,2,3,4,9,10,31,36,45,46,67,68,76,77,85] ?_ | (first|refine rF (fun hf=>?_)|refine st0 ?_|refine dF mixed ?_|(refine cB (fun hc=>?_) (fun hc=>?_)<;>first|exact False.elim hc|exact absurd hc Bool.false_ne_true|exact absurd hc.symm Bool.false_ne_true|skip)|refine cU ?_ ?_)))
        · (refine DVQ ?_);have : volsB r.inflows = false := by
            unfold volsB;rw [List.all_eq_false];refine ⟨_, List.getElem_mem (show i < r.inflows.length by omega), ?_⟩;rw [List.getD_eq_getElem?_getD, List.getElem?_eq_getElem (by omega)] at hc;simpa using hc
          unfold recB;rw [if_pos (by assumption), this]; simp
        · (refine lN [0, 40] ?_);refine ⟨_, by omega, i + 1, by omega, rfl, ?_, rfl, rfl⟩;rw [List.take_succ_eq_append_getElem (by omega), List.all_append, g3];rw [List.getD_eq_getElem?_getD, List.getElem?_eq_getElem (by omega)] at hc;simpa using hc
      · ((refine rC (fun hf => ?_); refine cA (same54_f r ⟨r.kind, r.seconds, r.inflows, .empty, 0, zMsg, .empty⟩ _ hr ⟨h1, Nat.zero_le _, Nat.zero_le _, Nat.zero_le _⟩) (fun hf => ?_); refine drun_end ?_))
        (repeat' (first | refine swp_seq [0,1,2,3,4,9,10,31,36,45,46,67,68,76,77,85] ?_ | (first|refine rF (fun hf=>?_)|refine st0 ?_|refine dF mixed ?_|(refine cB (fun hc=>?_) (fun hc=>?_)<;>first|exact False.elim hc|exact absurd hc Bool.false_ne_true|exact absurd hc.symm Bool.false_ne_true|skip)|refine cU ?_ ?_)));(refine DVQ ?_);rw [List.take_of_length_le (by omega)] at g3;have hk : r.kind = 1 := by assumption
        have e : recPlain r = ⟨r.kind, r.seconds, r.inflows, .empty, 0, zMsg, .empty⟩ := by simp [recPlain, zRec, hk]
        unfold recB volsB;rw [if_pos hk, e, g3];congr 3
        grind
  · ((refine rC (fun hf => ?_); refine cA (rName_f _ _ h2) (fun hf => ?_); refine drun_end ?_))
    (repeat' (first | refine swp_seq [0,1,2,3,4,9,10,31,36,45,46,67,68,76,77,85] ?_ | (first|refine rF (fun hf=>?_)|refine st0 ?_|refine dF mixed ?_|(refine cB (fun hc=>?_) (fun hc=>?_)<;>first|exact False.elim hc|exact absurd hc Bool.false_ne_true|exact absurd hc.symm Bool.false_ne_true|skip)|refine cU ?_ ?_)))
    · (refine DVQ ?_);unfold recB inB;rw [if_neg (by assumption), if_pos (by assumption)];congr 3
      grind
    · ((refine rC (fun hf => ?_); refine cA (same54_f r ⟨r.kind, 0, [], r.link, r.setting, zMsg, .empty⟩ _ hr ⟨Nat.zero_le _, h2, Nat.zero_le _, Nat.zero_le _⟩) (fun hf => ?_); refine drun_end ?_))
      (repeat' (first | refine swp_seq [0,1,2,3,4,9,10,31,36,45,46,67,68,76,77,85] ?_ | (first|refine rF (fun hf=>?_)|refine st0 ?_|refine dF mixed ?_|(refine cB (fun hc=>?_) (fun hc=>?_)<;>first|exact False.elim hc|exact absurd hc Bool.false_ne_true|exact absurd hc.symm Bool.false_ne_true|skip)|refine cU ?_ ?_)));(refine DVQ ?_);have hk : r.kind = 2 := by assumption
      have e : recPlain r = ⟨r.kind, 0, [], r.link, r.setting, zMsg, .empty⟩ := by simp [recPlain, zRec, hk]
      unfold recB inB;rw [if_neg (by assumption), if_pos hk, e];congr 3
      grind
  · ((refine rC (fun hf => ?_); refine cA (rRight52_f _ _ h3) (fun hf => ?_); refine drun_end ?_))
    (repeat' (first | refine swp_seq [0,1,2,3,4,9,10,31,36,45,46,67,68,76,77,85] ?_ | (first|refine rF (fun hf=>?_)|refine st0 ?_|refine dF mixed ?_|(refine cB (fun hc=>?_) (fun hc=>?_)<;>first|exact False.elim hc|exact absurd hc Bool.false_ne_true|exact absurd hc.symm Bool.false_ne_true|skip)|refine cU ?_ ?_)))
    · (refine DVQ ?_);unfold recB;rw [if_neg (by assumption), if_neg (by assumption), if_pos (by assumption), hc]; simp
    · ((refine rC (fun hf => ?_); refine cA (same54_f r ⟨r.kind, 0, [], .empty, 0, r.msg, .empty⟩ _ hr ⟨Nat.zero_le _, Nat.zero_le _, h3, Nat.zero_le _⟩) (fun hf => ?_); refine drun_end ?_))
      (repeat' (first | refine swp_seq [0,1,2,3,4,9,10,31,36,45,46,67,68,76,77,85] ?_ | (first|refine rF (fun hf=>?_)|refine st0 ?_|refine dF mixed ?_|(refine cB (fun hc=>?_) (fun hc=>?_)<;>first|exact False.elim hc|exact absurd hc Bool.false_ne_true|exact absurd hc.symm Bool.false_ne_true|skip)|refine cU ?_ ?_)));(refine DVQ ?_);have hk : r.kind = 3 := by assumption
      have e : recPlain r = ⟨r.kind, 0, [], .empty, 0, r.msg, .empty⟩ := by simp [recPlain, zRec, hk]
      unfold recB;rw [if_neg (by assumption), if_neg (by assumption), if_pos hk, e];simp [*]
  · ((refine rC (fun hf => ?_); refine cA (rText_f _ _ h4) (fun hf => ?_); refine drun_end ?_))
    (repeat' (first | refine swp_seq [0,1,2,3,4,9,10,31,36,45,46,67,68,76,77,85] ?_ | (first|refine rF (fun hf=>?_)|refine st0 ?_|refine dF mixed ?_|(refine cB (fun hc=>?_) (fun hc=>?_)<;>first|exact False.elim hc|exact absurd hc Bool.false_ne_true|exact absurd hc.symm Bool.false_ne_true|skip)|refine cU ?_ ?_)))
    · (refine DVQ ?_);unfold recB;rw [if_neg (by assumption), if_neg (by assumption), if_neg (by assumption), if_pos (by assumption), hc]; simp
    · ((refine rC (fun hf => ?_); refine cA (same54_f r ⟨r.kind, 0, [], .empty, 0, zMsg, r.text⟩ _ hr ⟨Nat.zero_le _, Nat.zero_le _, Nat.zero_le _, h4⟩) (fun hf => ?_); refine drun_end ?_))
      (repeat' (first | refine swp_seq [0,1,2,3,4,9,10,31,36,45,46,67,68,76,77,85] ?_ | (first|refine rF (fun hf=>?_)|refine st0 ?_|refine dF mixed ?_|(refine cB (fun hc=>?_) (fun hc=>?_)<;>first|exact False.elim hc|exact absurd hc Bool.false_ne_true|exact absurd hc.symm Bool.false_ne_true|skip)|refine cU ?_ ?_)));(refine DVQ ?_);have hk : r.kind = 4 := by assumption
      have e : recPlain r = ⟨r.kind, 0, [], .empty, 0, zMsg, r.text⟩ := by simp [recPlain, zRec, hk]
      unfold recB;rw [if_neg (by assumption), if_neg (by assumption), if_neg (by assumption), if_pos hk, e];simp [*]
  · (refine DVQ ?_);unfold recB;rw [if_neg (by assumption), if_neg (by assumption), if_neg (by assumption), if_neg (by assumption)]; simp
instance decRec : DecidableEq Rec := fun a b => decidable_of_iff (recSame a b = true) (recSame_iff a b)
end Go.Proofs.YtgpllheklfbfhaaGreat
