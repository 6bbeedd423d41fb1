/-
  Contracts of functions of the program, over the engine.
  No condition.
-/
import Derived.Test.YtgpllheklfbfhaaGreatCN0N1NBNmT1T2T2eT3
import Derived.Test.YtgpllheklfbfhaaGreatCT5T6T6bT7T7bT7c
namespace Go.Proofs.YtgpllheklfbfhaaGreat
open Go.Eng
set_option linter.all false
attribute [local irreducible] DCallsG SWp Fct CallQ XCallQ LCallQ XLCallQ drun xrun
set_option maxHeartbeats 64000000
theorem sameInts_f (l k : List Int) (m : Nat) (hl : l.length <= 281474976710656) (hk : k.length <= 281474976710656) : Pu 56 [ints l, ints k] m (lb (decide (l = k))) := by
  refine pcN 26 [.tmp 4] [4] Tryz.func56 rfl [] ?_;(repeat' first|refine stW [0,1,4,5,10,14,25] ?_|refine fctI fun hf=>?_|refine twI (fun hc=>?_) fun hc=>?_)
  · (refine DVQ ?_);refine lbC ?_;have : ¬ l = k := fun e => by subst e; exact hc rfl
    simp [this]
  · refine loop_swp [0, 1, 5] [] 0 (fun q A H => ∃ i : Nat, i <= l.length /\ q = l.length - i /\ l.take i = k.take i /\ A = [(0, ints l), (1, ints k), (5, li i)] /\ H = []) (by omega) ?_ ?_ ?_
    · rintro q A H ⟨i, h1, h2, h3, rfl, rfl⟩;exact SDD
    · refine ⟨_, 0, by omega, rfl, rfl, ?_, ?_⟩
      · exact DVR
      · exact DVR
    · rintro q A H ⟨i, h1, h2, h3, rfl, rfl⟩;(repeat' first|refine stW [0,1,4,5,10,14,25] ?_|refine fctI fun hf=>?_|refine twI (fun hc=>?_) fun hc=>?_)
      · (refine DVQ ?_);refine lbC ?_;have : ¬ l = k := fun e => by subst e; simp at hc
        simp [this]
      · (refine lN [] ?_);exact ⟨_, by omega, i + 1, by omega, rfl, take_next h3 (by omega) (by omega) (by simpa using hc), rfl, rfl⟩
      · (refine DVQ ?_);refine lbC ?_;have : l = k := by
          have h4 := h3;rw [List.take_of_length_le (by omega), List.take_of_length_le (by omega)] at h4;exact h4
        simp [this]
theorem sta_iff {x y : Sta} : x = y ↔ (x.vol = y.vol /\ x.pon = y.pon /\ x.set = y.set /\ x.on = y.on) := ⟨fun h => by subst h; simp, sta_ext⟩
theorem same_f (a b : Sta) (m : Nat) (ha : staOk a) (hb : staOk b) : Pu 20 [staD a, staD b] m (lb (decide (a = b))) := by
  obtain ⟨⟨a1, _⟩, ⟨a2, _⟩, ⟨a3, _⟩, a4⟩ := ha;obtain ⟨⟨b1, _⟩, ⟨b2, _⟩, ⟨b3, _⟩, b4⟩ := hb;refine pcN 50 [.tmp 4] [4] Tryz.func20 rfl [] ?_;(repeat' first|refine stW [0,1,2,3,4,5,12,17,30] ?_|refine fctI fun hf=>?_|refine twI (fun hc=>?_) fun hc=>?_)
  · (refine DVQ ?_);refine lbC ?_;have : ¬ a = b := fun e => by subst e; exact hc rfl
    simp [this]
  · refine loop_swp [2, 3, 5] [0, 8] 9 (fun q A H => ∃ i : Nat, i <= a.on.length /\ q = a.on.length - i /\ a.on.take i = b.on.take i /\ A = [(2, .ptr 0 0), (3, .ptr 8 0), (5, li i)] /\ H = [(0, .blk 31 (staC a)), (8, .blk 31 (staC b))]) (by omega) ?_ ?_ ?_
    · rintro q A H ⟨i, h1, h2, h3, rfl, rfl⟩;exact SDD
    · refine ⟨_, 0, by omega, rfl, rfl, ?_, ?_⟩
      · exact DVR
      · exact DVR
    · rintro q A H ⟨i, h1, h2, h3, rfl, rfl⟩;(repeat' first|refine stW [0,1,2,3,4,5,12,17,30] ?_|(show CallQ ..;first|refine cQ (fun hcc=>(sameInts_f _ _ _ SC SC)) ?_|(refine lP ?_;refine lQ (fun hcc m=>(sameInts_f _ _ _ SC SC)) ?_))|refine fctI fun hf=>?_|refine twI (fun hc=>?_) fun hc=>?_)
      · (refine DVQ ?_);refine lbC ?_;have : ¬ a = b := fun e => by subst e; simp at hc
        simp [this]
      · (refine lN [0, 8] ?_);exact ⟨_, by omega, i + 1, by omega, rfl, take_next h3 (by omega) (by omega) (by simpa using hc), rfl, rfl⟩
      · (refine DVQ ?_);refine lbC ?_;have : a.on = b.on := by
          have h4 := h3;rw [List.take_of_length_le (by omega), List.take_of_length_le (by omega)] at h4;exact h4
        rw [Bool.eq_iff_iff, decide_eq_true_eq, sta_iff];simp [this];grind
theorem cloneI_f (l : List Int) (m : Nat) (hl : l.length <= 1048576) : DCallsG Tryz.prog 50 [] [ints l] (hget []) m (.gl m) (hget [(m, inLt l)]) := by
  refine contract (n := 8) (rs := [.tmp 2]) (ts := [28]) Tryz.func50 rfl (by decide) 0 0 [] [] [24] (.gl 24) [(24, inLt l)] (by (exact SD)) (by (exact SD)) ?_;cases l with
  | nil =>
    (repeat' (first | refine swp_seq [0, 2, 4] ?_ | (first | refine rF (fun hf => ?_) | refine tN ?_ | refine swp_skip ?_ | refine swp_block ?_ | refine swp_scope ?_ | refine blockK_normal ?_ | refine scopeK_normal ?_ | (refine cB (fun hc => ?_) (fun hc => ?_) <;> first | exact False.elim hc | exact absurd hc Bool.false_ne_true | exact absurd hc.symm Bool.false_ne_true | skip) | refine cU ?_ ?_)))
    · (refine sN 2 3 1 ?_);(refine sR 32 24 ?_);(repeat' (first | refine swp_seq [0, 2, 4] ?_ | (first|refine rF (fun hf=>?_)|refine st0 ?_|refine dF mixed ?_|(refine cB (fun hc=>?_) (fun hc=>?_)<;>first|exact False.elim hc|exact absurd hc Bool.false_ne_true|exact absurd hc.symm Bool.false_ne_true|skip)|refine cU ?_ ?_)));exact DVS
    · (repeat' (first | refine swp_seq [0, 2, 4] ?_ | (first|refine rF (fun hf=>?_)|refine st0 ?_|refine dF mixed ?_|(refine cB (fun hc=>?_) (fun hc=>?_)<;>first|exact False.elim hc|exact absurd hc Bool.false_ne_true|exact absurd hc.symm Bool.false_ne_true|skip)|refine cU ?_ ?_)));exact DVS
  | cons b l =>
    (repeat' (first | refine swp_seq [0,2,4] ?_ | (first|refine rF (fun hf=>?_)|refine st0 ?_|refine dF mixed ?_|(refine cB (fun hc=>?_) (fun hc=>?_)<;>first|exact False.elim hc|exact absurd hc Bool.false_ne_true|exact absurd hc.symm Bool.false_ne_true|skip)|refine cU ?_ ?_)));exact DVS
theorem cloneB_f (l : List Bool) (m : Nat) (hl : l.length <= 1048576) : DCallsG Tryz.prog 146 [] [bools l] (hget []) m (.gl m) (hget [(m, boL l)]) := by
  refine contract (n := 8) (rs := [.tmp 2]) (ts := [29]) Tryz.func146 rfl (by decide) 0 0 [] [] [24] (.gl 24) [(24, boL l)] (by (exact SD)) (by (exact SD)) ?_;cases l with
  | nil =>
    (repeat' (first | refine swp_seq [0, 2, 4] ?_ | (first | refine rF (fun hf => ?_) | refine tN ?_ | refine swp_skip ?_ | refine swp_block ?_ | refine swp_scope ?_ | refine blockK_normal ?_ | refine scopeK_normal ?_ | (refine cB (fun hc => ?_) (fun hc => ?_) <;> first | exact False.elim hc | exact absurd hc Bool.false_ne_true | exact absurd hc.symm Bool.false_ne_true | skip) | refine cU ?_ ?_)))
    · (refine sN 2 4 1 ?_);(refine sR 32 24 ?_);(repeat' (first | refine swp_seq [0, 2, 4] ?_ | (first|refine rF (fun hf=>?_)|refine st0 ?_|refine dF mixed ?_|(refine cB (fun hc=>?_) (fun hc=>?_)<;>first|exact False.elim hc|exact absurd hc Bool.false_ne_true|exact absurd hc.symm Bool.false_ne_true|skip)|refine cU ?_ ?_)));exact DVS
    · (repeat' (first | refine swp_seq [0, 2, 4] ?_ | (first|refine rF (fun hf=>?_)|refine st0 ?_|refine dF mixed ?_|(refine cB (fun hc=>?_) (fun hc=>?_)<;>first|exact False.elim hc|exact absurd hc Bool.false_ne_true|exact absurd hc.symm Bool.false_ne_true|skip)|refine cU ?_ ?_)));exact DVS
  | cons b l =>
    (repeat' (first | refine swp_seq [0,2,4] ?_ | (first|refine rF (fun hf=>?_)|refine st0 ?_|refine dF mixed ?_|(refine cB (fun hc=>?_) (fun hc=>?_)<;>first|exact False.elim hc|exact absurd hc Bool.false_ne_true|exact absurd hc.symm Bool.false_ne_true|skip)|refine cU ?_ ?_)));exact DVS
def lenOk (s : Sta) : Prop := s.vol.length <= 1048576 /\ s.pon.length <= 1048576 /\ s.set.length <= 1048576 /\ s.on.length <= 1048576
theorem copied_f (s : Sta) (m : Nat) (hs : lenOk s) : DCallsG Tryz.prog 107 [] [staD s] (hget []) m (.agg [.gl m, .gl (m + 1), .gl (m + 2), .gl (m + 3)]) (hget [(m, inLt s.vol), (m + 1, inLt s.pon), (m + 2, inLt s.set), (m + 3, boL s.on)]) := by
  obtain ⟨h1, h2, h3, h4⟩ := hs;refine contract (n := 16) (rs := [.cell 2 31]) (ts := [31]) Tryz.func107 rfl (by decide) 0 0 [] [] [32, 56, 80, 104] (.agg [.gl 32, .gl 56, .gl 80, .gl 104]) [(32, inLt s.vol), (56, inLt s.pon), (80, inLt s.set), (104, boL s.on)] (by (exact SD)) (by (exact SD)) ?_;(repeat' first|(show SWp _ _ _ (.region _ _ true) _ _ _ _;refine xG mixed [8] ?_)|refine stW [0,1,2] ?_|(show XCallQ ..;first|refine xQ (fun hcc=>(by first | exact cloneI_f _ _ SC | exact cloneB_f _ _ SC)) ?_|(refine xlP ?_;refine xlQ (fun hcc m=>(by first | exact cloneI_f _ _ SC | exact cloneB_f _ _ SC)) ?_))|refine fctI fun hf=>?_|refine twI (fun hc=>?_) fun hc=>?_);exact DVS
theorem rCopy_f (s : Sta) (m : Nat) (hs : lenOk s) : DCallsG Tryz.prog 16 [] [staD s] (hget []) m (.agg [.gl m, .gl (m + 1), .gl (m + 2), .gl (m + 3)]) (hget [(m, inLt s.vol), (m + 1, inLt s.pon), (m + 2, inLt s.set), (m + 3, boL s.on)]) := by
  obtain ⟨h1, h2, h3, h4⟩ := hs;refine contract (n := 20) (rs := [.cell 2 31]) (ts := [31]) Tryz.func16 rfl (by decide) 0 0 [] [] [40, 72, 104, 136] (.agg [.gl 40, .gl 72, .gl 104, .gl 136]) [(40, inLt s.vol), (72, inLt s.pon), (104, inLt s.set), (136, boL s.on)] (by (exact SD)) (by (exact SD)) ?_;(repeat' first|(show SWp _ _ _ (.region _ _ true) _ _ _ _;refine xG mixed [8, 16, 48, 80, 112] ?_)|refine stW [0,1,2] ?_|refine fctI fun hf=>?_|refine twI (fun hc=>?_) fun hc=>?_);exact DVS
theorem upd_get {α : Type} {h v : List α} {i : Nat} (d : α) (hl : h.length = v.length) (hi : i < v.length) : (h.take i ++ v.drop i).getD i d = v.getD i d := by
  simp only [List.getD_eq_getElem?_getD];rw [List.getElem?_append_right (by simp; omega)];simp; congr 2; omega
theorem upd_step {α : Type} [Inhabited α] {h v : List α} {i : Nat} {x : α} (hl : h.length = v.length) (hi : i < v.length) (hx : x = h.getD i default) : (h.take i ++ v.drop i).set i x = h.take (i + 1) ++ v.drop (i + 1) := by
  have e : h.getD i default = h[i]'(by omega) := by simp [List.getD_eq_getElem?_getD, List.getElem?_eq_getElem (by omega : i < h.length)]
  rw [hx, e, List.drop_eq_getElem_cons hi, List.take_succ_eq_append_getElem (by omega : i < h.length), List.set_append_right _ _ (by simp; omega)];have : i - (h.take i).length = 0 := by simp; omega
  rw [this, List.set_cons_zero]; simp only [List.append_assoc, List.cons_append, List.nil_append]
theorem upd_len {α : Type} {h v : List α} {i : Nat} (hl : h.length = v.length) (hi : i <= v.length) : (h.take i ++ v.drop i).length = v.length := by simp; omega
theorem upd_end {α : Type} {h v : List α} (hl : h.length = v.length) : h.take v.length ++ v.drop v.length = h := by
  rw [<- hl, List.take_length, hl, List.drop_length, List.append_nil]
def heldL (s : Sta) : List Int := (List.range s.vol.length).map fun i => s.vol.getD i default + s.pon.getD i default
theorem heldL_len (s : Sta) : (heldL s).length = s.vol.length := by simp [heldL]
theorem heldL_at (s : Sta) {i : Nat} (hi : i < s.vol.length) : (heldL s).getD i default = s.vol.getD i default + s.pon.getD i default := by
  simp [heldL, List.getD_eq_getElem?_getD, hi]
def holdOk (s : Sta) : Prop := s.vol.length <= 1048576 /\ s.pon.length = s.vol.length /\ ∀ i, i < s.vol.length -> (0 <= s.vol.getD i default /\ s.vol.getD i default <= 1125899906842624) /\ 0 <= s.pon.getD i default /\ s.pon.getD i default <= 1125899906842624
theorem holds_f (s : Sta) (m : Nat) (hs : holdOk s) : DCallsG Tryz.prog 108 [] [staD s] (hget []) m (.gl m) (hget [(m, inLt (heldL s))]) := by
  obtain ⟨k1, k2, k3⟩ := hs;have hl := heldL_len s;refine contract (n := 26) (rs := [.tmp 2]) (ts := [28]) Tryz.func108 rfl (by decide) 0 0 [] [] [32] (.gl 32) [(32, inLt (heldL s))] (by (exact SD)) (by (exact SD)) ?_;(repeat' first|refine stW [0,1,2,3,4,5,10,11,12,13] ?_|(show CallQ ..;first|refine cQ (fun hcc=>(cloneI_f _ _ SC)) ?_|(refine lP ?_;refine lQ (fun hcc m=>(cloneI_f _ _ SC)) ?_))|refine fctI fun hf=>?_|refine twI (fun hc=>?_) fun hc=>?_);refine loop_swp [3, 10, 11, 12] [32] 33 (fun q A H => ∃ i : Nat, i <= s.vol.length /\ q = s.vol.length - i /\ A = [(3, .gl 32), (10, ints s.pon), (11, li s.pon.length), (12, li i)] /\ H = [(32, inLt ((heldL s).take i ++ s.vol.drop i))]) (by omega) ?_ ?_ ?_
  · rintro q A H ⟨i, h1, h2, rfl, rfl⟩;exact SDD
  · refine ⟨_, 0, by omega, rfl, ?_, ?_⟩
    · exact DVR
    · exact DVR
  rintro q A H ⟨i, h1, h2, rfl, rfl⟩;by_cases hi : i < s.vol.length
  · have hb := k3 i hi;have hL := upd_len hl h1;have hg := upd_get (i := i) default hl hi;have hst := fun x hx => upd_step (x := x) hl hi hx
    have hat := heldL_at s hi;generalize hX : (heldL s).take i ++ s.vol.drop i = X at *
    (repeat' first|refine stW [0,1,2,3,4,5,10,11,12,13] ?_|refine fctI fun hf=>?_|refine twI (fun hc=>?_) fun hc=>?_)
    · rw [hg];(refine lN [32] ?_);exact ⟨_, by omega, i + 1, by omega, rfl, rfl, by rw [<- hst _ hat.symm]⟩
    · omega
  have hi2 : i = s.vol.length := by omega
  subst hi2;rw [upd_end hl];(repeat' first|refine stW [0,1,2,3,4,5,10,11,12,13] ?_|refine fctI fun hf=>?_|refine twI (fun hc=>?_) fun hc=>?_)
  · omega
  exact DVS
def hS (n : Net) (held : List Int) : List Int := (List.range n.nodes.length).map fun i => if (n.nodes.getD i default).kind = 3 then 0 else held.getD i default
def vS (n : Net) (held : List Int) : List Int := (List.range n.nodes.length).map fun i => if capN (n.nodes.getD i default) < held.getD i default then capN (n.nodes.getD i default) else held.getD i default
def pS (n : Net) (held : List Int) : List Int := (List.range n.nodes.length).map fun i => held.getD i default - (if capN (n.nodes.getD i default) < held.getD i default then capN (n.nodes.getD i default) else held.getD i default)
def fitI (l : List Int) (i : Nat) : Bool := (List.range i).all fun j => decide (l.getD j default <= 1125899906842624)
def fitS (n : Net) (held : List Int) : Bool := fitI (pS n held) n.nodes.length
theorem fitI_next (l : List Int) (i : Nat) : fitI l (i + 1) = (fitI l i && decide (l.getD i default <= 1125899906842624)) := by simp [fitI, List.range_succ]
theorem map_at {n i : Nat} {f : Nat -> Int} (h : i < n) : ((List.range n).map f).getD i default = f i := by simp [List.getD_eq_getElem?_getD, h]
theorem upd_skip {α : Type} [Inhabited α] {h v : List α} {i : Nat} (hl : h.length = v.length) (hi : i < v.length) (hx : h.getD i default = v.getD i default) : h.take (i + 1) ++ v.drop (i + 1) = h.take i ++ v.drop i := by
  rw [<- upd_step (x := v.getD i default) hl hi hx.symm];have hg := upd_get (h := h) (v := v) (i := i) default hl hi;refine List.ext_getElem? fun j => ?_
  rw [List.getElem?_set];have hl2 := upd_len (i := i) hl (by omega);split
  · next e =>
    subst e;rw [if_pos (by omega), <- hg];simp only [List.getD_eq_getElem?_getD];rw [List.getElem?_eq_getElem (by omega)]; rfl
  · rfl
theorem capN_in {n : Net} (hv : netB n = true) {i : Nat} (hi : i < n.nodes.length) : 0 <= capN (n.nodes.getD i default) /\ capN (n.nodes.getD i default) <= 1125899906842624 := by
  have hr := netB_node hv hi;generalize n.nodes.getD i default = x at *
  unfold capN;by_cases h3 : x.kind = 3
  · rw [if_pos h3]; omega
  · rw [if_neg h3];unfold nodeR kindB at hr;simp only [h3, if_false, Bool.and_eq_true] at hr;have hk : x.kind = 1 ∨ x.kind = 2 := by
      have := hr.2;by_cases hk : x.kind = 1 ∨ x.kind = 2
      · exact hk
      · simp [hk] at this
    have h2 := hr.2;simp only [hk, if_true, Bool.and_eq_true] at h2;have hs := h2.1.1.2;unfold shapeB at hs;simp only [Bool.and_eq_true, decide_eq_true_eq] at hs;have hm := tab_mono hs.1.1.1.1 (x.shape.length - 1) 0 (by omega) (by have := tabB_len hs.1.1.1.1; omega);omega
abbrev owG (x4 x5 : PV) : HV := .blk 31 [.gl 2, .gl 3, .p x4, .p x5]
set_option maxRecDepth 20000 in
theorem settle_f (n : Net) (held vol pon : List Int) (x4 x5 : PV) (m : Nat) (hn : netOk n) (hv : netB n = true) (l1 : held.length = n.nodes.length) (l2 : vol.length = n.nodes.length) (l3 : pon.length = n.nodes.length) (hb : ∀ i, i < n.nodes.length -> 0 <= held.getD i default /\ held.getD i default <= 1152921504606846976) :
    DCallsG Tryz.prog 109 [] [netD n, .ptr 0 0, .gl 1] (hget [(0, owG x4 x5), (1, inLt held), (2, inLt vol), (3, inLt pon)]) m (lb (fitS n (hS n held))) (hget [(0, owG x4 x5), (1, inLt (hS n held)), (2, inLt (vS n (hS n held))), (3, inLt (pS n (hS n held)))]) := by
  have a1 := netB_len hv;have q1 : (hS n held).length = held.length := by simp [hS, l1]
  have q2 : (vS n (hS n held)).length = vol.length := by simp [vS, l2]
  have q3 : (pS n (hS n held)).length = pon.length := by simp [pS, l3]
  refine contract (n := 74) (rs := [.tmp 6]) (ts := [4]) Tryz.func109 rfl (by decide) 4 4 [] [] [] (lb (fitS n (hS n held))) [(0, owG x4 x5), (1, inLt (hS n held)), (2, inLt (vS n (hS n held))), (3, inLt (pS n (hS n held)))] (by (exact SD)) (by (exact SD)) ?_;(repeat' first|refine stW [0,1,2,3,6,7,8,9,10,13,14,15,16,27] ?_|refine fctI fun hf=>?_|refine twI (fun hc=>?_) fun hc=>?_);refine loop_swp [1, 2, 7, 13, 14, 15] [0, 1, 2, 3] 4 (fun q A H => ∃ i : Nat, i <= n.nodes.length /\ q = n.nodes.length - i /\ A = [(1, .ptr 0 0), (2, .gl 1), (7, lb (fitI (pS n (hS n held)) i)), (13, nodeL n.nodes), (14, li n.nodes.length), (15, li i)] /\ H = [(0, owG x4 x5), (1, inLt ((hS n held).take i ++ held.drop i)), (2, inLt ((vS n (hS n held)).take i ++ vol.drop i)), (3, inLt ((pS n (hS n held)).take i ++ pon.drop i))]) (by omega) ?_ ?_ ?_
  · rintro q A H ⟨i, h1, h2, rfl, rfl⟩;exact SDD
  · refine ⟨_, 0, by omega, rfl, ?_, ?_⟩
    · exact DVR
    · exact DVR
  rintro q A H ⟨i, h1, h2, rfl, rfl⟩;by_cases hi : i < n.nodes.length
  · have hbi := hb i hi;have hcap := capN_in hv hi;have hnr := netB_node hv hi;have cc := fun m => Capacity_f (n.nodes.getD i default) m (hn.1.2 _ (getD_mem hi))
    simp only [hnr, if_true] at cc;have L1 := upd_len q1 (i := i) (by omega);have L2 := upd_len q2 (i := i) (by omega);have L3 := upd_len q3 (i := i) (by omega);have G1 := upd_get (i := i) default q1 (by omega);have S1 := fun x hx => upd_step (i := i) (x := x) q1 (by omega) hx
    have S2 := fun x hx => upd_step (i := i) (x := x) q2 (by omega) hx
    have S3 := fun x hx => upd_step (i := i) (x := x) q3 (by omega) hx
    have K1 := upd_skip (i := i) q1 (by omega);have eh : (hS n held).getD i default = if (n.nodes.getD i default).kind = 3 then 0 else held.getD i default := map_at hi
    have ev : (vS n (hS n held)).getD i default = if capN (n.nodes.getD i default) < (hS n held).getD i default then capN (n.nodes.getD i default) else (hS n held).getD i default := map_at hi
    have ep : (pS n (hS n held)).getD i default = (hS n held).getD i default - (if capN (n.nodes.getD i default) < (hS n held).getD i default then capN (n.nodes.getD i default) else (hS n held).getD i default) := map_at hi;have ef := fitI_next (pS n (hS n held)) i;generalize hF : fitI (pS n (hS n held)) i = F at *
    generalize hX1 : (hS n held).take i ++ held.drop i = X1 at *
    generalize hX2 : (vS n (hS n held)).take i ++ vol.drop i = X2 at *
    generalize hX3 : (pS n (hS n held)).take i ++ pon.drop i = X3 at *
    by_cases hk : (n.nodes.getD i default).kind = 3
    · rw [if_pos hk] at eh;have hc0 : capN (n.nodes.getD i default) = 0 := by unfold capN; rw [if_pos hk]
      rw [hc0, eh] at ev ep;rw [hc0] at cc;(have:=NeI hk);(repeat' first|(show SWp _ _ _ (.region _ _ true) _ _ _ _;refine xG mixed [2, 3] ?_)|refine stW [0,1,2,3,6,7,8,9,10,13,14,15,16,27] ?_|(show CallQ ..;first|refine cQ (fun hcc=>(cc _)) ?_|(refine lP ?_;refine lQ (fun hcc m=>(cc _)) ?_))|refine fctI fun hf=>?_|refine twI (fun hc=>?_) fun hc=>?_)
      · (refine lN [0, 1, 2, 3] ?_);refine ⟨_, by omega, i + 1, by omega, rfl, ?_, ?_⟩
        · rw [ef, ep]; cases F <;> rfl
        · rw [<- S1 0 eh.symm, <- S2 0 (by rw [ev]; rfl), <- S3 0 (by rw [ep]; rfl)]
      · omega
    · rw [if_neg hk] at eh;rw [eh, <- G1] at ev ep;(have:=NeI hk);(repeat' first|(show SWp _ _ _ (.region _ _ true) _ _ _ _;refine xG mixed [2, 3] ?_)|refine stW [0,1,2,3,6,7,8,9,10,13,14,15,16,27] ?_|(show CallQ ..;first|refine cQ (fun hcc=>(cc _)) ?_|(refine lP ?_;refine lQ (fun hcc m=>(cc _)) ?_))|refine fctI fun hf=>?_|refine twI (fun hc=>?_) fun hc=>?_)
      · (refine lN [0, 1, 2, 3] ?_);refine ⟨_, by omega, i + 1, by omega, rfl, ?_, ?_⟩
        · rw [ef, ep]; cases F <;> rfl
        · rw [K1 (by rw [eh]), <- S2 _ ev.symm, <- S3 _ ep.symm]
      · omega
  have hi2 : i = n.nodes.length := by omega
  subst hi2;have e1 := upd_end q1;have e2 := upd_end q2;have e3 := upd_end q3;rw [l1] at e1;rw [l2] at e2;rw [l3] at e3;rw [e1, e2, e3];(repeat' first|refine stW [0,1,2,3,6,7,8,9,10,13,14,15,16,27] ?_|refine fctI fun hf=>?_|refine twI (fun hc=>?_) fun hc=>?_)
  · omega
  exact DVS
def sumI (l : List Int) (i : Nat) : Int := (l.take i).sum
theorem sumI_next (l : List Int) {i : Nat} (h : i < l.length) : sumI l (i + 1) = sumI l i + l.getD i default := by
  unfold sumI;rw [List.take_succ_eq_append_getElem h, List.sum_append];simp [List.getD_eq_getElem?_getD, List.getElem?_eq_getElem h]
theorem sumI_le {l : List Int} {b : Int} (h : ∀ i, i < l.length -> 0 <= l.getD i default /\ l.getD i default <= b) : ∀ i, i <= l.length -> 0 <= sumI l i /\ sumI l i <= i * b
  | 0, _ => by simp [sumI]
  | i + 1, hi => by
    have h1 := sumI_le h i (by omega);have h2 := h i (by omega);rw [sumI_next l (by omega)];have : ((i + 1 : Nat) : Int) * b = i * b + b := by push_cast; rw [Int.add_mul]; omega
    omega
theorem staB_in {n : Net} {s : Sta} (hv : netB n = true) (h : staB n s = true) : lensB n s = true /\ (∀ i, i < n.nodes.length -> okSN n s i = true) /\ ∀ i, i < n.links.length -> okSL n s i = true := by
  unfold staB at h; simp only [Bool.and_eq_true, List.all_eq_true, List.mem_range] at h; exact ⟨h.1.1, h.1.2, h.2⟩
theorem sta_hold {n : Net} {s : Sta} (hv : netB n = true) (h : staB n s = true) : holdOk s /\ lenOk s /\ s.vol.length = n.nodes.length /\ s.pon.length = n.nodes.length := by
  obtain ⟨h1, h2, h3⟩ := staB_in hv h;obtain ⟨l1, l2, l3, l4⟩ := lensB_of h1;have a1 := netB_len hv;refine ⟨⟨by omega, by omega, fun i hi => ?_⟩, ⟨by omega, by omega, by omega, by omega⟩, l1, l2⟩;have hk := h2 i (by omega);have hc := capN_in hv (i := i) (by omega);unfold okSN btwB volB at hk;simp only [Bool.and_eq_true, decide_eq_true_eq] at hk;omega
theorem heldL_le {s : Sta} (h : holdOk s) : ∀ i, i < s.vol.length -> 0 <= (heldL s).getD i default /\ (heldL s).getD i default <= 2251799813685248 := fun i hi => by
  have := h.2.2 i hi;rw [heldL_at s hi]; omega
theorem hS_at {n : Net} {held : List Int} {i : Nat} (hi : i < n.nodes.length) : (hS n held).getD i default = if (n.nodes.getD i default).kind = 3 then 0 else held.getD i default := map_at hi
def strRow (s : ByteArray) : List PV := [.lit (.string s)]
theorem app_str (l : List ByteArray) (v : ByteArray) : rows strRow l ++ [[.p (.lit (.string v))]] = rows strRow (l ++ [v]) := by simp [rows, strRow]
attribute [push_cast] strRow app_str
abbrev paL (l : List (Int × Int)) : HV := .lst 153 2 (rows pairP l)
theorem app_pair (l : List (Int × Int)) (a b : Int) : rows pairP l ++ [[.p (.lit (.int .i64 a)), .p (.lit (.int .i64 b))]] = rows pairP (l ++ [(a, b)]) := by simp [rows, pairP]
attribute [push_cast] app_pair
def edgeL (n : Net) : List (Int × Int) := n.links.map fun l => (nodeIx n.nodes l.fro, nodeIx n.nodes l.til)
theorem edgeL_len (n : Net) : (edgeL n).length = n.links.length := by simp [edgeL]
theorem edgeL_at {n : Net} {i : Nat} (h : i < n.links.length) : (edgeL n).getD i default = (nodeIx n.nodes (n.links.getD i default).fro, nodeIx n.nodes (n.links.getD i default).til) := by
  simp [edgeL, List.getD_eq_getElem?_getD, h]
theorem take_snoc {α : Type} [Inhabited α] {l : List α} {i : Nat} (h : i < l.length) : l.take (i + 1) = l.take i ++ [l.getD i default] := by
  rw [List.take_succ_eq_append_getElem h];simp [List.getD_eq_getElem?_getD, List.getElem?_eq_getElem h]
set_option maxRecDepth 20000 in
theorem edges_f (n : Net) (m : Nat) (h1 : n.nodes.length <= 300) (h2 : n.links.length <= 400) : Pu 178 [netD n] m (pairs (edgeL n)) := by
  have hel := edgeL_len n;refine pcN 27 [.tmp 2] [150] Tryz.func178 rfl [8] ?_;(repeat' first|refine stW [0,1,2,3,5,7,8,9,10] ?_|refine fctI fun hf=>?_|refine twI (fun hc=>?_) fun hc=>?_);refine loop_swp [1, 3, 7, 8, 9] [0, 8] 9 (fun q A H => ∃ (i : Nat) (d : DV), i <= n.links.length /\ q = n.links.length - i /\ ((i = 0 /\ d = nilS /\ H = [(0, .blk 25 (netC n))]) ∨ (d = .gl 8 /\ H = [(0, .blk 25 (netC n)), (8, paL ((edgeL n).take i))])) /\ A = [(1, .ptr 0 0), (3, d), (7, linkL n.links), (8, li n.links.length), (9, li i)]) (by omega) ?_ ?_ ?_
  · rintro q A H ⟨i, d, h1, h2, h3, rfl⟩;rcases h3 with ⟨_, rfl, rfl⟩ | ⟨rfl, rfl⟩
    · exact SDD
    · exact SDD
  · refine ⟨_, 0, nilS, by omega, rfl, .inl ⟨rfl, rfl, ?_⟩, ?_⟩
    · exact DVR
    · exact DVR
  rintro q A H ⟨i, d, k1, k2, h3, rfl⟩;by_cases hi : i < n.links.length
  · have hnext := take_snoc (l := edgeL n) (i := i) (by omega);rw [edgeL_at hi] at hnext;have c1 := fun s m => node_f n s m (by omega)
    rcases h3 with ⟨rfl, rfl, rfl⟩ | ⟨rfl, rfl⟩
    · (repeat' first|refine stW [0,1,2,3,5,7,8,9,10] ?_|(show XCallQ ..;first|refine xQ (fun hcc=>(c1 _ _)) ?_|(refine xlP ?_;refine xlQ (fun hcc m=>(c1 _ _)) ?_))|refine fctI fun hf=>?_|refine twI (fun hc=>?_) fun hc=>?_)
      · (refine lR 137 8 [0, 137] ?_);exact ⟨_, by omega, 1, _, by omega, rfl, .inr ⟨rfl, by rw [hnext]; rfl⟩, rfl⟩
      · omega
    · (repeat' first|(show SWp _ _ _ (.region _ _ true) _ _ _ _;refine xG mixed [8] ?_)|refine stW [0,1,2,3,5,7,8,9,10] ?_|(show XCallQ ..;first|refine xQ (fun hcc=>(c1 _ _)) ?_|(refine xlP ?_;refine xlQ (fun hcc m=>(c1 _ _)) ?_))|refine fctI fun hf=>?_|refine twI (fun hc=>?_) fun hc=>?_)
      · (refine lR 137 8 [0, 137] ?_);exact ⟨_, by omega, i + 1, _, by omega, rfl, .inr ⟨rfl, by rw [hnext]⟩, rfl⟩
      · omega
  have hi2 : i = n.links.length := by omega
  subst hi2;rcases h3 with ⟨h0, rfl, rfl⟩ | ⟨rfl, rfl⟩
  · (repeat' first|refine stW [0,1,2,3,5,7,8,9,10] ?_|refine fctI fun hf=>?_|refine twI (fun hc=>?_) fun hc=>?_)
    · omega
    have : edgeL n = [] := List.eq_nil_of_length_eq_zero (by omega);rw [this];first | ((refine DVQ ?_); all_goals rfl) | exact DVR
  · (repeat' first|refine stW [0,1,2,3,5,7,8,9,10] ?_|refine fctI fun hf=>?_|refine twI (fun hc=>?_) fun hc=>?_)
    · omega
    rw [List.take_of_length_le (by omega)];first | ((refine DVQ ?_); all_goals rfl) | exact DVR
theorem Edges_f (n : Net) (m : Nat) (hn : netOk n) : Pu 153 [netD n] m (if netB n then .tup [pairs (edgeL n), li 0] else .tup [pairs [], li 1]) := by
  have cv := fun m => netValid_f n m hn
  cases hv : netB n <;> simp only [hv] at cv
  · refine pcN 9 [.tmp 2,.tmp 3] [150,45] Tryz.func153 rfl [] ?_;(repeat' first|refine stW [0,1,2,3,6] ?_|(show CallQ ..;first|refine cQ (fun hcc=>(cv _)) ?_|(refine lP ?_;refine lQ (fun hcc m=>(cv _)) ?_))|refine fctI fun hf=>?_|refine twI (fun hc=>?_) fun hc=>?_);first | ((refine DVQ ?_); all_goals rfl) | exact DVR
  · obtain ⟨h1, h2⟩ := netB_len hv;refine pcN 9 [.tmp 2,.tmp 3] [150,45] Tryz.func153 rfl [] ?_;(repeat' first|refine stW [0,1,2,3,6] ?_|(show CallQ ..;first|refine cQ (fun hcc=>(by exact edges_f n _ h1 h2)) ?_|(refine lP ?_;refine lQ (fun hcc m=>(by exact edges_f n _ h1 h2)) ?_))|refine fctI fun hf=>?_|refine twI (fun hc=>?_) fun hc=>?_);first | ((refine DVQ ?_); all_goals rfl) | exact DVR

end Go.Proofs.YtgpllheklfbfhaaGreat
