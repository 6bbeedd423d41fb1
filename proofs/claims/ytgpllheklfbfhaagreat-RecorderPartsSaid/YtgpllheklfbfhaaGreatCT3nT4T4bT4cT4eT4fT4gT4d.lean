/-
  Contracts of functions of the program, over the engine.
  No condition.
-/
import Derived.Test.YtgpllheklfbfhaaGreatCN0N1NBNmT1T2T2eT3
namespace Go.Proofs.YtgpllheklfbfhaaGreat
open Go.Eng
set_option linter.all false
attribute [local irreducible] DCallsG SWp Fct CallQ XCallQ LCallQ XLCallQ drun xrun
set_option maxHeartbeats 64000000
theorem rightNode_f (x : Node) (m : Nat) (hx : nodeOk x) : Pu 86 [nodeD x] m (lb (nodeR x)) := by
  obtain ⟨k1, k2, k3, k4, k5, k6, k7⟩ := hx;have cn := fun m => name_f x.name m k1
  have cx := fun m => between_f x.pos.x (-16777216) 16777216 m
  have cy := fun m => between_f x.pos.y (-16777216) 16777216 m
  refine pcN 101 [.tmp 2] [4] Tryz.func86 rfl [] ?_;cases hn : nameB x.name
  · simp only [hn] at cn;(repeat' first|refine stW [0,1,2,29,31,32,59,62,78] ?_|(show CallQ ..;first|refine cQ (fun hcc=>(by exact callR)) ?_|(refine lP ?_;refine lQ (fun hcc m=>(by exact callR)) ?_))|(show XCallQ ..;first|refine xQ (fun hcc=>(by exact callR)) ?_|(refine xlP ?_;refine xlQ (fun hcc m=>(by exact callR)) ?_))|refine fctI fun hf=>?_|refine twI (fun hc=>?_) fun hc=>?_);(refine DVQ ?_);refine lbC ?_;unfold nodeR; rw [hn]; simp
  simp only [hn] at cn;cases hx : btwB x.pos.x (-16777216) 16777216
  · simp only [hx] at cx;(repeat' first|refine stW [0,1,2,29,31,32,59,62,78] ?_|(show CallQ ..;first|refine cQ (fun hcc=>(by exact callR)) ?_|(refine lP ?_;refine lQ (fun hcc m=>(by exact callR)) ?_))|(show XCallQ ..;first|refine xQ (fun hcc=>(by exact callR)) ?_|(refine xlP ?_;refine xlQ (fun hcc m=>(by exact callR)) ?_))|refine fctI fun hf=>?_|refine twI (fun hc=>?_) fun hc=>?_);(refine DVQ ?_);refine lbC ?_;unfold nodeR; rw [hx]; simp
  simp only [hx] at cx;cases hy : btwB x.pos.y (-16777216) 16777216
  · simp only [hy] at cy;(repeat' first|refine stW [0,1,2,29,31,32,59,62,78] ?_|(show CallQ ..;first|refine cQ (fun hcc=>(by exact callR)) ?_|(refine lP ?_;refine lQ (fun hcc m=>(by exact callR)) ?_))|(show XCallQ ..;first|refine xQ (fun hcc=>(by exact callR)) ?_|(refine xlP ?_;refine xlQ (fun hcc m=>(by exact callR)) ?_))|refine fctI fun hf=>?_|refine twI (fun hc=>?_) fun hc=>?_);(refine DVQ ?_);refine lbC ?_;unfold nodeR; rw [hy]; simp
  simp only [hy] at cy;have hlv : ((!([x.inv, x.gnd] : List Int).any fun n => !levB n)) = (levB x.inv && levB x.gnd) := by simp
  have cl : ∀ m, Pu 132 [ints [x.inv, x.gnd]] m (lb (levB x.inv && levB x.gnd)) := fun m => hlv ▸ level_f [x.inv, x.gnd] m (by simp)
  cases hl : levB x.inv && levB x.gnd
  · simp only [hl] at cl;(repeat' first|refine stW [0,1,2,29,31,32,59,62,78] ?_|(show CallQ ..;first|refine cQ (fun hcc=>(by first | exact cl _ | exact callR)) ?_|(refine lP ?_;refine lQ (fun hcc m=>(by first | exact cl _ | exact callR)) ?_))|(show XCallQ ..;first|refine xQ (fun hcc=>(by first | exact cl _ | exact callR)) ?_|(refine xlP ?_;refine xlQ (fun hcc m=>(by first | exact cl _ | exact callR)) ?_))|refine fctI fun hf=>?_|refine twI (fun hc=>?_) fun hc=>?_);(refine DVQ ?_);refine lbC ?_;clear cn cx cy cl hlv;unfold nodeR; rw [Bool.and_assoc, Bool.and_assoc];simp at hl ⊢;grind
  simp only [hl] at cl;have hl2 : (-4194304 <= x.inv /\ x.inv <= 4194304) /\ (-4194304 <= x.gnd /\ x.gnd <= 4194304) := by
    unfold levB at hl; simp at hl; omega
  have hnr : nodeR x = kindB x := by unfold nodeR; rw [hn, hx, hy, Bool.and_assoc, Bool.and_assoc, <- Bool.and_assoc (levB x.inv), hl]; simp
  rw [hnr];have cs := fun m => shaped_f x.shape (x.gnd - x.inv) m k6.1
  cases hs : shapeB x.shape (x.gnd - x.inv) <;> simp only [hs] at cs
  · (repeat' first|refine stW [0,1,2,29,31,32,59,62,78] ?_|(show CallQ ..;first|refine cQ (fun hcc=>(by first | exact cl _ | exact callR)) ?_|(refine lP ?_;refine lQ (fun hcc m=>(by first | exact cl _ | exact callR)) ?_))|(show XCallQ ..;first|refine xQ (fun hcc=>(by first | exact cl _ | exact callR)) ?_|(refine xlP ?_;refine xlQ (fun hcc m=>(by first | exact cl _ | exact callR)) ?_))|refine fctI fun hf=>?_|refine twI (fun hc=>?_) fun hc=>?_);all_goals ((refine DVQ ?_); refine lbC ?_; unfold kindB; rw [hs]; clear cn cx cy cl cs hlv hnr; grind)
  · have h3 := shapeB_len hs;(repeat' first|refine stW [0,1,2,29,31,32,59,62,78] ?_|(show CallQ ..;first|refine cQ (fun hcc=>(by first | exact cl _ | exact callR)) ?_|(refine lP ?_;refine lQ (fun hcc m=>(by first | exact cl _ | exact callR)) ?_))|(show XCallQ ..;first|refine xQ (fun hcc=>(by first | exact cl _ | exact callR)) ?_|(refine xlP ?_;refine xlQ (fun hcc m=>(by first | exact cl _ | exact callR)) ?_))|refine fctI fun hf=>?_|refine twI (fun hc=>?_) fun hc=>?_);all_goals ((refine DVQ ?_); refine lbC ?_; unfold kindB; rw [hs]; clear cn cx cy cl cs hlv hnr; grind)
def curveB (t : List Knot) : Bool := tabB t && decide (0 <= (t.getD 0 default).x) && decide ((t.getD (t.length - 1) default).x <= 4194304) && decide (0 <= (t.getD 0 default).y) && decide ((t.getD (t.length - 1) default).y <= 1099511627776)
def kindL (x : Link) : Bool :=
  if x.kind = 1 then btwB x.length 1 16777216 && nameB x.sect && decide (x.width = 0) && decide (x.height = 0) && decide (x.curve.length = 0)
  else if x.kind = 2 then decide (x.length = 0) && decide (x.down = 0) && decide (x.sect.size = 0) && btwB x.width 1 1048576 && decide (x.height = 0) && decide (x.curve.length = 0)
  else if x.kind = 3 then decide (x.length = 0) && decide (x.down = 0) && decide (x.sect.size = 0) && btwB x.width 1 32768 && btwB x.height 1 32768 && decide (x.curve.length = 0)
  else if x.kind = 4 then decide (x.length = 0) && decide (x.down < x.up) && decide (x.sect.size = 0) && decide (x.width = 0) && decide (x.height = 0) && curveB x.curve
  else false
def linkR (x : Link) : Bool := nameB x.name && nameB x.fro && nameB x.til && !decide (x.fro = x.til) && levB x.up && levB x.down && kindL x
def plainL (x : Link) : Link := ⟨x.name, x.fro, x.til, x.kind, if x.kind = 1 then x.length else 0, x.up, if x.kind = 1 ∨ x.kind = 4 then x.down else 0, if x.kind = 1 then x.sect else .empty, if x.kind = 2 ∨ x.kind = 3 then x.width else 0, if x.kind = 3 then x.height else 0, if x.kind = 4 then x.curve else []⟩
theorem plain_f (x : Link) (m : Nat) : Pu 136 [linkD x] m (linkD (plainL x)) := by
  refine pcN 50 [.cell 2 56] [56] Tryz.func136 rfl [] ?_;by_cases k1 : x.kind = 1
  · (have:=NeI k1);(repeat' first|(show SWp _ _ _ (.region _ _ true) _ _ _ _;refine xG mixed [104] ?_)|refine stW [0,1,2,3,16,17,28,33,41] ?_|refine fctI fun hf=>?_|refine twI (fun hc=>?_) fun hc=>?_);(refine DVQ ?_);simp only [plainL, linkC, k1]; rfl
  (have:=NeI k1);by_cases k2 : x.kind = 2
  · (have:=NeI k2);(repeat' first|(show SWp _ _ _ (.region _ _ true) _ _ _ _;refine xG mixed [104] ?_)|refine stW [0,1,2,3,16,17,28,33,41] ?_|refine fctI fun hf=>?_|refine twI (fun hc=>?_) fun hc=>?_);(refine DVQ ?_);simp only [plainL, linkC, k2]; rfl
  (have:=NeI k2);by_cases k3 : x.kind = 3
  · (have:=NeI k3);(repeat' first|(show SWp _ _ _ (.region _ _ true) _ _ _ _;refine xG mixed [104] ?_)|refine stW [0,1,2,3,16,17,28,33,41] ?_|refine fctI fun hf=>?_|refine twI (fun hc=>?_) fun hc=>?_);(refine DVQ ?_);simp only [plainL, linkC, k3]; rfl
  (have:=NeI k3);by_cases k4 : x.kind = 4
  · (have:=NeI k4);(repeat' first|(show SWp _ _ _ (.region _ _ true) _ _ _ _;refine xG mixed [104] ?_)|refine stW [0,1,2,3,16,17,28,33,41] ?_|refine fctI fun hf=>?_|refine twI (fun hc=>?_) fun hc=>?_);(refine DVQ ?_);simp only [plainL, linkC, k4]; rfl
  (have:=NeI k4);(repeat' first|(show SWp _ _ _ (.region _ _ true) _ _ _ _;refine xG mixed [104] ?_)|refine stW [0,1,2,3,16,17,28,33,41] ?_|refine fctI fun hf=>?_|refine twI (fun hc=>?_) fun hc=>?_);(refine DVQ ?_);simp only [plainL, linkC, k1, k2, k3, k4]; rfl
set_option maxRecDepth 20000 in
theorem sameLink_f (x y : Link) (m : Nat) (hx : linkOk x) (hy : linkOk y) : Pu 135 [linkD x, linkD y] m (lb (decide (x = y))) := by
  obtain ⟨_, _, _, _, _, _, _, _, _, _, k1, _⟩ := hx;obtain ⟨_, _, _, _, _, _, _, _, _, _, k2, _⟩ := hy;refine pcN 80 [.tmp 4] [4] Tryz.func135 rfl [] ?_;(repeat' first|refine stW [0,1,2,3,4] ?_|(show CallQ ..;first|refine cQ (fun hcc=>(eqlKnot_f _ _ _ SC SC)) ?_|(refine lP ?_;refine lQ (fun hcc m=>(eqlKnot_f _ _ _ SC SC)) ?_))|refine fctI fun hf=>?_|refine twI (fun hc=>?_) fun hc=>?_);(refine DVQ ?_);refine lbC ?_;rw [Bool.eq_iff_iff];rw [decide_eq_true_eq];constructor
  · intro h;refine link_ext ?_;grind
  · rintro rfl;simp
theorem rLevel_f (n : Int) (m : Nat) : Pu 119 [li n] m (lb (levB n)) := by
  refine pcN 9 [.tmp 2] [4] Tryz.func119 rfl [] ?_;(repeat' first|refine stW [0,2] ?_|refine fctI fun hf=>?_|refine twI (fun hc=>?_) fun hc=>?_);exact DVR
theorem rPos_f (n : Int) (m : Nat) : Pu 118 [li n] m (lb (btwB n (-16777216) 16777216)) := by
  refine pcN 9 [.tmp 2] [4] Tryz.func118 rfl [] ?_;(repeat' first|refine stW [0,2] ?_|refine fctI fun hf=>?_|refine twI (fun hc=>?_) fun hc=>?_);exact DVR
theorem rWithin_f (n k : Int) (m : Nat) : Pu 121 [li n, li k] m (lb (btwB n 1 k)) := by
  refine pcN 12 [.tmp 4] [4] Tryz.func121 rfl [] ?_;(repeat' first|refine stW [0,1,4] ?_|refine fctI fun hf=>?_|refine twI (fun hc=>?_) fun hc=>?_);exact DVR
theorem rShape_f (t : List Knot) (d : Int) (m : Nat) (hl : t.length <= 281474976710656) : Pu 120 [knotL t, li d] m (lb (shapeB t d)) := by
  refine pcN 38 [.tmp 4] [4] Tryz.func120 rfl [] ?_;(repeat' first|refine stW [0,1,4,5,8] ?_|(show CallQ ..;first|refine cQ (fun hcc=>(rTab_f _ _ SC)) ?_|(refine lP ?_;refine lQ (fun hcc m=>(rTab_f _ _ SC)) ?_))|refine fctI fun hf=>?_|refine twI (fun hc=>?_) fun hc=>?_)
  · (refine DVQ ?_);refine lbC ?_;unfold shapeB; rw [hc]; rfl
  · have h2 := tabB_len hc;(repeat' first|refine stW [0,1,4,5,8] ?_|(show CallQ ..;first|refine cQ (fun hcc=>(rTab_f _ _ SC)) ?_|(refine lP ?_;refine lQ (fun hcc m=>(rTab_f _ _ SC)) ?_))|refine fctI fun hf=>?_|refine twI (fun hc=>?_) fun hc=>?_);(refine DVQ ?_);refine lbC ?_;unfold shapeB; rw [hc];grind
theorem rCurve_f (t : List Knot) (m : Nat) (hl : t.length <= 281474976710656) : Pu 122 [knotL t] m (lb (curveB t)) := by
  have ct := fun m => rTab_f t m hl
  refine pcN 39 [.tmp 2] [4] Tryz.func122 rfl [] ?_;cases ht : tabB t <;> simp only [ht] at ct
  · (repeat' first|refine stW [0,2] ?_|(show CallQ ..;first|refine cQ (fun hcc=>(ct _)) ?_|(refine lP ?_;refine lQ (fun hcc m=>(ct _)) ?_))|refine fctI fun hf=>?_|refine twI (fun hc=>?_) fun hc=>?_);(refine DVQ ?_);refine lbC ?_;unfold curveB;rw [ht]; simp
  · have h2 := tabB_len ht;(repeat' first|refine stW [0,2] ?_|(show CallQ ..;first|refine cQ (fun hcc=>(ct _)) ?_|(refine lP ?_;refine lQ (fun hcc m=>(ct _)) ?_))|refine fctI fun hf=>?_|refine twI (fun hc=>?_) fun hc=>?_);(refine DVQ ?_);refine lbC ?_;unfold curveB;rw [ht]; grind
theorem callRN {g : FuncId} {C : List Nat} {args : List DV} {h h' : Nat -> Option HV} {m : Nat} {d : DV} (k : DCallsG Tryz.prog g C args h m d h' := by first | exact rName_f _ _ SC | exact rPos_f _ _ | exact rLevel_f _ _ | exact rWithin_f _ _ _ | exact rShape_f _ _ _ SC | exact rCurve_f _ _ SC) : DCallsG Tryz.prog g C args h m d h' := k
theorem levB_in {n : Int} (h : levB n = true) : -4194304 <= n /\ n <= 4194304 := by unfold levB at h; simp at h; omega
set_option maxRecDepth 20000 in
theorem rRightNode_f (x : Node) (m : Nat) (hx : nodeOk x) : Pu 70 [nodeD x] m (lb (nodeR x)) := by
  obtain ⟨k1, k2, k3, k4, k5, k6, k7⟩ := hx;have ca := fun m => rLevel_f x.inv m
  have cb := fun m => rLevel_f x.gnd m
  have cs := fun m => rShape_f x.shape (x.gnd - x.inv) m k6.1
  refine pcN 105 [.tmp 2] [4] Tryz.func70 rfl [] ?_;cases ha : levB x.inv <;> simp only [ha] at ca
  · (repeat' first|refine stW [0,1,2,32,34,35,58,76,79] ?_|(show CallQ ..;first|refine cQ (fun hcc=>(by exact callRN)) ?_|(refine lP ?_;refine lQ (fun hcc m=>(by exact callRN)) ?_))|refine fctI fun hf=>?_|refine twI (fun hc=>?_) fun hc=>?_);(refine DVQ ?_); refine lbC ?_; unfold nodeR; rw [ha]; simp
  cases hb : levB x.gnd <;> simp only [hb] at cb
  · (repeat' first|refine stW [0,1,2,32,34,35,58,76,79] ?_|(show CallQ ..;first|refine cQ (fun hcc=>(by exact callRN)) ?_|(refine lP ?_;refine lQ (fun hcc m=>(by exact callRN)) ?_))|refine fctI fun hf=>?_|refine twI (fun hc=>?_) fun hc=>?_);(refine DVQ ?_); refine lbC ?_; unfold nodeR; rw [hb]; simp
  have ha2 := levB_in ha;have hb2 := levB_in hb;cases hs : shapeB x.shape (x.gnd - x.inv) <;> simp only [hs] at cs
  · (repeat' first|refine stW [0,1,2,32,34,35,58,76,79] ?_|(show CallQ ..;first|refine cQ (fun hcc=>(by exact callRN)) ?_|(refine lP ?_;refine lQ (fun hcc m=>(by exact callRN)) ?_))|refine fctI fun hf=>?_|refine twI (fun hc=>?_) fun hc=>?_);all_goals ((refine DVQ ?_); refine lbC ?_; unfold nodeR kindB; rw [hs]; clear ca cb cs; first | grind | (simp_all [btwB]; done) | (simp_all [btwB]; omega))
  · have h3 := shapeB_len hs;(repeat' first|refine stW [0,1,2,32,34,35,58,76,79] ?_|(show CallQ ..;first|refine cQ (fun hcc=>(by exact callRN)) ?_|(refine lP ?_;refine lQ (fun hcc m=>(by exact callRN)) ?_))|refine fctI fun hf=>?_|refine twI (fun hc=>?_) fun hc=>?_);all_goals ((refine DVQ ?_); refine lbC ?_; unfold nodeR kindB; rw [hs]; clear ca cb cs; first | grind | (simp_all [btwB]; done) | (simp_all [btwB]; omega))
theorem rl1_f (k : Knot) (m : Nat) : Pu 139 [knotD k] m (lb (!(btwB k.x 0 4194304 && btwB k.y 0 1099511627776))) := by
  refine pcN 13 [.tmp 2] [4] Tryz.func139 rfl [] ?_;(repeat' first|refine stW [0,1,2] ?_|(show CallQ ..;first|refine cQ (fun hcc=>(between_f _ _ _ _)) ?_|(refine lP ?_;refine lQ (fun hcc m=>(between_f _ _ _ _)) ?_))|refine fctI fun hf=>?_|refine twI (fun hc=>?_) fun hc=>?_);(refine DVQ ?_);refine lbC ?_;cases btwB k.x 0 4194304 <;> simp
theorem tab_mono {t : List Knot} (h : tabB t = true) : ∀ j i, i <= j -> j < t.length -> (t.getD i default).x <= (t.getD j default).x /\ (t.getD i default).y <= (t.getD j default).y := by
  unfold tabB at h;simp only [Bool.and_eq_true, List.all_eq_true, List.mem_range] at h;intro j;induction j with
  | zero => intro i hi _; have : i = 0 := by omega
            subst this; omega
  | succ j ih =>
    intro i hi hj;have h1 := h.2 (j + 1) hj;unfold tabR at h1;simp at h1;by_cases e : i = j + 1
    · subst e; omega
    · have := ih i (by omega) (by omega);simp only [List.getD_eq_getElem?_getD] at this ⊢;omega
theorem curve_all {t : List Knot} (h : tabB t = true) : (!t.any fun k => !(btwB k.x 0 4194304 && btwB k.y 0 1099511627776)) = curveB t := by
  have hl := tabB_len h;have hm := tab_mono h;unfold curveB;rw [h, Bool.eq_iff_iff];simp only [Bool.not_eq_true', List.any_eq_false, Bool.true_and, Bool.and_eq_true, decide_eq_true_eq, Bool.not_eq_true, Bool.not_eq_false', Bool.and_eq_true, btwB];constructor
  · intro k;have k0 := k _ (getD_mem (l := t) (i := 0) (by omega));have k1 := k _ (getD_mem (l := t) (i := t.length - 1) (by omega));simp at k0 k1;simp only [List.getD_eq_getElem?_getD];grind
  · rintro ⟨⟨⟨a, b⟩, c⟩, d⟩ k hk;obtain ⟨i, hi, rfl⟩ := List.mem_iff_getElem.1 hk;have e : t.getD i default = t[i] := by simp [List.getD_eq_getElem?_getD, hi]
    have q0 := hm i 0 (by omega) hi;have q1 := hm (t.length - 1) i (by omega) (by omega);rw [e] at q0 q1;have : btwB t[i].x 0 4194304 = true /\ btwB t[i].y 0 1099511627776 = true := by
      unfold btwB;constructor <;> (simp; omega)
    simp [btwB] at this ⊢;omega
def kindP (x : Link) : Bool :=
  if x.kind = 1 then btwB x.length 1 16777216 && levB x.down && nameB x.sect
  else if x.kind = 2 then btwB x.width 1 1048576
  else if x.kind = 3 then btwB x.width 1 32768 && btwB x.height 1 32768
  else if x.kind = 4 then levB x.down && decide (x.down < x.up) && curveB x.curve
  else false
theorem link_iff {x y : Link} : x = y ↔ (x.name = y.name /\ x.fro = y.fro /\ x.til = y.til /\ x.kind = y.kind /\ x.length = y.length /\ x.up = y.up /\ x.down = y.down /\ x.sect = y.sect /\ x.width = y.width /\ x.height = y.height /\ x.curve = y.curve) := ⟨fun h => by subst h; simp, link_ext⟩
theorem lev0 : levB 0 = true := by decide
theorem linkR_eq (x : Link) : linkR x = (nameB x.name && nameB x.fro && nameB x.til && !decide (x.fro = x.til) && levB x.up && decide (x = plainL x) && kindP x) := by
  have e : decide (x = plainL x) = decide (x.length = (plainL x).length /\ x.down = (plainL x).down /\ x.sect = (plainL x).sect /\ x.width = (plainL x).width /\ x.height = (plainL x).height /\ x.curve = (plainL x).curve) := by
    refine decide_eq_decide.2 ?_;rw [link_iff]; simp [plainL]
  rw [e];unfold linkR;simp only [Bool.and_assoc];congr 5
  unfold kindL kindP plainL;by_cases k1 : x.kind = 1
  · simp only [k1, if_true];rw [Bool.eq_iff_iff]; simp; grind
  by_cases k2 : x.kind = 2
  · simp only [k2, if_true];rw [Bool.eq_iff_iff]; simp;have := lev0;grind
  by_cases k3 : x.kind = 3
  · simp only [k3, if_true];rw [Bool.eq_iff_iff]; simp;have := lev0;grind
  by_cases k4 : x.kind = 4
  · simp only [k4, if_true];rw [Bool.eq_iff_iff]; simp; grind
  simp [k1, k2, k3, k4]
theorem plainOk {x : Link} (h : linkOk x) : linkOk (plainL x) := by
  obtain ⟨k1, k2, k3, k4, k5, k6, k7, k8, k9, k10, k11, k12⟩ := h;have z : i64ok 0 := by unfold i64ok; omega
  have b : ByteArray.empty.size <= 281474976710656 := by decide
  unfold plainL;refine ⟨k1, k2, k3, k4, ?_, k6, ?_, ?_, ?_, ?_, ?_⟩ <;> dsimp only <;> split <;> first | assumption | exact ⟨k11, k12⟩ | exact ⟨by simp, by simp⟩
set_option maxRecDepth 20000 in
theorem rightLink_f (x : Link) (m : Nat) (hx : linkOk x) : Pu 88 [linkD x] m (lb (linkR x)) := by
  have cp := fun m => plain_f x m
  have cS := fun m => sameLink_f x (plainL x) m hx (plainOk hx)
  obtain ⟨k1, k2, k3, k4, k5, k6, k7, k8, k9, k10, k11, k12⟩ := hx;have c1 := fun m => name_f x.name m k1
  have c2 := fun m => name_f x.fro m k2
  have c3 := fun m => name_f x.til m k3
  have hL : ∀ n, (!([n] : List Int).any fun n => !levB n) = levB n := fun n => by simp
  have c4 : ∀ m, Pu 132 [ints [x.up]] m (lb (levB x.up)) := fun m => hL x.up ▸ level_f [x.up] m (by simp)
  have c5 : ∀ m, Pu 132 [ints [x.down]] m (lb (levB x.down)) := fun m => hL x.down ▸ level_f [x.down] m (by simp)
  have c6 := fun m => between_f x.length 1 16777216 m
  refine pcN 97 [.tmp 2] [4] Tryz.func88 rfl [] ?_;rw [linkR_eq];cases h1 : nameB x.name <;> simp only [h1] at c1
  · (repeat' first|(show SWp _ _ _ (.region _ _ true) _ _ _ _;refine xG mixed [224] ?_)|refine stW [0,1,2,39,41,42,58,63,73] ?_|(show CallQ ..;first|refine cQ (fun hcc=>(by exact callR)) ?_|(refine lP ?_;refine lQ (fun hcc m=>(by exact callR)) ?_))|(show XCallQ ..;first|refine xQ (fun hcc=>(by exact callR)) ?_|(refine xlP ?_;refine xlQ (fun hcc m=>(by exact callR)) ?_))|refine fctI fun hf=>?_|refine twI (fun hc=>?_) fun hc=>?_);exact DVR
  cases h2 : nameB x.fro <;> simp only [h2] at c2
  · (repeat' first|(show SWp _ _ _ (.region _ _ true) _ _ _ _;refine xG mixed [224] ?_)|refine stW [0,1,2,39,41,42,58,63,73] ?_|(show CallQ ..;first|refine cQ (fun hcc=>(by exact callR)) ?_|(refine lP ?_;refine lQ (fun hcc m=>(by exact callR)) ?_))|(show XCallQ ..;first|refine xQ (fun hcc=>(by exact callR)) ?_|(refine xlP ?_;refine xlQ (fun hcc m=>(by exact callR)) ?_))|refine fctI fun hf=>?_|refine twI (fun hc=>?_) fun hc=>?_);exact DVR
  cases h3 : nameB x.til <;> simp only [h3] at c3
  · (repeat' first|(show SWp _ _ _ (.region _ _ true) _ _ _ _;refine xG mixed [224] ?_)|refine stW [0,1,2,39,41,42,58,63,73] ?_|(show CallQ ..;first|refine cQ (fun hcc=>(by exact callR)) ?_|(refine lP ?_;refine lQ (fun hcc m=>(by exact callR)) ?_))|(show XCallQ ..;first|refine xQ (fun hcc=>(by exact callR)) ?_|(refine xlP ?_;refine xlQ (fun hcc m=>(by exact callR)) ?_))|refine fctI fun hf=>?_|refine twI (fun hc=>?_) fun hc=>?_);exact DVR
  by_cases h4 : x.fro = x.til
  · (have:=NeI h4);(repeat' first|(show SWp _ _ _ (.region _ _ true) _ _ _ _;refine xG mixed [224] ?_)|refine stW [0,1,2,39,41,42,58,63,73] ?_|(show CallQ ..;first|refine cQ (fun hcc=>(by exact callR)) ?_|(refine lP ?_;refine lQ (fun hcc m=>(by exact callR)) ?_))|(show XCallQ ..;first|refine xQ (fun hcc=>(by exact callR)) ?_|(refine xlP ?_;refine xlQ (fun hcc m=>(by exact callR)) ?_))|refine fctI fun hf=>?_|refine twI (fun hc=>?_) fun hc=>?_);exact DVR
  (have:=NeI h4);cases h5 : levB x.up <;> simp only [h5] at c4
  · (repeat' first|(show SWp _ _ _ (.region _ _ true) _ _ _ _;refine xG mixed [224] ?_)|refine stW [0,1,2,39,41,42,58,63,73] ?_|(show CallQ ..;first|refine cQ (fun hcc=>(by exact callR)) ?_|(refine lP ?_;refine lQ (fun hcc m=>(by exact callR)) ?_))|(show XCallQ ..;first|refine xQ (fun hcc=>(by exact callR)) ?_|(refine xlP ?_;refine xlQ (fun hcc m=>(by exact callR)) ?_))|refine fctI fun hf=>?_|refine twI (fun hc=>?_) fun hc=>?_);exact DVR
  cases h6 : decide (x = plainL x) <;> simp only [h6] at cS
  · (repeat' first|(show SWp _ _ _ (.region _ _ true) _ _ _ _;refine xG mixed [224] ?_)|refine stW [0,1,2,39,41,42,58,63,73] ?_|(show CallQ ..;first|refine cQ (fun hcc=>(by exact callR)) ?_|(refine lP ?_;refine lQ (fun hcc m=>(by exact callR)) ?_))|(show XCallQ ..;first|refine xQ (fun hcc=>(by exact callR)) ?_|(refine xlP ?_;refine xlQ (fun hcc m=>(by exact callR)) ?_))|refine fctI fun hf=>?_|refine twI (fun hc=>?_) fun hc=>?_);exact DVR
  clear h6;simp only [decide_eq_false h4, Bool.not_false, Bool.true_and];unfold kindP;by_cases q1 : x.kind = 1
  · rw [if_pos q1];(have:=NeI q1);cases h7 : btwB x.length 1 16777216 <;> simp only [h7] at c6
    · (repeat' first|(show SWp _ _ _ (.region _ _ true) _ _ _ _;refine xG mixed [224] ?_)|refine stW [0,1,2,39,41,42,58,63,73] ?_|(show CallQ ..;first|refine cQ (fun hcc=>(by exact callR)) ?_|(refine lP ?_;refine lQ (fun hcc m=>(by exact callR)) ?_))|(show XCallQ ..;first|refine xQ (fun hcc=>(by exact callR)) ?_|(refine xlP ?_;refine xlQ (fun hcc m=>(by exact callR)) ?_))|refine fctI fun hf=>?_|refine twI (fun hc=>?_) fun hc=>?_);exact DVR
    · (repeat' first|(show SWp _ _ _ (.region _ _ true) _ _ _ _;refine xG mixed [224] ?_)|refine stW [0,1,2,39,41,42,58,63,73] ?_|(show CallQ ..;first|refine cQ (fun hcc=>(by exact callR)) ?_|(refine lP ?_;refine lQ (fun hcc m=>(by exact callR)) ?_))|(show XCallQ ..;first|refine xQ (fun hcc=>(by exact callR)) ?_|(refine xlP ?_;refine xlQ (fun hcc m=>(by exact callR)) ?_))|refine fctI fun hf=>?_|refine twI (fun hc=>?_) fun hc=>?_);exact DVR
  rw [if_neg q1];(have:=NeI q1);by_cases q2 : x.kind = 2
  · rw [if_pos q2];(have:=NeI q2);(repeat' first|(show SWp _ _ _ (.region _ _ true) _ _ _ _;refine xG mixed [224] ?_)|refine stW [0,1,2,39,41,42,58,63,73] ?_|(show CallQ ..;first|refine cQ (fun hcc=>(by exact callR)) ?_|(refine lP ?_;refine lQ (fun hcc m=>(by exact callR)) ?_))|(show XCallQ ..;first|refine xQ (fun hcc=>(by exact callR)) ?_|(refine xlP ?_;refine xlQ (fun hcc m=>(by exact callR)) ?_))|refine fctI fun hf=>?_|refine twI (fun hc=>?_) fun hc=>?_);exact DVR
  rw [if_neg q2];(have:=NeI q2);by_cases q3 : x.kind = 3
  · rw [if_pos q3];(have:=NeI q3);(repeat' first|(show SWp _ _ _ (.region _ _ true) _ _ _ _;refine xG mixed [224] ?_)|refine stW [0,1,2,39,41,42,58,63,73] ?_|(show CallQ ..;first|refine cQ (fun hcc=>(by exact callR)) ?_|(refine lP ?_;refine lQ (fun hcc m=>(by exact callR)) ?_))|(show XCallQ ..;first|refine xQ (fun hcc=>(by exact callR)) ?_|(refine xlP ?_;refine xlQ (fun hcc m=>(by exact callR)) ?_))|refine fctI fun hf=>?_|refine twI (fun hc=>?_) fun hc=>?_);exact DVR
  rw [if_neg q3];(have:=NeI q3);by_cases q4 : x.kind = 4
  · rw [if_pos q4];(have:=NeI q4);have ct := fun m => tab_f x.curve m k11
    have cc := fun m => conKnot_f 139 (fun k => !(btwB k.x 0 4194304 && btwB k.y 0 1099511627776)) x.curve m k11 (fun k _ m => rl1_f k m)
    (repeat' first|(show SWp _ _ _ (.region _ _ true) _ _ _ _;refine xG mixed [224] ?_)|refine stW [0,1,2,39,41,42,58,63,73] ?_|(show CallQ ..;first|refine cQ (fun hcc=>(by exact callR)) ?_|(refine lP ?_;refine lQ (fun hcc m=>(by exact callR)) ?_))|(show XCallQ ..;first|refine xQ (fun hcc=>(by exact callR)) ?_|(refine xlP ?_;refine xlQ (fun hcc m=>(by exact callR)) ?_))|refine fctI fun hf=>?_|refine twI (fun hc=>?_) fun hc=>?_);(refine DVQ ?_);refine lbC ?_;cases ht : tabB x.curve
    · have : curveB x.curve = false := by unfold curveB; rw [ht]; rfl
      rw [this]; simp
    · rw [<- curve_all ht];cases levB x.down <;> grind
  rw [if_neg q4];(have:=NeI q4);(repeat' first|(show SWp _ _ _ (.region _ _ true) _ _ _ _;refine xG mixed [224] ?_)|refine stW [0,1,2,39,41,42,58,63,73] ?_|(show CallQ ..;first|refine cQ (fun hcc=>(by exact callR)) ?_|(refine lP ?_;refine lQ (fun hcc m=>(by exact callR)) ?_))|(show XCallQ ..;first|refine xQ (fun hcc=>(by exact callR)) ?_|(refine xlP ?_;refine xlQ (fun hcc m=>(by exact callR)) ?_))|refine fctI fun hf=>?_|refine twI (fun hc=>?_) fun hc=>?_);exact DVR
set_option maxRecDepth 20000 in
theorem rRightLink_f (x : Link) (m : Nat) (hx : linkOk x) : Pu 72 [linkD x] m (lb (linkR x)) := by
  obtain ⟨k1, k2, k3, k4, k5, k6, k7, k8, k9, k10, k11, k12⟩ := hx;refine pcN 160 [.tmp 2] [4] Tryz.func72 rfl [] ?_;(repeat' first|refine stW [0,1,2,37,39,40,66,97,128] ?_|(show CallQ ..;first|refine cQ (fun hcc=>callRN) ?_|(refine lP ?_;refine lQ (fun hcc m=>callRN) ?_))|refine fctI fun hf=>?_|refine twI (fun hc=>?_) fun hc=>?_);all_goals ((refine DVQ ?_); refine lbC ?_; unfold linkR kindL; grind)

end Go.Proofs.YtgpllheklfbfhaaGreat
