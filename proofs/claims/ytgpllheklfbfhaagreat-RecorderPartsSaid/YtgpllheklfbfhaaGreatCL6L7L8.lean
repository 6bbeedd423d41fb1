/-
  Contracts of functions of the program, over the engine.
  No condition.
-/
import Derived.Test.YtgpllheklfbfhaaGreatCL1L2L2cL2oL3L4L5
import Derived.Test.YtgpllheklfbfhaaGreatCT5T6T6bT7T7bT7c
namespace Go.Proofs.YtgpllheklfbfhaaGreat
open Go.Eng
set_option linter.all false
attribute [local irreducible] DCallsG SWp Fct CallQ XCallQ LCallQ XLCallQ drun xrun
set_option maxHeartbeats 64000000

class DivOk (a b : Int) (q : outParam Int) : Prop where
  out : IntKind.i64.wrap (a.tdiv b) = q
theorem div_ok {a b q : Int} [h : DivOk a b q] : IntKind.i64.wrap (a.tdiv b) = q := h.out
class MulOk (a b : Int) (q : outParam Int) : Prop where
  out : IntKind.i64.wrap (a * b) = q
theorem mul_ok {a b q : Int} [h : MulOk a b q] : IntKind.i64.wrap (a * b) = q := h.out
theorem ite_min (a b : Int) : (if b < a then b else a) = min a b := by rw [Int.min_def]; split <;> split <;> omega
theorem ite_max (a b : Int) : (if a < b then b else a) = max a b := by rw [Int.max_def]; split <;> split <;> omega
attribute [push_cast] div_ok mul_ok ite_min ite_max
theorem div_nat (a b : Nat) (h : a < 9223372036854775808) : DivOk (a : Int) (b : Int) ((a / b : Nat) : Int) := ⟨by
  have e : (a : Int) / (b : Int) = ((a / b : Nat) : Int) := (Int.natCast_ediv a b).symm;rw [Int.tdiv_eq_ediv_of_nonneg (by omega), e];have := Nat.div_le_self a b;generalize a / b = q at *
  exact i64w (by omega)⟩
theorem mul_nat (a b : Nat) (h : a * b < 9223372036854775808) : MulOk (a : Int) (b : Int) ((a * b : Nat) : Int) := ⟨by
  rw [<- Int.natCast_mul];exact i64w (by omega)⟩
theorem cast_min (a b : Nat) : ((min a b : Nat) : Int) = min (a : Int) (b : Int) := by omega
theorem gate_nums (x : Link) (W Z s h : Nat) (hw : x.width = W) (hz : x.height = Z) (w1 : W <= 32768) (z1 : Z <= 32768) (s1 : s <= 1000) (h1 : h <= 1048576) : ∃ p q r : Nat, W * min (Z * s / 1000) h = r /\ r <= 1073741824 /\ q <= 32768 /\ MulOk x.height (s : Int) (p : Int) /\ DivOk (p : Int) 1000 (q : Int) /\ MulOk x.width (min (q : Int) (h : Int)) (r : Int) /\ MulOk x.width (q : Int) ((W * q : Nat) : Int) /\ MulOk x.width (h : Int) ((W * h : Nat) : Int) /\ min q h = min (Z * s / 1000) h := by
  have hp1 : Z * s <= 32768 * 1000 := Nat.mul_le_mul z1 s1;have hq1 : Z * s / 1000 <= 32768 := by omega
  have hr1 : W * min (Z * s / 1000) h <= 32768 * 32768 := Nat.mul_le_mul w1 (by omega);have hr2 : W * (Z * s / 1000) <= 32768 * 32768 := Nat.mul_le_mul w1 (by omega);have hr3 : W * h <= 32768 * 1048576 := Nat.mul_le_mul w1 h1;refine ⟨Z * s, Z * s / 1000, _, rfl, by omega, hq1, ?_, ?_, ?_, ?_, ?_, rfl⟩
  · rw [hz]; exact mul_nat _ _ (by omega)
  · exact div_nat _ 1000 (by omega)
  · rw [hw, <- cast_min]; exact mul_nat _ _ (by omega)
  · rw [hw]; exact mul_nat _ _ (by omega)
  · rw [hw]; exact mul_nat _ _ (by omega)
theorem ogate_f (x : Link) (W Z s h : Nat) (m : Nat) (hw : x.width = W) (hz : x.height = Z) (w1 : W <= 32768) (z1 : Z <= 32768) (s1 : s <= 1000) (h1 : h <= 1048576) : Pu 211 [linkD x, li s, li h] m (li (orifN (W * min (Z * s / 1000) h) h)) := by
  obtain ⟨p, q, r, hr, hr1, _, i1, i2, i3, _⟩ := gate_nums x W Z s h hw hz w1 z1 s1 h1;rw [hr];have c1 := fun m => oorif_f r h m hr1 h1
  clear hr;refine pcN 19 [.tmp 6] [3] Tryz.func211 rfl [] ?_;(repeat' first|refine stW [0,1,2,3,6] ?_|refine fctI fun hf=>?_|refine twI (fun hc=>?_) fun hc=>?_);exact DVR
def gateN (x : Link) (s h : Nat) : Nat := orifN (x.width.toNat * min (x.height.toNat * s / 1000) h) h
def overO (x : Link) (up down : Int) : Option Nat := if headI x up down <= 1048576 then some (weirN x.width.toNat (headI x up down).toNat) else none
def gateO (x : Link) (s : Nat) (up down : Int) : Option Nat := if headI x up down <= 1048576 then some (gateN x s (headI x up down).toNat) else none
def optI : Option Nat -> Int
  | none => 0
  | some q => capI q
def optE : Option Nat -> Int
  | none => 5
  | some q => capE q
def optL : Option Nat -> Int
  | none => 1099511627776
  | some q => limI q
theorem weirB_in {x : Link} (h : weirB x = true) : levB x.up = true /\ 1 <= x.width /\ x.width <= 1048576 := by
  unfold weirB at h; simp only [Bool.and_eq_true] at h;exact ⟨h.1.2, btwB_in h.2⟩
theorem gateB_in {x : Link} (h : gateB x = true) : levB x.up = true /\ (1 <= x.width /\ x.width <= 32768) /\ 1 <= x.height /\ x.height <= 32768 := by
  unfold gateB at h; simp only [Bool.and_eq_true] at h;exact ⟨h.1.1.2, btwB_in h.1.2, btwB_in h.2⟩
theorem over_f (x : Link) (up down : Int) (m : Nat) (hx : weirB x = true) (h1 : levB up = true) (h2 : levB down = true) : Pu 199 [linkD x, li up, li down] m (.tup [li (optI (overO x up down)), li (optE (overO x up down))]) := by
  have hin := weirB_in hx;have hh := headI_in hin.1 h1 h2;have c1 := fun m => isWeir_f x m
  have c2 := fun m => olevel_f up m
  have c3 := fun m => olevel_f down m
  have c4 := fun m => head_f x up down m hin.1 h1 h2
  rw [hx] at c1;rw [h1] at c2;rw [h2] at c3;unfold overO;obtain ⟨h, eh⟩ : ∃ h : Nat, headI x up down = (h : Int) := ⟨(headI x up down).toNat, by omega⟩;rw [eh] at c4 hh ⊢;by_cases hb : (h : Int) <= 1048576
  · have hb2 : ¬ (1048576 : Int) < (h : Int) := by omega
    (have:=NeI hb2);rw [if_pos hb, Int.toNat_natCast];obtain ⟨W, hW⟩ : ∃ W : Nat, x.width = (W : Int) := ⟨x.width.toNat, by omega⟩;rw [hW, Int.toNat_natCast];have c5 : ∀ m, Pu 208 [li x.width, li h] m (li (weirN W h)) := by rw [hW]; exact fun m => oweir_f W h m (by omega) (by omega)
    generalize weirN W h = q at *
    have c6 := fun m => oflow_f q m
    unfold optI optE;dsimp only;refine pcN 35 [.tmp 6,.tmp 7] [3,45] Tryz.func199 rfl [] ?_;(repeat' first|refine stW [0,1,2,3,6,7,8,9,13,27] ?_|refine fctI fun hf=>?_|refine twI (fun hc=>?_) fun hc=>?_);exact DVR
  · have hb2 : (1048576 : Int) < (h : Int) := by omega
    (have:=NeI hb2);rw [if_neg hb];unfold optI optE;refine pcN 35 [.tmp 6,.tmp 7] [3,45] Tryz.func199 rfl [] ?_;(repeat' first|refine stW [0,1,2,3,6,7,8,9,13,27] ?_|refine fctI fun hf=>?_|refine twI (fun hc=>?_) fun hc=>?_);exact DVR
theorem gate_f (x : Link) (s : Nat) (up down : Int) (m : Nat) (hx : gateB x = true) (hs : s <= 1000) (h1 : levB up = true) (h2 : levB down = true) : Pu 200 [linkD x, li s, li up, li down] m (.tup [li (optI (gateO x s up down)), li (optE (gateO x s up down))]) := by
  have hin := gateB_in hx;have hh := headI_in hin.1 h1 h2;have c0 := fun m => owithin_f s 0 1000 m
  rw [show btwB (s : Int) 0 1000 = true by unfold btwB; simp; omega] at c0;have c1 := fun m => isGate_f x m
  have c2 := fun m => olevel_f up m
  have c3 := fun m => olevel_f down m
  have c4 := fun m => head_f x up down m hin.1 h1 h2
  rw [hx] at c1;rw [h1] at c2;rw [h2] at c3;unfold gateO;obtain ⟨h, eh⟩ : ∃ h : Nat, headI x up down = (h : Int) := ⟨(headI x up down).toNat, by omega⟩;rw [eh] at c4 hh ⊢;by_cases hb : (h : Int) <= 1048576
  · have hb2 : ¬ (1048576 : Int) < (h : Int) := by omega
    (have:=NeI hb2);rw [if_pos hb, Int.toNat_natCast];have c5 := fun m => ogate_f x x.width.toNat x.height.toNat s h m (by omega) (by omega) (by omega) (by omega) hs (by omega)
    unfold gateN;generalize orifN (x.width.toNat * min (x.height.toNat * s / 1000) h) h = q at *
    have c6 := fun m => oflow_f q m
    unfold optI optE;dsimp only;refine pcN 42 [.tmp 8,.tmp 9] [3,45] Tryz.func200 rfl [] ?_;(repeat' first|refine stW [0,1,2,3,4,8,9,10,11,15,34] ?_|refine fctI fun hf=>?_|refine twI (fun hc=>?_) fun hc=>?_);exact DVR
  · have hb2 : (1048576 : Int) < (h : Int) := by omega
    (have:=NeI hb2);rw [if_neg hb];unfold optI optE;refine pcN 42 [.tmp 8,.tmp 9] [3,45] Tryz.func200 rfl [] ?_;(repeat' first|refine stW [0,1,2,3,4,8,9,10,11,15,34] ?_|refine fctI fun hf=>?_|refine twI (fun hc=>?_) fun hc=>?_);exact DVR
theorem limitedO_f (o : Option Nat) (m : Nat) : Pu 198 [li (optI o), li (optE o)] m (.tup [li (optL o), li 0]) := by
  cases o with
  | some q => exact limited_f q m
  | none =>
    unfold optI optE optL;refine pcN 10 [.tmp 4,.tmp 5] [3,45] Tryz.func198 rfl [] ?_;(repeat' first|refine stW [0,1,4,5,7] ?_|refine fctI fun hf=>?_|refine twI (fun hc=>?_) fun hc=>?_);exact DVR
theorem args_le {P : Program} {g : FuncId} {C : List Nat} {args args' : List DV} {h h' : Nat -> Option HV} {m : Nat} {d : DV} (k : DCallsG P g C args h m d h') (hw : ∀ ρ S w vs, RelL ρ S w args' vs -> RelL ρ S w args vs) (hu : ∀ U, DV.usesL U args' -> DV.usesL U args) : DCallsG P g C args' h m d h' := by
  unfold DCallsG at k ⊢;exact ⟨k.1, fun U ρ S w vs H0 hm hr hu0 => k.2 U ρ S w vs H0 hm (hw _ _ _ _ hr) (hu _ hu0)⟩
abbrev endA (s : ByteArray) : Node := ⟨s, 1, ⟨0, 0⟩, 0, 1, [⟨0, 0⟩, ⟨1, 0⟩], false, 0⟩
abbrev endB (s : ByteArray) : Node := ⟨s, 3, ⟨0, 0⟩, 0, 0, [], false, 0⟩
def endBP (s : ByteArray) : List PV := [.lit (.string s), .lit (.int .i64 3), .lit (.int .i64 0), .lit (.int .i64 0), .lit (.int .i64 0), .lit (.int .i64 0), .lit (.slice none 0 0), .lit (.bool false), .lit (.int .i64 0)]
theorem endB_le (s : ByteArray) : PLeL (endBP s) (nodeP (endB s)) :=
  .cons PLe.rfl (.cons PLe.rfl (.cons PLe.rfl (.cons PLe.rfl (.cons PLe.rfl (.cons PLe.rfl (.cons (PLe.nil 2) (.cons PLe.rfl (.cons PLe.rfl .nil))))))))
theorem PLeL.same : ∀ l : List PV, PLeL l l
  | [] => .nil
  | _ :: l => .cons PLe.rfl (PLeL.same l)
theorem give_net {g : FuncId} {d : DV} (na nb : List PV) (x : Link) (h : Pu g [.agg [.p (.dat 9 [na, nb]), .p (.dat 11 [linkP x])]] 2 d) :
    DCallsG Tryz.prog g [0, 1] [.agg [.gl 0, .gl 1]] (hget [(0, .lst 76 9 [na.map .p, nb.map .p]), (1, .lst 56 11 [linkC x])]) 2 d (hget []) :=
  DCallsG.giveG (x := .elems 9 [na, nb]) (by show HV.fv (.lst _ 9 (rows id [na, nb])) = _; simp only [HV.fv]; rw [rows_pv]; rfl) rfl (DCallsG.giveG (x := .elems 11 [linkP x]) (by show HV.fv (.lst _ 11 (rows linkP [x])) = _; simp only [HV.fv]; rw [rows_pv]; rfl) rfl h)
theorem end_rows (s t : ByteArray) : PLeR 9 [nodeP (endA s), endBP t] [nodeP (endA s), nodeP (endB t)] := .cons (PLeL.same _) rfl (.cons (endB_le t) rfl .nil)
theorem give_pump {g : FuncId} {d : DV} (s t : ByteArray) (x : Link) (h : Pu g [netD ⟨[endA s, endB t], [x]⟩] 2 d) :
    DCallsG Tryz.prog g [0, 1] [.agg [.gl 0, .gl 1]] (hget [(0, .lst 76 9 [nodeC (endA s), (endBP t).map .p]), (1, .lst 56 11 [linkC x])]) 2 d (hget []) :=
  give_net (nodeP (endA s)) (endBP t) x (args_le h (fun ρ S w vs hr => by
    match vs, hr with
    | [v], ⟨⟨us, e, hr⟩, _⟩ => match us, hr with
      | [u1, u2], ⟨h1, h2, _⟩ => exact ⟨⟨_, e, PLe.rows (end_rows s t) S w u1 h1, h2, trivial⟩, trivial⟩) fun U _ => ⟨⟨trivial, trivial, trivial⟩, trivial⟩)
theorem netB_no0 {n : Net} {x : Link} (e : n.links = [x]) (h : linkR x = false) : netB n = false :=
  netB_no2 (i := 0) (by rw [e]; exact Nat.zero_lt_one) (by unfold okL; rw [e]; simp [h])
theorem nodeIx_0 {a b : Node} : nodeIx [a, b] a.name = 0 := by unfold nodeIx idxI; simp [List.findIdx?_cons]
theorem nodeIx_1 {a b : Node} (h : ¬ a.name = b.name) : nodeIx [a, b] b.name = 1 := by unfold nodeIx idxI; simp [List.findIdx?_cons, h]
theorem linkIx_0 {x : Link} : linkIx [x] x.name = 0 := by unfold linkIx idxI; simp [List.findIdx?_cons]
theorem endA_R (s : ByteArray) : nodeR (endA s) = nameB s := by
  have : nodeR (endA s) = (nameB s && true) := by
    unfold nodeR;simp only [Bool.and_assoc];congr 1
  rw [this, Bool.and_true]
theorem endB_R (s : ByteArray) : nodeR (endB s) = nameB s := by
  have : nodeR (endB s) = (nameB s && true) := by
    unfold nodeR;simp only [Bool.and_assoc];congr 1
  rw [this, Bool.and_true]
theorem linkR_in {x : Link} (h : linkR x = true) : nameB x.name = true /\ nameB x.fro = true /\ nameB x.til = true /\ ¬ x.fro = x.til /\ levB x.up = true /\ levB x.down = true /\ kindL x = true := by
  unfold linkR at h; simp only [Bool.and_eq_true, Bool.not_eq_true', decide_eq_false_iff_not] at h;exact ⟨h.1.1.1.1.1.1, h.1.1.1.1.1.2, h.1.1.1.1.2, h.1.1.1.2, h.1.1.2, h.1.2, h.2⟩
theorem netB_ends {x : Link} {a b : Node} (ha : a.name = x.fro) (hb : b.name = x.til) (ra : nodeR a = nameB a.name) (rb : nodeR b = nameB b.name) (hk : ¬ a.kind = 3) : netB ⟨[a, b], [x]⟩ = linkR x := by
  cases h : linkR x
  · exact netB_no0 rfl h
  · have hin := linkR_in h;have hne : ¬ a.name = b.name := by rw [ha, hb]; exact hin.2.2.2.1
    refine netB_yes (by simp) (by simp) (fun i hi => ?_) fun i hi => ?_
    · have hi : i < 2 := hi;match i, hi with
      | 0, _ =>
        show (nodeR a && decide (nodeIx [a, b] a.name = 0)) = true;rw [ra, nodeIx_0, ha, hin.2.1]; rfl
      | 1, _ =>
        show (nodeR b && decide (nodeIx [a, b] b.name = 1)) = true;rw [rb, nodeIx_1 hne, hb, hin.2.2.1]; rfl
    · have hi : i < 1 := hi;obtain rfl : i = 0 := by omega
      show (linkR x && decide (linkIx [x] x.name = 0) && decide (0 <= nodeIx [a, b] x.fro) && decide (0 <= nodeIx [a, b] x.til) && !decide (([a, b].getD (nodeIx [a, b] x.fro).toNat default).kind = 3)) = true;rw [h, linkIx_0, <- ha, <- hb, nodeIx_0, nodeIx_1 hne];simp [hk]
def pumpB (x : Link) : Bool := decide (x.kind = 4) && linkR x
theorem z0 : -9223372036854775808 <= (0 : Int) /\ (0 : Int) <= 9223372036854775807 := by decide
theorem z1 : -9223372036854775808 <= (1 : Int) /\ (1 : Int) <= 9223372036854775807 := by decide
theorem z3 : -9223372036854775808 <= (3 : Int) /\ (3 : Int) <= 9223372036854775807 := by decide
theorem endA_ok {s : ByteArray} (h : s.size <= 281474976710656) : nodeOk (endA s) := by
  unfold nodeOk pointOk i64ok;refine ⟨h, z1, ⟨z0, z0⟩, z0, z1, ⟨by simp, fun y hy => ?_⟩, z0⟩;simp at hy;rcases hy with rfl | rfl
  · exact ⟨z0, z0⟩
  · exact ⟨z1, z0⟩
theorem endB_ok {s : ByteArray} (h : s.size <= 281474976710656) : nodeOk (endB s) := by
  unfold nodeOk pointOk i64ok;exact ⟨h, z3, ⟨z0, z0⟩, z0, z0, ⟨by simp, fun y hy => by simp at hy⟩, z0⟩
theorem pair_ok {a b : Node} {x : Link} (ha : nodeOk a) (hb : nodeOk b) (hx : linkOk x) : netOk ⟨[a, b], [x]⟩ :=
  ⟨⟨by simp, fun y hy => by simp at hy; rcases hy with rfl | rfl <;> assumption⟩, by simp, fun y hy => by simp at hy; subst hy; exact hx⟩
set_option maxRecDepth 20000 in
theorem pumpValid_f (x : Link) (m : Nat) (hx : linkOk x) : Pu 186 [linkD x] m (lb (pumpB x)) := by
  unfold pumpB;refine pcN 24 [.tmp 2] [4] Tryz.func186 rfl [] ?_;by_cases k : x.kind = 4
  · (have:=NeI k);have c1 := fun m => netValid_f ⟨[endA x.fro, endB x.til], [x]⟩ m (pair_ok (endA_ok hx.2.1) (endB_ok hx.2.2.1) hx)
    rw [netB_ends (a := endA x.fro) (b := endB x.til) rfl rfl (endA_R _) (endB_R _) (show ¬ (1 : Int) = 3 by decide)] at c1;(repeat' first|(show SWp _ _ _ (.seq (.region 4 _ _) _) _ _ _ _;refine (stop_in ?_))|refine stW [0,1,2,3,4,7] ?_|refine fctI fun hf=>?_|refine twI (fun hc=>?_) fun hc=>?_);refine stop_out ?_;(refine sF 72 ?_);(repeat' first|refine stW [0,1,2,3,4,7] ?_|refine fctI fun hf=>?_|refine twI (fun hc=>?_) fun hc=>?_);refine cQT [160, 176] (fun hcc => give_pump x.fro x.til x (c1 2)) ?_ (hC := fun _ _ => Nat.zero_le _) (hCn := by intro i hi; simp only [List.map_cons, List.map_nil, List.mem_cons, List.not_mem_nil, or_false] at hi; rcases hi with rfl | rfl <;> rfl);(repeat' first|refine stW [0,1,2,3,4,7] ?_|refine fctI fun hf=>?_|refine twI (fun hc=>?_) fun hc=>?_);exact DVR
  · (have:=NeI k);(repeat' first|refine stW [0,1,2,3,4,7] ?_|refine fctI fun hf=>?_|refine twI (fun hc=>?_) fun hc=>?_);exact DVR
theorem pwithin_f (n lo hi : Int) (m : Nat) : Pu 195 [li n, li lo, li hi] m (lb (btwB n lo hi)) := by
  refine pcN 15 [.tmp 6] [4] Tryz.func195 rfl [] ?_;(repeat' first|refine stW [0,1,2,6] ?_|refine fctI fun hf=>?_|refine twI (fun hc=>?_) fun hc=>?_);exact DVR
theorem plevel_f (n : Int) (m : Nat) : Pu 187 [li n] m (lb (levB n)) := by
  refine pcN 5 [.tmp 2] [4] Tryz.func187 rfl [] ?_;(repeat' first|refine stW [0,2] ?_|(show CallQ ..;first|refine cQ (fun hcc=>(pwithin_f _ _ _ _)) ?_|(refine lP ?_;refine lQ (fun hcc m=>(pwithin_f _ _ _ _)) ?_))|refine fctI fun hf=>?_|refine twI (fun hc=>?_) fun hc=>?_);exact DVR
def onB (x : Link) (was : Bool) (l : Int) : Bool := decide (x.up <= l) || (was && decide (x.down <= l))
theorem on_f (x : Link) (was : Bool) (l : Int) (m : Nat) : Pu 188 [linkD x, lb was, li l] m (lb (onB x was l)) := by
  refine pcN 20 [.tmp 6] [4] Tryz.func188 rfl [] ?_;(repeat' first|refine stW [0,1,2,3,6] ?_|refine fctI fun hf=>?_|refine twI (fun hc=>?_) fun hc=>?_);exact DVR
theorem pumpsOn_f (x : Link) (was : Bool) (l : Int) (m : Nat) (hx : linkOk x) (hp : pumpB x = true) (hl : levB l = true) : Pu 172 [linkD x, lb was, li l] m (.tup [lb (onB x was l), li 0]) := by
  have c1 := fun m => pumpValid_f x m hx
  have c2 := fun m => plevel_f l m
  rw [hp] at c1;rw [hl] at c2;refine pcN 20 [.tmp 6,.tmp 7] [4,45] Tryz.func172 rfl [] ?_;(repeat' first|refine stW [0,1,2,3,6,7,8,12] ?_|(show CallQ ..;first|refine cQ (fun hcc=>(by exact on_f _ _ _ _)) ?_|(refine lP ?_;refine lQ (fun hcc m=>(by exact on_f _ _ _ _)) ?_))|refine fctI fun hf=>?_|refine twI (fun hc=>?_) fun hc=>?_);exact DVR
def pumpQ (x : Link) (s d : Nat) : Nat := (floorT x.curve d).toNat * s / 1000
theorem pumpB_in {x : Link} (h : pumpB x = true) : x.kind = 4 /\ linkR x = true /\ levB x.up = true /\ levB x.down = true /\ x.down < x.up /\ tabB x.curve = true /\ ∀ d, 0 <= floorT x.curve d /\ floorT x.curve d <= 1099511627776 := by
  unfold pumpB at h; simp only [Bool.and_eq_true, decide_eq_true_eq] at h;obtain ⟨hk, hr⟩ := h;have hin := linkR_in hr;have h7 := hin.2.2.2.2.2.2;unfold kindL at h7;simp only [hk] at h7;simp only [Int.reduceEq, if_false, if_true, reduceIte, Bool.and_eq_true, decide_eq_true_eq] at h7;obtain ⟨⟨⟨⟨⟨_, h2⟩, _⟩, _⟩, _⟩, h3⟩ := h7;unfold curveB at h3;simp only [Bool.and_eq_true, decide_eq_true_eq] at h3;obtain ⟨⟨⟨⟨g1, g2⟩, g3⟩, g4⟩, g5⟩ := h3;exact ⟨hk, hr, hin.2.2.2.2.1, hin.2.2.2.2.2.1, h2, g1, fun d => by have := floorT_in (x := d) g1; omega⟩
theorem pumpQ_le {c s : Nat} (h1 : c <= 1099511627776) (h2 : s <= 1000) : c * s <= 1099511627776000 := Nat.mul_le_mul h1 h2
theorem pflow_f (x : Link) (s d : Nat) (m : Nat) (hp : pumpB x = true) (hs : s <= 1000) (hd : d <= 4194304) : Pu 212 [linkD x, li s, li d] m (.tup [li (pumpQ x s d), li 0]) := by
  have hin := pumpB_in hp;have hc := hin.2.2.2.2.2.2 d;have cf := fun m => floor_f x.curve d m hin.2.2.2.2.2.1 (by unfold i64ok; omega)
  unfold pumpQ;obtain ⟨c, ec⟩ : ∃ c : Nat, floorT x.curve d = (c : Int) := ⟨(floorT x.curve d).toNat, by omega⟩;rw [ec] at cf hc ⊢;rw [Int.toNat_natCast];have hq := pumpQ_le (c := c) (by omega) hs;have i1 : MulOk (c : Int) (s : Int) ((c * s : Nat) : Int) := mul_nat _ _ (by omega);have i2 : DivOk ((c * s : Nat) : Int) 1000 ((c * s / 1000 : Nat) : Int) := div_nat _ 1000 (by omega);generalize c * s / 1000 = q at *
  generalize c * s = p at *
  refine pcN 22 [.tmp 6,.tmp 7] [3,45] Tryz.func212 rfl [] ?_;(repeat' first|refine stW [0,1,2,3,6,7,8,9] ?_|(show CallQ ..;first|refine cQ (fun hcc=>(by first | exact cf _)) ?_|(refine lP ?_;refine lQ (fun hcc m=>(by first | exact cf _)) ?_))|refine fctI fun hf=>?_|refine twI (fun hc=>?_) fun hc=>?_);exact DVR
theorem pumpFlow_f (x : Link) (s d : Nat) (m : Nat) (hx : linkOk x) (hp : pumpB x = true) (hs : s <= 1000) (hd : d <= 4194304) : Pu 201 [linkD x, li s, li d] m (.tup [li (pumpQ x s d), li 0]) := by
  have c1 := fun m => pumpValid_f x m hx
  rw [hp] at c1;have c2 := fun m => pwithin_f s 0 1000 m
  rw [show btwB (s : Int) 0 1000 = true by unfold btwB; simp; omega] at c2;have c3 := fun m => pwithin_f d 0 4194304 m
  rw [show btwB (d : Int) 0 4194304 = true by unfold btwB; simp; omega] at c3;have c4 := fun m => pflow_f x s d m hp hs hd
  generalize pumpQ x s d = q at *
  refine pcN 27 [.tmp 6,.tmp 7] [3,45] Tryz.func201 rfl [] ?_;(repeat' first|refine stW [0,1,2,3,6,7,8,12] ?_|refine fctI fun hf=>?_|refine twI (fun hc=>?_) fun hc=>?_);exact DVR
def pipY (x : Link) (s : Sect) (up : Int) : Int := max 0 (min (up - x.up) s.height)
def pipH (x : Link) (up down y : Int) : Int := max 0 (min (up - max down (x.down + y)) 4194304)
def pipeN (x : Link) (s : Sect) (up down : Int) : Nat := capaN s (pipY x s up).toNat (pipH x up down (pipY x s up)).toNat x.length.toNat
theorem pipY_in {x : Link} {s : Sect} {up : Int} (h : 1 <= s.height) : 0 <= pipY x s up /\ pipY x s up <= s.height := by unfold pipY; omega
theorem pipH_in {x : Link} {up down y : Int} : 0 <= pipH x up down y /\ pipH x up down y <= 4194304 := by unfold pipH; omega
structure PipeIn (x : Link) (s : Sect) (up down : Int) : Prop where
  so : sectOk s
  sb : secB s = true
  xu : levB x.up = true
  xd : levB x.down = true
  xl : 1 <= x.length /\ x.length <= 16777216
  u : levB up = true
  d : levB down = true
theorem pipe_f (x : Link) (s : Sect) (up down : Int) (m : Nat) (h : PipeIn x s up down) : Pu 197 [linkD x, sectD s, li up, li down] m (.tup [li (limI (pipeN x s up down)), li 0]) := by
  have hs := secB_in h.sb;have a1 := lev_in h.xu;have a2 := lev_in h.xd;have a3 := lev_in h.u;have a4 := lev_in h.d;have a5 := h.xl;have s1 := hs.h1;have s2 := hs.h2;have y1 := pipY_in (x := x) (up := up) s1;have y2 := pipH_in (x := x) (up := up) (down := down) (y := pipY x s up);have c1 := fun m => capacity28_f s (pipY x s up).toNat (pipH x up down (pipY x s up)).toNat x.length.toNat m h.so h.sb (by omega) (by omega) (by omega)
  unfold pipeN;generalize capaN s (pipY x s up).toNat (pipH x up down (pipY x s up)).toNat x.length.toNat = q at *
  rw [show ((pipY x s up).toNat : Int) = max 0 (min (up - x.up) s.height) by unfold pipY; omega, show ((pipH x up down (pipY x s up)).toNat : Int) = max 0 (min (up - max down (x.down + max 0 (min (up - x.up) s.height))) 4194304) by unfold pipH pipY; omega, show ((x.length).toNat : Int) = x.length by omega] at c1;have c2 := fun m => limited_f q m
  clear y1 y2 hs h;refine pcN 41 [.tmp 8,.tmp 9] [3,45] Tryz.func197 rfl [] ?_;(repeat' first|refine stW [0,1,2,3,4,5,8,9,10,11] ?_|refine fctI fun hf=>?_|refine twI (fun hc=>?_) fun hc=>?_);exact DVR
theorem ends1_f (x : Node) (z : Link) (m : Nat) : DCalls Tryz.prog 184 [nodeD x, .ptr 0 0] (hget [(0, .blk 56 ((linkP z).map .p))]) m (lb (decide (x.name = z.fro))) (hget [(0, .blk 56 ((linkP z).map .p))]) := by
  refine contract (n := 9) (rs := [.tmp 3]) (ts := [4]) Tryz.func184 rfl (by decide) 1 1 [] [] [] (lb (decide (x.name = z.fro))) [(0, .blk 56 ((linkP z).map .p))] (by (exact SD)) (by (exact SD)) ?_;(repeat' first|refine stW [0,1,2,3] ?_|refine fctI fun hf=>?_|refine twI (fun hc=>?_) fun hc=>?_);exact DVR
theorem ends2_f (x : Node) (z : Link) (m : Nat) : DCalls Tryz.prog 185 [nodeD x, .ptr 0 0] (hget [(0, .blk 56 ((linkP z).map .p))]) m (lb (decide (x.name = z.til))) (hget [(0, .blk 56 ((linkP z).map .p))]) := by
  refine contract (n := 9) (rs := [.tmp 3]) (ts := [4]) Tryz.func185 rfl (by decide) 1 1 [] [] [] (lb (decide (x.name = z.til))) [(0, .blk 56 ((linkP z).map .p))] (by (exact SD)) (by (exact SD)) ?_;(repeat' first|refine stW [0,1,2,3] ?_|refine fctI fun hf=>?_|refine twI (fun hc=>?_) fun hc=>?_);exact DVR
theorem ends_f (n : Net) (x : Link) (m : Nat) (hl : n.nodes.length <= 281474976710656) : Pu 171 [netD n, linkD x] m (.tup [li (nodeIx n.nodes x.fro), li (nodeIx n.nodes x.til)]) := by
  refine pcN 16 [.tmp 4,.tmp 5] [3,3] Tryz.func171 rfl [] ?_;(repeat' first|refine stW [0,1,2,3,4,5] ?_|refine fctI fun hf=>?_|refine twI (fun hc=>?_) fun hc=>?_);(refine cQT [8] (fun hcc => (idxNodeC_f 184 56 (linkP x) (fun y => decide (y.name = x.fro)) n.nodes hl (fun y _ m => ends1_f y x m))) ?_);(repeat' first|refine stW [0,1,2,3,4,5] ?_|refine fctI fun hf=>?_|refine twI (fun hc=>?_) fun hc=>?_);(refine cQT [8] (fun hcc => (idxNodeC_f 185 56 (linkP x) (fun y => decide (y.name = x.til)) n.nodes hl (fun y _ m => ends2_f y x m))) ?_);(repeat' first|refine stW [0,1,2,3,4,5] ?_|refine fctI fun hf=>?_|refine twI (fun hc=>?_) fun hc=>?_);exact DVR
theorem known1_f (x : Sect) (z : Link) (m : Nat) : DCalls Tryz.prog 189 [sectD x, .ptr 0 0] (hget [(0, .blk 56 ((linkP z).map .p))]) m (lb (decide (x.name = z.sect))) (hget [(0, .blk 56 ((linkP z).map .p))]) := by
  refine contract (n := 9) (rs := [.tmp 3]) (ts := [4]) Tryz.func189 rfl (by decide) 1 1 [] [] [] (lb (decide (x.name = z.sect))) [(0, .blk 56 ((linkP z).map .p))] (by (exact SD)) (by (exact SD)) ?_;(repeat' first|refine stW [0,1,2,3] ?_|refine fctI fun hf=>?_|refine twI (fun hc=>?_) fun hc=>?_);exact DVR
theorem between1_f (x : Sect) (z : Link) (m : Nat) : DCalls Tryz.prog 196 [sectD x, .ptr 0 0] (hget [(0, .blk 56 ((linkP z).map .p))]) m (lb (decide (x.name = z.sect))) (hget [(0, .blk 56 ((linkP z).map .p))]) := by
  refine contract (n := 9) (rs := [.tmp 3]) (ts := [4]) Tryz.func196 rfl (by decide) 1 1 [] [] [] (lb (decide (x.name = z.sect))) [(0, .blk 56 ((linkP z).map .p))] (by (exact SD)) (by (exact SD)) ?_;(repeat' first|refine stW [0,1,2,3] ?_|refine fctI fun hf=>?_|refine twI (fun hc=>?_) fun hc=>?_);exact DVR

end Go.Proofs.YtgpllheklfbfhaaGreat
