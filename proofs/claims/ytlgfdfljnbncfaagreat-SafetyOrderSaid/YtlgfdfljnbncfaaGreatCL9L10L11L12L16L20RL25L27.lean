/-
  Contracts of functions of the program, over the engine.
  No condition.
-/
import Derived.Test.YtlgfdfljnbncfaaGreatCL6L7L8
import Derived.Test.YtlgfdfljnbncfaaGreatCT5T6T6bT7T7bT7c
import Derived.Test.YtlgfdfljnbncfaaGreatCW4W5W6R1R2R3R4
namespace Go.Proofs.YtlgfdfljnbncfaaGreat
open Go.Eng
set_option linter.all false
attribute [local irreducible] DCallsG SWp Fct CallQ XCallQ LCallQ XLCallQ drun xrun
set_option maxHeartbeats 64000000
theorem conSectC_f (g : FuncId) (t : TypeId) (cs : List PV) (p : Sect -> Bool) (l : List Sect) (hl : l.length <= 281474976710656) (hg : ∀ x, x ∈ l -> ∀ m, DCalls Tryz.prog g [sectD x, .ptr 0 0] (hget [(0, .blk t (cs.map .p))]) m (lb (p x)) (hget [(0, .blk t (cs.map .p))])) :
    DCalls Tryz.prog 50 [sectL l, .clo g [.ptr 0 0]] (hget [(0, .blk t (cs.map .p))]) 1 (lb (l.any p)) (hget [(0, .blk t (cs.map .p))]) := by
  have ci := idxSectC_f g t cs p l hl hg;refine contract (n := 9) (rs := [.tmp 4]) (ts := [4]) Tryz.func50 rfl (by decide) 1 1 [] [] [] (lb (l.any p)) [(0, .blk t (cs.map .p))] (by (exact SD)) (by (exact SD)) ?_;(repeat' first|refine stW [0,1,4] ?_|refine fctI fun hf=>?_|refine twI (fun hc=>?_) fun hc=>?_);(refine cQT [0] (fun hcc => ci) ?_);(repeat' first|refine stW [0,1,4] ?_|refine fctI fun hf=>?_|refine twI (fun hc=>?_) fun hc=>?_);(refine DVQ ?_);rw [idxI_any]
theorem secIx_any (l : List Sect) (s : ByteArray) : (l.any fun y => decide (y.name = s)) = decide (0 <= secIx l s) := (idxI_any _ _).symm
def knownB (l : List Sect) (x : Link) : Bool := !decide (x.kind = 1) || decide (0 <= secIx l x.sect)
theorem known_f (l : List Sect) (x : Link) (m : Nat) (hl : l.length <= 281474976710656) : Pu 200 [sectL l, linkD x] m (lb (knownB l x)) := by
  unfold knownB;rw [<- secIx_any];refine pcN 13 [.tmp 4] [4] Tryz.func200 rfl [] ?_;by_cases k : x.kind = 1
  · (have:=NeI k);(repeat' first|refine stW [0,1,3,4] ?_|refine fctI fun hf=>?_|refine twI (fun hc=>?_) fun hc=>?_);(refine cQT [0] (fun hcc => (conSectC_f 238 57 (linkP x) (fun y => decide (y.name = x.sect)) l hl (fun y _ m => known1_f y x m))) ?_);(repeat' first|refine stW [0,1,3,4] ?_|refine fctI fun hf=>?_|refine twI (fun hc=>?_) fun hc=>?_);exact DVR
  · (have:=NeI k);(repeat' first|refine stW [0,1,3,4] ?_|refine fctI fun hf=>?_|refine twI (fun hc=>?_) fun hc=>?_);exact DVR
theorem named_f (l : List Sect) (x : Link) (m : Nat) (hl : l.length <= 281474976710656) : Pu 67 [linkD x, sectL l] m (lb (knownB l x)) := by
  unfold knownB;refine pcN 15 [.tmp 4] [4] Tryz.func67 rfl [] ?_;by_cases k : x.kind = 1
  · (have:=NeI k);(repeat' first|refine stW [0,1,2,4] ?_|(show CallQ ..;first|refine cQ (fun hcc=>(by first | exact rFind_f _ _ _ hl)) ?_|(refine lP ?_;refine lQ (fun hcc m=>(by first | exact rFind_f _ _ _ hl)) ?_))|refine fctI fun hf=>?_|refine twI (fun hc=>?_) fun hc=>?_);exact DVR
  · (have:=NeI k);(repeat' first|refine stW [0,1,2,4] ?_|refine fctI fun hf=>?_|refine twI (fun hc=>?_) fun hc=>?_);exact DVR
def flowI (n : Net) (l : List Sect) (x : Link) (up down : Int) (s : Nat) (on : Bool) : Int :=
  if x.kind = 1 then limI (pipeN x (l.getD (secIx l x.sect).toNat default) up down)
  else if x.kind = 2 then optL (overO x up down)
  else if x.kind = 3 then optL (gateO x s up down)
  else if on then pumpQ x s (min (up - (n.nodes.getD (nodeIx n.nodes x.fro).toNat default).inv) 4194304).toNat
  else 0
structure BtwIn (n : Net) (l : List Sect) (x : Link) (up down : Int) (s : Nat) : Prop where
  no : netOk n
  xo : linkOk x
  co : catOk l
  cb : catB l = true
  xr : linkR x = true
  kn : knownB l x = true
  fr : 0 <= nodeIx n.nodes x.fro
  iv : levB (n.nodes.getD (nodeIx n.nodes x.fro).toNat default).inv = true /\ (n.nodes.getD (nodeIx n.nodes x.fro).toNat default).inv <= up
  u : levB up = true
  d : levB down = true
  se : s <= 1000
theorem kind_in {x : Link} (h : linkR x = true) : x.kind = 1 ∨ x.kind = 2 ∨ x.kind = 3 ∨ x.kind = 4 := by
  have h7 := (linkR_in h).2.2.2.2.2.2;unfold kindL at h7;by_cases k1 : x.kind = 1
  · exact .inl k1
  by_cases k2 : x.kind = 2
  · exact .inr (.inl k2)
  by_cases k3 : x.kind = 3
  · exact .inr (.inr (.inl k3))
  by_cases k4 : x.kind = 4
  · exact .inr (.inr (.inr k4))
  simp [k1, k2, k3, k4] at h7
theorem kind1_in {x : Link} (h : linkR x = true) (k : x.kind = 1) : 1 <= x.length /\ x.length <= 16777216 := by
  have h7 := (linkR_in h).2.2.2.2.2.2;unfold kindL btwB at h7;simp [k] at h7;omega
theorem kind2_in {x : Link} (h : linkR x = true) (k : x.kind = 2) : weirB x = true := by
  have hin := linkR_in h;have h7 := hin.2.2.2.2.2.2;unfold kindL at h7;simp [k] at h7;unfold weirB;simp [k, hin.2.2.2.2.1, h7]
theorem kind3_in {x : Link} (h : linkR x = true) (k : x.kind = 3) : gateB x = true := by
  have hin := linkR_in h;have h7 := hin.2.2.2.2.2.2;unfold kindL at h7;simp [k] at h7;unfold gateB;simp [k, hin.2.2.2.2.1, h7]
theorem okS_in {l : List Sect} (h : catB l = true) {i : Nat} (hi : i < l.length) : secB (l.getD i default) = true := by
  unfold catB at h;simp only [Bool.and_eq_true, List.all_eq_true, List.mem_range] at h;have := h.2 i hi;unfold okS at this;simp only [Bool.and_eq_true] at this;exact this.1
theorem sect_at {l : List Sect} {x : Link} (h : knownB l x = true) (k : x.kind = 1) : ∃ i : Nat, secIx l x.sect = (i : Int) /\ i < l.length := by
  unfold knownB at h;simp [k] at h;have := idxI_lt (fun y : Sect => decide (y.name = x.sect)) l;change -1 <= secIx l x.sect /\ secIx l x.sect < l.length at this;exact ⟨(secIx l x.sect).toNat, by omega, by omega⟩
theorem node_at {n : Net} {s : ByteArray} (h : 0 <= nodeIx n.nodes s) : ∃ i : Nat, nodeIx n.nodes s = (i : Int) /\ i < n.nodes.length := by
  have := idxI_lt (fun y : Node => decide (y.name = s)) n.nodes;change -1 <= nodeIx n.nodes s /\ nodeIx n.nodes s < n.nodes.length at this;exact ⟨(nodeIx n.nodes s).toNat, by omega, by omega⟩
set_option maxRecDepth 20000 in
theorem between_f' (n : Net) (l : List Sect) (x : Link) (up down : Int) (s : Nat) (on : Bool) (m : Nat) (h : BtwIn n l x up down s) : Pu 171 [netD n, sectL l, linkD x, li up, li down, li s, lb on] m (.tup [li (flowI n l x up down s on), li 0]) := by
  have hr := linkR_in h.xr;have hl := h.co.1;unfold flowI;by_cases k1 : x.kind = 1
  · rw [if_pos k1];(have:=NeI k1);obtain ⟨i, ei, hi⟩ := sect_at h.kn k1;have c1 := fun m => pipe_f x (l.getD i default) up down m ⟨h.co.2 _ (getD_mem hi), okS_in h.cb hi, hr.2.2.2.2.1, hr.2.2.2.2.2.1, kind1_in h.xr k1, h.u, h.d⟩
    have ci := idxSectC_f 216 57 (linkP x) (fun y => decide (y.name = x.sect)) l hl (fun y _ m => between1_f y x m);change DCalls _ _ _ _ _ (li (secIx l x.sect)) _ at ci;rw [ei] at ci ⊢;rw [Int.toNat_natCast];generalize limI (pipeN x (l.getD i default) up down) = q at *
    (have:=NeI hi);clear h hr;refine pcN 81 [.tmp 14,.tmp 15] [3,32] Tryz.func171 rfl [] ?_;(repeat' first|refine stW [0,1,2,3,4,5,6,7,9,14,15,16,17,20,21,36,47,60] ?_|refine fctI fun hf=>?_|refine twI (fun hc=>?_) fun hc=>?_);(refine cQT [8] (fun hcc => ci) ?_);(repeat' first|refine stW [0,1,2,3,4,5,6,7,9,14,15,16,17,20,21,36,47,60] ?_|refine fctI fun hf=>?_|refine twI (fun hc=>?_) fun hc=>?_);exact DVR
  by_cases k2 : x.kind = 2
  · rw [if_neg k1, if_pos k2];(have:=NeI k1);(have:=NeI k2);have c1 := fun m => over_f x up down m (kind2_in h.xr k2) h.u h.d
    have c2 := fun m => limitedO_f (overO x up down) m
    generalize overO x up down = o at *
    generalize optI o = o1 at *
    generalize optE o = o2 at *
    generalize optL o = o3 at *
    clear h hr;refine pcN 81 [.tmp 14,.tmp 15] [3,32] Tryz.func171 rfl [] ?_;(repeat' first|refine stW [0,1,2,3,4,5,6,7,9,14,15,16,17,20,21,36,47,60] ?_|refine fctI fun hf=>?_|refine twI (fun hc=>?_) fun hc=>?_);exact DVR
  by_cases k3 : x.kind = 3
  · rw [if_neg k1, if_neg k2, if_pos k3];(have:=NeI k1);(have:=NeI k2);(have:=NeI k3);have c1 := fun m => gate_f x s up down m (kind3_in h.xr k3) h.se h.u h.d
    have c2 := fun m => limitedO_f (gateO x s up down) m
    generalize gateO x s up down = o at *
    generalize optI o = o1 at *
    generalize optE o = o2 at *
    generalize optL o = o3 at *
    clear h hr;refine pcN 81 [.tmp 14,.tmp 15] [3,32] Tryz.func171 rfl [] ?_;(repeat' first|refine stW [0,1,2,3,4,5,6,7,9,14,15,16,17,20,21,36,47,60] ?_|refine fctI fun hf=>?_|refine twI (fun hc=>?_) fun hc=>?_);exact DVR
  rw [if_neg k1, if_neg k2, if_neg k3];have k4 : x.kind = 4 := by have := kind_in h.xr; omega
  (have:=NeI k1);(have:=NeI k2);(have:=NeI k3);cases on
  · clear h hr;refine pcN 81 [.tmp 14,.tmp 15] [3,32] Tryz.func171 rfl [] ?_;(repeat' first|refine stW [0,1,2,3,4,5,6,7,9,14,15,16,17,20,21,36,47,60] ?_|refine fctI fun hf=>?_|refine twI (fun hc=>?_) fun hc=>?_);exact DVR
  · obtain ⟨i, ei, hi⟩ := node_at h.fr;have c0 := fun m => ends_f n x m h.no.1.1
    have hiv := h.iv;have hu := lev_in h.u;have hv := lev_in hiv.1;rw [ei] at c0 hiv hv ⊢;rw [Int.toNat_natCast] at hiv hv ⊢;have c1 := fun m => pumpFlow_f x s (min (up - (n.nodes.getD i default).inv) 4194304).toNat m h.xo (by unfold pumpB; simp [k4, h.xr]) h.se (by omega)
    rw [show ((min (up - (n.nodes.getD i default).inv) 4194304).toNat : Int) = min (up - (n.nodes.getD i default).inv) 4194304 by omega] at c1;generalize pumpQ x s (min (up - (n.nodes.getD i default).inv) 4194304).toNat = q at *
    generalize nodeIx n.nodes x.til = z at *
    (have:=NeI hi);clear h hr;refine pcN 81 [.tmp 14,.tmp 15] [3,32] Tryz.func171 rfl [] ?_;(repeat' first|refine stW [0,1,2,3,4,5,6,7,9,14,15,16,17,20,21,36,47,60] ?_|refine fctI fun hf=>?_|refine twI (fun hc=>?_) fun hc=>?_);exact DVR
set_option maxRecDepth 20000 in
theorem rBetween_f (n : Net) (l : List Sect) (k : Nat) (up down : Int) (s : Nat) (on : Bool) (m : Nat) (hk : k < n.links.length) (h : BtwIn n l (n.links.getD k default) up down s) : Pu 69 [netD n, sectL l, li k, li up, li down, li s, lb on] m (li (flowI n l (n.links.getD k default) up down s on)) := by
  have hr := linkR_in h.xr;have hl := h.co.1;have hll := h.no.2.1;(have:=NeI hk);obtain ⟨x, hx⟩ : ∃ x, n.links.getD k default = x := ⟨_, rfl⟩;rw [hx] at h hr ⊢;unfold flowI;have kx : ∀ {a b : Int}, (a = b) = ((fun y : Link => a = b) x) := rfl;by_cases k1 : x.kind = 1
  · rw [if_pos k1];have k1' : (n.links.getD k default).kind = 1 := by rw [hx]; exact k1
    (have:=NeI k1');obtain ⟨i, ei, hi⟩ := sect_at h.kn k1;have c1 := fun m => rPipe_f x (l.getD i default) up down m ⟨h.co.2 _ (getD_mem hi), okS_in h.cb hi, hr.2.2.2.2.1, hr.2.2.2.2.2.1, kind1_in h.xr k1, h.u, h.d⟩
    have ci := fun m => rFind_f l x.sect m hl
    rw [ei] at ci ⊢;rw [Int.toNat_natCast];generalize limI (pipeN x (l.getD i default) up down) = q at *
    (have:=NeI hi);clear h hr;subst hx;refine pcN 84 [.tmp 14] [3] Tryz.func69 rfl [] ?_;(repeat' first|refine stW [0,1,2,3,4,5,6,7,14,15,16,17,18,19,20,27,28,41,53,67] ?_|refine fctI fun hf=>?_|refine twI (fun hc=>?_) fun hc=>?_);exact DVR
  by_cases k2 : x.kind = 2
  · rw [if_neg k1, if_pos k2];have c1 := fun m => rOver_f x up down m (kind2_in h.xr k2) h.u h.d
    have c2 := fun m => rflowO_f (overO x up down) m
    generalize overO x up down = o at *
    generalize optI o = o1 at *
    generalize optE o = o2 at *
    generalize optL o = o3 at *
    clear h hr;subst hx;(have:=NeI k1);(have:=NeI k2);refine pcN 84 [.tmp 14] [3] Tryz.func69 rfl [] ?_;(repeat' first|refine stW [0,1,2,3,4,5,6,7,14,15,16,17,18,19,20,27,28,41,53,67] ?_|refine fctI fun hf=>?_|refine twI (fun hc=>?_) fun hc=>?_);exact DVR
  by_cases k3 : x.kind = 3
  · rw [if_neg k1, if_neg k2, if_pos k3];have c1 := fun m => rGate_f x s up down m (kind3_in h.xr k3) h.se h.u h.d
    have c2 := fun m => rflowO_f (gateO x s up down) m
    generalize gateO x s up down = o at *
    generalize optI o = o1 at *
    generalize optE o = o2 at *
    generalize optL o = o3 at *
    clear h hr;subst hx;(have:=NeI k1);(have:=NeI k2);(have:=NeI k3);refine pcN 84 [.tmp 14] [3] Tryz.func69 rfl [] ?_;(repeat' first|refine stW [0,1,2,3,4,5,6,7,14,15,16,17,18,19,20,27,28,41,53,67] ?_|refine fctI fun hf=>?_|refine twI (fun hc=>?_) fun hc=>?_);exact DVR
  rw [if_neg k1, if_neg k2, if_neg k3];have k4 : x.kind = 4 := by have := kind_in h.xr; omega
  cases on
  · clear h hr k4;subst hx;(have:=NeI k1);(have:=NeI k2);(have:=NeI k3);refine pcN 84 [.tmp 14] [3] Tryz.func69 rfl [] ?_;(repeat' first|refine stW [0,1,2,3,4,5,6,7,14,15,16,17,18,19,20,27,28,41,53,67] ?_|refine fctI fun hf=>?_|refine twI (fun hc=>?_) fun hc=>?_);exact DVR
  · obtain ⟨i, ei, hi⟩ := node_at h.fr;have c0 := fun m => rFindNode_f n x.fro m h.no.1.1
    have hiv := h.iv;have hu := lev_in h.u;have hv := lev_in hiv.1;rw [ei] at c0 hiv hv ⊢;rw [Int.toNat_natCast] at hiv hv ⊢;have c1 := fun m => rPflow_f x s (min (up - (n.nodes.getD i default).inv) 4194304).toNat m (by unfold pumpB; simp [k4, h.xr]) h.se (by omega)
    rw [show ((min (up - (n.nodes.getD i default).inv) 4194304).toNat : Int) = min 4194304 (up - (n.nodes.getD i default).inv) by omega] at c1;generalize pumpQ x s (min (up - (n.nodes.getD i default).inv) 4194304).toNat = q at *
    (have:=NeI hi);clear h hr k4;subst hx;(have:=NeI k1);(have:=NeI k2);(have:=NeI k3);refine pcN 84 [.tmp 14] [3] Tryz.func69 rfl [] ?_;(repeat' first|(show SWp _ _ _ (.region _ _ true) _ _ _ _;refine xG mixed [216, 1000005] ?_)|refine stW [0,1,2,3,4,5,6,7,14,15,16,17,18,19,20,27,28,41,53,67] ?_|(show CallQ ..;first|refine cQ (fun hcc=>(by exact least_f _ _ _)) ?_|(refine lP ?_;refine lQ (fun hcc m=>(by exact least_f _ _ _)) ?_))|(show XCallQ ..;first|refine xQ (fun hcc=>(by exact least_f _ _ _)) ?_|(refine xlP ?_;refine xlQ (fun hcc m=>(by exact least_f _ _ _)) ?_))|refine fctI fun hf=>?_|refine twI (fun hc=>?_) fun hc=>?_);exact DVR
def lvB (n : Net) (lv : List Int) (i : Nat) : Bool := btwB (lv.getD i default) (n.nodes.getD i default).inv (n.nodes.getD i default).gnd
def lvA (n : Net) (lv : List Int) : Bool := (List.range n.nodes.length).all (lvB n lv)
theorem lwithin_f (x : Node) (v : Int) (m : Nat) : Pu 213 [nodeD x, li v] m (lb (btwB v x.inv x.gnd)) := by
  refine pcN 15 [.tmp 4] [4] Tryz.func213 rfl [] ?_;(repeat' first|refine stW [0,1,2,4] ?_|refine fctI fun hf=>?_|refine twI (fun hc=>?_) fun hc=>?_);exact DVR
theorem lvA_yes {n : Net} {lv : List Int} (h : ∀ i, i < n.nodes.length -> lvB n lv i = true) : lvA n lv = true := rall_true h
theorem lvA_in {n : Net} {lv : List Int} (h : lvA n lv = true) {i : Nat} (hi : i < n.nodes.length) : (n.nodes.getD i default).inv <= lv.getD i default /\ lv.getD i default <= (n.nodes.getD i default).gnd := by
  unfold lvA at h;rw [List.all_eq_true] at h;exact btwB_in (h i (List.mem_range.2 hi))
def linkedB (n : Net) (k s : Int) : Bool := decide (0 <= k) && decide (k < n.links.length) && btwB s 0 1000
theorem lsetting_f (n : Int) (m : Nat) : Pu 210 [li n] m (lb (btwB n 0 1000)) := by
  refine pcN 9 [.tmp 2] [4] Tryz.func210 rfl [] ?_;(repeat' first|refine stW [0,2] ?_|refine fctI fun hf=>?_|refine twI (fun hc=>?_) fun hc=>?_);exact DVR
theorem okL_in {n : Net} (h : netB n = true) {i : Nat} (hi : i < n.links.length) : linkR (n.links.getD i default) = true /\ 0 <= nodeIx n.nodes (n.links.getD i default).fro /\ 0 <= nodeIx n.nodes (n.links.getD i default).til /\ ¬ (n.nodes.getD (nodeIx n.nodes (n.links.getD i default).fro).toNat default).kind = 3 := by
  have := netB_okL h hi;unfold okL at this;simp only [Bool.and_eq_true, decide_eq_true_eq, Bool.not_eq_true', decide_eq_false_iff_not] at this;exact ⟨this.1.1.1.1, this.1.1.2, this.1.2, this.2⟩
theorem node_lev {x : Node} (h : nodeR x = true) : levB x.inv = true /\ levB x.gnd = true /\ x.inv <= x.gnd := by
  unfold nodeR at h;simp only [Bool.and_eq_true] at h;refine ⟨h.1.1.2, h.1.2, ?_⟩;have hk := h.2;unfold kindB at hk;split at hk
  · simp only [Bool.and_eq_true, decide_eq_true_eq] at hk;have := hk.1.1.1;omega
  · split at hk
    · simp only [Bool.and_eq_true, decide_eq_true_eq] at hk;exact hk.1.1.1
    · cases hk
theorem lev_btw {x : Node} {v : Int} (h : nodeR x = true) (h1 : x.inv <= v) (h2 : v <= x.gnd) : levB v = true := by
  have k := node_lev h;have a := lev_in k.1;have b := lev_in k.2.1;unfold levB; simp; omega
theorem btwIn_of {n : Net} {l : List Sect} {k : Nat} {up down : Int} {s : Nat} (no : netOk n) (co : catOk l) (nb : netB n = true) (cb : catB l = true) (hk : k < n.links.length) (kn : knownB l (n.links.getD k default) = true) (hs : s <= 1000)
    (hu : btwB up (n.nodes.getD (nodeIx n.nodes (n.links.getD k default).fro).toNat default).inv (n.nodes.getD (nodeIx n.nodes (n.links.getD k default).fro).toNat default).gnd = true)
    (hd : btwB down (n.nodes.getD (nodeIx n.nodes (n.links.getD k default).til).toNat default).inv (n.nodes.getD (nodeIx n.nodes (n.links.getD k default).til).toNat default).gnd = true) : BtwIn n l (n.links.getD k default) up down s := by
  have h := okL_in nb hk;obtain ⟨i, ei, hi⟩ := node_at h.2.1;obtain ⟨j, ej, hj⟩ := node_at h.2.2.1;have ri := netB_node nb hi;have rj := netB_node nb hj;rw [ei, Int.toNat_natCast] at hu;rw [ej, Int.toNat_natCast] at hd;have u := btwB_in hu;have d := btwB_in hd;exact ⟨no, no.2.2 _ (getD_mem hk), co, cb, h.1, kn, h.2.1, by rw [ei, Int.toNat_natCast]; exact ⟨(node_lev ri).1, u.1⟩, lev_btw ri u.1 u.2, lev_btw rj d.1 d.2, hs⟩
def fromI (n : Net) (k : Nat) : Nat := (nodeIx n.nodes (n.links.getD k default).fro).toNat
def tillI (n : Net) (k : Nat) : Nat := (nodeIx n.nodes (n.links.getD k default).til).toNat
theorem fromI_lt {n : Net} (h : netB n = true) {k : Nat} (hk : k < n.links.length) : fromI n k < n.nodes.length /\ nodeIx n.nodes (n.links.getD k default).fro = (fromI n k : Int) := by
  obtain ⟨i, ei, hi⟩ := node_at (okL_in h hk).2.1;unfold fromI; omega
theorem tillI_lt {n : Net} (h : netB n = true) {k : Nat} (hk : k < n.links.length) : tillI n k < n.nodes.length /\ nodeIx n.nodes (n.links.getD k default).til = (tillI n k : Int) := by
  obtain ⟨i, ei, hi⟩ := node_at (okL_in h hk).2.2.1;unfold tillI; omega
theorem linkedB_in {n : Net} {k s : Int} (h : linkedB n k s = true) : 0 <= k /\ k < n.links.length /\ 0 <= s /\ s <= 1000 := by
  unfold linkedB at h; simp only [Bool.and_eq_true, decide_eq_true_eq] at h;have := btwB_in h.2;omega
theorem ends34_f (n : Net) (k : Nat) (m : Nat) (no : netOk n) (nb : netB n = true) (hk : k < n.links.length) : Pu 68 [netD n, li k] m (.tup [li (fromI n k), li (tillI n k)]) := by
  have hf := fromI_lt nb hk;have ht := tillI_lt nb hk;have c1 := fun m => rFindNode_f n (n.links.getD k default).fro m no.1.1
  have c2 := fun m => rFindNode_f n (n.links.getD k default).til m no.1.1
  rw [hf.2] at c1;rw [ht.2] at c2;generalize fromI n k = a at *
  generalize tillI n k = b at *
  (have:=NeI hk);refine pcN 22 [.tmp 4,.tmp 5] [3,3] Tryz.func68 rfl [] ?_;(repeat' first|refine stW [0,1,2,4,5] ?_|refine fctI fun hf=>?_|refine twI (fun hc=>?_) fun hc=>?_);exact DVR
class ModOk (a b : Int) (q : outParam Int) : Prop where
  out : a.tmod b = q
theorem mod_ok {a b q : Int} [h : ModOk a b q] : a.tmod b = q := h.out
class UDivOk (a b : Int) (q : outParam Int) : Prop where
  out : IntKind.u64.wrap (a.tdiv b) = q
theorem udiv_ok {a b q : Int} [h : UDivOk a b q] : IntKind.u64.wrap (a.tdiv b) = q := h.out
attribute [push_cast] mod_ok udiv_ok
def wishI (q s : Int) : Int × Int := if q < 0 ∨ 1099511627776 < q ∨ s < 1 ∨ 86400 < s then (0, 2) else (min (q * s) 1125899906842624, 0)
theorem wish_fits {q s : Int} (h1 : 0 <= q) (h2 : q <= 1099511627776) (h3 : 1 <= s) (h4 : s <= 86400) : 0 <= q * s /\ q * s <= 94997804639846400 :=
  ⟨Int.mul_nonneg h1 (by omega), Int.mul_le_mul h2 h4 (by omega) (by omega)⟩
theorem rWish_f (q s : Int) (m : Nat) : Pu 70 [li q, li s] m (.tup [li (wishI q s).1, li (wishI q s).2]) := by
  unfold wishI;split
  · next h =>
    refine pcN 24 [.tmp 4,.tmp 5] [3,3] Tryz.func70 rfl [] ?_;by_cases h1 : q < 0
    · (have:=NeI h1);(repeat' first|refine stW [0,1,4,5,19] ?_|refine fctI fun hf=>?_|refine twI (fun hc=>?_) fun hc=>?_);exact DVR
    (have:=NeI h1);by_cases h2 : 1099511627776 < q
    · (have:=NeI h2);(repeat' first|refine stW [0,1,4,5,19] ?_|refine fctI fun hf=>?_|refine twI (fun hc=>?_) fun hc=>?_);exact DVR
    (have:=NeI h2);by_cases h3 : s < 1
    · (have:=NeI h3);(repeat' first|refine stW [0,1,4,5,19] ?_|refine fctI fun hf=>?_|refine twI (fun hc=>?_) fun hc=>?_);exact DVR
    (have:=NeI h3);have h4 : 86400 < s := by omega
    (have:=NeI h4);(repeat' first|refine stW [0,1,4,5,19] ?_|refine fctI fun hf=>?_|refine twI (fun hc=>?_) fun hc=>?_);exact DVR
  · next h =>
    have h1 : ¬ q < 0 := by omega
    have h2 : ¬ 1099511627776 < q := by omega
    have h3 : ¬ s < 1 := by omega
    have h4 : ¬ 86400 < s := by omega
    (have:=NeI h1);(have:=NeI h2);(have:=NeI h3);(have:=NeI h4);have hw := wish_fits (q := q) (s := s) (by omega) (by omega) (by omega) (by omega);have i1 : MulOk q s (q * s) := ⟨i64w (by omega)⟩;generalize q * s = p at *
    rw [show min p 1125899906842624 = min 1125899906842624 p by omega];refine pcN 24 [.tmp 4,.tmp 5] [3,3] Tryz.func70 rfl [] ?_;(repeat' first|refine stW [0,1,4,5,19] ?_|(show CallQ ..;first|refine cQ (fun hcc=>(least_f _ _ _)) ?_|(refine lP ?_;refine lQ (fun hcc m=>(least_f _ _ _)) ?_))|refine fctI fun hf=>?_|refine twI (fun hc=>?_) fun hc=>?_);exact DVR
theorem limI_min (q : Nat) : limI q = min (q : Int) 1099511627776 := by
  unfold limI bigB;by_cases h : 1099511627776 < q
  · rw [decide_eq_true h, if_pos rfl]; omega
  · rw [decide_eq_false h, if_neg (by decide)]; omega
theorem limI_in (q : Nat) : 0 <= limI q /\ limI q <= 1099511627776 := by rw [limI_min]; omega
theorem optL_in (o : Option Nat) : 0 <= optL o /\ optL o <= 1099511627776 := by
  cases o with
  | none => exact ⟨by decide, by decide⟩
  | some q => exact limI_in q
theorem pumpQ_max {x : Link} {s d : Nat} (hp : pumpB x = true) (hs : s <= 1000) : (pumpQ x s d : Int) <= 1099511627776 := by
  unfold pumpQ;have k := (pumpB_in hp).2.2.2.2.2.2 d;have := pumpQ_le (c := (floorT x.curve d).toNat) (by omega) hs;omega
theorem flowI_in {n : Net} {l : List Sect} {x : Link} {up down : Int} {s : Nat} {on : Bool} (h : BtwIn n l x up down s) : 0 <= flowI n l x up down s on /\ flowI n l x up down s on <= 1099511627776 := by
  unfold flowI;by_cases k1 : x.kind = 1
  · rw [if_pos k1]; exact limI_in _
  by_cases k2 : x.kind = 2
  · rw [if_neg k1, if_pos k2]; exact optL_in _
  by_cases k3 : x.kind = 3
  · rw [if_neg k1, if_neg k2, if_pos k3]; exact optL_in _
  rw [if_neg k1, if_neg k2, if_neg k3];have k4 : x.kind = 4 := by have := kind_in h.xr; omega
  cases on
  · rw [if_neg (by decide)]; exact ⟨by decide, by decide⟩
  · rw [if_pos rfl];exact ⟨by omega, pumpQ_max (by unfold pumpB; simp [k4, h.xr]) h.se⟩
def intC (i : Int) : List PV := [.lit (.int .i64 i)]
theorem intC_map (i : Int) : (intC i).map DV.p = [.p (.lit (.int .i64 i))] := rfl
attribute [push_cast] intC_map
def flowAt (n : Net) (l : List Sect) (lv : List Int) (s : Sta) (i : Nat) : Int := flowI n l (n.links.getD i default) (lv.getD (fromI n i) default) (lv.getD (tillI n i) default) (s.set.getD i default).toNat (s.on.getD i default)
def pumpAt (n : Net) (lv : List Int) (on : List Bool) (i : Nat) : Bool := decide ((n.links.getD i default).kind = 4) && onB (n.links.getD i default) (on.getD i default) (lv.getD (fromI n i) default)
def pumpsL (n : Net) (lv : List Int) (on : List Bool) : List Bool := (List.range n.links.length).map (pumpAt n lv on)
theorem rng_len {α : Type} (k : Nat) (f : Nat -> α) : ((List.range k).map f).length = k := by rw [List.length_map, List.length_range]
theorem rng_at {α : Type} [Inhabited α] {k i : Nat} {f : Nat -> α} (h : i < k) : ((List.range k).map f).getD i default = f i := by
  simp [List.getD_eq_getElem?_getD, h]
theorem okSL_in {n : Net} {s : Sta} (h : staB n s = true) {i : Nat} (hi : i < n.links.length) : (0 <= s.set.getD i default /\ s.set.getD i default <= 1000) /\ (s.on.getD i default = true -> (n.links.getD i default).kind = 4) := by
  unfold staB at h;simp only [Bool.and_eq_true, List.all_eq_true, List.mem_range] at h;have := h.2 i hi;unfold okSL at this;simp only [Bool.and_eq_true, Bool.not_eq_true', Bool.and_eq_false_iff, Bool.not_eq_false', decide_eq_true_eq] at this;refine ⟨btwB_in this.1, fun e => ?_⟩;rcases this.2 with h | h
  · rw [e] at h; cases h
  · exact h
structure FlowsIn (n : Net) (l : List Sect) (lv : List Int) (s : Sta) : Prop where
  no : netOk n
  co : catOk l
  nb : netB n = true
  cb : catB l = true
  sb : staB n s = true
  ll : lv.length = n.nodes.length
  la : lvA n lv = true
  kn : ∀ i, i < n.links.length -> knownB l (n.links.getD i default) = true
theorem FlowsIn.btw {n : Net} {l : List Sect} {lv : List Int} {s : Sta} (F : FlowsIn n l lv s) {i : Nat} (hi : i < n.links.length) : BtwIn n l (n.links.getD i default) (lv.getD (fromI n i) default) (lv.getD (tillI n i) default) (s.set.getD i default).toNat :=
  btwIn_of F.no F.co F.nb F.cb hi (F.kn i hi) (by have := (okSL_in F.sb hi).1; omega) (by have := lvA_in F.la (fromI_lt F.nb hi).1; unfold btwB; simp; exact this) (by have := lvA_in F.la (tillI_lt F.nb hi).1; unfold btwB; simp; exact this)
theorem app_bo (X : List Bool) (b : Bool) : rows boRow X ++ [[DV.p (.lit (.bool b))]] = rows boRow (X ++ [b]) := by
  unfold rows; rw [List.map_append]; rfl
attribute [push_cast] app_bo
theorem idxKnotC_f (g : FuncId) (t : TypeId) (cs : List PV) (p : Knot -> Bool) (l : List (Knot)) (hl : l.length <= 281474976710656) (hg : ∀ x, x ∈ l -> ∀ m, DCalls Tryz.prog g [knotD x, .ptr 0 0] (hget [(0, .blk t (cs.map .p))]) m (lb (p x)) (hget [(0, .blk t (cs.map .p))])) :
    DCalls Tryz.prog 192 [knotL l, .clo g [.ptr 0 0]] (hget [(0, .blk t (cs.map .p))]) 1 (li (idxI p l)) (hget [(0, .blk t (cs.map .p))]) := by
  refine contract (n := 19) (rs := [.tmp 4]) (ts := [3]) Tryz.func192 rfl (by decide) 1 1 [] [] [] (li (idxI p l)) [(0, .blk t (cs.map .p))] (by (exact SD)) (by (exact SD)) ?_;(repeat' first|refine stW [0,1,4,5,7,8,9,16] ?_|refine fctI fun hf=>?_|refine twI (fun hc=>?_) fun hc=>?_);refine loop_swp [0, 1, 7, 8] [0] 1 (fun q A H => ∃ i : Nat, i <= l.length /\ q = l.length - i /\ (l.take i).any p = false /\ A = [(0, knotL l), (1, .clo g [.ptr 0 0]), (7, li l.length), (8, li i)] /\ H = [(0, .blk t (cs.map .p))]) (by omega) ?_ ?_ ?_
  · rintro q A H ⟨i, h1, h2, h3, rfl, rfl⟩;exact SDD
  · refine ⟨_, 0, by omega, rfl, rfl, ?_, ?_⟩
    · exact DVR
    · exact DVR
  · rintro q A H ⟨i, h1, h2, h3, rfl, rfl⟩;(repeat' first|refine stW [0,1,4,5,7,8,9,16] ?_|(show CallQ ..;first|refine cQ (fun hcc=>(hg _ (getD_mem SC) _)) ?_|(refine lP ?_;refine lQ (fun hcc m=>(hg _ (getD_mem SC) _)) ?_))|refine fctI fun hf=>?_|refine twI (fun hc=>?_) fun hc=>?_)
    · (refine DVQ ?_);rw [idxI_hit h3 (by omega) (by assumption)]
    · (refine lN [0] ?_);exact ⟨_, by omega, i + 1, by omega, rfl, any_step h3 (by omega) (by assumption), rfl, rfl⟩
    · (refine DVQ ?_);rw [List.take_of_length_le (by omega)] at h3;rw [idxI_none h3]
def mostIx (t : List Knot) (y : Int) : Int := idxI (fun a => decide (y < a.y)) t
def mostT (t : List Knot) (y : Int) : Int :=
  if mostIx t y = -1 then (t.getD (t.length - 1) default).x
  else (t.getD ((mostIx t y).toNat - 1) default).x + (y - (t.getD ((mostIx t y).toNat - 1) default).y) * ((t.getD (mostIx t y).toNat default).x - (t.getD ((mostIx t y).toNat - 1) default).x) / ((t.getD (mostIx t y).toNat default).y - (t.getD ((mostIx t y).toNat - 1) default).y)
theorem most1_f (k : Knot) (y : Int) (m : Nat) : DCalls Tryz.prog 193 [knotD k, .ptr 0 0] (hget [(0, .blk 3 ((intC y).map .p))]) m (lb (decide (y < k.y))) (hget [(0, .blk 3 ((intC y).map .p))]) := by
  refine contract (n := 8) (rs := [.tmp 3]) (ts := [4]) Tryz.func193 rfl (by decide) 1 1 [] [] [] (lb (decide (y < k.y))) [(0, .blk 3 ((intC y).map .p))] (by (exact SD)) (by (exact SD)) ?_;(repeat' first|refine stW [0,1,2,3] ?_|refine fctI fun hf=>?_|refine twI (fun hc=>?_) fun hc=>?_);exact DVR
theorem idxI_spec {α : Type} [Inhabited α] (p : α -> Bool) (l : List α) : (idxI p l = -1 /\ ∀ j, j < l.length -> p (l.getD j default) = false) ∨ ∃ k : Nat, idxI p l = (k : Int) /\ k < l.length /\ p (l.getD k default) = true /\ ∀ j, j < k -> p (l.getD j default) = false := by
  have hd : ∀ j (hj : j < l.length), l.getD j default = l[j] := fun j hj => by rw [List.getD_eq_getElem?_getD, List.getElem?_eq_getElem hj]; rfl
  unfold idxI;cases hf : l.findIdx? p with
  | none =>
    refine .inl ⟨rfl, fun j hj => ?_⟩;rw [hd j hj];have := List.findIdx?_eq_none_iff.1 hf l[j] (List.getElem_mem hj);simpa using this
  | some q =>
    obtain ⟨hq, hp, hm⟩ := List.findIdx?_eq_some_iff_getElem.1 hf;refine .inr ⟨q, rfl, hq, by rw [hd q hq]; exact hp, fun j hj => ?_⟩;rw [hd j (by omega)];have := hm j hj;simpa using this
theorem most_at {t : List Knot} {y : Int} (h : tabB t = true) (h0 : (t.getD 0 default).y <= y) : mostIx t y = -1 ∨ ∃ k : Nat, mostIx t y = ((k + 1 : Nat) : Int) /\ k + 1 < t.length /\ (t.getD k default).y <= y /\ y < (t.getD (k + 1) default).y := by
  rcases idxI_spec (fun a : Knot => decide (y < a.y)) t with ⟨e, _⟩ | ⟨k, e, hk, hp, hm⟩
  · exact .inl e
  · have hk0 : k ≠ 0 := fun z => by subst z; have := of_decide_eq_true hp; omega
    obtain ⟨j, rfl⟩ : ∃ j, k = j + 1 := ⟨k - 1, by omega⟩;have h1 := of_decide_eq_true hp;have h2 := of_decide_eq_false (hm j (by omega));exact .inr ⟨j, e, hk, by omega, h1⟩
theorem mostT_in {t : List Knot} {y : Int} (h : tabB t = true) (h0 : (t.getD 0 default).y <= y) : (t.getD 0 default).x <= mostT t y /\ mostT t y <= (t.getD (t.length - 1) default).x := by
  have hl := (tab_in h).1;have hm := tab_mono2 h;unfold mostT;rcases most_at h h0 with e | ⟨k, e, hk, h1, h2⟩
  · rw [if_pos e];exact ⟨(hm (t.length - 1) 0 (Nat.zero_le _) (by omega)).1, Int.le_refl _⟩
  · rw [if_neg (by omega), e, Int.toNat_natCast, Nat.add_sub_cancel];have a1 := (hm (k + 1) k (by omega) hk).1;have a2 := (hm k 0 (Nat.zero_le _) (by omega)).1;have a3 := (hm (t.length - 1) (k + 1) (by omega) (by omega)).1;generalize t.getD k default = a at *
    generalize t.getD (k + 1) default = b at *
    have hD : 0 < b.y - a.y := by omega
    have c1 : 0 <= (y - a.y) * (b.x - a.x) / (b.y - a.y) := Int.ediv_nonneg (Int.mul_nonneg (by omega) (by omega)) (by omega);have c2 : (y - a.y) * (b.x - a.x) / (b.y - a.y) <= b.x - a.x := by
      have := Int.mul_le_mul_of_nonneg_right (show y - a.y <= b.y - a.y by omega) (show 0 <= b.x - a.x by omega)
      calc (y - a.y) * (b.x - a.x) / (b.y - a.y) <= (b.y - a.y) * (b.x - a.x) / (b.y - a.y) := Int.ediv_le_ediv hD this
        _ = b.x - a.x := Int.mul_ediv_cancel_left _ (by omega)
    omega
theorem tmost_f (t : List Knot) (y : Int) (m : Nat) (h : tabB t = true) (h0 : (t.getD 0 default).y <= y) (hy : 0 <= y /\ y <= 1125899906842624) : Pu 144 [knotL t, li y] m (.tup [li (mostT t y), li 0]) := by
  have hin := tab_in h;have ct := fun m => tab_f t m (by omega)
  rw [h] at ct;have ci := idxKnotC_f 193 3 (intC y) (fun a => decide (y < a.y)) t (by omega) (fun x _ m => most1_f x y m);change DCalls _ _ _ _ _ (li (mostIx t y)) _ at ci;unfold mostT;rcases most_at h h0 with e | ⟨k, e, hk, h1, h2⟩
  · rw [e] at ci ⊢;rw [if_pos rfl];have hl : t.length - 1 < t.length := by omega
    have hl2 : (t.length : Int) - 1 = ((t.length - 1 : Nat) : Int) := by omega
    (have:=NeI hl);refine pcN 63 [.tmp 4,.tmp 5] [3,32] Tryz.func144 rfl [] ?_;(repeat' first|refine stW [0,1,3,4,5,6,7,8,9,11,14,18,19,28] ?_|refine fctI fun hf=>?_|refine twI (fun hc=>?_) fun hc=>?_);(refine cQT [0] (fun hcc => ci) ?_);(repeat' first|refine stW [0,1,3,4,5,6,7,8,9,11,14,18,19,28] ?_|refine fctI fun hf=>?_|refine twI (fun hc=>?_) fun hc=>?_);exact DVR
  · rw [if_neg (by omega), e, Int.toNat_natCast, Nat.add_sub_cancel];rw [e] at ci;have b1 := hin.2.2.1 k (by omega);have b2 := hin.2.2.1 (k + 1) hk;have a1 := (hin.2.2.2 k hk);obtain ⟨N, hN⟩ : ∃ N : Nat, y - (t.getD k default).y = (N : Int) := ⟨(y - (t.getD k default).y).toNat, by omega⟩;obtain ⟨K, hK⟩ : ∃ K : Nat, (t.getD (k + 1) default).x - (t.getD k default).x = (K : Int) := ⟨((t.getD (k + 1) default).x - (t.getD k default).x).toNat, by omega⟩;obtain ⟨D, hD⟩ : ∃ D : Nat, (t.getD (k + 1) default).y - (t.getD k default).y = (D : Int) := ⟨((t.getD (k + 1) default).y - (t.getD k default).y).toNat, by omega⟩;have hQ : N * K / D <= K := by
      have := Nat.div_le_div_right (c := D) (Nat.mul_le_mul_right K (show N <= D by omega));rw [Nat.mul_div_cancel_left _ (show 0 < D by omega)] at this;exact this
    have cs := fun m => scale_f N K D (N * K / D) (N * K % D) m (by omega) (by omega) (by omega) (Nat.div_add_mod (N * K) D).symm (Nat.mod_lt _ (by omega)) (by omega)
    have eq : (y - (t.getD k default).y) * ((t.getD (k + 1) default).x - (t.getD k default).x) / ((t.getD (k + 1) default).y - (t.getD k default).y) = ((N * K / D : Nat) : Int) := by
      rw [hN, hK, hD, Int.natCast_ediv, Int.natCast_mul]
    rw [eq];rw [<- hN, <- hK, <- hD] at cs;generalize qtR (N * K / D) (N * K % D) true = Z at *
    generalize N * K / D = Q at *
    have hk2 : k < t.length := by omega
    (have:=NeI hk);(have:=NeI hk2);have hk3 : ¬ (((k + 1 : Nat) : Int) = -1) := by omega
    have hk4 : ¬ (((k + 1 : Nat) : Int) = 0) := by omega
    have hk5 : ((k + 1 : Nat) : Int) = (k : Int) + 1 := by omega
    rw [hk5] at hk3 hk4 ci;(have:=NeI hk3);(have:=NeI hk4);clear eq hD;refine pcN 63 [.tmp 4,.tmp 5] [3,32] Tryz.func144 rfl [] ?_;(repeat' first|refine stW [0,1,3,4,5,6,7,8,9,11,14,18,19,28] ?_|refine fctI fun hf=>?_|refine twI (fun hc=>?_) fun hc=>?_);(refine cQT [0] (fun hcc => ci) ?_);(repeat' first|(show SWp _ _ _ (.region _ _ true) _ _ _ _;refine xG mixed [192, 200] ?_)|refine stW [0,1,3,4,5,6,7,8,9,11,14,18,19,28] ?_|refine fctI fun hf=>?_|refine twI (fun hc=>?_) fun hc=>?_);exact DVR
def levelI (x : Node) (v : Int) : Int := if x.kind = 3 then x.inv else x.inv + mostT x.shape v
theorem nodeR_tab {x : Node} (h : nodeR x = true) (k : ¬ x.kind = 3) : tabB x.shape = true /\ (x.shape.getD 0 default).x = 0 /\ (x.shape.getD 0 default).y = 0 /\ (x.shape.getD (x.shape.length - 1) default).x = x.gnd - x.inv /\ (x.shape.getD (x.shape.length - 1) default).y <= 1125899906842624 := by
  unfold nodeR at h;simp only [Bool.and_eq_true] at h;have h2 := h.2;unfold kindB at h2;split at h2
  · simp only [Bool.and_eq_true] at h2;have h3 := h2.1.1.2;unfold shapeB at h3;simp only [Bool.and_eq_true, decide_eq_true_eq] at h3;exact ⟨h3.1.1.1.1, h3.1.1.1.2, h3.1.1.2, h3.1.2, h3.2⟩
  · cases h2
theorem levelI_in {x : Node} {v : Int} (h : nodeR x = true) (hv : 0 <= v) : x.inv <= levelI x v /\ levelI x v <= x.gnd := by
  unfold levelI;by_cases k : x.kind = 3
  · rw [if_pos k]; exact ⟨Int.le_refl _, (node_lev h).2.2⟩
  · rw [if_neg k];have ht := nodeR_tab h k;have := mostT_in ht.1 (y := v) (by omega);omega
theorem slevel_f (x : Node) (v : Int) (m : Nat) (h : nodeR x = true) (hv : 0 <= v /\ v <= 1125899906842624) : Pu 90 [nodeD x, li v] m (.tup [li (levelI x v), li 0]) := by
  have hl := levelI_in h hv.1;have a1 := lev_in (node_lev h).1;have a2 := lev_in (node_lev h).2.1;unfold levelI at hl ⊢;by_cases k : x.kind = 3
  · rw [if_pos k];(have:=NeI k);refine pcN 25 [.tmp 4,.tmp 5] [3,32] Tryz.func90 rfl [] ?_;(repeat' first|refine stW [0,1,2,4,5,6,7,10] ?_|refine fctI fun hf=>?_|refine twI (fun hc=>?_) fun hc=>?_);exact DVR
  · rw [if_neg k] at hl ⊢;(have:=NeI k);have ht := nodeR_tab h k;have ct := fun m => tmost_f x.shape v m ht.1 (by omega) hv
    generalize mostT x.shape v = q at *
    refine pcN 25 [.tmp 4,.tmp 5] [3,32] Tryz.func90 rfl [] ?_;(repeat' first|refine stW [0,1,2,4,5,6,7,10] ?_|refine fctI fun hf=>?_|refine twI (fun hc=>?_) fun hc=>?_);exact DVR
def levelsL (n : Net) (vol : List Int) : List Int := (List.range n.nodes.length).map fun i => levelI (n.nodes.getD i default) (vol.getD i default)
end Go.Proofs.YtlgfdfljnbncfaaGreat
