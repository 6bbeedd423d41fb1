/-
  Contracts of functions of the program, over the engine.
  No condition.
-/
import Derived.Test.YtgpllheklfbfhaaGreatCL6L7L8
import Derived.Test.YtgpllheklfbfhaaGreatCT5T6T6bT7T7bT7c
import Derived.Test.YtgpllheklfbfhaaGreatCW4W5W6R1R2R3R4
namespace Go.Proofs.YtgpllheklfbfhaaGreat
open Go.Eng
set_option linter.all false
attribute [local irreducible] DCallsG SWp Fct CallQ XCallQ LCallQ XLCallQ drun xrun
set_option maxHeartbeats 64000000
theorem conSectC_f (g : FuncId) (t : TypeId) (cs : List PV) (p : Sect -> Bool) (l : List Sect) (hl : l.length <= 281474976710656) (hg : ∀ x, x ∈ l -> ∀ m, DCalls Tryz.prog g [sectD x, .ptr 0 0] (hget [(0, .blk t (cs.map .p))]) m (lb (p x)) (hget [(0, .blk t (cs.map .p))])) :
    DCalls Tryz.prog 28 [sectL l, .clo g [.ptr 0 0]] (hget [(0, .blk t (cs.map .p))]) 1 (lb (l.any p)) (hget [(0, .blk t (cs.map .p))]) := by
  have ci := idxSectC_f g t cs p l hl hg;refine contract (n := 9) (rs := [.tmp 4]) (ts := [4]) Tryz.func28 rfl (by decide) 1 1 [] [] [] (lb (l.any p)) [(0, .blk t (cs.map .p))] (by (exact SD)) (by (exact SD)) ?_;(repeat' first|refine stW [0,1,4] ?_|refine fctI fun hf=>?_|refine twI (fun hc=>?_) fun hc=>?_);(refine cQT [0] (fun hcc => ci) ?_);(repeat' first|refine stW [0,1,4] ?_|refine fctI fun hf=>?_|refine twI (fun hc=>?_) fun hc=>?_);(refine DVQ ?_);rw [idxI_any]
theorem secIx_any (l : List Sect) (s : ByteArray) : (l.any fun y => decide (y.name = s)) = decide (0 <= secIx l s) := (idxI_any _ _).symm
def knownB (l : List Sect) (x : Link) : Bool := !decide (x.kind = 1) || decide (0 <= secIx l x.sect)
theorem known_f (l : List Sect) (x : Link) (m : Nat) (hl : l.length <= 281474976710656) : Pu 174 [sectL l, linkD x] m (lb (knownB l x)) := by
  unfold knownB;rw [<- secIx_any];refine pcN 13 [.tmp 4] [4] Tryz.func174 rfl [] ?_;by_cases k : x.kind = 1
  · (have:=NeI k);(repeat' first|refine stW [0,1,3,4] ?_|refine fctI fun hf=>?_|refine twI (fun hc=>?_) fun hc=>?_);(refine cQT [0] (fun hcc => (conSectC_f 189 56 (linkP x) (fun y => decide (y.name = x.sect)) l hl (fun y _ m => known1_f y x m))) ?_);(repeat' first|refine stW [0,1,3,4] ?_|refine fctI fun hf=>?_|refine twI (fun hc=>?_) fun hc=>?_);exact DVR
  · (have:=NeI k);(repeat' first|refine stW [0,1,3,4] ?_|refine fctI fun hf=>?_|refine twI (fun hc=>?_) fun hc=>?_);exact DVR
def flowI (n : Net) (l : List Sect) (x : Link) (up down : Int) (s : Nat) (on : Bool) : Int :=
  if x.kind = 1 then limI (pipeN x (l.getD (secIx l x.sect).toNat default) up down)
  else if x.kind = 2 then optL (overO x up down)
  else if x.kind = 3 then optL (gateO x s up down)
  else if on then pumpQ x s (min (up - (n.nodes.getD (nodeIx n.nodes x.fro).toNat default).inv) 4194304).toNat
  else 0
structure BtwIn (n : Net) (l : List Sect) (x : Link) (up down : Int) (s : Nat) : Prop where
  no : netOk n
  xo : linkOk x
  co : catOk l
  cb : catB l = true
  xr : linkR x = true
  kn : knownB l x = true
  fr : 0 <= nodeIx n.nodes x.fro
  iv : levB (n.nodes.getD (nodeIx n.nodes x.fro).toNat default).inv = true /\ (n.nodes.getD (nodeIx n.nodes x.fro).toNat default).inv <= up
  u : levB up = true
  d : levB down = true
  se : s <= 1000
theorem kind_in {x : Link} (h : linkR x = true) : x.kind = 1 ∨ x.kind = 2 ∨ x.kind = 3 ∨ x.kind = 4 := by
  have h7 := (linkR_in h).2.2.2.2.2.2;unfold kindL at h7;by_cases k1 : x.kind = 1
  · exact .inl k1
  by_cases k2 : x.kind = 2
  · exact .inr (.inl k2)
  by_cases k3 : x.kind = 3
  · exact .inr (.inr (.inl k3))
  by_cases k4 : x.kind = 4
  · exact .inr (.inr (.inr k4))
  simp [k1, k2, k3, k4] at h7
theorem kind1_in {x : Link} (h : linkR x = true) (k : x.kind = 1) : 1 <= x.length /\ x.length <= 16777216 := by
  have h7 := (linkR_in h).2.2.2.2.2.2;unfold kindL btwB at h7;simp [k] at h7;omega
theorem kind2_in {x : Link} (h : linkR x = true) (k : x.kind = 2) : weirB x = true := by
  have hin := linkR_in h;have h7 := hin.2.2.2.2.2.2;unfold kindL at h7;simp [k] at h7;unfold weirB;simp [k, hin.2.2.2.2.1, h7]
theorem kind3_in {x : Link} (h : linkR x = true) (k : x.kind = 3) : gateB x = true := by
  have hin := linkR_in h;have h7 := hin.2.2.2.2.2.2;unfold kindL at h7;simp [k] at h7;unfold gateB;simp [k, hin.2.2.2.2.1, h7]
theorem okS_in {l : List Sect} (h : catB l = true) {i : Nat} (hi : i < l.length) : secB (l.getD i default) = true := by
  unfold catB at h;simp only [Bool.and_eq_true, List.all_eq_true, List.mem_range] at h;have := h.2 i hi;unfold okS at this;simp only [Bool.and_eq_true] at this;exact this.1
theorem sect_at {l : List Sect} {x : Link} (h : knownB l x = true) (k : x.kind = 1) : ∃ i : Nat, secIx l x.sect = (i : Int) /\ i < l.length := by
  unfold knownB at h;simp [k] at h;have := idxI_lt (fun y : Sect => decide (y.name = x.sect)) l;change -1 <= secIx l x.sect /\ secIx l x.sect < l.length at this;exact ⟨(secIx l x.sect).toNat, by omega, by omega⟩
theorem node_at {n : Net} {s : ByteArray} (h : 0 <= nodeIx n.nodes s) : ∃ i : Nat, nodeIx n.nodes s = (i : Int) /\ i < n.nodes.length := by
  have := idxI_lt (fun y : Node => decide (y.name = s)) n.nodes;change -1 <= nodeIx n.nodes s /\ nodeIx n.nodes s < n.nodes.length at this;exact ⟨(nodeIx n.nodes s).toNat, by omega, by omega⟩
set_option maxRecDepth 20000 in
theorem between_f' (n : Net) (l : List Sect) (x : Link) (up down : Int) (s : Nat) (on : Bool) (m : Nat) (h : BtwIn n l x up down s) : Pu 190 [netD n, sectL l, linkD x, li up, li down, li s, lb on] m (.tup [li (flowI n l x up down s on), li 0]) := by
  have hr := linkR_in h.xr;have hl := h.co.1;unfold flowI;by_cases k1 : x.kind = 1
  · rw [if_pos k1];(have:=NeI k1);obtain ⟨i, ei, hi⟩ := sect_at h.kn k1;have c1 := fun m => pipe_f x (l.getD i default) up down m ⟨h.co.2 _ (getD_mem hi), okS_in h.cb hi, hr.2.2.2.2.1, hr.2.2.2.2.2.1, kind1_in h.xr k1, h.u, h.d⟩
    have ci := idxSectC_f 196 56 (linkP x) (fun y => decide (y.name = x.sect)) l hl (fun y _ m => between1_f y x m);change DCalls _ _ _ _ _ (li (secIx l x.sect)) _ at ci;rw [ei] at ci ⊢;rw [Int.toNat_natCast];generalize limI (pipeN x (l.getD i default) up down) = q at *
    (have:=NeI hi);clear h hr;refine pcN 81 [.tmp 14,.tmp 15] [3,45] Tryz.func190 rfl [] ?_;(repeat' first|refine stW [0,1,2,3,4,5,6,7,9,14,15,16,17,20,21,36,47,60] ?_|refine fctI fun hf=>?_|refine twI (fun hc=>?_) fun hc=>?_);(refine cQT [8] (fun hcc => ci) ?_);(repeat' first|refine stW [0,1,2,3,4,5,6,7,9,14,15,16,17,20,21,36,47,60] ?_|refine fctI fun hf=>?_|refine twI (fun hc=>?_) fun hc=>?_);exact DVR
  by_cases k2 : x.kind = 2
  · rw [if_neg k1, if_pos k2];(have:=NeI k1);(have:=NeI k2);have c1 := fun m => over_f x up down m (kind2_in h.xr k2) h.u h.d
    have c2 := fun m => limitedO_f (overO x up down) m
    generalize overO x up down = o at *
    generalize optI o = o1 at *
    generalize optE o = o2 at *
    generalize optL o = o3 at *
    clear h hr;refine pcN 81 [.tmp 14,.tmp 15] [3,45] Tryz.func190 rfl [] ?_;(repeat' first|refine stW [0,1,2,3,4,5,6,7,9,14,15,16,17,20,21,36,47,60] ?_|refine fctI fun hf=>?_|refine twI (fun hc=>?_) fun hc=>?_);exact DVR
  by_cases k3 : x.kind = 3
  · rw [if_neg k1, if_neg k2, if_pos k3];(have:=NeI k1);(have:=NeI k2);(have:=NeI k3);have c1 := fun m => gate_f x s up down m (kind3_in h.xr k3) h.se h.u h.d
    have c2 := fun m => limitedO_f (gateO x s up down) m
    generalize gateO x s up down = o at *
    generalize optI o = o1 at *
    generalize optE o = o2 at *
    generalize optL o = o3 at *
    clear h hr;refine pcN 81 [.tmp 14,.tmp 15] [3,45] Tryz.func190 rfl [] ?_;(repeat' first|refine stW [0,1,2,3,4,5,6,7,9,14,15,16,17,20,21,36,47,60] ?_|refine fctI fun hf=>?_|refine twI (fun hc=>?_) fun hc=>?_);exact DVR
  rw [if_neg k1, if_neg k2, if_neg k3];have k4 : x.kind = 4 := by have := kind_in h.xr; omega
  (have:=NeI k1);(have:=NeI k2);(have:=NeI k3);cases on
  · clear h hr;refine pcN 81 [.tmp 14,.tmp 15] [3,45] Tryz.func190 rfl [] ?_;(repeat' first|refine stW [0,1,2,3,4,5,6,7,9,14,15,16,17,20,21,36,47,60] ?_|refine fctI fun hf=>?_|refine twI (fun hc=>?_) fun hc=>?_);exact DVR
  · obtain ⟨i, ei, hi⟩ := node_at h.fr;have c0 := fun m => ends_f n x m h.no.1.1
    have hiv := h.iv;have hu := lev_in h.u;have hv := lev_in hiv.1;rw [ei] at c0 hiv hv ⊢;rw [Int.toNat_natCast] at hiv hv ⊢;have c1 := fun m => pumpFlow_f x s (min (up - (n.nodes.getD i default).inv) 4194304).toNat m h.xo (by unfold pumpB; simp [k4, h.xr]) h.se (by omega)
    rw [show ((min (up - (n.nodes.getD i default).inv) 4194304).toNat : Int) = min (up - (n.nodes.getD i default).inv) 4194304 by omega] at c1;generalize pumpQ x s (min (up - (n.nodes.getD i default).inv) 4194304).toNat = q at *
    generalize nodeIx n.nodes x.til = z at *
    (have:=NeI hi);clear h hr;refine pcN 81 [.tmp 14,.tmp 15] [3,45] Tryz.func190 rfl [] ?_;(repeat' first|refine stW [0,1,2,3,4,5,6,7,9,14,15,16,17,20,21,36,47,60] ?_|refine fctI fun hf=>?_|refine twI (fun hc=>?_) fun hc=>?_);exact DVR
def lvB (n : Net) (lv : List Int) (i : Nat) : Bool := btwB (lv.getD i default) (n.nodes.getD i default).inv (n.nodes.getD i default).gnd
def lvA (n : Net) (lv : List Int) : Bool := (List.range n.nodes.length).all (lvB n lv)
def lvE (n : Net) (lv : List Int) : Int := if lv.length = n.nodes.length then (if lvA n lv then 0 else 2) else 3
theorem lwithin_f (x : Node) (v : Int) (m : Nat) : Pu 183 [nodeD x, li v] m (lb (btwB v x.inv x.gnd)) := by
  refine pcN 15 [.tmp 4] [4] Tryz.func183 rfl [] ?_;(repeat' first|refine stW [0,1,2,4] ?_|refine fctI fun hf=>?_|refine twI (fun hc=>?_) fun hc=>?_);exact DVR
theorem lvA_no {n : Net} {lv : List Int} {i : Nat} (hi : i < n.nodes.length) (h : lvB n lv i = false) : lvA n lv = false := rall_false hi h
theorem lvA_yes {n : Net} {lv : List Int} (h : ∀ i, i < n.nodes.length -> lvB n lv i = true) : lvA n lv = true := rall_true h
theorem lvA_in {n : Net} {lv : List Int} (h : lvA n lv = true) {i : Nat} (hi : i < n.nodes.length) : (n.nodes.getD i default).inv <= lv.getD i default /\ lv.getD i default <= (n.nodes.getD i default).gnd := by
  unfold lvA at h;rw [List.all_eq_true] at h;exact btwB_in (h i (List.mem_range.2 hi))
theorem levelled_f (n : Net) (lv : List Int) (m : Nat) (hn : netOk n) (hl : lv.length <= 281474976710656) : Pu 170 [netD n, ints lv] m (li (lvE n lv)) := by
  have hn1 := hn.1.1;unfold lvE;by_cases he : lv.length = n.nodes.length
  · rw [if_pos he];have he2 : ¬ ¬ (lv.length : Int) = (n.nodes.length : Int) := by omega
    have he3 : (lv.length : Int) = (n.nodes.length : Int) := by omega
    (have:=NeI he3);refine pcN 29 [.tmp 4] [45] Tryz.func170 rfl [] ?_;(repeat' first|refine stW [0,1,2,4,5,6,12,14,15,16,17,27] ?_|refine fctI fun hf=>?_|refine twI (fun hc=>?_) fun hc=>?_);refine loop_swp [1, 2, 14, 15, 16] [0] 1 (fun q A H => ∃ i : Nat, i <= n.nodes.length /\ q = n.nodes.length - i /\ (∀ j, j < i -> lvB n lv j = true) /\ A = [(1, ints lv), (2, .ptr 0 0), (14, nodeL n.nodes), (15, li n.nodes.length), (16, li i)] /\ H = [(0, .blk 25 (netC n))]) (by omega) ?_ ?_ ?_
    · rintro q A H ⟨i, h1, h2, h3, rfl, rfl⟩;exact SDD
    · refine ⟨_, 0, by omega, rfl, by omega, ?_, ?_⟩
      · exact DVR
      · exact DVR
    rintro q A H ⟨i, h1, h2, h3, rfl, rfl⟩;by_cases hi : i < n.nodes.length
    · have hi2 : i < lv.length := by omega
      have hi3 : (i : Int) < (n.nodes.length : Int) := by omega
      (have:=NeI hi);(have:=NeI hi2);(have:=NeI hi3);have cw := fun m => lwithin_f (n.nodes.getD i default) (lv.getD i default) m
      cases hb : lvB n lv i
      · unfold lvB at hb;rw [hb] at cw;(repeat' first|refine stW [0,1,2,4,5,6,12,14,15,16,17,27] ?_|(show XCallQ ..;first|refine xQ (fun hcc=>(by first | exact cw _)) ?_|(refine xlP ?_;refine xlQ (fun hcc m=>(by first | exact cw _)) ?_))|refine fctI fun hf=>?_|refine twI (fun hc=>?_) fun hc=>?_);(refine DVQ ?_);rw [lvA_no hi (by unfold lvB; exact hb)]; rfl
      · have hb0 := hb;unfold lvB at hb;rw [hb] at cw;(repeat' first|refine stW [0,1,2,4,5,6,12,14,15,16,17,27] ?_|(show XCallQ ..;first|refine xQ (fun hcc=>(by first | exact cw _)) ?_|(refine xlP ?_;refine xlQ (fun hcc m=>(by first | exact cw _)) ?_))|refine fctI fun hf=>?_|refine twI (fun hc=>?_) fun hc=>?_);(refine lN [0] ?_);exact ⟨_, by omega, i + 1, by omega, rfl, all_next h3 hb0, rfl, rfl⟩
    · have hi3 : ¬ (i : Int) < (n.nodes.length : Int) := by omega
      (have:=NeI hi3);obtain rfl : i = n.nodes.length := by omega
      (repeat' first|refine stW [0,1,2,4,5,6,12,14,15,16,17,27] ?_|refine fctI fun hf=>?_|refine twI (fun hc=>?_) fun hc=>?_);(refine DVQ ?_);rw [lvA_yes h3]; rfl
  · rw [if_neg he];have he3 : ¬ (lv.length : Int) = (n.nodes.length : Int) := by omega
    (have:=NeI he3);refine pcN 29 [.tmp 4] [45] Tryz.func170 rfl [] ?_;(repeat' first|refine stW [0,1,2,4,5,6,12,14,15,16,17,27] ?_|refine fctI fun hf=>?_|refine twI (fun hc=>?_) fun hc=>?_);exact DVR
theorem okL_in {n : Net} (h : netB n = true) {i : Nat} (hi : i < n.links.length) : linkR (n.links.getD i default) = true /\ 0 <= nodeIx n.nodes (n.links.getD i default).fro /\ 0 <= nodeIx n.nodes (n.links.getD i default).til /\ ¬ (n.nodes.getD (nodeIx n.nodes (n.links.getD i default).fro).toNat default).kind = 3 := by
  have := netB_okL h hi;unfold okL at this;simp only [Bool.and_eq_true, decide_eq_true_eq, Bool.not_eq_true', decide_eq_false_iff_not] at this;exact ⟨this.1.1.1.1, this.1.1.2, this.1.2, this.2⟩
theorem node_lev {x : Node} (h : nodeR x = true) : levB x.inv = true /\ levB x.gnd = true /\ x.inv <= x.gnd := by
  unfold nodeR at h;simp only [Bool.and_eq_true] at h;refine ⟨h.1.1.2, h.1.2, ?_⟩;have hk := h.2;unfold kindB at hk;split at hk
  · simp only [Bool.and_eq_true, decide_eq_true_eq] at hk;have := hk.1.1.1;omega
  · split at hk
    · simp only [Bool.and_eq_true, decide_eq_true_eq] at hk;exact hk.1.1.1
    · cases hk
theorem lev_btw {x : Node} {v : Int} (h : nodeR x = true) (h1 : x.inv <= v) (h2 : v <= x.gnd) : levB v = true := by
  have k := node_lev h;have a := lev_in k.1;have b := lev_in k.2.1;unfold levB; simp; omega
theorem btwIn_of {n : Net} {l : List Sect} {k : Nat} {up down : Int} {s : Nat} (no : netOk n) (co : catOk l) (nb : netB n = true) (cb : catB l = true) (hk : k < n.links.length) (kn : knownB l (n.links.getD k default) = true) (hs : s <= 1000)
    (hu : btwB up (n.nodes.getD (nodeIx n.nodes (n.links.getD k default).fro).toNat default).inv (n.nodes.getD (nodeIx n.nodes (n.links.getD k default).fro).toNat default).gnd = true)
    (hd : btwB down (n.nodes.getD (nodeIx n.nodes (n.links.getD k default).til).toNat default).inv (n.nodes.getD (nodeIx n.nodes (n.links.getD k default).til).toNat default).gnd = true) : BtwIn n l (n.links.getD k default) up down s := by
  have h := okL_in nb hk;obtain ⟨i, ei, hi⟩ := node_at h.2.1;obtain ⟨j, ej, hj⟩ := node_at h.2.2.1;have ri := netB_node nb hi;have rj := netB_node nb hj;rw [ei, Int.toNat_natCast] at hu;rw [ej, Int.toNat_natCast] at hd;have u := btwB_in hu;have d := btwB_in hd;exact ⟨no, no.2.2 _ (getD_mem hk), co, cb, h.1, kn, h.2.1, by rw [ei, Int.toNat_natCast]; exact ⟨(node_lev ri).1, u.1⟩, lev_btw ri u.1 u.2, lev_btw rj d.1 d.2, hs⟩
def fromI (n : Net) (k : Nat) : Nat := (nodeIx n.nodes (n.links.getD k default).fro).toNat
def tillI (n : Net) (k : Nat) : Nat := (nodeIx n.nodes (n.links.getD k default).til).toNat
theorem fromI_lt {n : Net} (h : netB n = true) {k : Nat} (hk : k < n.links.length) : fromI n k < n.nodes.length /\ nodeIx n.nodes (n.links.getD k default).fro = (fromI n k : Int) := by
  obtain ⟨i, ei, hi⟩ := node_at (okL_in h hk).2.1;unfold fromI; omega
theorem tillI_lt {n : Net} (h : netB n = true) {k : Nat} (hk : k < n.links.length) : tillI n k < n.nodes.length /\ nodeIx n.nodes (n.links.getD k default).til = (tillI n k : Int) := by
  obtain ⟨i, ei, hi⟩ := node_at (okL_in h hk).2.2.1;unfold tillI; omega
theorem at_f (n : Net) (l : List Sect) (k : Nat) (lv : List Int) (s : Nat) (on : Bool) (m : Nat) (no : netOk n) (nb : netB n = true) (hk : k < n.links.length) (hl : lv.length = n.nodes.length)
    (h : BtwIn n l (n.links.getD k default) (lv.getD (fromI n k) default) (lv.getD (tillI n k) default) s) : Pu 175 [netD n, sectL l, linkD (n.links.getD k default), ints lv, li s, lb on] m (.tup [li (flowI n l (n.links.getD k default) (lv.getD (fromI n k) default) (lv.getD (tillI n k) default) s on), li 0]) := by
  have c1 := fun m => ends_f n (n.links.getD k default) m no.1.1
  have hf := fromI_lt nb hk;have ht := tillI_lt nb hk;have c2 := fun m => between_f' n l (n.links.getD k default) (lv.getD (fromI n k) default) (lv.getD (tillI n k) default) s on m h
  rw [hf.2, ht.2] at c1;have f1 : fromI n k < lv.length := by omega
  have t1 : tillI n k < lv.length := by omega
  generalize flowI n l (n.links.getD k default) (lv.getD (fromI n k) default) (lv.getD (tillI n k) default) s on = q at *
  generalize n.links.getD k default = x at *
  generalize fromI n k = a at *
  generalize tillI n k = b at *
  (have:=NeI f1);(have:=NeI t1);clear h hf ht;refine pcN 38 [.tmp 12,.tmp 13] [3,45] Tryz.func175 rfl [] ?_;(repeat' first|refine stW [0,1,2,3,4,5,6,8,12,13,14,15] ?_|refine fctI fun hf=>?_|refine twI (fun hc=>?_) fun hc=>?_);exact DVR
class ModOk (a b : Int) (q : outParam Int) : Prop where
  out : a.tmod b = q
theorem mod_ok {a b q : Int} [h : ModOk a b q] : a.tmod b = q := h.out
class UDivOk (a b : Int) (q : outParam Int) : Prop where
  out : IntKind.u64.wrap (a.tdiv b) = q
theorem udiv_ok {a b q : Int} [h : UDivOk a b q] : IntKind.u64.wrap (a.tdiv b) = q := h.out
attribute [push_cast] mod_ok udiv_ok
def wishI (q s : Int) : Int × Int := if q < 0 ∨ 1099511627776 < q ∨ s < 1 ∨ 86400 < s then (0, 2) else (min (q * s) 1125899906842624, 0)
theorem wish_fits {q s : Int} (h1 : 0 <= q) (h2 : q <= 1099511627776) (h3 : 1 <= s) (h4 : s <= 86400) : 0 <= q * s /\ q * s <= 94997804639846400 :=
  ⟨Int.mul_nonneg h1 (by omega), Int.mul_le_mul h2 h4 (by omega) (by omega)⟩
theorem wish_f (q s : Int) (m : Nat) : Pu 151 [li q, li s] m (.tup [li (wishI q s).1, li (wishI q s).2]) := by
  unfold wishI;split
  · next h =>
    refine pcN 24 [.tmp 4,.tmp 5] [3,45] Tryz.func151 rfl [] ?_;by_cases h1 : q < 0
    · (have:=NeI h1);(repeat' first|refine stW [0,1,4,5,19] ?_|refine fctI fun hf=>?_|refine twI (fun hc=>?_) fun hc=>?_);exact DVR
    (have:=NeI h1);by_cases h2 : 1099511627776 < q
    · (have:=NeI h2);(repeat' first|refine stW [0,1,4,5,19] ?_|refine fctI fun hf=>?_|refine twI (fun hc=>?_) fun hc=>?_);exact DVR
    (have:=NeI h2);by_cases h3 : s < 1
    · (have:=NeI h3);(repeat' first|refine stW [0,1,4,5,19] ?_|refine fctI fun hf=>?_|refine twI (fun hc=>?_) fun hc=>?_);exact DVR
    (have:=NeI h3);have h4 : 86400 < s := by omega
    (have:=NeI h4);(repeat' first|refine stW [0,1,4,5,19] ?_|refine fctI fun hf=>?_|refine twI (fun hc=>?_) fun hc=>?_);exact DVR
  · next h =>
    have h1 : ¬ q < 0 := by omega
    have h2 : ¬ 1099511627776 < q := by omega
    have h3 : ¬ s < 1 := by omega
    have h4 : ¬ 86400 < s := by omega
    (have:=NeI h1);(have:=NeI h2);(have:=NeI h3);(have:=NeI h4);have hw := wish_fits (q := q) (s := s) (by omega) (by omega) (by omega) (by omega);have i1 : MulOk q s (q * s) := ⟨i64w (by omega)⟩;generalize q * s = p at *
    refine pcN 24 [.tmp 4,.tmp 5] [3,45] Tryz.func151 rfl [] ?_;(repeat' first|refine stW [0,1,4,5,19] ?_|refine fctI fun hf=>?_|refine twI (fun hc=>?_) fun hc=>?_);exact DVR
theorem limI_min (q : Nat) : limI q = min (q : Int) 1099511627776 := by
  unfold limI bigB;by_cases h : 1099511627776 < q
  · rw [decide_eq_true h, if_pos rfl]; omega
  · rw [decide_eq_false h, if_neg (by decide)]; omega
theorem limI_in (q : Nat) : 0 <= limI q /\ limI q <= 1099511627776 := by rw [limI_min]; omega
theorem optL_in (o : Option Nat) : 0 <= optL o /\ optL o <= 1099511627776 := by
  cases o with
  | none => exact ⟨by decide, by decide⟩
  | some q => exact limI_in q
theorem pumpQ_max {x : Link} {s d : Nat} (hp : pumpB x = true) (hs : s <= 1000) : (pumpQ x s d : Int) <= 1099511627776 := by
  unfold pumpQ;have k := (pumpB_in hp).2.2.2.2.2.2 d;have := pumpQ_le (c := (floorT x.curve d).toNat) (by omega) hs;omega
theorem flowI_in {n : Net} {l : List Sect} {x : Link} {up down : Int} {s : Nat} {on : Bool} (h : BtwIn n l x up down s) : 0 <= flowI n l x up down s on /\ flowI n l x up down s on <= 1099511627776 := by
  unfold flowI;by_cases k1 : x.kind = 1
  · rw [if_pos k1]; exact limI_in _
  by_cases k2 : x.kind = 2
  · rw [if_neg k1, if_pos k2]; exact optL_in _
  by_cases k3 : x.kind = 3
  · rw [if_neg k1, if_neg k2, if_pos k3]; exact optL_in _
  rw [if_neg k1, if_neg k2, if_neg k3];have k4 : x.kind = 4 := by have := kind_in h.xr; omega
  cases on
  · rw [if_neg (by decide)]; exact ⟨by decide, by decide⟩
  · rw [if_pos rfl];exact ⟨by omega, pumpQ_max (by unfold pumpB; simp [k4, h.xr]) h.se⟩
def intC (i : Int) : List PV := [.lit (.int .i64 i)]
theorem intC_map (i : Int) : (intC i).map DV.p = [.p (.lit (.int .i64 i))] := rfl
attribute [push_cast] intC_map
theorem conLinkC_f (g : FuncId) (t : TypeId) (cs : List PV) (p : Link -> Bool) (l : List Link) (hl : l.length <= 281474976710656) (hg : ∀ x, x ∈ l -> ∀ m, DCalls Tryz.prog g [linkD x, .ptr 0 0] (hget [(0, .blk t (cs.map .p))]) m (lb (p x)) (hget [(0, .blk t (cs.map .p))])) :
    DCalls Tryz.prog 26 [linkL l, .clo g [.ptr 0 0]] (hget [(0, .blk t (cs.map .p))]) 1 (lb (l.any p)) (hget [(0, .blk t (cs.map .p))]) := by
  have ci := idxLinkC_f g t cs p l hl hg;refine contract (n := 9) (rs := [.tmp 4]) (ts := [4]) Tryz.func26 rfl (by decide) 1 1 [] [] [] (lb (l.any p)) [(0, .blk t (cs.map .p))] (by (exact SD)) (by (exact SD)) ?_;(repeat' first|refine stW [0,1,4] ?_|refine fctI fun hf=>?_|refine twI (fun hc=>?_) fun hc=>?_);(refine cQT [0] (fun hcc => ci) ?_);(repeat' first|refine stW [0,1,4] ?_|refine fctI fun hf=>?_|refine twI (fun hc=>?_) fun hc=>?_);(refine DVQ ?_);rw [idxI_any]
theorem take_sn {α : Type} [Inhabited α] {l : List α} {i : Nat} (h : i < l.length) : l.take (i + 1) = l.take i ++ [l.getD i default] := by
  rw [List.take_succ_eq_append_getElem h];simp [List.getD_eq_getElem?_getD, List.getElem?_eq_getElem h]
def flowAt (n : Net) (l : List Sect) (lv : List Int) (s : Sta) (i : Nat) : Int := flowI n l (n.links.getD i default) (lv.getD (fromI n i) default) (lv.getD (tillI n i) default) (s.set.getD i default).toNat (s.on.getD i default)
def flowsL (n : Net) (l : List Sect) (lv : List Int) (s : Sta) : List Int := (List.range n.links.length).map (flowAt n l lv s)
def pumpAt (n : Net) (lv : List Int) (on : List Bool) (i : Nat) : Bool := decide ((n.links.getD i default).kind = 4) && onB (n.links.getD i default) (on.getD i default) (lv.getD (fromI n i) default)
def pumpsL (n : Net) (lv : List Int) (on : List Bool) : List Bool := (List.range n.links.length).map (pumpAt n lv on)
theorem rng_len {α : Type} (k : Nat) (f : Nat -> α) : ((List.range k).map f).length = k := by rw [List.length_map, List.length_range]
theorem rng_at {α : Type} [Inhabited α] {k i : Nat} {f : Nat -> α} (h : i < k) : ((List.range k).map f).getD i default = f i := by
  simp [List.getD_eq_getElem?_getD, h]
theorem okSL_in {n : Net} {s : Sta} (h : staB n s = true) {i : Nat} (hi : i < n.links.length) : (0 <= s.set.getD i default /\ s.set.getD i default <= 1000) /\ (s.on.getD i default = true -> (n.links.getD i default).kind = 4) := by
  unfold staB at h;simp only [Bool.and_eq_true, List.all_eq_true, List.mem_range] at h;have := h.2 i hi;unfold okSL at this;simp only [Bool.and_eq_true, Bool.not_eq_true', Bool.and_eq_false_iff, Bool.not_eq_false', decide_eq_true_eq] at this;refine ⟨btwB_in this.1, fun e => ?_⟩;rcases this.2 with h | h
  · rw [e] at h; cases h
  · exact h
structure FlowsIn (n : Net) (l : List Sect) (lv : List Int) (s : Sta) : Prop where
  no : netOk n
  co : catOk l
  nb : netB n = true
  cb : catB l = true
  sb : staB n s = true
  ll : lv.length = n.nodes.length
  la : lvA n lv = true
  kn : ∀ i, i < n.links.length -> knownB l (n.links.getD i default) = true
theorem FlowsIn.btw {n : Net} {l : List Sect} {lv : List Int} {s : Sta} (F : FlowsIn n l lv s) {i : Nat} (hi : i < n.links.length) : BtwIn n l (n.links.getD i default) (lv.getD (fromI n i) default) (lv.getD (tillI n i) default) (s.set.getD i default).toNat :=
  btwIn_of F.no F.co F.nb F.cb hi (F.kn i hi) (by have := (okSL_in F.sb hi).1; omega) (by have := lvA_in F.la (fromI_lt F.nb hi).1; unfold btwB; simp; exact this) (by have := lvA_in F.la (tillI_lt F.nb hi).1; unfold btwB; simp; exact this)
theorem flows1_f (x : Link) (l : List Sect) (m : Nat) (hl : l.length <= 281474976710656) : DCalls Tryz.prog 173 [linkD x, .ptr 0 0] (hget [(0, .blk 26 ([.dat 5 (l.map sectP)].map .p))]) m (lb (!knownB l x)) (hget [(0, .blk 26 ([.dat 5 (l.map sectP)].map .p))]) := by
  refine contract (n := 8) (rs := [.tmp 3]) (ts := [4]) Tryz.func173 rfl (by decide) 1 1 [] [] [] (lb (!knownB l x)) [(0, .blk 26 ([.dat 5 (l.map sectP)].map .p))] (by (exact SD)) (by (exact SD)) ?_;(repeat' first|refine stW [0,1,2,3] ?_|(show CallQ ..;first|refine cQ (fun hcc=>(by first | exact known_f _ _ _ hl)) ?_|(refine lP ?_;refine lQ (fun hcc m=>(by first | exact known_f _ _ _ hl)) ?_))|refine fctI fun hf=>?_|refine twI (fun hc=>?_) fun hc=>?_);exact DVR
set_option maxRecDepth 20000 in
theorem Flows_own (n : Net) (l : List Sect) (lv : List Int) (s : Sta) (m : Nat) (F : FlowsIn n l lv s) (so : staOk s) : DCallsG Tryz.prog 150 [] [netD n, sectL l, ints lv, staD s] (hget []) m (.tup [.gl m, li 0]) (hget [(m, inLt (flowsL n l lv s))]) := by
  have c1 := fun m => cat_f l m F.co
  have c2 := fun m => staValid_f n s m F.no so
  have hll := F.no.2.1;have hl0 := F.ll;have hn0 := (netB_len F.nb).1;have c3 := fun m => levelled_f n lv m F.no (by omega)
  rw [show lvE n lv = 0 by unfold lvE; rw [if_pos F.ll, if_pos F.la]] at c3;simp only [F.nb, F.sb, F.cb, Bool.and_self] at c1 c2;have hk : (n.links.any fun x => !knownB l x) = false := by
    rw [List.any_eq_false];intro x hx;obtain ⟨i, hi, rfl⟩ := List.mem_iff_getElem.1 hx;have := F.kn i hi;rw [List.getD_eq_getElem?_getD, List.getElem?_eq_getElem hi] at this;have this : knownB l n.links[i] = true := this;rw [this]; decide
  have ck := conLinkC_f 173 26 [.dat 5 (l.map sectP)] (fun x => !knownB l x) n.links F.no.2.1 (fun x _ m => flows1_f x l m F.co.1);rw [hk] at ck;have hlen := lensB_of (show lensB n s = true by have := F.sb; unfold staB at this; simp only [Bool.and_eq_true] at this; exact this.1.1);have h400 := (netB_len F.nb).2;have hfl : (flowsL n l lv s).length = n.links.length := rng_len _ _;have hfa : ∀ i, i < n.links.length -> (flowsL n l lv s).getD i default = flowAt n l lv s i := fun i hi => rng_at hi
  have ca := fun i hi m => at_f n l i lv (s.set.getD i default).toNat (s.on.getD i default) m F.no F.nb hi F.ll (F.btw hi)
  generalize flowsL n l lv s = O at *
  refine contract (n := 70) (rs := [.tmp 8, .tmp 9]) (ts := [28, 45]) Tryz.func150 rfl (by decide) 0 0 [] [] [232] (.tup [.gl 232, li 0]) [(232, inLt O)] (by (exact SD)) (by (exact SD)) ?_;(repeat' first|refine stW [0,1,2,3,4,5,7,8,9,10,11,12,13,14,15,24,29,34,36,37,38,39,62] ?_|refine fctI fun hf=>?_|refine twI (fun hc=>?_) fun hc=>?_);(refine cQT [8] (fun hcc => ck) ?_);(repeat' first|refine stW [0,1,2,3,4,5,7,8,9,10,11,12,13,14,15,24,29,34,36,37,38,39,62] ?_|refine fctI fun hf=>?_|refine twI (fun hc=>?_) fun hc=>?_);(refine sN 11 3 1 ?_);refine loop_swp [2, 4, 5, 7, 11, 36, 37, 38] [0, 8, 16, 232] 233 (fun z A H => ∃ i : Nat, i <= n.links.length /\ z = n.links.length - i /\ A = [(2, ints lv), (4, .ptr 0 0), (5, .ptr 8 0), (7, .ptr 16 0), (11, .gl 232), (36, linkL n.links), (37, li n.links.length), (38, li i)] /\ H = [(0, .blk 25 (netC n)), (8, .blk 26 [sectL l]), (16, .blk 31 (staC s)), (232, inLt (O.take i))]) (by omega) ?_ ?_ ?_
  · rintro z A H ⟨i, h1, h2, rfl, rfl⟩;exact SDD
  · refine ⟨_, 0, by omega, rfl, ?_, ?_⟩
    · exact DVR
    · exact DVR
  rintro z A H ⟨i, h1, h2, rfl, rfl⟩;by_cases hi : i < n.links.length
  · have hi3 : (i : Int) < (n.links.length : Int) := by omega
    have hnx := take_sn (l := O) (i := i) (by omega);rw [hfa i hi] at hnx;have hti : (O.take i).length = i := by rw [List.length_take]; omega
    have cx := ca i hi;have hst := (okSL_in F.sb hi).1;rw [show ((s.set.getD i default).toNat : Int) = s.set.getD i default by omega] at cx;change ∀ m, DCalls _ _ _ _ m (.tup [li (flowAt n l lv s i), li 0]) _ at cx;generalize flowAt n l lv s i = q at *
    generalize O.take i = X at *
    have hs1 : i < s.set.length := by omega
    have hs2 : i < s.on.length := by omega
    (have:=NeI hi);(have:=NeI hi3);(have:=NeI hs1);(have:=NeI hs2);clear ca c1 c2 c3 ck F hfa hk;(repeat' first|refine stW [0,1,2,3,4,5,7,8,9,10,11,12,13,14,15,24,29,34,36,37,38,39,62] ?_|refine fctI fun hf=>?_|refine twI (fun hc=>?_) fun hc=>?_);rw [<- hnx];(refine lN [0, 8, 16, 232] ?_);exact ⟨_, by omega, i + 1, by omega, rfl, rfl, rfl⟩
  obtain rfl : i = n.links.length := by omega
  have hi3 : ¬ ((n.links.length : Int) < (n.links.length : Int)) := by omega
  (have:=NeI hi3);rw [show O.take n.links.length = O by rw [<- hfl, List.take_length]];(repeat' first|refine stW [0,1,2,3,4,5,7,8,9,10,11,12,13,14,15,24,29,34,36,37,38,39,62] ?_|refine fctI fun hf=>?_|refine twI (fun hc=>?_) fun hc=>?_);exact DVR
theorem app_bo (X : List Bool) (b : Bool) : rows boRow X ++ [[DV.p (.lit (.bool b))]] = rows boRow (X ++ [b]) := by
  unfold rows; rw [List.map_append]; rfl
attribute [push_cast] app_bo
set_option maxRecDepth 20000 in
theorem On_own (n : Net) (s : Sta) (lv : List Int) (m : Nat) (no : netOk n) (hv : netB n = true /\ staB n s = true) (hlv : lv.length = n.nodes.length /\ lvA n lv = true) (so : staOk s) : DCallsG Tryz.prog 149 [] [netD n, staD s, ints lv] (hget []) m (.tup [.gl m, li 0]) (hget [(m, boL (pumpsL n lv s.on))]) := by
  have c2 := fun m => staValid_f n s m no so
  have hn0 := (netB_len hv.1).1;have c3 := fun m => levelled_f n lv m no (by omega)
  have hll := no.2.1;rw [show lvE n lv = 0 by unfold lvE; rw [if_pos hlv.1, if_pos hlv.2]] at c3;simp only [hv.1, hv.2, Bool.and_self] at c2;have hlen := lensB_of (show lensB n s = true by have := hv.2; unfold staB at this; simp only [Bool.and_eq_true] at this; exact this.1.1);have h400 := (netB_len hv.1).2;have hfl : (pumpsL n lv s.on).length = n.links.length := rng_len _ _;have hfa : ∀ i, i < n.links.length -> (pumpsL n lv s.on).getD i default = pumpAt n lv s.on i := fun i hi => rng_at hi
  generalize pumpsL n lv s.on = O at *
  refine contract (n := 66) (rs := [.tmp 6, .tmp 7]) (ts := [29, 45]) Tryz.func149 rfl (by decide) 0 0 [] [] [152] (.tup [.gl 152, li 0]) [(152, boL O)] (by (exact SD)) (by (exact SD)) ?_;(repeat' first|refine stW [0,1,2,3,4,6,7,8,9,10,11,12,13,15,19,24,27,28,29,30,36,58] ?_|refine fctI fun hf=>?_|refine twI (fun hc=>?_) fun hc=>?_);(refine sN 9 4 1 ?_);refine loop_swp [2, 3, 4, 9, 27, 28, 29] [0, 8, 152] 153 (fun z A H => ∃ i : Nat, i <= n.links.length /\ z = n.links.length - i /\ A = [(2, ints lv), (3, .ptr 0 0), (4, .ptr 8 0), (9, .gl 152), (27, linkL n.links), (28, li n.links.length), (29, li i)] /\ H = [(0, .blk 25 (netC n)), (8, .blk 31 (staC s)), (152, boL (O.take i))]) (by omega) ?_ ?_ ?_
  · rintro z A H ⟨i, h1, h2, rfl, rfl⟩;exact SDD
  · refine ⟨_, 0, by omega, rfl, ?_, ?_⟩
    · exact DVR
    · exact DVR
  rintro z A H ⟨i, h1, h2, rfl, rfl⟩;by_cases hi : i < n.links.length
  · have hi3 : (i : Int) < (n.links.length : Int) := by omega
    have hnx := take_sn (l := O) (i := i) (by omega);rw [hfa i hi] at hnx;have hti : (O.take i).length = i := by rw [List.length_take]; omega
    have ce := fun m => ends_f n (n.links.getD i default) m no.1.1
    have hf := fromI_lt hv.1 hi;have ht := tillI_lt hv.1 hi;rw [hf.2, ht.2] at ce;unfold pumpAt at hnx;have hs2 : i < s.on.length := by omega
    have hf2 : fromI n i < lv.length := by omega
    have hlev : levB (lv.getD (fromI n i) default) = true := by
      have := lvA_in hlv.2 hf.1;exact lev_btw (netB_node hv.1 hf.1) this.1 this.2
    have hrx := (okL_in hv.1 hi).1;have hxo := no.2.2 _ (getD_mem hi);generalize O.take i = X at *
    (have:=NeI hi);(have:=NeI hi3);(have:=NeI hs2);(have:=NeI hf2);by_cases k4 : (n.links.getD i default).kind = 4
    · have cp := fun m => pumpsOn_f (n.links.getD i default) (s.on.getD i default) (lv.getD (fromI n i) default) m hxo (by unfold pumpB; rw [decide_eq_true k4, hrx]; rfl) hlev
      rw [decide_eq_true k4, Bool.true_and] at hnx;generalize onB (n.links.getD i default) (s.on.getD i default) (lv.getD (fromI n i) default) = b at *
      generalize fromI n i = fr at *
      generalize tillI n i = tl at *
      (have:=NeI k4);clear c2 c3 hfa hf ht hlv hlev;(repeat' first|refine stW [0,1,2,3,4,6,7,8,9,10,11,12,13,15,19,24,27,28,29,30,36,58] ?_|refine fctI fun hf=>?_|refine twI (fun hc=>?_) fun hc=>?_);rw [<- hnx];(refine lN [0, 8, 152] ?_);exact ⟨_, by omega, i + 1, by omega, rfl, rfl, rfl⟩
    · rw [decide_eq_false k4, Bool.false_and] at hnx;(have:=NeI k4);clear c2 c3 hfa hf ht hlv hlev;(repeat' first|refine stW [0,1,2,3,4,6,7,8,9,10,11,12,13,15,19,24,27,28,29,30,36,58] ?_|refine fctI fun hf=>?_|refine twI (fun hc=>?_) fun hc=>?_);rw [<- hnx];(refine lN [0, 8, 152] ?_);exact ⟨_, by omega, i + 1, by omega, rfl, rfl, rfl⟩
  obtain rfl : i = n.links.length := by omega
  have hi3 : ¬ ((n.links.length : Int) < (n.links.length : Int)) := by omega
  (have:=NeI hi3);rw [show O.take n.links.length = O by rw [<- hfl, List.take_length]];(repeat' first|refine stW [0,1,2,3,4,6,7,8,9,10,11,12,13,15,19,24,27,28,29,30,36,58] ?_|refine fctI fun hf=>?_|refine twI (fun hc=>?_) fun hc=>?_);exact DVR
theorem idxKnotC_f (g : FuncId) (t : TypeId) (cs : List PV) (p : Knot -> Bool) (l : List (Knot)) (hl : l.length <= 281474976710656) (hg : ∀ x, x ∈ l -> ∀ m, DCalls Tryz.prog g [knotD x, .ptr 0 0] (hget [(0, .blk t (cs.map .p))]) m (lb (p x)) (hget [(0, .blk t (cs.map .p))])) :
    DCalls Tryz.prog 165 [knotL l, .clo g [.ptr 0 0]] (hget [(0, .blk t (cs.map .p))]) 1 (li (idxI p l)) (hget [(0, .blk t (cs.map .p))]) := by
  refine contract (n := 19) (rs := [.tmp 4]) (ts := [3]) Tryz.func165 rfl (by decide) 1 1 [] [] [] (li (idxI p l)) [(0, .blk t (cs.map .p))] (by (exact SD)) (by (exact SD)) ?_;(repeat' first|refine stW [0,1,4,5,7,8,9,16] ?_|refine fctI fun hf=>?_|refine twI (fun hc=>?_) fun hc=>?_);refine loop_swp [0, 1, 7, 8] [0] 1 (fun q A H => ∃ i : Nat, i <= l.length /\ q = l.length - i /\ (l.take i).any p = false /\ A = [(0, knotL l), (1, .clo g [.ptr 0 0]), (7, li l.length), (8, li i)] /\ H = [(0, .blk t (cs.map .p))]) (by omega) ?_ ?_ ?_
  · rintro q A H ⟨i, h1, h2, h3, rfl, rfl⟩;exact SDD
  · refine ⟨_, 0, by omega, rfl, rfl, ?_, ?_⟩
    · exact DVR
    · exact DVR
  · rintro q A H ⟨i, h1, h2, h3, rfl, rfl⟩;(repeat' first|refine stW [0,1,4,5,7,8,9,16] ?_|(show CallQ ..;first|refine cQ (fun hcc=>(hg _ (getD_mem SC) _)) ?_|(refine lP ?_;refine lQ (fun hcc m=>(hg _ (getD_mem SC) _)) ?_))|refine fctI fun hf=>?_|refine twI (fun hc=>?_) fun hc=>?_)
    · (refine DVQ ?_);rw [idxI_hit h3 (by omega) (by assumption)]
    · (refine lN [0] ?_);exact ⟨_, by omega, i + 1, by omega, rfl, any_step h3 (by omega) (by assumption), rfl, rfl⟩
    · (refine DVQ ?_);rw [List.take_of_length_le (by omega)] at h3;rw [idxI_none h3]
def mostIx (t : List Knot) (y : Int) : Int := idxI (fun a => decide (y < a.y)) t
def mostT (t : List Knot) (y : Int) : Int :=
  if mostIx t y = -1 then (t.getD (t.length - 1) default).x
  else (t.getD ((mostIx t y).toNat - 1) default).x + (y - (t.getD ((mostIx t y).toNat - 1) default).y) * ((t.getD (mostIx t y).toNat default).x - (t.getD ((mostIx t y).toNat - 1) default).x) / ((t.getD (mostIx t y).toNat default).y - (t.getD ((mostIx t y).toNat - 1) default).y)
theorem most1_f (k : Knot) (y : Int) (m : Nat) : DCalls Tryz.prog 166 [knotD k, .ptr 0 0] (hget [(0, .blk 3 ((intC y).map .p))]) m (lb (decide (y < k.y))) (hget [(0, .blk 3 ((intC y).map .p))]) := by
  refine contract (n := 8) (rs := [.tmp 3]) (ts := [4]) Tryz.func166 rfl (by decide) 1 1 [] [] [] (lb (decide (y < k.y))) [(0, .blk 3 ((intC y).map .p))] (by (exact SD)) (by (exact SD)) ?_;(repeat' first|refine stW [0,1,2,3] ?_|refine fctI fun hf=>?_|refine twI (fun hc=>?_) fun hc=>?_);exact DVR
theorem idxI_spec {α : Type} [Inhabited α] (p : α -> Bool) (l : List α) : (idxI p l = -1 /\ ∀ j, j < l.length -> p (l.getD j default) = false) ∨ ∃ k : Nat, idxI p l = (k : Int) /\ k < l.length /\ p (l.getD k default) = true /\ ∀ j, j < k -> p (l.getD j default) = false := by
  have hd : ∀ j (hj : j < l.length), l.getD j default = l[j] := fun j hj => by rw [List.getD_eq_getElem?_getD, List.getElem?_eq_getElem hj]; rfl
  unfold idxI;cases hf : l.findIdx? p with
  | none =>
    refine .inl ⟨rfl, fun j hj => ?_⟩;rw [hd j hj];have := List.findIdx?_eq_none_iff.1 hf l[j] (List.getElem_mem hj);simpa using this
  | some q =>
    obtain ⟨hq, hp, hm⟩ := List.findIdx?_eq_some_iff_getElem.1 hf;refine .inr ⟨q, rfl, hq, by rw [hd q hq]; exact hp, fun j hj => ?_⟩;rw [hd j (by omega)];have := hm j hj;simpa using this
theorem most_at {t : List Knot} {y : Int} (h : tabB t = true) (h0 : (t.getD 0 default).y <= y) : mostIx t y = -1 ∨ ∃ k : Nat, mostIx t y = ((k + 1 : Nat) : Int) /\ k + 1 < t.length /\ (t.getD k default).y <= y /\ y < (t.getD (k + 1) default).y := by
  rcases idxI_spec (fun a : Knot => decide (y < a.y)) t with ⟨e, _⟩ | ⟨k, e, hk, hp, hm⟩
  · exact .inl e
  · have hk0 : k ≠ 0 := fun z => by subst z; have := of_decide_eq_true hp; omega
    obtain ⟨j, rfl⟩ : ∃ j, k = j + 1 := ⟨k - 1, by omega⟩;have h1 := of_decide_eq_true hp;have h2 := of_decide_eq_false (hm j (by omega));exact .inr ⟨j, e, hk, by omega, h1⟩
theorem mostT_in {t : List Knot} {y : Int} (h : tabB t = true) (h0 : (t.getD 0 default).y <= y) : (t.getD 0 default).x <= mostT t y /\ mostT t y <= (t.getD (t.length - 1) default).x := by
  have hl := (tab_in h).1;have hm := tab_mono2 h;unfold mostT;rcases most_at h h0 with e | ⟨k, e, hk, h1, h2⟩
  · rw [if_pos e];exact ⟨(hm (t.length - 1) 0 (Nat.zero_le _) (by omega)).1, Int.le_refl _⟩
  · rw [if_neg (by omega), e, Int.toNat_natCast, Nat.add_sub_cancel];have a1 := (hm (k + 1) k (by omega) hk).1;have a2 := (hm k 0 (Nat.zero_le _) (by omega)).1;have a3 := (hm (t.length - 1) (k + 1) (by omega) (by omega)).1;generalize t.getD k default = a at *
    generalize t.getD (k + 1) default = b at *
    have hD : 0 < b.y - a.y := by omega
    have c1 : 0 <= (y - a.y) * (b.x - a.x) / (b.y - a.y) := Int.ediv_nonneg (Int.mul_nonneg (by omega) (by omega)) (by omega);have c2 : (y - a.y) * (b.x - a.x) / (b.y - a.y) <= b.x - a.x := by
      have := Int.mul_le_mul_of_nonneg_right (show y - a.y <= b.y - a.y by omega) (show 0 <= b.x - a.x by omega)
      calc (y - a.y) * (b.x - a.x) / (b.y - a.y) <= (b.y - a.y) * (b.x - a.x) / (b.y - a.y) := Int.ediv_le_ediv hD this
        _ = b.x - a.x := Int.mul_ediv_cancel_left _ (by omega)
    omega
theorem tmost_f (t : List Knot) (y : Int) (m : Nat) (h : tabB t = true) (h0 : (t.getD 0 default).y <= y) (hy : 0 <= y /\ y <= 1125899906842624) : Pu 143 [knotL t, li y] m (.tup [li (mostT t y), li 0]) := by
  have hin := tab_in h;have ct := fun m => tab_f t m (by omega)
  rw [h] at ct;have ci := idxKnotC_f 166 3 (intC y) (fun a => decide (y < a.y)) t (by omega) (fun x _ m => most1_f x y m);change DCalls _ _ _ _ _ (li (mostIx t y)) _ at ci;unfold mostT;rcases most_at h h0 with e | ⟨k, e, hk, h1, h2⟩
  · rw [e] at ci ⊢;rw [if_pos rfl];have hl : t.length - 1 < t.length := by omega
    have hl2 : (t.length : Int) - 1 = ((t.length - 1 : Nat) : Int) := by omega
    (have:=NeI hl);refine pcN 63 [.tmp 4,.tmp 5] [3,45] Tryz.func143 rfl [] ?_;(repeat' first|refine stW [0,1,3,4,5,6,7,8,9,11,14,18,19,28] ?_|refine fctI fun hf=>?_|refine twI (fun hc=>?_) fun hc=>?_);(refine cQT [0] (fun hcc => ci) ?_);(repeat' first|refine stW [0,1,3,4,5,6,7,8,9,11,14,18,19,28] ?_|refine fctI fun hf=>?_|refine twI (fun hc=>?_) fun hc=>?_);exact DVR
  · rw [if_neg (by omega), e, Int.toNat_natCast, Nat.add_sub_cancel];rw [e] at ci;have b1 := hin.2.2.1 k (by omega);have b2 := hin.2.2.1 (k + 1) hk;have a1 := (hin.2.2.2 k hk);obtain ⟨N, hN⟩ : ∃ N : Nat, y - (t.getD k default).y = (N : Int) := ⟨(y - (t.getD k default).y).toNat, by omega⟩;obtain ⟨K, hK⟩ : ∃ K : Nat, (t.getD (k + 1) default).x - (t.getD k default).x = (K : Int) := ⟨((t.getD (k + 1) default).x - (t.getD k default).x).toNat, by omega⟩;obtain ⟨D, hD⟩ : ∃ D : Nat, (t.getD (k + 1) default).y - (t.getD k default).y = (D : Int) := ⟨((t.getD (k + 1) default).y - (t.getD k default).y).toNat, by omega⟩;have hQ : N * K / D <= K := by
      have := Nat.div_le_div_right (c := D) (Nat.mul_le_mul_right K (show N <= D by omega));rw [Nat.mul_div_cancel_left _ (show 0 < D by omega)] at this;exact this
    have cs := fun m => scale_f N K D (N * K / D) (N * K % D) m (by omega) (by omega) (by omega) (Nat.div_add_mod (N * K) D).symm (Nat.mod_lt _ (by omega)) (by omega)
    have eq : (y - (t.getD k default).y) * ((t.getD (k + 1) default).x - (t.getD k default).x) / ((t.getD (k + 1) default).y - (t.getD k default).y) = ((N * K / D : Nat) : Int) := by
      rw [hN, hK, hD, Int.natCast_ediv, Int.natCast_mul]
    rw [eq];rw [<- hN, <- hK, <- hD] at cs;generalize qtR (N * K / D) (N * K % D) true = Z at *
    generalize N * K / D = Q at *
    have hk2 : k < t.length := by omega
    (have:=NeI hk);(have:=NeI hk2);have hk3 : ¬ (((k + 1 : Nat) : Int) = -1) := by omega
    have hk4 : ¬ (((k + 1 : Nat) : Int) = 0) := by omega
    have hk5 : ((k + 1 : Nat) : Int) = (k : Int) + 1 := by omega
    rw [hk5] at hk3 hk4 ci;(have:=NeI hk3);(have:=NeI hk4);clear eq hD;refine pcN 63 [.tmp 4,.tmp 5] [3,45] Tryz.func143 rfl [] ?_;(repeat' first|refine stW [0,1,3,4,5,6,7,8,9,11,14,18,19,28] ?_|refine fctI fun hf=>?_|refine twI (fun hc=>?_) fun hc=>?_);(refine cQT [0] (fun hcc => ci) ?_);(repeat' first|(show SWp _ _ _ (.region _ _ true) _ _ _ _;refine xG mixed [192, 200] ?_)|refine stW [0,1,3,4,5,6,7,8,9,11,14,18,19,28] ?_|refine fctI fun hf=>?_|refine twI (fun hc=>?_) fun hc=>?_);exact DVR
def levelI (x : Node) (v : Int) : Int := if x.kind = 3 then x.inv else x.inv + mostT x.shape v
theorem nodeR_tab {x : Node} (h : nodeR x = true) (k : ¬ x.kind = 3) : tabB x.shape = true /\ (x.shape.getD 0 default).x = 0 /\ (x.shape.getD 0 default).y = 0 /\ (x.shape.getD (x.shape.length - 1) default).x = x.gnd - x.inv /\ (x.shape.getD (x.shape.length - 1) default).y <= 1125899906842624 := by
  unfold nodeR at h;simp only [Bool.and_eq_true] at h;have h2 := h.2;unfold kindB at h2;split at h2
  · simp only [Bool.and_eq_true] at h2;have h3 := h2.1.1.2;unfold shapeB at h3;simp only [Bool.and_eq_true, decide_eq_true_eq] at h3;exact ⟨h3.1.1.1.1, h3.1.1.1.2, h3.1.1.2, h3.1.2, h3.2⟩
  · cases h2
theorem levelI_in {x : Node} {v : Int} (h : nodeR x = true) (hv : 0 <= v) : x.inv <= levelI x v /\ levelI x v <= x.gnd := by
  unfold levelI;by_cases k : x.kind = 3
  · rw [if_pos k]; exact ⟨Int.le_refl _, (node_lev h).2.2⟩
  · rw [if_neg k];have ht := nodeR_tab h k;have := mostT_in ht.1 (y := v) (by omega);omega
theorem slevel_f (x : Node) (v : Int) (m : Nat) (h : nodeR x = true) (hv : 0 <= v /\ v <= 1125899906842624) : Pu 98 [nodeD x, li v] m (.tup [li (levelI x v), li 0]) := by
  have hl := levelI_in h hv.1;have a1 := lev_in (node_lev h).1;have a2 := lev_in (node_lev h).2.1;unfold levelI at hl ⊢;by_cases k : x.kind = 3
  · rw [if_pos k];(have:=NeI k);refine pcN 25 [.tmp 4,.tmp 5] [3,45] Tryz.func98 rfl [] ?_;(repeat' first|refine stW [0,1,2,4,5,6,7,10] ?_|refine fctI fun hf=>?_|refine twI (fun hc=>?_) fun hc=>?_);exact DVR
  · rw [if_neg k] at hl ⊢;(have:=NeI k);have ht := nodeR_tab h k;have ct := fun m => tmost_f x.shape v m ht.1 (by omega) hv
    generalize mostT x.shape v = q at *
    refine pcN 25 [.tmp 4,.tmp 5] [3,45] Tryz.func98 rfl [] ?_;(repeat' first|refine stW [0,1,2,4,5,6,7,10] ?_|refine fctI fun hf=>?_|refine twI (fun hc=>?_) fun hc=>?_);exact DVR
theorem levels1_f (x : Node) (v : Int) (m : Nat) (hv : 0 <= v /\ v <= 1125899906842624) : Pu 97 [nodeD x, li v] m (lb true) := by
  have c1 := fun m => sholds_f v m
  rw [show volB v = true by unfold volB; simp; exact hv] at c1;refine pcN 7 [.tmp 4] [4] Tryz.func97 rfl [] ?_;(repeat' first|refine stW [0,1,4] ?_|refine fctI fun hf=>?_|refine twI (fun hc=>?_) fun hc=>?_);exact DVR
def levelsL (n : Net) (vol : List Int) : List Int := (List.range n.nodes.length).map fun i => levelI (n.nodes.getD i default) (vol.getD i default)
set_option maxRecDepth 20000 in
theorem each_f (n : Net) (vol : List Int) (m : Nat) (no : netOk n) (nb : netB n = true) (hl : vol.length = n.nodes.length) (hv : ∀ i, i < n.nodes.length -> 0 <= vol.getD i default /\ vol.getD i default <= 1125899906842624) :
    Pu 96 [netD n, ints vol, .clo 97 [], .clo 98 []] m (.tup [ints (levelsL n vol), li 0]) := by
  have c1 := fun m => netValid_f n m no
  rw [nb] at c1;have hnn := (netB_len nb).1;have he : (vol.length : Int) = (n.nodes.length : Int) := by omega
  (have:=NeI he);have hfl : (levelsL n vol).length = n.nodes.length := rng_len _ _;have hfa : ∀ i, i < n.nodes.length -> (levelsL n vol).getD i default = levelI (n.nodes.getD i default) (vol.getD i default) := fun i hi => rng_at hi
  generalize levelsL n vol = O at *
  refine pcN 72 [.tmp 8,.tmp 9] [28,45] Tryz.func96 rfl [49] ?_;(repeat' first|refine stW [0,1,2,3,4,8,9,10,11,12,13,14,15,16,17,21,29,30,31,32,43,46,47,48,49,64] ?_|refine fctI fun hf=>?_|refine twI (fun hc=>?_) fun hc=>?_);refine loop_swp [1, 2, 3, 4, 29, 30, 31] [0] 1 (fun z A H => ∃ i : Nat, i <= n.nodes.length /\ z = n.nodes.length - i /\ A = [(1, ints vol), (2, .clo 97 []), (3, .clo 98 []), (4, .ptr 0 0), (29, nodeL n.nodes), (30, li n.nodes.length), (31, li i)] /\ H = [(0, .blk 25 (netC n))]) (by omega) ?_ ?_ ?_
  · rintro z A H ⟨i, h1, h2, rfl, rfl⟩;exact SDD
  · refine ⟨_, 0, by omega, rfl, ?_, ?_⟩
    · exact DVR
    · exact DVR
  rintro z A H ⟨i, h1, h2, rfl, rfl⟩;by_cases hi : i < n.nodes.length
  · have hi3 : (i : Int) < (n.nodes.length : Int) := by omega
    have hi4 : i < vol.length := by omega
    have cl := fun m => levels1_f (n.nodes.getD i default) (vol.getD i default) m (hv i hi)
    (have:=NeI hi);(have:=NeI hi3);(have:=NeI hi4);(repeat' first|refine stW [0,1,2,3,4,8,9,10,11,12,13,14,15,16,17,21,29,30,31,32,43,46,47,48,49,64] ?_|(show CallQ ..;first|refine cQ (fun hcc=>(by first | exact cl _)) ?_|(refine lP ?_;refine lQ (fun hcc m=>(by first | exact cl _)) ?_))|(show XCallQ ..;first|refine xQ (fun hcc=>(by first | exact cl _)) ?_|(refine xlP ?_;refine xlQ (fun hcc m=>(by first | exact cl _)) ?_))|refine fctI fun hf=>?_|refine twI (fun hc=>?_) fun hc=>?_);(refine lN [0] ?_);exact ⟨_, by omega, i + 1, by omega, rfl, rfl, rfl⟩
  obtain rfl : i = n.nodes.length := by omega
  have hi3 : ¬ ((n.nodes.length : Int) < (n.nodes.length : Int)) := by omega
  (have:=NeI hi3);(repeat' first|refine stW [0,1,2,3,4,8,9,10,11,12,13,14,15,16,17,21,29,30,31,32,43,46,47,48,49,64] ?_|refine fctI fun hf=>?_|refine twI (fun hc=>?_) fun hc=>?_);(refine sN 12 3 1 ?_);refine loop_swp [1, 3, 4, 12, 46, 47, 48] [0, 49] 50 (fun z A H => ∃ i : Nat, i <= n.nodes.length /\ z = n.nodes.length - i /\ A = [(1, ints vol), (3, .clo 98 []), (4, .ptr 0 0), (12, .gl 49), (46, nodeL n.nodes), (47, li n.nodes.length), (48, li i)] /\ H = [(0, .blk 25 (netC n)), (49, inLt (O.take i))]) (by omega) ?_ ?_ ?_
  · rintro z A H ⟨i, h1, h2, rfl, rfl⟩;exact SDD
  · refine ⟨_, 0, by omega, rfl, ?_, ?_⟩
    · exact DVR
    · exact DVR
  rintro z A H ⟨i, h1, h2, rfl, rfl⟩;by_cases hi : i < n.nodes.length
  · have hi4 : i < vol.length := by omega
    have hi5 : (i : Int) < (n.nodes.length : Int) := by omega
    have hnx := take_sn (l := O) (i := i) (by omega);rw [hfa i hi] at hnx;have hti : (O.take i).length = i := by rw [List.length_take]; omega
    have cl := fun m => slevel_f (n.nodes.getD i default) (vol.getD i default) m (netB_node nb hi) (hv i hi)
    generalize levelI (n.nodes.getD i default) (vol.getD i default) = q at *
    generalize O.take i = X at *
    (have:=NeI hi);(have:=NeI hi4);(have:=NeI hi5);clear hfa hv;(repeat' first|refine stW [0,1,2,3,4,8,9,10,11,12,13,14,15,16,17,21,29,30,31,32,43,46,47,48,49,64] ?_|(show CallQ ..;first|refine cQ (fun hcc=>(by first | exact cl _)) ?_|(refine lP ?_;refine lQ (fun hcc m=>(by first | exact cl _)) ?_))|(show XCallQ ..;first|refine xQ (fun hcc=>(by first | exact cl _)) ?_|(refine xlP ?_;refine xlQ (fun hcc m=>(by first | exact cl _)) ?_))|refine fctI fun hf=>?_|refine twI (fun hc=>?_) fun hc=>?_);rw [<- hnx];(refine lN [0, 49] ?_);exact ⟨_, by omega, i + 1, by omega, rfl, rfl, rfl⟩
  obtain rfl : i = n.nodes.length := by omega
  rw [show O.take n.nodes.length = O by rw [<- hfl, List.take_length]];(repeat' first|refine stW [0,1,2,3,4,8,9,10,11,12,13,14,15,16,17,21,29,30,31,32,43,46,47,48,49,64] ?_|refine fctI fun hf=>?_|refine twI (fun hc=>?_) fun hc=>?_);exact DVR
theorem Levels_f (n : Net) (vol : List Int) (m : Nat) (no : netOk n) (nb : netB n = true) (hl : vol.length = n.nodes.length) (hv : ∀ i, i < n.nodes.length -> 0 <= vol.getD i default /\ vol.getD i default <= 1125899906842624) :
    Pu 53 [netD n, ints vol] m (.tup [ints (levelsL n vol), li 0]) := by
  have ce := fun m => each_f n vol m no nb hl hv
  generalize levelsL n vol = O at *
  refine pcN 11 [.tmp 4,.tmp 5] [28,45] Tryz.func53 rfl [] ?_;(repeat' first|refine stW [0,1,2,4,5] ?_|refine fctI fun hf=>?_|refine twI (fun hc=>?_) fun hc=>?_);exact DVR

end Go.Proofs.YtgpllheklfbfhaaGreat
