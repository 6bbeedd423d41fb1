/-
  Contracts of functions of the program, over the engine.
  No condition.
-/
import Derived.Test.YthacnhidipeckaaGreatCL6L7L8
import Derived.Test.YthacnhidipeckaaGreatCT5T6T6bT7T7bT7c
namespace Go.Proofs.YthacnhidipeckaaGreat
open Go.Eng
set_option linter.all false
attribute [local irreducible] DCallsG SWp Fct CallQ XCallQ LCallQ XLCallQ drun xrun
theorem conSectC_f (g : FuncId) (t : TypeId) (cs : List PV) (p : Sect -> Bool) (l : List Sect) (hl : l.length <= 281474976710656) (hg : ∀ x, x ∈ l -> ∀ m, DCalls Tryz.prog g [sectD x, .ptr 0 0] (hget [(0, .blk t (cs.map .p))]) m (lb (p x)) (hget [(0, .blk t (cs.map .p))])) :
    DCalls Tryz.prog 51 [sectL l, .clo g [.ptr 0 0]] (hget [(0, .blk t (cs.map .p))]) 1 (lb (l.any p)) (hget [(0, .blk t (cs.map .p))]) := by
  have ci := idxSectC_f g t cs p l hl hg;refine contract (n := 9) (rs := [.tmp 4]) (ts := [4]) Tryz.func51 rfl (by decide) 1 1 [] [] [] (lb (l.any p)) [(0, .blk t (cs.map .p))] (by (exact SD)) (by (exact SD)) ?_;(repeat' (first|refine swp_seq [0,1,4] ?_|refine st2 ?_|refine fctI fun hf=>?_|(show CondG ..;first|refine cBG (fun hc=>?_) (fun hc=>?_)|refine cUG ?_ ?_)));(refine cQT [0] (fun hcc => ci) ?_);(repeat' (first|refine swp_seq [0,1,4] ?_|refine st2 ?_|refine fctI fun hf=>?_|(show CondG ..;first|refine cBG (fun hc=>?_) (fun hc=>?_)|refine cUG ?_ ?_)));(refine DVQ ?_);rw [idxI_any]
theorem secIx_any (l : List Sect) (s : ByteArray) : (l.any fun y => decide (y.name = s)) = decide (0 <= secIx l s) := (idxI_any _ _).symm
def knownB (l : List Sect) (x : Link) : Bool := !decide (x.kind = 1) || decide (0 <= secIx l x.sect)
theorem known_f (l : List Sect) (x : Link) (m : Nat) (hl : l.length <= 281474976710656) : DCalls Tryz.prog 164 [sectL l, linkD x] (hget []) m (lb (knownB l x)) (hget []) := by
  unfold knownB;rw [<- secIx_any];refine pureC (n := 13) (rs := [.tmp 4]) (ts := [4]) Tryz.func164 rfl (by decide) [] (by (exact SD)) ?_;by_cases k : x.kind = 1
  · (have:=NeI k);(repeat' (first|refine swp_seq [0,1,3,4] ?_|refine st2 ?_|refine fctI fun hf=>?_|(show CondG ..;first|refine cBG (fun hc=>?_) (fun hc=>?_)|refine cUG ?_ ?_)));(refine cQT [0] (fun hcc => (conSectC_f 200 49 (linkP x) (fun y => decide (y.name = x.sect)) l hl (fun y _ m => known1_f y x m))) ?_);(repeat' (first|refine swp_seq [0,1,3,4] ?_|refine st2 ?_|refine fctI fun hf=>?_|(show CondG ..;first|refine cBG (fun hc=>?_) (fun hc=>?_)|refine cUG ?_ ?_)));exact DVR
  · (have:=NeI k);(repeat' (first|refine swp_seq [0,1,3,4] ?_|refine st2 ?_|refine fctI fun hf=>?_|(show CondG ..;first|refine cBG (fun hc=>?_) (fun hc=>?_)|refine cUG ?_ ?_)));exact DVR
theorem named_f (l : List Sect) (x : Link) (m : Nat) (hl : l.length <= 281474976710656) : DCalls Tryz.prog 211 [linkD x, sectL l] (hget []) m (lb (knownB l x)) (hget []) := by
  unfold knownB;refine pureC (n := 15) (rs := [.tmp 4]) (ts := [4]) Tryz.func211 rfl (by decide) [] (by (exact SD)) ?_;by_cases k : x.kind = 1
  · (have:=NeI k);(repeat' (first|refine swp_seq [0,1,2,4] ?_|refine st2 ?_|(show CallQ ..;first|refine cQ (fun hcc=>(by first | exact rFind_f _ _ _ hl)) ?_|(refine lP ?_;refine lQ (fun hcc m=>(by first | exact rFind_f _ _ _ hl)) ?_))|refine fctI fun hf=>?_|(show CondG ..;first|refine cBG (fun hc=>?_) (fun hc=>?_)|refine cUG ?_ ?_)));exact DVR
  · (have:=NeI k);(repeat' (first|refine swp_seq [0,1,2,4] ?_|refine st2 ?_|refine fctI fun hf=>?_|(show CondG ..;first|refine cBG (fun hc=>?_) (fun hc=>?_)|refine cUG ?_ ?_)));exact DVR
def flowI (n : Net) (l : List Sect) (x : Link) (up down : Int) (s : Nat) (on : Bool) : Int :=
  if x.kind = 1 then limI (pipeN x (l.getD (secIx l x.sect).toNat default) up down)
  else if x.kind = 2 then optL (overO x up down)
  else if x.kind = 3 then optL (gateO x s up down)
  else if on then pumpQ x s (min (up - (n.nodes.getD (nodeIx n.nodes x.fro).toNat default).inv) 4194304).toNat
  else 0
structure BtwIn (n : Net) (l : List Sect) (x : Link) (up down : Int) (s : Nat) : Prop where
  no : netOk n
  xo : linkOk x
  co : catOk l
  cb : catB l = true
  xr : linkR x = true
  kn : knownB l x = true
  fr : 0 <= nodeIx n.nodes x.fro
  iv : levB (n.nodes.getD (nodeIx n.nodes x.fro).toNat default).inv = true /\ (n.nodes.getD (nodeIx n.nodes x.fro).toNat default).inv <= up
  u : levB up = true
  d : levB down = true
  se : s <= 1000
theorem kind_in {x : Link} (h : linkR x = true) : x.kind = 1 ∨ x.kind = 2 ∨ x.kind = 3 ∨ x.kind = 4 := by
  have h7 := (linkR_in h).2.2.2.2.2.2;unfold kindL at h7;by_cases k1 : x.kind = 1
  · exact .inl k1
  by_cases k2 : x.kind = 2
  · exact .inr (.inl k2)
  by_cases k3 : x.kind = 3
  · exact .inr (.inr (.inl k3))
  by_cases k4 : x.kind = 4
  · exact .inr (.inr (.inr k4))
  simp [k1, k2, k3, k4] at h7
theorem kind1_in {x : Link} (h : linkR x = true) (k : x.kind = 1) : 1 <= x.length /\ x.length <= 16777216 := by
  have h7 := (linkR_in h).2.2.2.2.2.2;unfold kindL btwB at h7;simp [k] at h7;omega
theorem kind2_in {x : Link} (h : linkR x = true) (k : x.kind = 2) : weirB x = true := by
  have hin := linkR_in h;have h7 := hin.2.2.2.2.2.2;unfold kindL at h7;simp [k] at h7;unfold weirB;simp [k, hin.2.2.2.2.1, h7]
theorem kind3_in {x : Link} (h : linkR x = true) (k : x.kind = 3) : gateB x = true := by
  have hin := linkR_in h;have h7 := hin.2.2.2.2.2.2;unfold kindL at h7;simp [k] at h7;unfold gateB;simp [k, hin.2.2.2.2.1, h7]
theorem okS_in {l : List Sect} (h : catB l = true) {i : Nat} (hi : i < l.length) : secB (l.getD i default) = true := by
  unfold catB at h;simp only [Bool.and_eq_true, List.all_eq_true, List.mem_range] at h;have := h.2 i hi;unfold okS at this;simp only [Bool.and_eq_true] at this;exact this.1
theorem sect_at {l : List Sect} {x : Link} (h : knownB l x = true) (k : x.kind = 1) : ∃ i : Nat, secIx l x.sect = (i : Int) /\ i < l.length := by
  unfold knownB at h;simp [k] at h;have := idxI_lt (fun y : Sect => decide (y.name = x.sect)) l;change -1 <= secIx l x.sect /\ secIx l x.sect < l.length at this;exact ⟨(secIx l x.sect).toNat, by omega, by omega⟩
theorem node_at {n : Net} {s : ByteArray} (h : 0 <= nodeIx n.nodes s) : ∃ i : Nat, nodeIx n.nodes s = (i : Int) /\ i < n.nodes.length := by
  have := idxI_lt (fun y : Node => decide (y.name = s)) n.nodes;change -1 <= nodeIx n.nodes s /\ nodeIx n.nodes s < n.nodes.length at this;exact ⟨(nodeIx n.nodes s).toNat, by omega, by omega⟩
set_option maxRecDepth 20000 in
set_option maxHeartbeats 4000000 in
theorem between_f' (n : Net) (l : List Sect) (x : Link) (up down : Int) (s : Nat) (on : Bool) (m : Nat) (h : BtwIn n l x up down s) : DCalls Tryz.prog 201 [netD n, sectL l, linkD x, li up, li down, li s, lb on] (hget []) m (.tup [li (flowI n l x up down s on), li 0]) (hget []) := by
  have hr := linkR_in h.xr;have hl := h.co.1;unfold flowI;by_cases k1 : x.kind = 1
  · rw [if_pos k1];(have:=NeI k1);obtain ⟨i, ei, hi⟩ := sect_at h.kn k1;have c1 := fun m => pipe_f x (l.getD i default) up down m ⟨h.co.2 _ (getD_mem hi), okS_in h.cb hi, hr.2.2.2.2.1, hr.2.2.2.2.2.1, kind1_in h.xr k1, h.u, h.d⟩
    have ci := idxSectC_f 226 49 (linkP x) (fun y => decide (y.name = x.sect)) l hl (fun y _ m => between1_f y x m);change DCalls _ _ _ _ _ (li (secIx l x.sect)) _ at ci;rw [ei] at ci ⊢;rw [Int.toNat_natCast];generalize limI (pipeN x (l.getD i default) up down) = q at *
    (have:=NeI hi);clear h hr;refine pureC (n := 81) (rs := [.tmp 14, .tmp 15]) (ts := [3, 37]) Tryz.func201 rfl (by decide) [] (by (exact SD)) ?_;(repeat' (first|refine swp_seq [0,1,2,3,4,5,6,7,9,14,15,16,17,20,21,36,47,60] ?_|refine st2 ?_|refine fctI fun hf=>?_|(show CondG ..;first|refine cBG (fun hc=>?_) (fun hc=>?_)|refine cUG ?_ ?_)));(refine cQT [8] (fun hcc => ci) ?_);(repeat' (first|refine swp_seq [0,1,2,3,4,5,6,7,9,14,15,16,17,20,21,36,47,60] ?_|refine st2 ?_|(show CallQ ..;first|refine cQ (fun hcc=>(by first | exact c1 _)) ?_|(refine lP ?_;refine lQ (fun hcc m=>(by first | exact c1 _)) ?_))|(show XCallQ ..;first|refine xQ (fun hcc=>(by first | exact c1 _)) ?_|(refine xlP ?_;refine xlQ (fun hcc m=>(by first | exact c1 _)) ?_))|refine fctI fun hf=>?_|(show CondG ..;first|refine cBG (fun hc=>?_) (fun hc=>?_)|refine cUG ?_ ?_)));exact DVR
  by_cases k2 : x.kind = 2
  · rw [if_neg k1, if_pos k2];(have:=NeI k1);(have:=NeI k2);have c1 := fun m => over_f x up down m (kind2_in h.xr k2) h.u h.d
    have c2 := fun m => limitedO_f (overO x up down) m
    generalize overO x up down = o at *
    generalize optI o = o1 at *
    generalize optE o = o2 at *
    generalize optL o = o3 at *
    clear h hr;refine pureC (n := 81) (rs := [.tmp 14, .tmp 15]) (ts := [3, 37]) Tryz.func201 rfl (by decide) [] (by (exact SD)) ?_;(repeat' (first|refine swp_seq [0,1,2,3,4,5,6,7,9,14,15,16,17,20,21,36,47,60] ?_|refine st2 ?_|(show CallQ ..;first|refine cQ (fun hcc=>(by first | exact c1 _ | exact c2 _)) ?_|(refine lP ?_;refine lQ (fun hcc m=>(by first | exact c1 _ | exact c2 _)) ?_))|(show XCallQ ..;first|refine xQ (fun hcc=>(by first | exact c1 _ | exact c2 _)) ?_|(refine xlP ?_;refine xlQ (fun hcc m=>(by first | exact c1 _ | exact c2 _)) ?_))|refine fctI fun hf=>?_|(show CondG ..;first|refine cBG (fun hc=>?_) (fun hc=>?_)|refine cUG ?_ ?_)));exact DVR
  by_cases k3 : x.kind = 3
  · rw [if_neg k1, if_neg k2, if_pos k3];(have:=NeI k1);(have:=NeI k2);(have:=NeI k3);have c1 := fun m => gate_f x s up down m (kind3_in h.xr k3) h.se h.u h.d
    have c2 := fun m => limitedO_f (gateO x s up down) m
    generalize gateO x s up down = o at *
    generalize optI o = o1 at *
    generalize optE o = o2 at *
    generalize optL o = o3 at *
    clear h hr;refine pureC (n := 81) (rs := [.tmp 14, .tmp 15]) (ts := [3, 37]) Tryz.func201 rfl (by decide) [] (by (exact SD)) ?_;(repeat' (first|refine swp_seq [0,1,2,3,4,5,6,7,9,14,15,16,17,20,21,36,47,60] ?_|refine st2 ?_|(show CallQ ..;first|refine cQ (fun hcc=>(by first | exact c1 _ | exact c2 _)) ?_|(refine lP ?_;refine lQ (fun hcc m=>(by first | exact c1 _ | exact c2 _)) ?_))|(show XCallQ ..;first|refine xQ (fun hcc=>(by first | exact c1 _ | exact c2 _)) ?_|(refine xlP ?_;refine xlQ (fun hcc m=>(by first | exact c1 _ | exact c2 _)) ?_))|refine fctI fun hf=>?_|(show CondG ..;first|refine cBG (fun hc=>?_) (fun hc=>?_)|refine cUG ?_ ?_)));exact DVR
  rw [if_neg k1, if_neg k2, if_neg k3];have k4 : x.kind = 4 := by have := kind_in h.xr; omega
  (have:=NeI k1);(have:=NeI k2);(have:=NeI k3);cases on
  · clear h hr;refine pureC (n := 81) (rs := [.tmp 14, .tmp 15]) (ts := [3, 37]) Tryz.func201 rfl (by decide) [] (by (exact SD)) ?_;(repeat' (first|refine swp_seq [0,1,2,3,4,5,6,7,9,14,15,16,17,20,21,36,47,60] ?_|refine st2 ?_|refine fctI fun hf=>?_|(show CondG ..;first|refine cBG (fun hc=>?_) (fun hc=>?_)|refine cUG ?_ ?_)));exact DVR
  · obtain ⟨i, ei, hi⟩ := node_at h.fr;have c0 := fun m => ends_f n x m h.no.1.1
    have hiv := h.iv;have hu := lev_in h.u;have hv := lev_in hiv.1;rw [ei] at c0 hiv hv ⊢;rw [Int.toNat_natCast] at hiv hv ⊢;have c1 := fun m => pumpFlow_f x s (min (up - (n.nodes.getD i default).inv) 4194304).toNat m h.xo (by unfold pumpB; simp [k4, h.xr]) h.se (by omega)
    rw [show ((min (up - (n.nodes.getD i default).inv) 4194304).toNat : Int) = min (up - (n.nodes.getD i default).inv) 4194304 by omega] at c1;generalize pumpQ x s (min (up - (n.nodes.getD i default).inv) 4194304).toNat = q at *
    generalize nodeIx n.nodes x.til = z at *
    (have:=NeI hi);clear h hr;refine pureC (n := 81) (rs := [.tmp 14, .tmp 15]) (ts := [3, 37]) Tryz.func201 rfl (by decide) [] (by (exact SD)) ?_;(repeat' (first|refine swp_seq [0,1,2,3,4,5,6,7,9,14,15,16,17,20,21,36,47,60] ?_|refine st2 ?_|(show CallQ ..;first|refine cQ (fun hcc=>(by first | exact c0 _ | exact c1 _)) ?_|(refine lP ?_;refine lQ (fun hcc m=>(by first | exact c0 _ | exact c1 _)) ?_))|(show XCallQ ..;first|refine xQ (fun hcc=>(by first | exact c0 _ | exact c1 _)) ?_|(refine xlP ?_;refine xlQ (fun hcc m=>(by first | exact c0 _ | exact c1 _)) ?_))|refine fctI fun hf=>?_|(show CondG ..;first|refine cBG (fun hc=>?_) (fun hc=>?_)|refine cUG ?_ ?_)));exact DVR
set_option maxRecDepth 20000 in
set_option maxHeartbeats 4000000 in
theorem rBetween_f (n : Net) (l : List Sect) (k : Nat) (up down : Int) (s : Nat) (on : Bool) (m : Nat) (hk : k < n.links.length) (h : BtwIn n l (n.links.getD k default) up down s) : DCalls Tryz.prog 234 [netD n, sectL l, li k, li up, li down, li s, lb on] (hget []) m (li (flowI n l (n.links.getD k default) up down s on)) (hget []) := by
  have hr := linkR_in h.xr;have hl := h.co.1;have hll := h.no.2.1;(have:=NeI hk);obtain ⟨x, hx⟩ : ∃ x, n.links.getD k default = x := ⟨_, rfl⟩;rw [hx] at h hr ⊢;unfold flowI;have kx : ∀ {a b : Int}, (a = b) = ((fun y : Link => a = b) x) := rfl;by_cases k1 : x.kind = 1
  · rw [if_pos k1];have k1' : (n.links.getD k default).kind = 1 := by rw [hx]; exact k1
    (have:=NeI k1');obtain ⟨i, ei, hi⟩ := sect_at h.kn k1;have c1 := fun m => rPipe_f x (l.getD i default) up down m ⟨h.co.2 _ (getD_mem hi), okS_in h.cb hi, hr.2.2.2.2.1, hr.2.2.2.2.2.1, kind1_in h.xr k1, h.u, h.d⟩
    have ci := fun m => rFind_f l x.sect m hl
    rw [ei] at ci ⊢;rw [Int.toNat_natCast];generalize limI (pipeN x (l.getD i default) up down) = q at *
    (have:=NeI hi);clear h hr;subst hx;refine pureC (n := 84) (rs := [.tmp 14]) (ts := [3]) Tryz.func234 rfl (by decide) [] (by (exact SD)) ?_;(repeat' (first|refine swp_seq [0,1,2,3,4,5,6,7,14,15,16,17,18,19,20,27,28,41,53,67] ?_|refine st2 ?_|(show CallQ ..;first|refine cQ (fun hcc=>(by first | exact c1 _ | exact ci _)) ?_|(refine lP ?_;refine lQ (fun hcc m=>(by first | exact c1 _ | exact ci _)) ?_))|(show XCallQ ..;first|refine xQ (fun hcc=>(by first | exact c1 _ | exact ci _)) ?_|(refine xlP ?_;refine xlQ (fun hcc m=>(by first | exact c1 _ | exact ci _)) ?_))|refine fctI fun hf=>?_|(show CondG ..;first|refine cBG (fun hc=>?_) (fun hc=>?_)|refine cUG ?_ ?_)));exact DVR
  by_cases k2 : x.kind = 2
  · rw [if_neg k1, if_pos k2];have c1 := fun m => rOver_f x up down m (kind2_in h.xr k2) h.u h.d
    have c2 := fun m => rflowO_f (overO x up down) m
    generalize overO x up down = o at *
    generalize optI o = o1 at *
    generalize optE o = o2 at *
    generalize optL o = o3 at *
    clear h hr;subst hx;(have:=NeI k1);(have:=NeI k2);refine pureC (n := 84) (rs := [.tmp 14]) (ts := [3]) Tryz.func234 rfl (by decide) [] (by (exact SD)) ?_;(repeat' (first|refine swp_seq [0,1,2,3,4,5,6,7,14,15,16,17,18,19,20,27,28,41,53,67] ?_|refine st2 ?_|(show CallQ ..;first|refine cQ (fun hcc=>(by first | exact c1 _ | exact c2 _)) ?_|(refine lP ?_;refine lQ (fun hcc m=>(by first | exact c1 _ | exact c2 _)) ?_))|(show XCallQ ..;first|refine xQ (fun hcc=>(by first | exact c1 _ | exact c2 _)) ?_|(refine xlP ?_;refine xlQ (fun hcc m=>(by first | exact c1 _ | exact c2 _)) ?_))|refine fctI fun hf=>?_|(show CondG ..;first|refine cBG (fun hc=>?_) (fun hc=>?_)|refine cUG ?_ ?_)));exact DVR
  by_cases k3 : x.kind = 3
  · rw [if_neg k1, if_neg k2, if_pos k3];have c1 := fun m => rGate_f x s up down m (kind3_in h.xr k3) h.se h.u h.d
    have c2 := fun m => rflowO_f (gateO x s up down) m
    generalize gateO x s up down = o at *
    generalize optI o = o1 at *
    generalize optE o = o2 at *
    generalize optL o = o3 at *
    clear h hr;subst hx;(have:=NeI k1);(have:=NeI k2);(have:=NeI k3);refine pureC (n := 84) (rs := [.tmp 14]) (ts := [3]) Tryz.func234 rfl (by decide) [] (by (exact SD)) ?_;(repeat' (first|refine swp_seq [0,1,2,3,4,5,6,7,14,15,16,17,18,19,20,27,28,41,53,67] ?_|refine st2 ?_|(show CallQ ..;first|refine cQ (fun hcc=>(by first | exact c1 _ | exact c2 _)) ?_|(refine lP ?_;refine lQ (fun hcc m=>(by first | exact c1 _ | exact c2 _)) ?_))|(show XCallQ ..;first|refine xQ (fun hcc=>(by first | exact c1 _ | exact c2 _)) ?_|(refine xlP ?_;refine xlQ (fun hcc m=>(by first | exact c1 _ | exact c2 _)) ?_))|refine fctI fun hf=>?_|(show CondG ..;first|refine cBG (fun hc=>?_) (fun hc=>?_)|refine cUG ?_ ?_)));exact DVR
  rw [if_neg k1, if_neg k2, if_neg k3];have k4 : x.kind = 4 := by have := kind_in h.xr; omega
  cases on
  · clear h hr k4;subst hx;(have:=NeI k1);(have:=NeI k2);(have:=NeI k3);refine pureC (n := 84) (rs := [.tmp 14]) (ts := [3]) Tryz.func234 rfl (by decide) [] (by (exact SD)) ?_;(repeat' (first|refine swp_seq [0,1,2,3,4,5,6,7,14,15,16,17,18,19,20,27,28,41,53,67] ?_|refine st2 ?_|refine fctI fun hf=>?_|(show CondG ..;first|refine cBG (fun hc=>?_) (fun hc=>?_)|refine cUG ?_ ?_)));exact DVR
  · obtain ⟨i, ei, hi⟩ := node_at h.fr;have c0 := fun m => rFindNode_f n x.fro m h.no.1.1
    have hiv := h.iv;have hu := lev_in h.u;have hv := lev_in hiv.1;rw [ei] at c0 hiv hv ⊢;rw [Int.toNat_natCast] at hiv hv ⊢;have c1 := fun m => rPflow_f x s (min (up - (n.nodes.getD i default).inv) 4194304).toNat m (by unfold pumpB; simp [k4, h.xr]) h.se (by omega)
    rw [show ((min (up - (n.nodes.getD i default).inv) 4194304).toNat : Int) = min 4194304 (up - (n.nodes.getD i default).inv) by omega] at c1;generalize pumpQ x s (min (up - (n.nodes.getD i default).inv) 4194304).toNat = q at *
    (have:=NeI hi);clear h hr k4;subst hx;(have:=NeI k1);(have:=NeI k2);(have:=NeI k3);refine pureC (n := 84) (rs := [.tmp 14]) (ts := [3]) Tryz.func234 rfl (by decide) [] (by (exact SD)) ?_;(repeat' (first|refine swp_seq [0,1,2,3,4,5,6,7,14,15,16,17,18,19,20,27,28,41,53,67] ?_|(show SWp _ _ _ (.region _ _ true) _ _ _ _;refine xG mixed [216, 1000005] ?_)|refine st2 ?_|(show CallQ ..;first|refine cQ (fun hcc=>(by first | exact c0 _ | exact c1 _ | exact least_f _ _ _)) ?_|(refine lP ?_;refine lQ (fun hcc m=>(by first | exact c0 _ | exact c1 _ | exact least_f _ _ _)) ?_))|(show XCallQ ..;first|refine xQ (fun hcc=>(by first | exact c0 _ | exact c1 _ | exact least_f _ _ _)) ?_|(refine xlP ?_;refine xlQ (fun hcc m=>(by first | exact c0 _ | exact c1 _ | exact least_f _ _ _)) ?_))|refine fctI fun hf=>?_|(show CondG ..;first|refine cBG (fun hc=>?_) (fun hc=>?_)|refine cUG ?_ ?_)));exact DVR
def lvB (n : Net) (lv : List Int) (i : Nat) : Bool := btwB (lv.getD i default) (n.nodes.getD i default).inv (n.nodes.getD i default).gnd
def lvA (n : Net) (lv : List Int) : Bool := (List.range n.nodes.length).all (lvB n lv)
def lvE (n : Net) (lv : List Int) : Int := if lv.length = n.nodes.length then (if lvA n lv then 0 else 2) else 3
theorem lwithin_f (x : Node) (v : Int) (m : Nat) : DCalls Tryz.prog 194 [nodeD x, li v] (hget []) m (lb (btwB v x.inv x.gnd)) (hget []) := by
  refine pureC (n := 15) (rs := [.tmp 4]) (ts := [4]) Tryz.func194 rfl (by decide) [] (by (exact SD)) ?_;(repeat' (first|refine swp_seq [0,1,2,4] ?_|refine st2 ?_|refine fctI fun hf=>?_|(show CondG ..;first|refine cBG (fun hc=>?_) (fun hc=>?_)|refine cUG ?_ ?_)));exact DVR
theorem isLevel_f (x : Node) (v : Int) (m : Nat) : DCalls Tryz.prog 233 [nodeD x, li v] (hget []) m (lb (btwB v x.inv x.gnd)) (hget []) := by
  refine pureC (n := 15) (rs := [.tmp 4]) (ts := [4]) Tryz.func233 rfl (by decide) [] (by (exact SD)) ?_;(repeat' (first|refine swp_seq [0,1,2,4] ?_|refine st2 ?_|refine fctI fun hf=>?_|(show CondG ..;first|refine cBG (fun hc=>?_) (fun hc=>?_)|refine cUG ?_ ?_)));exact DVR
theorem lvA_no {n : Net} {lv : List Int} {i : Nat} (hi : i < n.nodes.length) (h : lvB n lv i = false) : lvA n lv = false := rall_false hi h
theorem lvA_yes {n : Net} {lv : List Int} (h : ∀ i, i < n.nodes.length -> lvB n lv i = true) : lvA n lv = true := rall_true h
theorem lvA_in {n : Net} {lv : List Int} (h : lvA n lv = true) {i : Nat} (hi : i < n.nodes.length) : (n.nodes.getD i default).inv <= lv.getD i default /\ lv.getD i default <= (n.nodes.getD i default).gnd := by
  unfold lvA at h;rw [List.all_eq_true] at h;exact btwB_in (h i (List.mem_range.2 hi))
set_option maxHeartbeats 1000000 in
theorem levelled_f (n : Net) (lv : List Int) (m : Nat) (hn : netOk n) (hl : lv.length <= 281474976710656) : DCalls Tryz.prog 160 [netD n, ints lv] (hget []) m (li (lvE n lv)) (hget []) := by
  have hn1 := hn.1.1;unfold lvE;by_cases he : lv.length = n.nodes.length
  · rw [if_pos he];have he2 : ¬ ¬ (lv.length : Int) = (n.nodes.length : Int) := by omega
    have he3 : (lv.length : Int) = (n.nodes.length : Int) := by omega
    (have:=NeI he3);refine pureC (n := 29) (rs := [.tmp 4]) (ts := [37]) Tryz.func160 rfl (by decide) [] (by (exact SD)) ?_;(repeat' (first|refine swp_seq [0,1,2,4,5,6,12,14,15,16,17,27] ?_|refine st2 ?_|refine fctI fun hf=>?_|(show CondG ..;first|refine cBG (fun hc=>?_) (fun hc=>?_)|refine cUG ?_ ?_)));refine loop_swp [1, 2, 14, 15, 16] [0] 1 (fun q A H => ∃ i : Nat, i <= n.nodes.length /\ q = n.nodes.length - i /\ (∀ j, j < i -> lvB n lv j = true) /\ A = [(1, ints lv), (2, .ptr 0 0), (14, nodeL n.nodes), (15, li n.nodes.length), (16, li i)] /\ H = [(0, .blk 25 (netC n))]) (by omega) ?_ ?_ ?_
    · rintro q A H ⟨i, h1, h2, h3, rfl, rfl⟩;exact SDD
    · refine ⟨_, 0, by omega, rfl, by omega, ?_, ?_⟩
      · exact DVR
      · exact DVR
    rintro q A H ⟨i, h1, h2, h3, rfl, rfl⟩;by_cases hi : i < n.nodes.length
    · have hi2 : i < lv.length := by omega
      have hi3 : (i : Int) < (n.nodes.length : Int) := by omega
      (have:=NeI hi);(have:=NeI hi2);(have:=NeI hi3);have cw := fun m => lwithin_f (n.nodes.getD i default) (lv.getD i default) m
      cases hb : lvB n lv i
      · unfold lvB at hb;rw [hb] at cw;(repeat' (first|refine swp_seq [0,1,2,4,5,6,12,14,15,16,17,27] ?_|refine st2 ?_|(show XCallQ ..;first|refine xQ (fun hcc=>(by first | exact cw _)) ?_|(refine xlP ?_;refine xlQ (fun hcc m=>(by first | exact cw _)) ?_))|refine fctI fun hf=>?_|(show CondG ..;first|refine cBG (fun hc=>?_) (fun hc=>?_)|refine cUG ?_ ?_)));(refine DVQ ?_);rw [lvA_no hi (by unfold lvB; exact hb)]; rfl
      · have hb0 := hb;unfold lvB at hb;rw [hb] at cw;(repeat' (first|refine swp_seq [0,1,2,4,5,6,12,14,15,16,17,27] ?_|refine st2 ?_|(show XCallQ ..;first|refine xQ (fun hcc=>(by first | exact cw _)) ?_|(refine xlP ?_;refine xlQ (fun hcc m=>(by first | exact cw _)) ?_))|refine fctI fun hf=>?_|(show CondG ..;first|refine cBG (fun hc=>?_) (fun hc=>?_)|refine cUG ?_ ?_)));(refine lN [0] ?_);exact ⟨_, by omega, i + 1, by omega, rfl, all_next h3 hb0, rfl, rfl⟩
    · have hi3 : ¬ (i : Int) < (n.nodes.length : Int) := by omega
      (have:=NeI hi3);obtain rfl : i = n.nodes.length := by omega
      (repeat' (first|refine swp_seq [0,1,2,4,5,6,12,14,15,16,17,27] ?_|refine st2 ?_|refine fctI fun hf=>?_|(show CondG ..;first|refine cBG (fun hc=>?_) (fun hc=>?_)|refine cUG ?_ ?_)));(refine DVQ ?_);rw [lvA_yes h3]; rfl
  · rw [if_neg he];have he3 : ¬ (lv.length : Int) = (n.nodes.length : Int) := by omega
    (have:=NeI he3);refine pureC (n := 29) (rs := [.tmp 4]) (ts := [37]) Tryz.func160 rfl (by decide) [] (by (exact SD)) ?_;(repeat' (first|refine swp_seq [0,1,2,4,5,6,12,14,15,16,17,27] ?_|refine st2 ?_|refine fctI fun hf=>?_|(show CondG ..;first|refine cBG (fun hc=>?_) (fun hc=>?_)|refine cUG ?_ ?_)));exact DVR
set_option maxHeartbeats 1000000 in
theorem rLevelled_f (n : Net) (lv : List Int) (m : Nat) (hn : netOk n) (he : lv.length = n.nodes.length) : DCalls Tryz.prog 210 [netD n, ints lv] (hget []) m (lb (lvA n lv)) (hget []) := by
  have hn1 := hn.1.1;refine pureC (n := 24) (rs := [.tmp 4]) (ts := [4]) Tryz.func210 rfl (by decide) [] (by (exact SD)) ?_;(repeat' (first|refine swp_seq [0,1,2,4,5,10,23] ?_|refine st2 ?_|refine fctI fun hf=>?_|(show CondG ..;first|refine cBG (fun hc=>?_) (fun hc=>?_)|refine cUG ?_ ?_)));refine loop_swp [1, 2, 5] [0] 1 (fun q A H => ∃ i : Nat, i <= n.nodes.length /\ q = n.nodes.length - i /\ (∀ j, j < i -> lvB n lv j = true) /\ A = [(1, ints lv), (2, .ptr 0 0), (5, li i)] /\ H = [(0, .blk 25 (netC n))]) (by omega) ?_ ?_ ?_
  · rintro q A H ⟨i, h1, h2, h3, rfl, rfl⟩;exact SDD
  · refine ⟨_, 0, by omega, rfl, by omega, ?_, ?_⟩
    · exact DVR
    · exact DVR
  rintro q A H ⟨i, h1, h2, h3, rfl, rfl⟩;by_cases hi : i < n.nodes.length
  · have hi2 : i < lv.length := by omega
    have hi3 : (i : Int) < (n.nodes.length : Int) := by omega
    (have:=NeI hi);(have:=NeI hi2);(have:=NeI hi3);have cw := fun m => isLevel_f (n.nodes.getD i default) (lv.getD i default) m
    cases hb : lvB n lv i
    · unfold lvB at hb;rw [hb] at cw;(repeat' (first|refine swp_seq [0,1,2,4,5,10,23] ?_|refine st2 ?_|(show XCallQ ..;first|refine xQ (fun hcc=>(by first | exact cw _)) ?_|(refine xlP ?_;refine xlQ (fun hcc m=>(by first | exact cw _)) ?_))|refine fctI fun hf=>?_|(show CondG ..;first|refine cBG (fun hc=>?_) (fun hc=>?_)|refine cUG ?_ ?_)));(refine DVQ ?_);rw [lvA_no hi (by unfold lvB; exact hb)]
    · have hb0 := hb;unfold lvB at hb;rw [hb] at cw;(repeat' (first|refine swp_seq [0,1,2,4,5,10,23] ?_|refine st2 ?_|(show XCallQ ..;first|refine xQ (fun hcc=>(by first | exact cw _)) ?_|(refine xlP ?_;refine xlQ (fun hcc m=>(by first | exact cw _)) ?_))|refine fctI fun hf=>?_|(show CondG ..;first|refine cBG (fun hc=>?_) (fun hc=>?_)|refine cUG ?_ ?_)));(refine lN [0] ?_);exact ⟨_, by omega, i + 1, by omega, rfl, all_next h3 hb0, rfl, rfl⟩
  · have hi3 : ¬ (i : Int) < (n.nodes.length : Int) := by omega
    (have:=NeI hi3);obtain rfl : i = n.nodes.length := by omega
    (repeat' (first|refine swp_seq [0,1,2,4,5,10,23] ?_|refine st2 ?_|refine fctI fun hf=>?_|(show CondG ..;first|refine cBG (fun hc=>?_) (fun hc=>?_)|refine cUG ?_ ?_)));(refine DVQ ?_);rw [lvA_yes h3]
theorem okL_in {n : Net} (h : netB n = true) {i : Nat} (hi : i < n.links.length) : linkR (n.links.getD i default) = true /\ 0 <= nodeIx n.nodes (n.links.getD i default).fro /\ 0 <= nodeIx n.nodes (n.links.getD i default).til /\ ¬ (n.nodes.getD (nodeIx n.nodes (n.links.getD i default).fro).toNat default).kind = 3 := by
  have := netB_okL h hi;unfold okL at this;simp only [Bool.and_eq_true, decide_eq_true_eq, Bool.not_eq_true', decide_eq_false_iff_not] at this;exact ⟨this.1.1.1.1, this.1.1.2, this.1.2, this.2⟩
theorem node_lev {x : Node} (h : nodeR x = true) : levB x.inv = true /\ levB x.gnd = true /\ x.inv <= x.gnd := by
  unfold nodeR at h;simp only [Bool.and_eq_true] at h;refine ⟨h.1.1.2, h.1.2, ?_⟩;have hk := h.2;unfold kindB at hk;split at hk
  · simp only [Bool.and_eq_true, decide_eq_true_eq] at hk;have := hk.1.1.1;omega
  · split at hk
    · simp only [Bool.and_eq_true, decide_eq_true_eq] at hk;exact hk.1.1.1
    · cases hk
theorem lev_btw {x : Node} {v : Int} (h : nodeR x = true) (h1 : x.inv <= v) (h2 : v <= x.gnd) : levB v = true := by
  have k := node_lev h;have a := lev_in k.1;have b := lev_in k.2.1;unfold levB; simp; omega
theorem btwIn_of {n : Net} {l : List Sect} {k : Nat} {up down : Int} {s : Nat} (no : netOk n) (co : catOk l) (nb : netB n = true) (cb : catB l = true) (hk : k < n.links.length) (kn : knownB l (n.links.getD k default) = true) (hs : s <= 1000)
    (hu : btwB up (n.nodes.getD (nodeIx n.nodes (n.links.getD k default).fro).toNat default).inv (n.nodes.getD (nodeIx n.nodes (n.links.getD k default).fro).toNat default).gnd = true)
    (hd : btwB down (n.nodes.getD (nodeIx n.nodes (n.links.getD k default).til).toNat default).inv (n.nodes.getD (nodeIx n.nodes (n.links.getD k default).til).toNat default).gnd = true) : BtwIn n l (n.links.getD k default) up down s := by
  have h := okL_in nb hk;obtain ⟨i, ei, hi⟩ := node_at h.2.1;obtain ⟨j, ej, hj⟩ := node_at h.2.2.1;have ri := netB_node nb hi;have rj := netB_node nb hj;rw [ei, Int.toNat_natCast] at hu;rw [ej, Int.toNat_natCast] at hd;have u := btwB_in hu;have d := btwB_in hd;exact ⟨no, no.2.2 _ (getD_mem hk), co, cb, h.1, kn, h.2.1, by rw [ei, Int.toNat_natCast]; exact ⟨(node_lev ri).1, u.1⟩, lev_btw ri u.1 u.2, lev_btw rj d.1 d.2, hs⟩
def fromI (n : Net) (k : Nat) : Nat := (nodeIx n.nodes (n.links.getD k default).fro).toNat
def tillI (n : Net) (k : Nat) : Nat := (nodeIx n.nodes (n.links.getD k default).til).toNat
theorem fromI_lt {n : Net} (h : netB n = true) {k : Nat} (hk : k < n.links.length) : fromI n k < n.nodes.length /\ nodeIx n.nodes (n.links.getD k default).fro = (fromI n k : Int) := by
  obtain ⟨i, ei, hi⟩ := node_at (okL_in h hk).2.1;unfold fromI; omega
theorem tillI_lt {n : Net} (h : netB n = true) {k : Nat} (hk : k < n.links.length) : tillI n k < n.nodes.length /\ nodeIx n.nodes (n.links.getD k default).til = (tillI n k : Int) := by
  obtain ⟨i, ei, hi⟩ := node_at (okL_in h hk).2.2.1;unfold tillI; omega
set_option maxHeartbeats 1000000 in
theorem at_f (n : Net) (l : List Sect) (k : Nat) (lv : List Int) (s : Nat) (on : Bool) (m : Nat) (no : netOk n) (nb : netB n = true) (hk : k < n.links.length) (hl : lv.length = n.nodes.length)
    (h : BtwIn n l (n.links.getD k default) (lv.getD (fromI n k) default) (lv.getD (tillI n k) default) s) : DCalls Tryz.prog 165 [netD n, sectL l, linkD (n.links.getD k default), ints lv, li s, lb on] (hget []) m (.tup [li (flowI n l (n.links.getD k default) (lv.getD (fromI n k) default) (lv.getD (tillI n k) default) s on), li 0]) (hget []) := by
  have c1 := fun m => ends_f n (n.links.getD k default) m no.1.1
  have hf := fromI_lt nb hk;have ht := tillI_lt nb hk;have c2 := fun m => between_f' n l (n.links.getD k default) (lv.getD (fromI n k) default) (lv.getD (tillI n k) default) s on m h
  rw [hf.2, ht.2] at c1;have f1 : fromI n k < lv.length := by omega
  have t1 : tillI n k < lv.length := by omega
  generalize flowI n l (n.links.getD k default) (lv.getD (fromI n k) default) (lv.getD (tillI n k) default) s on = q at *
  generalize n.links.getD k default = x at *
  generalize fromI n k = a at *
  generalize tillI n k = b at *
  (have:=NeI f1);(have:=NeI t1);clear h hf ht;refine pureC (n := 38) (rs := [.tmp 12, .tmp 13]) (ts := [3, 37]) Tryz.func165 rfl (by decide) [] (by (exact SD)) ?_;(repeat' (first|refine swp_seq [0,1,2,3,4,5,6,8,12,13,14,15] ?_|refine st2 ?_|(show CallQ ..;first|refine cQ (fun hcc=>(by first | exact c1 _ | exact c2 _)) ?_|(refine lP ?_;refine lQ (fun hcc m=>(by first | exact c1 _ | exact c2 _)) ?_))|(show XCallQ ..;first|refine xQ (fun hcc=>(by first | exact c1 _ | exact c2 _)) ?_|(refine xlP ?_;refine xlQ (fun hcc m=>(by first | exact c1 _ | exact c2 _)) ?_))|refine fctI fun hf=>?_|(show CondG ..;first|refine cBG (fun hc=>?_) (fun hc=>?_)|refine cUG ?_ ?_)));exact DVR
theorem ends34_f (n : Net) (k : Nat) (m : Nat) (no : netOk n) (nb : netB n = true) (hk : k < n.links.length) : DCalls Tryz.prog 206 [netD n, li k] (hget []) m (.tup [li (fromI n k), li (tillI n k)]) (hget []) := by
  have hf := fromI_lt nb hk;have ht := tillI_lt nb hk;have c1 := fun m => rFindNode_f n (n.links.getD k default).fro m no.1.1
  have c2 := fun m => rFindNode_f n (n.links.getD k default).til m no.1.1
  rw [hf.2] at c1;rw [ht.2] at c2;generalize fromI n k = a at *
  generalize tillI n k = b at *
  (have:=NeI hk);refine pureC (n := 22) (rs := [.tmp 4, .tmp 5]) (ts := [3, 3]) Tryz.func206 rfl (by decide) [] (by (exact SD)) ?_;(repeat' (first|refine swp_seq [0,1,2,4,5] ?_|refine st2 ?_|(show XCallQ ..;first|refine xQ (fun hcc=>(by first | exact c1 _ | exact c2 _)) ?_|(refine xlP ?_;refine xlQ (fun hcc m=>(by first | exact c1 _ | exact c2 _)) ?_))|refine fctI fun hf=>?_|(show CondG ..;first|refine cBG (fun hc=>?_) (fun hc=>?_)|refine cUG ?_ ?_)));exact DVR
theorem given34_f (n : Net) (l : List Sect) (lv : List Int) (m : Nat) (no : netOk n) (co : catOk l) : DCalls Tryz.prog 209 [netD n, sectL l, ints lv] (hget []) m (li (if netB n && catB l then (if lv.length = n.nodes.length then 0 else 3) else 1)) (hget []) := by
  have c1 := fun m => rNetValid_f n m no
  have c2 := fun m => rCat_f l m co
  have hn1 := no.1.1;cases hn : netB n <;> simp only [hn] at c1
  · refine pureC (n := 21) (rs := [.tmp 6]) (ts := [3]) Tryz.func209 rfl (by decide) [] (by (exact SD)) ?_;(repeat' (first|refine swp_seq [0,1,2,3,6,14,20] ?_|refine st2 ?_|(show CallQ ..;first|refine cQ (fun hcc=>(by first | exact c1 _)) ?_|(refine lP ?_;refine lQ (fun hcc m=>(by first | exact c1 _)) ?_))|refine fctI fun hf=>?_|(show CondG ..;first|refine cBG (fun hc=>?_) (fun hc=>?_)|refine cUG ?_ ?_)));exact DVR
  cases hc : catB l <;> simp only [hc] at c2
  · refine pureC (n := 21) (rs := [.tmp 6]) (ts := [3]) Tryz.func209 rfl (by decide) [] (by (exact SD)) ?_;(repeat' (first|refine swp_seq [0,1,2,3,6,14,20] ?_|refine st2 ?_|(show CallQ ..;first|refine cQ (fun hcc=>(by first | exact c1 _ | exact c2 _)) ?_|(refine lP ?_;refine lQ (fun hcc m=>(by first | exact c1 _ | exact c2 _)) ?_))|refine fctI fun hf=>?_|(show CondG ..;first|refine cBG (fun hc=>?_) (fun hc=>?_)|refine cUG ?_ ?_)));exact DVR
  rw [if_pos (by rfl)];by_cases he : (lv.length : Int) = (n.nodes.length : Int)
  · (have:=NeI he);rw [if_pos (by omega)];refine pureC (n := 21) (rs := [.tmp 6]) (ts := [3]) Tryz.func209 rfl (by decide) [] (by (exact SD)) ?_;(repeat' (first|refine swp_seq [0,1,2,3,6,14,20] ?_|refine st2 ?_|(show CallQ ..;first|refine cQ (fun hcc=>(by first | exact c1 _ | exact c2 _)) ?_|(refine lP ?_;refine lQ (fun hcc m=>(by first | exact c1 _ | exact c2 _)) ?_))|refine fctI fun hf=>?_|(show CondG ..;first|refine cBG (fun hc=>?_) (fun hc=>?_)|refine cUG ?_ ?_)));exact DVR
  · (have:=NeI he);rw [if_neg (by omega)];refine pureC (n := 21) (rs := [.tmp 6]) (ts := [3]) Tryz.func209 rfl (by decide) [] (by (exact SD)) ?_;(repeat' (first|refine swp_seq [0,1,2,3,6,14,20] ?_|refine st2 ?_|(show CallQ ..;first|refine cQ (fun hcc=>(by first | exact c1 _ | exact c2 _)) ?_|(refine lP ?_;refine lQ (fun hcc m=>(by first | exact c1 _ | exact c2 _)) ?_))|refine fctI fun hf=>?_|(show CondG ..;first|refine cBG (fun hc=>?_) (fun hc=>?_)|refine cUG ?_ ?_)));exact DVR
end Go.Proofs.YthacnhidipeckaaGreat
