/-
  Contracts of functions of the program, over the engine.
  No condition.
-/
import Derived.Test.YtnfbaeeohepajaaGreatCL7L8L9
import Derived.Test.YtnfbaeeohepajaaGreatCT7T7b
import Derived.Test.YtnfbaeeohepajaaGreatCT6b
import Derived.Test.YtnfbaeeohepajaaGreatCT4cT4d
namespace Go.Proofs.YtnfbaeeohepajaaGreat
open Go.Eng
set_option linter.all false
attribute [local irreducible] DCallsG SWp Fct CallQ XCallQ LCallQ XLCallQ drun xrun
set_option maxRecDepth 20000 in
set_option maxHeartbeats 4000000 in
theorem rBetween_f (n : Net) (l : List Sect) (k : Nat) (up down : Int) (s : Nat) (on : Bool) (m : Nat) (hk : k < n.links.length) (h : BtwIn n l (n.links.getD k default) up down s) : DCalls Tryz.prog 56 [netD n, sectL l, li k, li up, li down, li s, lb on] (hget []) m (li (flowI n l (n.links.getD k default) up down s on)) (hget []) := by
  have hr := linkR_in h.xr
  have hl := h.co.1
  have hll := h.no.2.1
  (have := Nonempty.intro hk)
  obtain ⟨x, hx⟩ : ∃ x, n.links.getD k default = x := ⟨_, rfl⟩
  rw [hx] at h hr ⊢
  unfold flowI
  have kx : ∀ {a b : Int}, (a = b) = ((fun y : Link => a = b) x) := rfl
  by_cases k1 : x.kind = 1
  · rw [if_pos k1]
    have k1' : (n.links.getD k default).kind = 1 := by rw [hx]; exact k1
    (have := Nonempty.intro k1')
    obtain ⟨i, ei, hi⟩ := sect_at h.kn k1
    have c1 := fun m => rPipe_f x (l.getD i default) up down m ⟨h.co.2 _ (getD_mem hi), okS_in h.cb hi, hr.2.2.2.2.1, hr.2.2.2.2.2.1, kind1_in h.xr k1, h.u, h.d⟩
    have ci := fun m => rFind_f l x.sect m hl
    rw [ei] at ci ⊢
    rw [Int.toNat_natCast]
    generalize limI (pipeN x (l.getD i default) up down) = q at *
    (have := Nonempty.intro hi)
    clear h hr
    subst hx
    refine pureC (n := 84) (rs := [.tmp 14]) (ts := [3]) Tryz.func56 rfl (by decide) [] (by (exact SD)) ?_
    (repeat' (first | refine swp_seq [0, 1, 2, 3, 4, 5, 6, 7, 14, 15, 16, 17, 18, 19, 20, 27, 28, 41, 53, 67] ?_ | refine st2 ?_ | (show CallQ ..; first | refine cQ (fun hcc => (by first | exact c1 _ | exact ci _)) ?_ | (refine lP ?_; refine lQ (fun hcc m => (by first | exact c1 _ | exact ci _)) ?_)) | (show XCallQ ..; first | refine xQ (fun hcc => (by first | exact c1 _ | exact ci _)) ?_ | (refine xlP ?_; refine xlQ (fun hcc m => (by first | exact c1 _ | exact ci _)) ?_)) | (show Fct ..; refine fctI (fun hf => ?_)) | (show SWp _ _ _ (.cond _ _ _) _ _ _ _; first | refine cB (fun hc => ?_) (fun hc => ?_) | refine cU ?_ ?_)))
    exact DVR
  by_cases k2 : x.kind = 2
  · rw [if_neg k1, if_pos k2]
    have c1 := fun m => rOver_f x up down m (kind2_in h.xr k2) h.u h.d
    have c2 := fun m => rflowO_f (overO x up down) m
    generalize overO x up down = o at *
    generalize optI o = o1 at *
    generalize optE o = o2 at *
    generalize optL o = o3 at *
    clear h hr
    subst hx
    (have := Nonempty.intro k1)
    (have := Nonempty.intro k2)
    refine pureC (n := 84) (rs := [.tmp 14]) (ts := [3]) Tryz.func56 rfl (by decide) [] (by (exact SD)) ?_
    (repeat' (first | refine swp_seq [0, 1, 2, 3, 4, 5, 6, 7, 14, 15, 16, 17, 18, 19, 20, 27, 28, 41, 53, 67] ?_ | refine st2 ?_ | (show CallQ ..; first | refine cQ (fun hcc => (by first | exact c1 _ | exact c2 _)) ?_ | (refine lP ?_; refine lQ (fun hcc m => (by first | exact c1 _ | exact c2 _)) ?_)) | (show XCallQ ..; first | refine xQ (fun hcc => (by first | exact c1 _ | exact c2 _)) ?_ | (refine xlP ?_; refine xlQ (fun hcc m => (by first | exact c1 _ | exact c2 _)) ?_)) | (show Fct ..; refine fctI (fun hf => ?_)) | (show SWp _ _ _ (.cond _ _ _) _ _ _ _; first | refine cB (fun hc => ?_) (fun hc => ?_) | refine cU ?_ ?_)))
    exact DVR
  by_cases k3 : x.kind = 3
  · rw [if_neg k1, if_neg k2, if_pos k3]
    have c1 := fun m => rGate_f x s up down m (kind3_in h.xr k3) h.se h.u h.d
    have c2 := fun m => rflowO_f (gateO x s up down) m
    generalize gateO x s up down = o at *
    generalize optI o = o1 at *
    generalize optE o = o2 at *
    generalize optL o = o3 at *
    clear h hr
    subst hx
    (have := Nonempty.intro k1)
    (have := Nonempty.intro k2)
    (have := Nonempty.intro k3)
    refine pureC (n := 84) (rs := [.tmp 14]) (ts := [3]) Tryz.func56 rfl (by decide) [] (by (exact SD)) ?_
    (repeat' (first | refine swp_seq [0, 1, 2, 3, 4, 5, 6, 7, 14, 15, 16, 17, 18, 19, 20, 27, 28, 41, 53, 67] ?_ | refine st2 ?_ | (show CallQ ..; first | refine cQ (fun hcc => (by first | exact c1 _ | exact c2 _)) ?_ | (refine lP ?_; refine lQ (fun hcc m => (by first | exact c1 _ | exact c2 _)) ?_)) | (show XCallQ ..; first | refine xQ (fun hcc => (by first | exact c1 _ | exact c2 _)) ?_ | (refine xlP ?_; refine xlQ (fun hcc m => (by first | exact c1 _ | exact c2 _)) ?_)) | (show Fct ..; refine fctI (fun hf => ?_)) | (show SWp _ _ _ (.cond _ _ _) _ _ _ _; first | refine cB (fun hc => ?_) (fun hc => ?_) | refine cU ?_ ?_)))
    exact DVR
  rw [if_neg k1, if_neg k2, if_neg k3]
  have k4 : x.kind = 4 := by have := kind_in h.xr; omega
  cases on
  · clear h hr k4
    subst hx
    (have := Nonempty.intro k1)
    (have := Nonempty.intro k2)
    (have := Nonempty.intro k3)
    refine pureC (n := 84) (rs := [.tmp 14]) (ts := [3]) Tryz.func56 rfl (by decide) [] (by (exact SD)) ?_
    (repeat' (first | refine swp_seq [0, 1, 2, 3, 4, 5, 6, 7, 14, 15, 16, 17, 18, 19, 20, 27, 28, 41, 53, 67] ?_ | refine st2 ?_ | (show Fct ..; refine fctI (fun hf => ?_)) | (show SWp _ _ _ (.cond _ _ _) _ _ _ _; first | refine cB (fun hc => ?_) (fun hc => ?_) | refine cU ?_ ?_)))
    exact DVR
  · obtain ⟨i, ei, hi⟩ := node_at h.fr
    have c0 := fun m => rFindNode_f n x.fro m h.no.1.1
    have hiv := h.iv
    have hu := lev_in h.u
    have hv := lev_in hiv.1
    rw [ei] at c0 hiv hv ⊢
    rw [Int.toNat_natCast] at hiv hv ⊢
    have c1 := fun m => rPflow_f x s (min (up - (n.nodes.getD i default).inv) 4194304).toNat m (by unfold pumpB; simp [k4, h.xr]) h.se (by omega)
    rw [show ((min (up - (n.nodes.getD i default).inv) 4194304).toNat : Int) = min 4194304 (up - (n.nodes.getD i default).inv) by omega] at c1
    generalize pumpQ x s (min (up - (n.nodes.getD i default).inv) 4194304).toNat = q at *
    (have := Nonempty.intro hi)
    clear h hr k4
    subst hx
    (have := Nonempty.intro k1)
    (have := Nonempty.intro k2)
    (have := Nonempty.intro k3)
    refine pureC (n := 84) (rs := [.tmp 14]) (ts := [3]) Tryz.func56 rfl (by decide) [] (by (exact SD)) ?_
    (repeat' (first | refine swp_seq [0, 1, 2, 3, 4, 5, 6, 7, 14, 15, 16, 17, 18, 19, 20, 27, 28, 41, 53, 67] ?_ | (show SWp _ _ _ (.region _ _ true) _ _ _ _; refine xG mixed [216, 1000005] ?_) | refine st2 ?_ | (show CallQ ..; first | refine cQ (fun hcc => (by first | exact c0 _ | exact c1 _ | exact least_f _ _ _)) ?_ | (refine lP ?_; refine lQ (fun hcc m => (by first | exact c0 _ | exact c1 _ | exact least_f _ _ _)) ?_)) | (show XCallQ ..; first | refine xQ (fun hcc => (by first | exact c0 _ | exact c1 _ | exact least_f _ _ _)) ?_ | (refine xlP ?_; refine xlQ (fun hcc m => (by first | exact c0 _ | exact c1 _ | exact least_f _ _ _)) ?_)) | (show Fct ..; refine fctI (fun hf => ?_)) | (show SWp _ _ _ (.cond _ _ _) _ _ _ _; first | refine cB (fun hc => ?_) (fun hc => ?_) | refine cU ?_ ?_)))
    exact DVR
def lvB (n : Net) (lv : List Int) (i : Nat) : Bool := btwB (lv.getD i default) (n.nodes.getD i default).inv (n.nodes.getD i default).gnd
def lvA (n : Net) (lv : List Int) : Bool := (List.range n.nodes.length).all (lvB n lv)
def lvE (n : Net) (lv : List Int) : Int := if lv.length = n.nodes.length then (if lvA n lv then 0 else 2) else 3
theorem lwithin_f (x : Node) (v : Int) (m : Nat) : DCalls Tryz.prog 93 [nodeD x, li v] (hget []) m (lb (btwB v x.inv x.gnd)) (hget []) := by
  refine pureC (n := 15) (rs := [.tmp 4]) (ts := [4]) Tryz.func93 rfl (by decide) [] (by (exact SD)) ?_
  (repeat' (first | refine swp_seq [0, 1, 2, 4] ?_ | refine st2 ?_ | (show Fct ..; refine fctI (fun hf => ?_)) | (show SWp _ _ _ (.cond _ _ _) _ _ _ _; first | refine cB (fun hc => ?_) (fun hc => ?_) | refine cU ?_ ?_)))
  exact DVR
theorem isLevel_f (x : Node) (v : Int) (m : Nat) : DCalls Tryz.prog 70 [nodeD x, li v] (hget []) m (lb (btwB v x.inv x.gnd)) (hget []) := by
  refine pureC (n := 15) (rs := [.tmp 4]) (ts := [4]) Tryz.func70 rfl (by decide) [] (by (exact SD)) ?_
  (repeat' (first | refine swp_seq [0, 1, 2, 4] ?_ | refine st2 ?_ | (show Fct ..; refine fctI (fun hf => ?_)) | (show SWp _ _ _ (.cond _ _ _) _ _ _ _; first | refine cB (fun hc => ?_) (fun hc => ?_) | refine cU ?_ ?_)))
  exact DVR
theorem lvA_no {n : Net} {lv : List Int} {i : Nat} (hi : i < n.nodes.length) (h : lvB n lv i = false) : lvA n lv = false := rall_false hi h
theorem lvA_yes {n : Net} {lv : List Int} (h : ∀ i, i < n.nodes.length → lvB n lv i = true) : lvA n lv = true := rall_true h
theorem lvA_in {n : Net} {lv : List Int} (h : lvA n lv = true) {i : Nat} (hi : i < n.nodes.length) : (n.nodes.getD i default).inv ≤ lv.getD i default ∧ lv.getD i default ≤ (n.nodes.getD i default).gnd := by
  unfold lvA at h
  rw [List.all_eq_true] at h
  exact btwB_in (h i (List.mem_range.2 hi))
set_option maxHeartbeats 1000000 in
theorem levelled_f (n : Net) (lv : List Int) (m : Nat) (hn : netOk n) (hl : lv.length ≤ 281474976710656) : DCalls Tryz.prog 48 [netD n, ints lv] (hget []) m (li (lvE n lv)) (hget []) := by
  have hn1 := hn.1.1
  unfold lvE
  by_cases he : lv.length = n.nodes.length
  · rw [if_pos he]
    have he2 : ¬ ¬ (lv.length : Int) = (n.nodes.length : Int) := by omega
    have he3 : (lv.length : Int) = (n.nodes.length : Int) := by omega
    (have := Nonempty.intro he3)
    refine pureC (n := 29) (rs := [.tmp 4]) (ts := [30]) Tryz.func48 rfl (by decide) [] (by (exact SD)) ?_
    (repeat' (first | refine swp_seq [0, 1, 2, 4, 5, 6, 12, 14, 15, 16, 17, 27] ?_ | refine st2 ?_ | (show Fct ..; refine fctI (fun hf => ?_)) | (show SWp _ _ _ (.cond _ _ _) _ _ _ _; first | refine cB (fun hc => ?_) (fun hc => ?_) | refine cU ?_ ?_)))
    refine loop_swp [1, 2, 14, 15, 16] [0] 1 (fun q A H => ∃ i : Nat, i ≤ n.nodes.length ∧ q = n.nodes.length - i ∧ (∀ j, j < i → lvB n lv j = true) ∧ A = [(1, ints lv), (2, .ptr 0 0), (14, nodeL n.nodes), (15, li n.nodes.length), (16, li i)] ∧ H = [(0, .blk 25 (netC n))]) (by omega) ?_ ?_ ?_
    · rintro q A H ⟨i, h1, h2, h3, rfl, rfl⟩
      exact ⟨by (exact SD), by (exact SD)⟩
    · refine ⟨_, 0, by omega, rfl, by omega, ?_, ?_⟩
      · exact DVR
      · exact DVR
    rintro q A H ⟨i, h1, h2, h3, rfl, rfl⟩
    by_cases hi : i < n.nodes.length
    · have hi2 : i < lv.length := by omega
      have hi3 : (i : Int) < (n.nodes.length : Int) := by omega
      (have := Nonempty.intro hi)
      (have := Nonempty.intro hi2)
      (have := Nonempty.intro hi3)
      have cw := fun m => lwithin_f (n.nodes.getD i default) (lv.getD i default) m
      cases hb : lvB n lv i
      · unfold lvB at hb
        rw [hb] at cw
        (repeat' (first | refine swp_seq [0, 1, 2, 4, 5, 6, 12, 14, 15, 16, 17, 27] ?_ | refine st2 ?_ | (show CallQ ..; first | refine cQ (fun hcc => (by first | exact cw _)) ?_ | (refine lP ?_; refine lQ (fun hcc m => (by first | exact cw _)) ?_)) | (show XCallQ ..; first | refine xQ (fun hcc => (by first | exact cw _)) ?_ | (refine xlP ?_; refine xlQ (fun hcc m => (by first | exact cw _)) ?_)) | (show Fct ..; refine fctI (fun hf => ?_)) | (show SWp _ _ _ (.cond _ _ _) _ _ _ _; first | refine cB (fun hc => ?_) (fun hc => ?_) | refine cU ?_ ?_)))
        (refine DVQ ?_)
        rw [lvA_no hi (by unfold lvB; exact hb)]; rfl
      · have hb0 := hb
        unfold lvB at hb
        rw [hb] at cw
        (repeat' (first | refine swp_seq [0, 1, 2, 4, 5, 6, 12, 14, 15, 16, 17, 27] ?_ | refine st2 ?_ | (show CallQ ..; first | refine cQ (fun hcc => (by first | exact cw _)) ?_ | (refine lP ?_; refine lQ (fun hcc m => (by first | exact cw _)) ?_)) | (show XCallQ ..; first | refine xQ (fun hcc => (by first | exact cw _)) ?_ | (refine xlP ?_; refine xlQ (fun hcc m => (by first | exact cw _)) ?_)) | (show Fct ..; refine fctI (fun hf => ?_)) | (show SWp _ _ _ (.cond _ _ _) _ _ _ _; first | refine cB (fun hc => ?_) (fun hc => ?_) | refine cU ?_ ?_)))
        (refine lN [0] ?_)
        exact ⟨_, by omega, i + 1, by omega, rfl, all_next h3 hb0, rfl, rfl⟩
    · have hi3 : ¬ (i : Int) < (n.nodes.length : Int) := by omega
      (have := Nonempty.intro hi3)
      obtain rfl : i = n.nodes.length := by omega
      (repeat' (first | refine swp_seq [0, 1, 2, 4, 5, 6, 12, 14, 15, 16, 17, 27] ?_ | refine st2 ?_ | (show Fct ..; refine fctI (fun hf => ?_)) | (show SWp _ _ _ (.cond _ _ _) _ _ _ _; first | refine cB (fun hc => ?_) (fun hc => ?_) | refine cU ?_ ?_)))
      (refine DVQ ?_)
      rw [lvA_yes h3]; rfl
  · rw [if_neg he]
    have he3 : ¬ (lv.length : Int) = (n.nodes.length : Int) := by omega
    (have := Nonempty.intro he3)
    refine pureC (n := 29) (rs := [.tmp 4]) (ts := [30]) Tryz.func48 rfl (by decide) [] (by (exact SD)) ?_
    (repeat' (first | refine swp_seq [0, 1, 2, 4, 5, 6, 12, 14, 15, 16, 17, 27] ?_ | refine st2 ?_ | (show Fct ..; refine fctI (fun hf => ?_)) | (show SWp _ _ _ (.cond _ _ _) _ _ _ _; first | refine cB (fun hc => ?_) (fun hc => ?_) | refine cU ?_ ?_)))
    exact DVR
set_option maxHeartbeats 1000000 in
theorem rLevelled_f (n : Net) (lv : List Int) (m : Nat) (hn : netOk n) (he : lv.length = n.nodes.length) : DCalls Tryz.prog 54 [netD n, ints lv] (hget []) m (lb (lvA n lv)) (hget []) := by
  have hn1 := hn.1.1
  refine pureC (n := 24) (rs := [.tmp 4]) (ts := [4]) Tryz.func54 rfl (by decide) [] (by (exact SD)) ?_
  (repeat' (first | refine swp_seq [0, 1, 2, 4, 5, 10, 23] ?_ | refine st2 ?_ | (show Fct ..; refine fctI (fun hf => ?_)) | (show SWp _ _ _ (.cond _ _ _) _ _ _ _; first | refine cB (fun hc => ?_) (fun hc => ?_) | refine cU ?_ ?_)))
  refine loop_swp [1, 2, 5] [0] 1 (fun q A H => ∃ i : Nat, i ≤ n.nodes.length ∧ q = n.nodes.length - i ∧ (∀ j, j < i → lvB n lv j = true) ∧ A = [(1, ints lv), (2, .ptr 0 0), (5, li i)] ∧ H = [(0, .blk 25 (netC n))]) (by omega) ?_ ?_ ?_
  · rintro q A H ⟨i, h1, h2, h3, rfl, rfl⟩
    exact ⟨by (exact SD), by (exact SD)⟩
  · refine ⟨_, 0, by omega, rfl, by omega, ?_, ?_⟩
    · exact DVR
    · exact DVR
  rintro q A H ⟨i, h1, h2, h3, rfl, rfl⟩
  by_cases hi : i < n.nodes.length
  · have hi2 : i < lv.length := by omega
    have hi3 : (i : Int) < (n.nodes.length : Int) := by omega
    (have := Nonempty.intro hi)
    (have := Nonempty.intro hi2)
    (have := Nonempty.intro hi3)
    have cw := fun m => isLevel_f (n.nodes.getD i default) (lv.getD i default) m
    cases hb : lvB n lv i
    · unfold lvB at hb
      rw [hb] at cw
      (repeat' (first | refine swp_seq [0, 1, 2, 4, 5, 10, 23] ?_ | refine st2 ?_ | (show CallQ ..; first | refine cQ (fun hcc => (by first | exact cw _)) ?_ | (refine lP ?_; refine lQ (fun hcc m => (by first | exact cw _)) ?_)) | (show XCallQ ..; first | refine xQ (fun hcc => (by first | exact cw _)) ?_ | (refine xlP ?_; refine xlQ (fun hcc m => (by first | exact cw _)) ?_)) | (show Fct ..; refine fctI (fun hf => ?_)) | (show SWp _ _ _ (.cond _ _ _) _ _ _ _; first | refine cB (fun hc => ?_) (fun hc => ?_) | refine cU ?_ ?_)))
      (refine DVQ ?_)
      rw [lvA_no hi (by unfold lvB; exact hb)]
    · have hb0 := hb
      unfold lvB at hb
      rw [hb] at cw
      (repeat' (first | refine swp_seq [0, 1, 2, 4, 5, 10, 23] ?_ | refine st2 ?_ | (show CallQ ..; first | refine cQ (fun hcc => (by first | exact cw _)) ?_ | (refine lP ?_; refine lQ (fun hcc m => (by first | exact cw _)) ?_)) | (show XCallQ ..; first | refine xQ (fun hcc => (by first | exact cw _)) ?_ | (refine xlP ?_; refine xlQ (fun hcc m => (by first | exact cw _)) ?_)) | (show Fct ..; refine fctI (fun hf => ?_)) | (show SWp _ _ _ (.cond _ _ _) _ _ _ _; first | refine cB (fun hc => ?_) (fun hc => ?_) | refine cU ?_ ?_)))
      (refine lN [0] ?_)
      exact ⟨_, by omega, i + 1, by omega, rfl, all_next h3 hb0, rfl, rfl⟩
  · have hi3 : ¬ (i : Int) < (n.nodes.length : Int) := by omega
    (have := Nonempty.intro hi3)
    obtain rfl : i = n.nodes.length := by omega
    (repeat' (first | refine swp_seq [0, 1, 2, 4, 5, 10, 23] ?_ | refine st2 ?_ | (show Fct ..; refine fctI (fun hf => ?_)) | (show SWp _ _ _ (.cond _ _ _) _ _ _ _; first | refine cB (fun hc => ?_) (fun hc => ?_) | refine cU ?_ ?_)))
    (refine DVQ ?_)
    rw [lvA_yes h3]
def linkedB (n : Net) (k s : Int) : Bool := decide (0 ≤ k) && decide (k < n.links.length) && btwB s 0 1000
theorem lsetting_f (n : Int) (m : Nat) : DCalls Tryz.prog 49 [li n] (hget []) m (lb (btwB n 0 1000)) (hget []) := by
  refine pureC (n := 9) (rs := [.tmp 2]) (ts := [4]) Tryz.func49 rfl (by decide) [] (by (exact SD)) ?_
  (repeat' (first | refine swp_seq [0, 2] ?_ | refine st2 ?_ | (show Fct ..; refine fctI (fun hf => ?_)) | (show SWp _ _ _ (.cond _ _ _) _ _ _ _; first | refine cB (fun hc => ?_) (fun hc => ?_) | refine cU ?_ ?_)))
  exact DVR
theorem linked_f (n : Net) (k s : Int) (m : Nat) : DCalls Tryz.prog 53 [netD n, li k, li s] (hget []) m (lb (linkedB n k s)) (hget []) := by
  refine pureC (n := 20) (rs := [.tmp 6]) (ts := [4]) Tryz.func53 rfl (by decide) [] (by (exact SD)) ?_
  (repeat' (first | refine swp_seq [0, 1, 2, 3, 6] ?_ | refine st2 ?_ | (show CallQ ..; first | refine cQ (fun hcc => (setting33_f _ _)) ?_ | (refine lP ?_; refine lQ (fun hcc m => (setting33_f _ _)) ?_)) | (show Fct ..; refine fctI (fun hf => ?_)) | (show SWp _ _ _ (.cond _ _ _) _ _ _ _; first | refine cB (fun hc => ?_) (fun hc => ?_) | refine cU ?_ ?_)))
  exact DVR
theorem okL_in {n : Net} (h : netB n = true) {i : Nat} (hi : i < n.links.length) : linkR (n.links.getD i default) = true ∧ 0 ≤ nodeIx n.nodes (n.links.getD i default).fro ∧ 0 ≤ nodeIx n.nodes (n.links.getD i default).til ∧ ¬ (n.nodes.getD (nodeIx n.nodes (n.links.getD i default).fro).toNat default).kind = 3 := by
  have := netB_okL h hi
  unfold okL at this
  simp only [Bool.and_eq_true, decide_eq_true_eq, Bool.not_eq_true', decide_eq_false_iff_not] at this
  exact ⟨this.1.1.1.1, this.1.1.2, this.1.2, this.2⟩
theorem node_lev {x : Node} (h : nodeR x = true) : levB x.inv = true ∧ levB x.gnd = true ∧ x.inv ≤ x.gnd := by
  unfold nodeR at h
  simp only [Bool.and_eq_true] at h
  refine ⟨h.1.1.2, h.1.2, ?_⟩
  have hk := h.2
  unfold kindB at hk
  split at hk
  · simp only [Bool.and_eq_true, decide_eq_true_eq] at hk
    have := hk.1.1.1
    omega
  · split at hk
    · simp only [Bool.and_eq_true, decide_eq_true_eq] at hk
      exact hk.1.1.1
    · cases hk
theorem lev_btw {x : Node} {v : Int} (h : nodeR x = true) (h1 : x.inv ≤ v) (h2 : v ≤ x.gnd) : levB v = true := by
  have k := node_lev h
  have a := lev_in k.1
  have b := lev_in k.2.1
  unfold levB; simp; omega
theorem btwIn_of {n : Net} {l : List Sect} {k : Nat} {up down : Int} {s : Nat} (no : netOk n) (co : catOk l) (nb : netB n = true) (cb : catB l = true) (hk : k < n.links.length) (kn : knownB l (n.links.getD k default) = true) (hs : s ≤ 1000)
    (hu : btwB up (n.nodes.getD (nodeIx n.nodes (n.links.getD k default).fro).toNat default).inv (n.nodes.getD (nodeIx n.nodes (n.links.getD k default).fro).toNat default).gnd = true)
    (hd : btwB down (n.nodes.getD (nodeIx n.nodes (n.links.getD k default).til).toNat default).inv (n.nodes.getD (nodeIx n.nodes (n.links.getD k default).til).toNat default).gnd = true) : BtwIn n l (n.links.getD k default) up down s := by
  have h := okL_in nb hk
  obtain ⟨i, ei, hi⟩ := node_at h.2.1
  obtain ⟨j, ej, hj⟩ := node_at h.2.2.1
  have ri := netB_node nb hi
  have rj := netB_node nb hj
  rw [ei, Int.toNat_natCast] at hu
  rw [ej, Int.toNat_natCast] at hd
  have u := btwB_in hu
  have d := btwB_in hd
  exact ⟨no, no.2.2 _ (getD_mem hk), co, cb, h.1, kn, h.2.1, by rw [ei, Int.toNat_natCast]; exact ⟨(node_lev ri).1, u.1⟩, lev_btw ri u.1 u.2, lev_btw rj d.1 d.2, hs⟩
def fromI (n : Net) (k : Nat) : Nat := (nodeIx n.nodes (n.links.getD k default).fro).toNat
def tillI (n : Net) (k : Nat) : Nat := (nodeIx n.nodes (n.links.getD k default).til).toNat
theorem fromI_lt {n : Net} (h : netB n = true) {k : Nat} (hk : k < n.links.length) : fromI n k < n.nodes.length ∧ nodeIx n.nodes (n.links.getD k default).fro = (fromI n k : Int) := by
  obtain ⟨i, ei, hi⟩ := node_at (okL_in h hk).2.1
  unfold fromI; omega
theorem tillI_lt {n : Net} (h : netB n = true) {k : Nat} (hk : k < n.links.length) : tillI n k < n.nodes.length ∧ nodeIx n.nodes (n.links.getD k default).til = (tillI n k : Int) := by
  obtain ⟨i, ei, hi⟩ := node_at (okL_in h hk).2.2.1
  unfold tillI; omega
set_option maxHeartbeats 1000000 in
theorem at_f (n : Net) (l : List Sect) (k : Nat) (lv : List Int) (s : Nat) (on : Bool) (m : Nat) (no : netOk n) (nb : netB n = true) (hk : k < n.links.length) (hl : lv.length = n.nodes.length)
    (h : BtwIn n l (n.links.getD k default) (lv.getD (fromI n k) default) (lv.getD (tillI n k) default) s) : DCalls Tryz.prog 51 [netD n, sectL l, linkD (n.links.getD k default), ints lv, li s, lb on] (hget []) m (.tup [li (flowI n l (n.links.getD k default) (lv.getD (fromI n k) default) (lv.getD (tillI n k) default) s on), li 0]) (hget []) := by
  have c1 := fun m => ends_f n (n.links.getD k default) m no.1.1
  have hf := fromI_lt nb hk
  have ht := tillI_lt nb hk
  have c2 := fun m => between_f' n l (n.links.getD k default) (lv.getD (fromI n k) default) (lv.getD (tillI n k) default) s on m h
  rw [hf.2, ht.2] at c1
  have f1 : fromI n k < lv.length := by omega
  have t1 : tillI n k < lv.length := by omega
  generalize flowI n l (n.links.getD k default) (lv.getD (fromI n k) default) (lv.getD (tillI n k) default) s on = q at *
  generalize n.links.getD k default = x at *
  generalize fromI n k = a at *
  generalize tillI n k = b at *
  (have := Nonempty.intro f1)
  (have := Nonempty.intro t1)
  clear h hf ht
  refine pureC (n := 38) (rs := [.tmp 12, .tmp 13]) (ts := [3, 30]) Tryz.func51 rfl (by decide) [] (by (exact SD)) ?_
  (repeat' (first | refine swp_seq [0, 1, 2, 3, 4, 5, 6, 8, 12, 13, 14, 15] ?_ | refine st2 ?_ | (show CallQ ..; first | refine cQ (fun hcc => (by first | exact c1 _ | exact c2 _)) ?_ | (refine lP ?_; refine lQ (fun hcc m => (by first | exact c1 _ | exact c2 _)) ?_)) | (show XCallQ ..; first | refine xQ (fun hcc => (by first | exact c1 _ | exact c2 _)) ?_ | (refine xlP ?_; refine xlQ (fun hcc m => (by first | exact c1 _ | exact c2 _)) ?_)) | (show Fct ..; refine fctI (fun hf => ?_)) | (show SWp _ _ _ (.cond _ _ _) _ _ _ _; first | refine cB (fun hc => ?_) (fun hc => ?_) | refine cU ?_ ?_)))
  exact DVR
def flowR (n : Net) (l : List Sect) (k : Int) (lv : List Int) (s : Int) (on : Bool) : Int × Int :=
  if netB n && catB l then
    if lvE n lv = 0 then
      if linkedB n k s then
        if knownB l (n.links.getD k.toNat default) then (flowI n l (n.links.getD k.toNat default) (lv.getD (fromI n k.toNat) default) (lv.getD (tillI n k.toNat) default) s.toNat on, 0)
        else (0, 9)
      else (0, 2)
    else (0, lvE n lv)
  else (0, 1)
theorem lvE_0 {n : Net} {lv : List Int} (h : lvE n lv = 0) : lv.length = n.nodes.length ∧ lvA n lv = true := by
  unfold lvE at h
  split at h
  · next e =>
    refine ⟨e, ?_⟩
    cases hb : lvA n lv
    · rw [hb] at h; simp at h
    · rfl
  · simp at h
theorem linkedB_in {n : Net} {k s : Int} (h : linkedB n k s = true) : 0 ≤ k ∧ k < n.links.length ∧ 0 ≤ s ∧ s ≤ 1000 := by
  unfold linkedB at h; simp only [Bool.and_eq_true, decide_eq_true_eq] at h
  have := btwB_in h.2
  omega
set_option maxRecDepth 20000 in
set_option maxHeartbeats 4000000 in
theorem Flow_f (n : Net) (l : List Sect) (k : Int) (lv : List Int) (s : Int) (on : Bool) (m : Nat) (no : netOk n) (co : catOk l) (hl : lv.length ≤ 281474976710656) : DCalls Tryz.prog 13 [netD n, sectL l, li k, ints lv, li s, lb on] (hget []) m (.tup [li (flowR n l k lv s on).1, li (flowR n l k lv s on).2]) (hget []) := by
  have c1 := fun m => netValid_f n m no
  have c2 := fun m => cat_f l m co
  have c3 := fun m => levelled_f n lv m no hl
  have c4 := fun m => lsetting_f s m
  have hll := no.2.1
  unfold flowR
  cases hn : netB n <;> simp only [hn] at c1
  · refine pureC (n := 66) (rs := [.tmp 12, .tmp 13]) (ts := [3, 30]) Tryz.func13 rfl (by decide) [] (by (exact SD)) ?_
    (repeat' (first | refine swp_seq [0, 1, 2, 3, 4, 5, 6, 12, 13, 14, 22, 27, 29, 44] ?_ | refine st2 ?_ | (show CallQ ..; first | refine cQ (fun hcc => (by first | exact c1 _)) ?_ | (refine lP ?_; refine lQ (fun hcc m => (by first | exact c1 _)) ?_)) | (show XCallQ ..; first | refine xQ (fun hcc => (by first | exact c1 _)) ?_ | (refine xlP ?_; refine xlQ (fun hcc m => (by first | exact c1 _)) ?_)) | (show Fct ..; refine fctI (fun hf => ?_)) | (show SWp _ _ _ (.cond _ _ _) _ _ _ _; first | refine cB (fun hc => ?_) (fun hc => ?_) | refine cU ?_ ?_)))
    exact DVR
  cases hc : catB l <;> simp only [hc] at c2
  · refine pureC (n := 66) (rs := [.tmp 12, .tmp 13]) (ts := [3, 30]) Tryz.func13 rfl (by decide) [] (by (exact SD)) ?_
    (repeat' (first | refine swp_seq [0, 1, 2, 3, 4, 5, 6, 12, 13, 14, 22, 27, 29, 44] ?_ | refine st2 ?_ | (show CallQ ..; first | refine cQ (fun hcc => (by first | exact c1 _ | exact c2 _)) ?_ | (refine lP ?_; refine lQ (fun hcc m => (by first | exact c1 _ | exact c2 _)) ?_)) | (show XCallQ ..; first | refine xQ (fun hcc => (by first | exact c1 _ | exact c2 _)) ?_ | (refine xlP ?_; refine xlQ (fun hcc m => (by first | exact c1 _ | exact c2 _)) ?_)) | (show Fct ..; refine fctI (fun hf => ?_)) | (show SWp _ _ _ (.cond _ _ _) _ _ _ _; first | refine cB (fun hc => ?_) (fun hc => ?_) | refine cU ?_ ?_)))
    exact DVR
  rw [if_pos (by rfl)]
  by_cases he : lvE n lv = 0
  · rw [if_pos he]
    rw [he] at c3
    have hlv := lvE_0 he
    unfold linkedB
    by_cases k0 : k < 0
    · (have := Nonempty.intro k0)
      rw [decide_eq_false (show ¬ 0 ≤ k by omega)]
      refine pureC (n := 66) (rs := [.tmp 12, .tmp 13]) (ts := [3, 30]) Tryz.func13 rfl (by decide) [] (by (exact SD)) ?_
      (repeat' (first | refine swp_seq [0, 1, 2, 3, 4, 5, 6, 12, 13, 14, 22, 27, 29, 44] ?_ | refine st2 ?_ | (show CallQ ..; first | refine cQ (fun hcc => (by first | exact c1 _ | exact c2 _ | exact c3 _)) ?_ | (refine lP ?_; refine lQ (fun hcc m => (by first | exact c1 _ | exact c2 _ | exact c3 _)) ?_)) | (show XCallQ ..; first | refine xQ (fun hcc => (by first | exact c1 _ | exact c2 _ | exact c3 _)) ?_ | (refine xlP ?_; refine xlQ (fun hcc m => (by first | exact c1 _ | exact c2 _ | exact c3 _)) ?_)) | (show Fct ..; refine fctI (fun hf => ?_)) | (show SWp _ _ _ (.cond _ _ _) _ _ _ _; first | refine cB (fun hc => ?_) (fun hc => ?_) | refine cU ?_ ?_)))
      exact DVR
    rw [decide_eq_true (show 0 ≤ k by omega)]
    obtain ⟨j, rfl⟩ : ∃ j : Nat, k = (j : Int) := ⟨k.toNat, by omega⟩
    rw [Int.toNat_natCast]
    (have := Nonempty.intro k0)
    by_cases kl : (j : Int) < (n.links.length : Int)
    · have kl2 : ¬ (n.links.length : Int) ≤ (j : Int) := by omega
      have hj : j < n.links.length := by omega
      (have := Nonempty.intro kl2)
      (have := Nonempty.intro hj)
      rw [decide_eq_true kl]
      cases hs : btwB s 0 1000 <;> simp only [hs] at c4
      · refine pureC (n := 66) (rs := [.tmp 12, .tmp 13]) (ts := [3, 30]) Tryz.func13 rfl (by decide) [] (by (exact SD)) ?_
        (repeat' (first | refine swp_seq [0, 1, 2, 3, 4, 5, 6, 12, 13, 14, 22, 27, 29, 44] ?_ | refine st2 ?_ | (show CallQ ..; first | refine cQ (fun hcc => (by first | exact c1 _ | exact c2 _ | exact c3 _ | exact c4 _)) ?_ | (refine lP ?_; refine lQ (fun hcc m => (by first | exact c1 _ | exact c2 _ | exact c3 _ | exact c4 _)) ?_)) | (show XCallQ ..; first | refine xQ (fun hcc => (by first | exact c1 _ | exact c2 _ | exact c3 _ | exact c4 _)) ?_ | (refine xlP ?_; refine xlQ (fun hcc m => (by first | exact c1 _ | exact c2 _ | exact c3 _ | exact c4 _)) ?_)) | (show Fct ..; refine fctI (fun hf => ?_)) | (show SWp _ _ _ (.cond _ _ _) _ _ _ _; first | refine cB (fun hc => ?_) (fun hc => ?_) | refine cU ?_ ?_)))
        exact DVR
      have hs2 := btwB_in hs
      obtain ⟨t, rfl⟩ : ∃ t : Nat, s = (t : Int) := ⟨s.toNat, by omega⟩
      rw [if_pos (by rfl)]
      rw [Int.toNat_natCast]
      have c5 := fun m => known_f l (n.links.getD j default) m co.1
      cases hk : knownB l (n.links.getD j default) <;> simp only [hk] at c5
      · refine pureC (n := 66) (rs := [.tmp 12, .tmp 13]) (ts := [3, 30]) Tryz.func13 rfl (by decide) [] (by (exact SD)) ?_
        (repeat' (first | refine swp_seq [0, 1, 2, 3, 4, 5, 6, 12, 13, 14, 22, 27, 29, 44] ?_ | refine st2 ?_ | (show CallQ ..; first | refine cQ (fun hcc => (by first | exact c1 _ | exact c2 _ | exact c3 _ | exact c4 _ | exact c5 _)) ?_ | (refine lP ?_; refine lQ (fun hcc m => (by first | exact c1 _ | exact c2 _ | exact c3 _ | exact c4 _ | exact c5 _)) ?_)) | (show XCallQ ..; first | refine xQ (fun hcc => (by first | exact c1 _ | exact c2 _ | exact c3 _ | exact c4 _ | exact c5 _)) ?_ | (refine xlP ?_; refine xlQ (fun hcc m => (by first | exact c1 _ | exact c2 _ | exact c3 _ | exact c4 _ | exact c5 _)) ?_)) | (show Fct ..; refine fctI (fun hf => ?_)) | (show SWp _ _ _ (.cond _ _ _) _ _ _ _; first | refine cB (fun hc => ?_) (fun hc => ?_) | refine cU ?_ ?_)))
        exact DVR
      have hf := fromI_lt hn hj
      have ht := tillI_lt hn hj
      have c6 := fun m => at_f n l j lv t on m no hn hj hlv.1 (btwIn_of no co hn hc hj hk (by omega) (by have := lvA_in hlv.2 hf.1; unfold btwB; simp; exact this) (by have := lvA_in hlv.2 ht.1; unfold btwB; simp; exact this))
      generalize flowI n l (n.links.getD j default) (lv.getD (fromI n j) default) (lv.getD (tillI n j) default) t on = q at *
      clear hf ht hlv
      refine pureC (n := 66) (rs := [.tmp 12, .tmp 13]) (ts := [3, 30]) Tryz.func13 rfl (by decide) [] (by (exact SD)) ?_
      (repeat' (first | refine swp_seq [0, 1, 2, 3, 4, 5, 6, 12, 13, 14, 22, 27, 29, 44] ?_ | refine st2 ?_ | (show CallQ ..; first | refine cQ (fun hcc => (by first | exact c1 _ | exact c2 _ | exact c3 _ | exact c4 _ | exact c5 _ | exact c6 _)) ?_ | (refine lP ?_; refine lQ (fun hcc m => (by first | exact c1 _ | exact c2 _ | exact c3 _ | exact c4 _ | exact c5 _ | exact c6 _)) ?_)) | (show XCallQ ..; first | refine xQ (fun hcc => (by first | exact c1 _ | exact c2 _ | exact c3 _ | exact c4 _ | exact c5 _ | exact c6 _)) ?_ | (refine xlP ?_; refine xlQ (fun hcc m => (by first | exact c1 _ | exact c2 _ | exact c3 _ | exact c4 _ | exact c5 _ | exact c6 _)) ?_)) | (show Fct ..; refine fctI (fun hf => ?_)) | (show SWp _ _ _ (.cond _ _ _) _ _ _ _; first | refine cB (fun hc => ?_) (fun hc => ?_) | refine cU ?_ ?_)))
      exact DVR
    · have kl2 : (n.links.length : Int) ≤ (j : Int) := by omega
      (have := Nonempty.intro kl2)
      rw [decide_eq_false kl]
      refine pureC (n := 66) (rs := [.tmp 12, .tmp 13]) (ts := [3, 30]) Tryz.func13 rfl (by decide) [] (by (exact SD)) ?_
      (repeat' (first | refine swp_seq [0, 1, 2, 3, 4, 5, 6, 12, 13, 14, 22, 27, 29, 44] ?_ | refine st2 ?_ | (show CallQ ..; first | refine cQ (fun hcc => (by first | exact c1 _ | exact c2 _ | exact c3 _)) ?_ | (refine lP ?_; refine lQ (fun hcc m => (by first | exact c1 _ | exact c2 _ | exact c3 _)) ?_)) | (show XCallQ ..; first | refine xQ (fun hcc => (by first | exact c1 _ | exact c2 _ | exact c3 _)) ?_ | (refine xlP ?_; refine xlQ (fun hcc m => (by first | exact c1 _ | exact c2 _ | exact c3 _)) ?_)) | (show Fct ..; refine fctI (fun hf => ?_)) | (show SWp _ _ _ (.cond _ _ _) _ _ _ _; first | refine cB (fun hc => ?_) (fun hc => ?_) | refine cU ?_ ?_)))
      exact DVR
  · rw [if_neg he]
    generalize lvE n lv = e at *
    (have := Nonempty.intro he)
    refine pureC (n := 66) (rs := [.tmp 12, .tmp 13]) (ts := [3, 30]) Tryz.func13 rfl (by decide) [] (by (exact SD)) ?_
    (repeat' (first | refine swp_seq [0, 1, 2, 3, 4, 5, 6, 12, 13, 14, 22, 27, 29, 44] ?_ | refine st2 ?_ | (show CallQ ..; first | refine cQ (fun hcc => (by first | exact c1 _ | exact c2 _ | exact c3 _)) ?_ | (refine lP ?_; refine lQ (fun hcc m => (by first | exact c1 _ | exact c2 _ | exact c3 _)) ?_)) | (show XCallQ ..; first | refine xQ (fun hcc => (by first | exact c1 _ | exact c2 _ | exact c3 _)) ?_ | (refine xlP ?_; refine xlQ (fun hcc m => (by first | exact c1 _ | exact c2 _ | exact c3 _)) ?_)) | (show Fct ..; refine fctI (fun hf => ?_)) | (show SWp _ _ _ (.cond _ _ _) _ _ _ _; first | refine cB (fun hc => ?_) (fun hc => ?_) | refine cU ?_ ?_)))
    exact DVR
theorem ends34_f (n : Net) (k : Nat) (m : Nat) (no : netOk n) (nb : netB n = true) (hk : k < n.links.length) : DCalls Tryz.prog 20 [netD n, li k] (hget []) m (.tup [li (fromI n k), li (tillI n k)]) (hget []) := by
  have hf := fromI_lt nb hk
  have ht := tillI_lt nb hk
  have c1 := fun m => rFindNode_f n (n.links.getD k default).fro m no.1.1
  have c2 := fun m => rFindNode_f n (n.links.getD k default).til m no.1.1
  rw [hf.2] at c1
  rw [ht.2] at c2
  generalize fromI n k = a at *
  generalize tillI n k = b at *
  (have := Nonempty.intro hk)
  refine pureC (n := 22) (rs := [.tmp 4, .tmp 5]) (ts := [3, 3]) Tryz.func20 rfl (by decide) [] (by (exact SD)) ?_
  (repeat' (first | refine swp_seq [0, 1, 2, 4, 5] ?_ | refine st2 ?_ | (show CallQ ..; first | refine cQ (fun hcc => (by first | exact c1 _ | exact c2 _)) ?_ | (refine lP ?_; refine lQ (fun hcc m => (by first | exact c1 _ | exact c2 _)) ?_)) | (show XCallQ ..; first | refine xQ (fun hcc => (by first | exact c1 _ | exact c2 _)) ?_ | (refine xlP ?_; refine xlQ (fun hcc m => (by first | exact c1 _ | exact c2 _)) ?_)) | (show Fct ..; refine fctI (fun hf => ?_)) | (show SWp _ _ _ (.cond _ _ _) _ _ _ _; first | refine cB (fun hc => ?_) (fun hc => ?_) | refine cU ?_ ?_)))
  exact DVR
theorem given34_f (n : Net) (l : List Sect) (lv : List Int) (m : Nat) (no : netOk n) (co : catOk l) : DCalls Tryz.prog 52 [netD n, sectL l, ints lv] (hget []) m (li (if netB n && catB l then (if lv.length = n.nodes.length then 0 else 3) else 1)) (hget []) := by
  have c1 := fun m => rNetValid_f n m no
  have c2 := fun m => rCat_f l m co
  have hn1 := no.1.1
  cases hn : netB n <;> simp only [hn] at c1
  · refine pureC (n := 21) (rs := [.tmp 6]) (ts := [3]) Tryz.func52 rfl (by decide) [] (by (exact SD)) ?_
    (repeat' (first | refine swp_seq [0, 1, 2, 3, 6, 14, 20] ?_ | refine st2 ?_ | (show CallQ ..; first | refine cQ (fun hcc => (by first | exact c1 _)) ?_ | (refine lP ?_; refine lQ (fun hcc m => (by first | exact c1 _)) ?_)) | (show Fct ..; refine fctI (fun hf => ?_)) | (show SWp _ _ _ (.cond _ _ _) _ _ _ _; first | refine cB (fun hc => ?_) (fun hc => ?_) | refine cU ?_ ?_)))
    exact DVR
  cases hc : catB l <;> simp only [hc] at c2
  · refine pureC (n := 21) (rs := [.tmp 6]) (ts := [3]) Tryz.func52 rfl (by decide) [] (by (exact SD)) ?_
    (repeat' (first | refine swp_seq [0, 1, 2, 3, 6, 14, 20] ?_ | refine st2 ?_ | (show CallQ ..; first | refine cQ (fun hcc => (by first | exact c1 _ | exact c2 _)) ?_ | (refine lP ?_; refine lQ (fun hcc m => (by first | exact c1 _ | exact c2 _)) ?_)) | (show Fct ..; refine fctI (fun hf => ?_)) | (show SWp _ _ _ (.cond _ _ _) _ _ _ _; first | refine cB (fun hc => ?_) (fun hc => ?_) | refine cU ?_ ?_)))
    exact DVR
  rw [if_pos (by rfl)]
  by_cases he : (lv.length : Int) = (n.nodes.length : Int)
  · (have := Nonempty.intro he)
    rw [if_pos (by omega)]
    refine pureC (n := 21) (rs := [.tmp 6]) (ts := [3]) Tryz.func52 rfl (by decide) [] (by (exact SD)) ?_
    (repeat' (first | refine swp_seq [0, 1, 2, 3, 6, 14, 20] ?_ | refine st2 ?_ | (show CallQ ..; first | refine cQ (fun hcc => (by first | exact c1 _ | exact c2 _)) ?_ | (refine lP ?_; refine lQ (fun hcc m => (by first | exact c1 _ | exact c2 _)) ?_)) | (show Fct ..; refine fctI (fun hf => ?_)) | (show SWp _ _ _ (.cond _ _ _) _ _ _ _; first | refine cB (fun hc => ?_) (fun hc => ?_) | refine cU ?_ ?_)))
    exact DVR
  · (have := Nonempty.intro he)
    rw [if_neg (by omega)]
    refine pureC (n := 21) (rs := [.tmp 6]) (ts := [3]) Tryz.func52 rfl (by decide) [] (by (exact SD)) ?_
    (repeat' (first | refine swp_seq [0, 1, 2, 3, 6, 14, 20] ?_ | refine st2 ?_ | (show CallQ ..; first | refine cQ (fun hcc => (by first | exact c1 _ | exact c2 _)) ?_ | (refine lP ?_; refine lQ (fun hcc m => (by first | exact c1 _ | exact c2 _)) ?_)) | (show Fct ..; refine fctI (fun hf => ?_)) | (show SWp _ _ _ (.cond _ _ _) _ _ _ _; first | refine cB (fun hc => ?_) (fun hc => ?_) | refine cU ?_ ?_)))
    exact DVR
set_option maxRecDepth 20000 in
set_option maxHeartbeats 4000000 in
theorem rFlow_f (n : Net) (l : List Sect) (k : Int) (lv : List Int) (s : Int) (on : Bool) (m : Nat) (no : netOk n) (co : catOk l) : DCalls Tryz.prog 14 [netD n, sectL l, li k, ints lv, li s, lb on] (hget []) m (.tup [li (flowR n l k lv s on).1, li (flowR n l k lv s on).2]) (hget []) := by
  have c1 := fun m => given34_f n l lv m no co
  have c2 := fun m => linked_f n k s m
  have hll := no.2.1
  unfold flowR
  cases hn : (netB n && catB l) <;> simp only [hn] at c1
  · refine pureC (n := 63) (rs := [.tmp 12, .tmp 13]) (ts := [3, 3]) Tryz.func14 rfl (by decide) [] (by (exact SD)) ?_
    (repeat' (first | refine swp_seq [0, 1, 2, 3, 4, 5, 6, 12, 13, 14, 15, 16, 22, 34, 42] ?_ | refine st2 ?_ | (show CallQ ..; first | refine cQ (fun hcc => (by first | exact c1 _)) ?_ | (refine lP ?_; refine lQ (fun hcc m => (by first | exact c1 _)) ?_)) | (show XCallQ ..; first | refine xQ (fun hcc => (by first | exact c1 _)) ?_ | (refine xlP ?_; refine xlQ (fun hcc m => (by first | exact c1 _)) ?_)) | (show Fct ..; refine fctI (fun hf => ?_)) | (show SWp _ _ _ (.cond _ _ _) _ _ _ _; first | refine cB (fun hc => ?_) (fun hc => ?_) | refine cU ?_ ?_)))
    exact DVR
  rw [if_pos (by rfl)]
  rw [if_pos trivial] at c1
  by_cases hl : lv.length = n.nodes.length
  · rw [if_pos hl] at c1
    have c3 := fun m => rLevelled_f n lv m no hl
    have e1 : lvE n lv = if lvA n lv then 0 else 2 := by unfold lvE; rw [if_pos hl]
    rw [e1]
    cases hk : linkedB n k s <;> simp only [hk] at c2
    · have e2 : (if (if lvA n lv = true then (0 : Int) else 2) = 0 then (if false = true then (if knownB l (n.links.getD k.toNat default) = true then (flowI n l (n.links.getD k.toNat default) (lv.getD (fromI n k.toNat) default) (lv.getD (tillI n k.toNat) default) s.toNat on, (0 : Int)) else (0, 9)) else (0, 2)) else (0, if lvA n lv = true then (0 : Int) else 2)) = ((0 : Int), (2 : Int)) := by cases lvA n lv <;> rfl
      rw [e2]
      refine pureC (n := 63) (rs := [.tmp 12, .tmp 13]) (ts := [3, 3]) Tryz.func14 rfl (by decide) [] (by (exact SD)) ?_
      (repeat' (first | refine swp_seq [0, 1, 2, 3, 4, 5, 6, 12, 13, 14, 15, 16, 22, 34, 42] ?_ | refine st2 ?_ | (show CallQ ..; first | refine cQ (fun hcc => (by first | exact c1 _ | exact c2 _)) ?_ | (refine lP ?_; refine lQ (fun hcc m => (by first | exact c1 _ | exact c2 _)) ?_)) | (show XCallQ ..; first | refine xQ (fun hcc => (by first | exact c1 _ | exact c2 _)) ?_ | (refine xlP ?_; refine xlQ (fun hcc m => (by first | exact c1 _ | exact c2 _)) ?_)) | (show Fct ..; refine fctI (fun hf => ?_)) | (show SWp _ _ _ (.cond _ _ _) _ _ _ _; first | refine cB (fun hc => ?_) (fun hc => ?_) | refine cU ?_ ?_)))
      exact DVR
    cases ha : lvA n lv <;> simp only [ha] at c3
    · refine pureC (n := 63) (rs := [.tmp 12, .tmp 13]) (ts := [3, 3]) Tryz.func14 rfl (by decide) [] (by (exact SD)) ?_
      (repeat' (first | refine swp_seq [0, 1, 2, 3, 4, 5, 6, 12, 13, 14, 15, 16, 22, 34, 42] ?_ | refine st2 ?_ | (show CallQ ..; first | refine cQ (fun hcc => (by first | exact c1 _ | exact c2 _ | exact c3 _)) ?_ | (refine lP ?_; refine lQ (fun hcc m => (by first | exact c1 _ | exact c2 _ | exact c3 _)) ?_)) | (show XCallQ ..; first | refine xQ (fun hcc => (by first | exact c1 _ | exact c2 _ | exact c3 _)) ?_ | (refine xlP ?_; refine xlQ (fun hcc m => (by first | exact c1 _ | exact c2 _ | exact c3 _)) ?_)) | (show Fct ..; refine fctI (fun hf => ?_)) | (show SWp _ _ _ (.cond _ _ _) _ _ _ _; first | refine cB (fun hc => ?_) (fun hc => ?_) | refine cU ?_ ?_)))
      exact DVR
    have hki := linkedB_in hk
    obtain ⟨j, rfl⟩ : ∃ j : Nat, k = (j : Int) := ⟨k.toNat, by omega⟩
    obtain ⟨t, rfl⟩ : ∃ t : Nat, s = (t : Int) := ⟨s.toNat, by omega⟩
    rw [Int.toNat_natCast, Int.toNat_natCast]
    have hj : j < n.links.length := by omega
    have c5 := fun m => named_f l (n.links.getD j default) m co.1
    (have := Nonempty.intro hj)
    simp only [if_true]
    have hn2 := hn
    simp only [Bool.and_eq_true] at hn2
    cases hkn : knownB l (n.links.getD j default) <;> simp only [hkn] at c5
    · refine pureC (n := 63) (rs := [.tmp 12, .tmp 13]) (ts := [3, 3]) Tryz.func14 rfl (by decide) [] (by (exact SD)) ?_
      (repeat' (first | refine swp_seq [0, 1, 2, 3, 4, 5, 6, 12, 13, 14, 15, 16, 22, 34, 42] ?_ | refine st2 ?_ | (show CallQ ..; first | refine cQ (fun hcc => (by first | exact c1 _ | exact c2 _ | exact c3 _ | exact c5 _)) ?_ | (refine lP ?_; refine lQ (fun hcc m => (by first | exact c1 _ | exact c2 _ | exact c3 _ | exact c5 _)) ?_)) | (show XCallQ ..; first | refine xQ (fun hcc => (by first | exact c1 _ | exact c2 _ | exact c3 _ | exact c5 _)) ?_ | (refine xlP ?_; refine xlQ (fun hcc m => (by first | exact c1 _ | exact c2 _ | exact c3 _ | exact c5 _)) ?_)) | (show Fct ..; refine fctI (fun hf => ?_)) | (show SWp _ _ _ (.cond _ _ _) _ _ _ _; first | refine cB (fun hc => ?_) (fun hc => ?_) | refine cU ?_ ?_)))
      exact DVR
    have hf := fromI_lt hn2.1 hj
    have ht := tillI_lt hn2.1 hj
    have c6 := fun m => ends34_f n j m no hn2.1 hj
    have c7 := fun m => rBetween_f n l j (lv.getD (fromI n j) default) (lv.getD (tillI n j) default) t on m hj (btwIn_of no co hn2.1 hn2.2 hj hkn (by omega) (by have := lvA_in ha hf.1; unfold btwB; simp; exact this) (by have := lvA_in ha ht.1; unfold btwB; simp; exact this))
    generalize flowI n l (n.links.getD j default) (lv.getD (fromI n j) default) (lv.getD (tillI n j) default) t on = q at *
    have f1 : fromI n j < lv.length := by omega
    have t1 : tillI n j < lv.length := by omega
    generalize fromI n j = a at *
    generalize tillI n j = b at *
    (have := Nonempty.intro f1)
    (have := Nonempty.intro t1)
    clear hf ht hn2
    refine pureC (n := 63) (rs := [.tmp 12, .tmp 13]) (ts := [3, 3]) Tryz.func14 rfl (by decide) [] (by (exact SD)) ?_
    (repeat' (first | refine swp_seq [0, 1, 2, 3, 4, 5, 6, 12, 13, 14, 15, 16, 22, 34, 42] ?_ | refine st2 ?_ | (show CallQ ..; first | refine cQ (fun hcc => (by first | exact c1 _ | exact c2 _ | exact c3 _ | exact c5 _ | exact c6 _ | exact c7 _)) ?_ | (refine lP ?_; refine lQ (fun hcc m => (by first | exact c1 _ | exact c2 _ | exact c3 _ | exact c5 _ | exact c6 _ | exact c7 _)) ?_)) | (show XCallQ ..; first | refine xQ (fun hcc => (by first | exact c1 _ | exact c2 _ | exact c3 _ | exact c5 _ | exact c6 _ | exact c7 _)) ?_ | (refine xlP ?_; refine xlQ (fun hcc m => (by first | exact c1 _ | exact c2 _ | exact c3 _ | exact c5 _ | exact c6 _ | exact c7 _)) ?_)) | (show Fct ..; refine fctI (fun hf => ?_)) | (show SWp _ _ _ (.cond _ _ _) _ _ _ _; first | refine cB (fun hc => ?_) (fun hc => ?_) | refine cU ?_ ?_)))
    exact DVR
  · rw [if_neg hl] at c1
    have e1 : lvE n lv = 3 := by unfold lvE; rw [if_neg hl]
    rw [e1]
    refine pureC (n := 63) (rs := [.tmp 12, .tmp 13]) (ts := [3, 3]) Tryz.func14 rfl (by decide) [] (by (exact SD)) ?_
    (repeat' (first | refine swp_seq [0, 1, 2, 3, 4, 5, 6, 12, 13, 14, 15, 16, 22, 34, 42] ?_ | refine st2 ?_ | (show CallQ ..; first | refine cQ (fun hcc => (by first | exact c1 _)) ?_ | (refine lP ?_; refine lQ (fun hcc m => (by first | exact c1 _)) ?_)) | (show XCallQ ..; first | refine xQ (fun hcc => (by first | exact c1 _)) ?_ | (refine xlP ?_; refine xlQ (fun hcc m => (by first | exact c1 _)) ?_)) | (show Fct ..; refine fctI (fun hf => ?_)) | (show SWp _ _ _ (.cond _ _ _) _ _ _ _; first | refine cB (fun hc => ?_) (fun hc => ?_) | refine cU ?_ ?_)))
    exact DVR
class ModOk (a b : Int) (q : outParam Int) : Prop where
  out : a.tmod b = q
theorem mod_ok {a b q : Int} [h : ModOk a b q] : a.tmod b = q := h.out
class UDivOk (a b : Int) (q : outParam Int) : Prop where
  out : IntKind.u64.wrap (a.tdiv b) = q
theorem udiv_ok {a b q : Int} [h : UDivOk a b q] : IntKind.u64.wrap (a.tdiv b) = q := h.out
attribute [push_cast] mod_ok udiv_ok
def wishI (q s : Int) : Int × Int := if q < 0 ∨ 1099511627776 < q ∨ s < 1 ∨ 86400 < s then (0, 2) else (min (q * s) 1125899906842624, 0)
theorem wish_fits {q s : Int} (h1 : 0 ≤ q) (h2 : q ≤ 1099511627776) (h3 : 1 ≤ s) (h4 : s ≤ 86400) : 0 ≤ q * s ∧ q * s ≤ 94997804639846400 :=
  ⟨Int.mul_nonneg h1 (by omega), Int.mul_le_mul h2 h4 (by omega) (by omega)⟩
theorem wish_f (q s : Int) (m : Nat) : DCalls Tryz.prog 15 [li q, li s] (hget []) m (.tup [li (wishI q s).1, li (wishI q s).2]) (hget []) := by
  unfold wishI
  split
  · next h =>
    refine pureC (n := 24) (rs := [.tmp 4, .tmp 5]) (ts := [3, 30]) Tryz.func15 rfl (by decide) [] (by (exact SD)) ?_
    by_cases h1 : q < 0
    · (have := Nonempty.intro h1)
      (repeat' (first | refine swp_seq [0, 1, 4, 5, 19] ?_ | refine st2 ?_ | (show Fct ..; refine fctI (fun hf => ?_)) | (show SWp _ _ _ (.cond _ _ _) _ _ _ _; first | refine cB (fun hc => ?_) (fun hc => ?_) | refine cU ?_ ?_)))
      exact DVR
    (have := Nonempty.intro h1)
    by_cases h2 : 1099511627776 < q
    · (have := Nonempty.intro h2)
      (repeat' (first | refine swp_seq [0, 1, 4, 5, 19] ?_ | refine st2 ?_ | (show Fct ..; refine fctI (fun hf => ?_)) | (show SWp _ _ _ (.cond _ _ _) _ _ _ _; first | refine cB (fun hc => ?_) (fun hc => ?_) | refine cU ?_ ?_)))
      exact DVR
    (have := Nonempty.intro h2)
    by_cases h3 : s < 1
    · (have := Nonempty.intro h3)
      (repeat' (first | refine swp_seq [0, 1, 4, 5, 19] ?_ | refine st2 ?_ | (show Fct ..; refine fctI (fun hf => ?_)) | (show SWp _ _ _ (.cond _ _ _) _ _ _ _; first | refine cB (fun hc => ?_) (fun hc => ?_) | refine cU ?_ ?_)))
      exact DVR
    (have := Nonempty.intro h3)
    have h4 : 86400 < s := by omega
    (have := Nonempty.intro h4)
    (repeat' (first | refine swp_seq [0, 1, 4, 5, 19] ?_ | refine st2 ?_ | (show Fct ..; refine fctI (fun hf => ?_)) | (show SWp _ _ _ (.cond _ _ _) _ _ _ _; first | refine cB (fun hc => ?_) (fun hc => ?_) | refine cU ?_ ?_)))
    exact DVR
  · next h =>
    have h1 : ¬ q < 0 := by omega
    have h2 : ¬ 1099511627776 < q := by omega
    have h3 : ¬ s < 1 := by omega
    have h4 : ¬ 86400 < s := by omega
    (have := Nonempty.intro h1)
    (have := Nonempty.intro h2)
    (have := Nonempty.intro h3)
    (have := Nonempty.intro h4)
    have hw := wish_fits (q := q) (s := s) (by omega) (by omega) (by omega) (by omega)
    have i1 : MulOk q s (q * s) := ⟨i64w (by omega)⟩
    generalize q * s = p at *
    refine pureC (n := 24) (rs := [.tmp 4, .tmp 5]) (ts := [3, 30]) Tryz.func15 rfl (by decide) [] (by (exact SD)) ?_
    (repeat' (first | refine swp_seq [0, 1, 4, 5, 19] ?_ | refine st2 ?_ | (show Fct ..; refine fctI (fun hf => ?_)) | (show SWp _ _ _ (.cond _ _ _) _ _ _ _; first | refine cB (fun hc => ?_) (fun hc => ?_) | refine cU ?_ ?_)))
    exact DVR
theorem rWish_f (q s : Int) (m : Nat) : DCalls Tryz.prog 16 [li q, li s] (hget []) m (.tup [li (wishI q s).1, li (wishI q s).2]) (hget []) := by
  unfold wishI
  split
  · next h =>
    refine pureC (n := 24) (rs := [.tmp 4, .tmp 5]) (ts := [3, 3]) Tryz.func16 rfl (by decide) [] (by (exact SD)) ?_
    by_cases h1 : q < 0
    · (have := Nonempty.intro h1)
      (repeat' (first | refine swp_seq [0, 1, 4, 5, 19] ?_ | refine st2 ?_ | (show Fct ..; refine fctI (fun hf => ?_)) | (show SWp _ _ _ (.cond _ _ _) _ _ _ _; first | refine cB (fun hc => ?_) (fun hc => ?_) | refine cU ?_ ?_)))
      exact DVR
    (have := Nonempty.intro h1)
    by_cases h2 : 1099511627776 < q
    · (have := Nonempty.intro h2)
      (repeat' (first | refine swp_seq [0, 1, 4, 5, 19] ?_ | refine st2 ?_ | (show Fct ..; refine fctI (fun hf => ?_)) | (show SWp _ _ _ (.cond _ _ _) _ _ _ _; first | refine cB (fun hc => ?_) (fun hc => ?_) | refine cU ?_ ?_)))
      exact DVR
    (have := Nonempty.intro h2)
    by_cases h3 : s < 1
    · (have := Nonempty.intro h3)
      (repeat' (first | refine swp_seq [0, 1, 4, 5, 19] ?_ | refine st2 ?_ | (show Fct ..; refine fctI (fun hf => ?_)) | (show SWp _ _ _ (.cond _ _ _) _ _ _ _; first | refine cB (fun hc => ?_) (fun hc => ?_) | refine cU ?_ ?_)))
      exact DVR
    (have := Nonempty.intro h3)
    have h4 : 86400 < s := by omega
    (have := Nonempty.intro h4)
    (repeat' (first | refine swp_seq [0, 1, 4, 5, 19] ?_ | refine st2 ?_ | (show Fct ..; refine fctI (fun hf => ?_)) | (show SWp _ _ _ (.cond _ _ _) _ _ _ _; first | refine cB (fun hc => ?_) (fun hc => ?_) | refine cU ?_ ?_)))
    exact DVR
  · next h =>
    have h1 : ¬ q < 0 := by omega
    have h2 : ¬ 1099511627776 < q := by omega
    have h3 : ¬ s < 1 := by omega
    have h4 : ¬ 86400 < s := by omega
    (have := Nonempty.intro h1)
    (have := Nonempty.intro h2)
    (have := Nonempty.intro h3)
    (have := Nonempty.intro h4)
    have hw := wish_fits (q := q) (s := s) (by omega) (by omega) (by omega) (by omega)
    have i1 : MulOk q s (q * s) := ⟨i64w (by omega)⟩
    generalize q * s = p at *
    rw [show min p 1125899906842624 = min 1125899906842624 p by omega]
    refine pureC (n := 24) (rs := [.tmp 4, .tmp 5]) (ts := [3, 3]) Tryz.func16 rfl (by decide) [] (by (exact SD)) ?_
    (repeat' (first | refine swp_seq [0, 1, 4, 5, 19] ?_ | refine st2 ?_ | (show CallQ ..; first | refine cQ (fun hcc => (least_f _ _ _)) ?_ | (refine lP ?_; refine lQ (fun hcc m => (least_f _ _ _)) ?_)) | (show Fct ..; refine fctI (fun hf => ?_)) | (show SWp _ _ _ (.cond _ _ _) _ _ _ _; first | refine cB (fun hc => ?_) (fun hc => ?_) | refine cU ?_ ?_)))
    exact DVR
theorem ratsize_f (n : Int) (m : Nat) (h : -9223372036854775808 < n ∧ n < 9223372036854775808) : DCalls Tryz.prog 103 [li n] (hget []) m (lu n.natAbs) (hget []) := by
  by_cases h0 : n < 0
  · (have := Nonempty.intro h0)
    have e : IntKind.u64.wrap (0 - (IntKind.u64.wrap n)) = ((n.natAbs : Nat) : Int) := by rw [u64w, u64w]; omega
    refine pureC (n := 10) (rs := [.tmp 2]) (ts := [139]) Tryz.func103 rfl (by decide) [] (by (exact SD)) ?_
    (repeat' (first | refine swp_seq [0, 2, 4] ?_ | refine st2 ?_ | (show Fct ..; refine fctI (fun hf => ?_)) | (show SWp _ _ _ (.cond _ _ _) _ _ _ _; first | refine cB (fun hc => ?_) (fun hc => ?_) | refine cU ?_ ?_)))
    (refine DVQ ?_)
    rw [e]
  · (have := Nonempty.intro h0)
    have e : IntKind.u64.wrap n = ((n.natAbs : Nat) : Int) := by rw [u64w]; omega
    refine pureC (n := 10) (rs := [.tmp 2]) (ts := [139]) Tryz.func103 rfl (by decide) [] (by (exact SD)) ?_
    (repeat' (first | refine swp_seq [0, 2, 4] ?_ | refine st2 ?_ | (show Fct ..; refine fctI (fun hf => ?_)) | (show SWp _ _ _ (.cond _ _ _) _ _ _ _; first | refine cB (fun hc => ?_) (fun hc => ?_) | refine cU ?_ ?_)))
    (refine DVQ ?_)
    rw [e]
theorem mod_nat (a b : Nat) : ModOk (a : Int) (b : Int) ((a % b : Nat) : Int) := ⟨by rw [Int.tmod_eq_emod_of_nonneg (by omega)]; rfl⟩
theorem udiv_nat (a b : Nat) (h : a < 18446744073709551616) : UDivOk (a : Int) (b : Int) ((a / b : Nat) : Int) := ⟨by
  have e : (a : Int) / (b : Int) = ((a / b : Nat) : Int) := (Int.natCast_ediv a b).symm
  rw [Int.tdiv_eq_ediv_of_nonneg (by omega), e]
  have := Nat.div_le_self a b
  generalize a / b = q at *
  exact u64n q (by omega)⟩
set_option maxHeartbeats 1000000 in
theorem common_f (a b : Nat) (m : Nat) : DCalls Tryz.prog 104 [lu a, lu b] (hget []) m (lu (Nat.gcd b a)) (hget []) := by
  refine pureC (n := 12) (rs := [.tmp 4]) (ts := [139]) Tryz.func104 rfl (by decide) [] (by (exact SD)) ?_
  (repeat' (first | refine swp_seq [0, 1, 4, 6] ?_ | refine st2 ?_ | (show Fct ..; refine fctI (fun hf => ?_)) | (show SWp _ _ _ (.cond _ _ _) _ _ _ _; first | refine cB (fun hc => ?_) (fun hc => ?_) | refine cU ?_ ?_)))
  refine loop_swp [0, 1] [] 0 (fun q A H => ∃ x y : Nat, q = y ∧ Nat.gcd y x = Nat.gcd b a ∧ A = [(0, lu x), (1, lu y)] ∧ H = []) (by omega) ?_ ?_ ?_
  · rintro q A H ⟨x, y, g1, g2, rfl, rfl⟩
    exact ⟨by (exact SD), by (exact SD)⟩
  · refine ⟨_, a, b, rfl, rfl, ?_, ?_⟩
    · exact DVR
    · exact DVR
  rintro q A H ⟨x, y, g1, g2, rfl, rfl⟩
  by_cases h0 : (y : Int) = 0
  · obtain rfl : y = 0 := by omega
    rw [Nat.gcd_zero_left] at g2
    rw [← g2]
    (repeat' (first | refine swp_seq [0, 1, 4, 6] ?_ | refine st2 ?_ | (show Fct ..; refine fctI (fun hf => ?_)) | (show SWp _ _ _ (.cond _ _ _) _ _ _ _; first | refine cB (fun hc => ?_) (fun hc => ?_) | refine cU ?_ ?_)))
    exact DVR
  · (have := Nonempty.intro h0)
    have i1 := mod_nat x y
    have hlt := Nat.mod_lt x (show 0 < y by omega)
    rw [Nat.gcd_rec] at g2
    generalize x % y = z at *
    (repeat' (first | refine swp_seq [0, 1, 4, 6] ?_ | refine st2 ?_ | (show Fct ..; refine fctI (fun hf => ?_)) | (show SWp _ _ _ (.cond _ _ _) _ _ _ _; first | refine cB (fun hc => ?_) (fun hc => ?_) | refine cU ?_ ?_)))
    (refine lN [] ?_)
    exact ⟨_, by omega, y, z, rfl, g2, rfl, rfl⟩
def fracN (n : Int) (d : Nat) : Frac := ⟨if n < 0 then 0 - ((n.natAbs / Nat.gcd d n.natAbs : Nat) : Int) else ((n.natAbs / Nat.gcd d n.natAbs : Nat) : Int), ((d / Nat.gcd d n.natAbs : Nat) : Int)⟩
set_option maxRecDepth 20000 in
set_option maxHeartbeats 4000000 in
theorem make_f (n : Int) (d : Nat) (m : Nat) (hn : -16777216 ≤ n ∧ n ≤ 16777216) (hd : 1 ≤ d ∧ d ≤ 16777216) : DCalls Tryz.prog 59 [li n, li d] (hget []) m (.tup [fracD (fracN n d), li 0]) (hget []) := by
  have c1 := fun m => ratsize_f n m (by omega)
  have c2 := fun m => ratsize_f d m (by omega)
  have c3 := fun m => common_f n.natAbs d m
  rw [show ((d : Int)).natAbs = d by omega] at c2
  have hg : 0 < Nat.gcd d n.natAbs := Nat.gcd_pos_of_pos_left _ (by omega)
  obtain ⟨N, hN⟩ : ∃ N, n.natAbs = N := ⟨_, rfl⟩
  unfold fracN
  rw [hN] at c1 c3 hg ⊢
  have i1 := udiv_nat N (Nat.gcd d N) (by omega)
  have i2 := udiv_nat d (Nat.gcd d N) (by omega)
  have l1 := Nat.div_le_self N (Nat.gcd d N)
  have l2 := Nat.div_le_self d (Nat.gcd d N)
  generalize Nat.gcd d N = g at *
  generalize N / g = x at *
  generalize d / g = y at *
  have g0 : ¬ (g : Int) = 0 := by omega
  have d0 : ¬ (d : Int) = 0 := by omega
  have d1 : ¬ (d : Int) < 0 := by omega
  have x1 : ¬ (1073741824 : Int) < (x : Int) := by omega
  have y1 : ¬ (1073741824 : Int) < (y : Int) := by omega
  have x2 : x < 9223372036854775808 := by omega
  have y2 : y < 9223372036854775808 := by omega
  (have := Nonempty.intro g0)
  (have := Nonempty.intro d0)
  (have := Nonempty.intro d1)
  (have := Nonempty.intro x1)
  (have := Nonempty.intro y1)
  (have := Nonempty.intro x2)
  (have := Nonempty.intro y2)
  by_cases hs : n < 0
  · (have := Nonempty.intro hs)
    rw [if_pos hs]
    refine pureC (n := 48) (rs := [.cell 4 43, .tmp 5]) (ts := [43, 30]) Tryz.func59 rfl (by decide) [] (by (exact SD)) ?_
    (repeat' (first | refine swp_seq [0, 1, 4, 5, 6, 7, 8, 9, 11, 31, 42] ?_ | refine st2 ?_ | (show CallQ ..; first | refine cQ (fun hcc => (by first | exact c1 _ | exact c2 _ | exact c3 _)) ?_ | (refine lP ?_; refine lQ (fun hcc m => (by first | exact c1 _ | exact c2 _ | exact c3 _)) ?_)) | (show XCallQ ..; first | refine xQ (fun hcc => (by first | exact c1 _ | exact c2 _ | exact c3 _)) ?_ | (refine xlP ?_; refine xlQ (fun hcc m => (by first | exact c1 _ | exact c2 _ | exact c3 _)) ?_)) | (show Fct ..; refine fctI (fun hf => ?_)) | (show SWp _ _ _ (.cond _ _ _) _ _ _ _; first | refine cB (fun hc => ?_) (fun hc => ?_) | refine cU ?_ ?_)))
    exact DVR
  · (have := Nonempty.intro hs)
    rw [if_neg hs]
    refine pureC (n := 48) (rs := [.cell 4 43, .tmp 5]) (ts := [43, 30]) Tryz.func59 rfl (by decide) [] (by (exact SD)) ?_
    (repeat' (first | refine swp_seq [0, 1, 4, 5, 6, 7, 8, 9, 11, 31, 42] ?_ | refine st2 ?_ | (show CallQ ..; first | refine cQ (fun hcc => (by first | exact c1 _ | exact c2 _ | exact c3 _)) ?_ | (refine lP ?_; refine lQ (fun hcc m => (by first | exact c1 _ | exact c2 _ | exact c3 _)) ?_)) | (show XCallQ ..; first | refine xQ (fun hcc => (by first | exact c1 _ | exact c2 _ | exact c3 _)) ?_ | (refine xlP ?_; refine xlQ (fun hcc m => (by first | exact c1 _ | exact c2 _ | exact c3 _)) ?_)) | (show Fct ..; refine fctI (fun hf => ?_)) | (show SWp _ _ _ (.cond _ _ _) _ _ _ _; first | refine cB (fun hc => ?_) (fun hc => ?_) | refine cU ?_ ?_)))
    exact DVR
theorem mod_neg (a b : Nat) : ModOk (-(a : Int)) (-(b : Int)) (-((a % b : Nat) : Int)) := ⟨by
  rw [Int.tmod_neg, Int.neg_tmod, Int.tmod_eq_emod_of_nonneg (by omega)]; rfl⟩
theorem div_neg1 (a b : Nat) (h : a < 9223372036854775808) : DivOk (a : Int) (-(b : Int)) (-((a / b : Nat) : Int)) := ⟨by
  have e : (a : Int) / (b : Int) = ((a / b : Nat) : Int) := (Int.natCast_ediv a b).symm
  rw [Int.tdiv_neg, Int.tdiv_eq_ediv_of_nonneg (by omega), e]
  have := Nat.div_le_self a b
  generalize a / b = q at *
  exact i64w ⟨by omega, by omega⟩⟩
theorem div_neg2 (a b : Nat) (h : a < 9223372036854775808) : DivOk (-(a : Int)) (-(b : Int)) ((a / b : Nat) : Int) := ⟨by
  have e : (a : Int) / (b : Int) = ((a / b : Nat) : Int) := (Int.natCast_ediv a b).symm
  rw [Int.tdiv_neg, Int.neg_tdiv, Int.neg_neg, Int.tdiv_eq_ediv_of_nonneg (by omega), e]
  have := Nat.div_le_self a b
  generalize a / b = q at *
  exact i64w ⟨by omega, by omega⟩⟩
theorem ok_div {a a2 b b2 q q2 : Int} (h : DivOk a b q) (e1 : a2 = a) (e2 : b2 = b) (e3 : q2 = q) : DivOk a2 b2 q2 := by subst e1 e2 e3; exact h
theorem ok_mod {a a2 b b2 q q2 : Int} (h : ModOk a b q) (e1 : a2 = a) (e2 : b2 = b) (e3 : q2 = q) : ModOk a2 b2 q2 := by subst e1 e2 e3; exact h
set_option maxRecDepth 20000 in
set_option maxHeartbeats 4000000 in
theorem rMake_f (n : Int) (d : Nat) (m : Nat) (hn : -16777216 ≤ n ∧ n ≤ 16777216) (hd : 1 ≤ d ∧ d ≤ 16777216) : DCalls Tryz.prog 61 [li n, li d] (hget []) m (.tup [fracD (fracN n d), li 0]) (hget []) := by
  have d0 : ¬ (d : Int) = 0 := by omega
  have d1 : (0 : Int) < (d : Int) := by omega
  (have := Nonempty.intro d0)
  (have := Nonempty.intro d1)
  obtain ⟨N, hN⟩ : ∃ N, n.natAbs = N := ⟨_, rfl⟩
  have hg : 0 < Nat.gcd d N := Nat.gcd_pos_of_pos_left _ (by omega)
  have l1 := Nat.div_le_self N (Nat.gcd d N)
  have l2 := Nat.div_le_self d (Nat.gcd d N)
  have l3 : 1 ≤ d / Nat.gcd d N := Nat.div_pos (Nat.le_of_dvd (by omega) (Nat.gcd_dvd_left d N)) hg
  have i1 := div_neg1 d (Nat.gcd d N) (by omega)
  have i2 := div_neg1 N (Nat.gcd d N) (by omega)
  have i3 := div_neg2 N (Nat.gcd d N) (by omega)
  have hfin : ∀ x y : Nat, Nat.gcd y x = Nat.gcd d N → (y : Int) = 0 → x = Nat.gcd d N := fun x y h1 h2 => by
    obtain rfl : y = 0 := by omega
    rw [Nat.gcd_zero_left] at h1; exact h1
  unfold fracN
  rw [hN]
  by_cases hs : 0 < n
  · have hs2 : ¬ n < 0 := by omega
    rw [if_neg hs2]
    obtain rfl : n = (N : Int) := by omega
    (have := Nonempty.intro hs)
    refine pureC (n := 59) (rs := [.cell 4 43, .tmp 5]) (ts := [43, 3]) Tryz.func61 rfl (by decide) [] (by (exact SD)) ?_
    (repeat' (first | refine swp_seq [0, 1, 4, 5, 6, 7, 8, 9, 11, 15, 20, 24, 36, 54] ?_ | refine st2 ?_ | (show Fct ..; refine fctI (fun hf => ?_)) | (show SWp _ _ _ (.cond _ _ _) _ _ _ _; first | refine cB (fun hc => ?_) (fun hc => ?_) | refine cU ?_ ?_)))
    refine loop_swp [0, 1, 4, 6, 7] [0] 1 (fun q A H => ∃ x y : Nat, q = y ∧ Nat.gcd y x = Nat.gcd d N ∧ A = [(0, li N), (1, li d), (4, .ptr 0 0), (6, li (0 - (x : Int))), (7, li (0 - (y : Int)))] ∧ H = [(0, .blk 43 [li 0, li 0])]) (by omega) ?_ ?_ ?_
    · rintro q A H ⟨x, y, g1, g2, rfl, rfl⟩
      exact ⟨by (exact SD), by (exact SD)⟩
    · refine ⟨_, N, d, rfl, rfl, ?_, ?_⟩
      · exact DVR
      · exact DVR
    rintro q A H ⟨x, y, g1, g2, rfl, rfl⟩
    by_cases h0 : 0 - (y : Int) = 0
    · obtain rfl := hfin x y g2 (by omega)
      clear hfin g2
      generalize Nat.gcd d N = g at *
      have i4 : DivOk (N : Int) (0 - (g : Int)) (0 - ((N / g : Nat) : Int)) := ok_div i2 rfl (by omega) (by omega)
      have i5 : DivOk (d : Int) (0 - (g : Int)) (0 - ((d / g : Nat) : Int)) := ok_div i1 rfl (by omega) (by omega)
      clear i1 i2 i3
      generalize N / g = a at *
      generalize d / g = b at *
      have a0 : ¬ 0 - (g : Int) = 0 := by omega
      have b0 : 0 - (b : Int) < 0 := by omega
      have e1 : 0 - (0 - (a : Int)) = (a : Int) := by omega
      have e2 : 0 - (0 - (b : Int)) = (b : Int) := by omega
      have f1 : ¬ 0 - (0 - (a : Int)) < -1073741824 := by omega
      have f2 : ¬ 1073741824 < 0 - (0 - (a : Int)) := by omega
      have f3 : ¬ 0 - (0 - (b : Int)) < 1 := by omega
      have f4 : ¬ 1073741824 < 0 - (0 - (b : Int)) := by omega
      (have := Nonempty.intro h0)
      (have := Nonempty.intro a0)
      (have := Nonempty.intro b0)
      (have := Nonempty.intro f1)
      (have := Nonempty.intro f2)
      (have := Nonempty.intro f3)
      (have := Nonempty.intro f4)
      (repeat' (first | refine swp_seq [0, 1, 4, 5, 6, 7, 8, 9, 11, 15, 20, 24, 36, 54] ?_ | refine st2 ?_ | (show Fct ..; refine fctI (fun hf => ?_)) | (show SWp _ _ _ (.cond _ _ _) _ _ _ _; first | refine cB (fun hc => ?_) (fun hc => ?_) | refine cU ?_ ?_)))
      (refine DVQ ?_)
      rw [e1, e2]
      rfl
    · (have := Nonempty.intro h0)
      have i6 : ModOk (0 - (x : Int)) (0 - (y : Int)) (0 - ((x % y : Nat) : Int)) := ok_mod (mod_neg x y) (by omega) (by omega) (by omega)
      have hlt := Nat.mod_lt x (show 0 < y by omega)
      rw [Nat.gcd_rec] at g2
      generalize x % y = z at *
      clear hfin i1 i2 i3
      (repeat' (first | refine swp_seq [0, 1, 4, 5, 6, 7, 8, 9, 11, 15, 20, 24, 36, 54] ?_ | refine st2 ?_ | (show Fct ..; refine fctI (fun hf => ?_)) | (show SWp _ _ _ (.cond _ _ _) _ _ _ _; first | refine cB (fun hc => ?_) (fun hc => ?_) | refine cU ?_ ?_)))
      (refine lN [0] ?_)
      exact ⟨_, by omega, y, z, rfl, g2, rfl, rfl⟩
  · (have := Nonempty.intro hs)
    obtain rfl : n = 0 - (N : Int) := by omega
    refine pureC (n := 59) (rs := [.cell 4 43, .tmp 5]) (ts := [43, 3]) Tryz.func61 rfl (by decide) [] (by (exact SD)) ?_
    (repeat' (first | refine swp_seq [0, 1, 4, 5, 6, 7, 8, 9, 11, 15, 20, 24, 36, 54] ?_ | refine st2 ?_ | (show Fct ..; refine fctI (fun hf => ?_)) | (show SWp _ _ _ (.cond _ _ _) _ _ _ _; first | refine cB (fun hc => ?_) (fun hc => ?_) | refine cU ?_ ?_)))
    refine loop_swp [0, 1, 4, 6, 7] [0] 1 (fun q A H => ∃ x y : Nat, q = y ∧ Nat.gcd y x = Nat.gcd d N ∧ A = [(0, li (0 - (N : Int))), (1, li d), (4, .ptr 0 0), (6, li (0 - (x : Int))), (7, li (0 - (y : Int)))] ∧ H = [(0, .blk 43 [li 0, li 0])]) (by omega) ?_ ?_ ?_
    · rintro q A H ⟨x, y, g1, g2, rfl, rfl⟩
      exact ⟨by (exact SD), by (exact SD)⟩
    · refine ⟨_, N, d, rfl, rfl, ?_, ?_⟩
      · exact DVR
      · exact DVR
    rintro q A H ⟨x, y, g1, g2, rfl, rfl⟩
    by_cases h0 : 0 - (y : Int) = 0
    · obtain rfl := hfin x y g2 (by omega)
      clear hfin g2
      generalize Nat.gcd d N = g at *
      have i4 : DivOk (0 - (N : Int)) (0 - (g : Int)) ((N / g : Nat) : Int) := ok_div i3 (by omega) (by omega) rfl
      have i5 : DivOk (d : Int) (0 - (g : Int)) (0 - ((d / g : Nat) : Int)) := ok_div i1 rfl (by omega) (by omega)
      clear i1 i2 i3
      have hz : (if 0 - (N : Int) < 0 then 0 - ((N / g : Nat) : Int) else ((N / g : Nat) : Int)) = 0 - ((N / g : Nat) : Int) := by
        split
        · rfl
        · obtain rfl : N = 0 := by omega
          rw [Nat.zero_div]; rfl
      rw [hz]
      clear hz
      generalize N / g = a at *
      generalize d / g = b at *
      have a0 : ¬ 0 - (g : Int) = 0 := by omega
      have b0 : 0 - (b : Int) < 0 := by omega
      have e2 : 0 - (0 - (b : Int)) = (b : Int) := by omega
      have f1 : ¬ 0 - (a : Int) < -1073741824 := by omega
      have f2 : ¬ 1073741824 < 0 - (a : Int) := by omega
      have f3 : ¬ 0 - (0 - (b : Int)) < 1 := by omega
      have f4 : ¬ 1073741824 < 0 - (0 - (b : Int)) := by omega
      (have := Nonempty.intro h0)
      (have := Nonempty.intro a0)
      (have := Nonempty.intro b0)
      (have := Nonempty.intro f1)
      (have := Nonempty.intro f2)
      (have := Nonempty.intro f3)
      (have := Nonempty.intro f4)
      (repeat' (first | refine swp_seq [0, 1, 4, 5, 6, 7, 8, 9, 11, 15, 20, 24, 36, 54] ?_ | refine st2 ?_ | (show Fct ..; refine fctI (fun hf => ?_)) | (show SWp _ _ _ (.cond _ _ _) _ _ _ _; first | refine cB (fun hc => ?_) (fun hc => ?_) | refine cU ?_ ?_)))
      (refine DVQ ?_)
      rw [e2]
      rfl
    · (have := Nonempty.intro h0)
      have i6 : ModOk (0 - (x : Int)) (0 - (y : Int)) (0 - ((x % y : Nat) : Int)) := ok_mod (mod_neg x y) (by omega) (by omega) (by omega)
      have hlt := Nat.mod_lt x (show 0 < y by omega)
      rw [Nat.gcd_rec] at g2
      generalize x % y = z at *
      clear hfin i1 i2 i3
      (repeat' (first | refine swp_seq [0, 1, 4, 5, 6, 7, 8, 9, 11, 15, 20, 24, 36, 54] ?_ | refine st2 ?_ | (show Fct ..; refine fctI (fun hf => ?_)) | (show SWp _ _ _ (.cond _ _ _) _ _ _ _; first | refine cB (fun hc => ?_) (fun hc => ?_) | refine cU ?_ ?_)))
      (refine lN [0] ?_)
      exact ⟨_, by omega, y, z, rfl, g2, rfl, rfl⟩
theorem end1_f (s : ByteArray) (m : Nat) : DCalls Tryz.prog 102 [ls s] (hget []) m (nodeD (endA s)) (hget []) := by
  refine pureC (n := 8) (rs := [.cell 2 55]) (ts := [55]) Tryz.func102 rfl (by decide) [32] (by (exact SD)) ?_
  (repeat' (first | refine swp_seq [0, 2] ?_ | refine st2 ?_ | (show Fct ..; refine fctI (fun hf => ?_)) | (show SWp _ _ _ (.cond _ _ _) _ _ _ _; first | refine cB (fun hc => ?_) (fun hc => ?_) | refine cU ?_ ?_)))
  exact DVR
set_option maxRecDepth 20000 in
set_option maxHeartbeats 4000000 in
theorem lright_f (x : Link) (m : Nat) (hx : linkOk x) : DCalls Tryz.prog 58 [linkD x] (hget []) m (lb (linkR x)) (hget []) := by
  have c1 := fun m => netValid_f ⟨[endA x.fro, endA x.til], [x]⟩ m (pair_ok (endA_ok hx.2.1) (endA_ok hx.2.2.1) hx)
  rw [netB_ends (a := endA x.fro) (b := endA x.til) rfl rfl (endA_R _) (endA_R _) (show ¬ (1 : Int) = 3 by decide)] at c1
  refine pureC (n := 17) (rs := [.tmp 2]) (ts := [4]) Tryz.func58 rfl (by decide) [] (by (exact SD)) ?_
  (repeat' (first | refine swp_seq [0, 1, 2, 3] ?_ | (show SWp _ _ _ (.region _ _ true) _ _ _ _; refine xG mixed [88, 104] ?_) | refine st2 ?_ | (show CallQ ..; first | refine cQ (fun hcc => (end1_f _ _)) ?_ | (refine lP ?_; refine lQ (fun hcc m => (end1_f _ _)) ?_)) | (show XCallQ ..; first | refine xQ (fun hcc => (end1_f _ _)) ?_ | (refine xlP ?_; refine xlQ (fun hcc m => (end1_f _ _)) ?_)) | (show Fct ..; refine fctI (fun hf => ?_)) | (show SWp _ _ _ (.cond _ _ _) _ _ _ _; first | refine cB (fun hc => ?_) (fun hc => ?_) | refine cU ?_ ?_)))
  refine xQT [88, 104] (fun hcc => give_net (nodeP (endA x.fro)) (nodeP (endA x.til)) x (c1 2)) ?_ (hC := fun _ _ => Nat.zero_le _) (hCn := by intro i hi; simp only [List.map_cons, List.map_nil, List.mem_cons, List.not_mem_nil, or_false] at hi; rcases hi with rfl | rfl <;> rfl)
  (repeat' (first | refine swp_seq [0, 1, 2, 3] ?_ | (show SWp _ _ _ (.region _ _ true) _ _ _ _; refine xG mixed [88, 104] ?_) | refine st2 ?_ | (show Fct ..; refine fctI (fun hf => ?_)) | (show SWp _ _ _ (.cond _ _ _) _ _ _ _; first | refine cB (fun hc => ?_) (fun hc => ?_) | refine cU ?_ ?_)))
  exact DVR
def slopeI (x : Link) : Frac × Int := if linkR x then (if x.kind = 1 then (fracN (x.up - x.down) x.length.toNat, 0) else (⟨0, 0⟩, 11)) else (⟨0, 0⟩, 1)
set_option maxHeartbeats 1000000 in
theorem slope34_f (x : Link) (m : Nat) (hx : linkOk x) : DCalls Tryz.prog 17 [linkD x] (hget []) m (.tup [fracD (slopeI x).1, li (slopeI x).2]) (hget []) := by
  have c1 := fun m => lright_f x m hx
  unfold slopeI
  cases hr : linkR x <;> simp only [hr] at c1
  · refine pureC (n := 24) (rs := [.cell 2 43, .tmp 3]) (ts := [43, 30]) Tryz.func17 rfl (by decide) [] (by (exact SD)) ?_
    (repeat' (first | refine swp_seq [0, 1, 2, 3, 4, 9] ?_ | refine st2 ?_ | (show CallQ ..; first | refine cQ (fun hcc => (by first | exact c1 _)) ?_ | (refine lP ?_; refine lQ (fun hcc m => (by first | exact c1 _)) ?_)) | (show Fct ..; refine fctI (fun hf => ?_)) | (show SWp _ _ _ (.cond _ _ _) _ _ _ _; first | refine cB (fun hc => ?_) (fun hc => ?_) | refine cU ?_ ?_)))
    exact DVR
  rw [if_pos (by rfl)]
  by_cases k : x.kind = 1
  · (have := Nonempty.intro k)
    rw [if_pos k]
    have hin := linkR_in hr
    have a1 := lev_in hin.2.2.2.2.1
    have a2 := lev_in hin.2.2.2.2.2.1
    have a3 := kind1_in hr k
    have c2 := fun m => make_f (x.up - x.down) x.length.toNat m (by omega) (by omega)
    rw [show ((x.length.toNat : Nat) : Int) = x.length by omega] at c2
    generalize fracN (x.up - x.down) x.length.toNat = q at *
    refine pureC (n := 24) (rs := [.cell 2 43, .tmp 3]) (ts := [43, 30]) Tryz.func17 rfl (by decide) [] (by (exact SD)) ?_
    (repeat' (first | refine swp_seq [0, 1, 2, 3, 4, 9] ?_ | refine st2 ?_ | (show CallQ ..; first | refine cQ (fun hcc => (by first | exact c1 _ | exact c2 _)) ?_ | (refine lP ?_; refine lQ (fun hcc m => (by first | exact c1 _ | exact c2 _)) ?_)) | (show Fct ..; refine fctI (fun hf => ?_)) | (show SWp _ _ _ (.cond _ _ _) _ _ _ _; first | refine cB (fun hc => ?_) (fun hc => ?_) | refine cU ?_ ?_)))
    exact DVR
  · (have := Nonempty.intro k)
    rw [if_neg k]
    refine pureC (n := 24) (rs := [.cell 2 43, .tmp 3]) (ts := [43, 30]) Tryz.func17 rfl (by decide) [] (by (exact SD)) ?_
    (repeat' (first | refine swp_seq [0, 1, 2, 3, 4, 9] ?_ | refine st2 ?_ | (show CallQ ..; first | refine cQ (fun hcc => (by first | exact c1 _)) ?_ | (refine lP ?_; refine lQ (fun hcc m => (by first | exact c1 _)) ?_)) | (show Fct ..; refine fctI (fun hf => ?_)) | (show SWp _ _ _ (.cond _ _ _) _ _ _ _; first | refine cB (fun hc => ?_) (fun hc => ?_) | refine cU ?_ ?_)))
    exact DVR
set_option maxHeartbeats 1000000 in
theorem rSlope34_f (x : Link) (m : Nat) (hx : linkOk x) : DCalls Tryz.prog 18 [linkD x] (hget []) m (.tup [fracD (slopeI x).1, li (slopeI x).2]) (hget []) := by
  have c1 := fun m => rRightLink_f x m hx
  unfold slopeI
  cases hr : linkR x <;> simp only [hr] at c1
  · refine pureC (n := 22) (rs := [.cell 2 43, .tmp 3]) (ts := [43, 3]) Tryz.func18 rfl (by decide) [] (by (exact SD)) ?_
    (repeat' (first | refine swp_seq [0, 1, 2, 3, 6, 10] ?_ | refine st2 ?_ | (show CallQ ..; first | refine cQ (fun hcc => (by first | exact c1 _)) ?_ | (refine lP ?_; refine lQ (fun hcc m => (by first | exact c1 _)) ?_)) | (show Fct ..; refine fctI (fun hf => ?_)) | (show SWp _ _ _ (.cond _ _ _) _ _ _ _; first | refine cB (fun hc => ?_) (fun hc => ?_) | refine cU ?_ ?_)))
    exact DVR
  rw [if_pos (by rfl)]
  by_cases k : x.kind = 1
  · (have := Nonempty.intro k)
    rw [if_pos k]
    have hin := linkR_in hr
    have a1 := lev_in hin.2.2.2.2.1
    have a2 := lev_in hin.2.2.2.2.2.1
    have a3 := kind1_in hr k
    have c2 := fun m => rMake_f (x.up - x.down) x.length.toNat m (by omega) (by omega)
    rw [show ((x.length.toNat : Nat) : Int) = x.length by omega] at c2
    generalize fracN (x.up - x.down) x.length.toNat = q at *
    refine pureC (n := 22) (rs := [.cell 2 43, .tmp 3]) (ts := [43, 3]) Tryz.func18 rfl (by decide) [] (by (exact SD)) ?_
    (repeat' (first | refine swp_seq [0, 1, 2, 3, 6, 10] ?_ | refine st2 ?_ | (show CallQ ..; first | refine cQ (fun hcc => (by first | exact c1 _ | exact c2 _)) ?_ | (refine lP ?_; refine lQ (fun hcc m => (by first | exact c1 _ | exact c2 _)) ?_)) | (show Fct ..; refine fctI (fun hf => ?_)) | (show SWp _ _ _ (.cond _ _ _) _ _ _ _; first | refine cB (fun hc => ?_) (fun hc => ?_) | refine cU ?_ ?_)))
    exact DVR
  · (have := Nonempty.intro k)
    rw [if_neg k]
    refine pureC (n := 22) (rs := [.cell 2 43, .tmp 3]) (ts := [43, 3]) Tryz.func18 rfl (by decide) [] (by (exact SD)) ?_
    (repeat' (first | refine swp_seq [0, 1, 2, 3, 6, 10] ?_ | refine st2 ?_ | (show CallQ ..; first | refine cQ (fun hcc => (by first | exact c1 _)) ?_ | (refine lP ?_; refine lQ (fun hcc m => (by first | exact c1 _)) ?_)) | (show Fct ..; refine fctI (fun hf => ?_)) | (show SWp _ _ _ (.cond _ _ _) _ _ _ _; first | refine cB (fun hc => ?_) (fun hc => ?_) | refine cU ?_ ?_)))
    exact DVR
abbrev exA : Node := ⟨⟨#[97]⟩, 1, ⟨0, 0⟩, 1000, 3000, [⟨0, 0⟩, ⟨2000, 4000000⟩], false, 0⟩
abbrev exO : Node := ⟨⟨#[111]⟩, 3, ⟨0, 0⟩, 800, 900, [], false, 0⟩
abbrev exW : Link := ⟨⟨#[119]⟩, ⟨#[97]⟩, ⟨#[111]⟩, 2, 0, 1500, 0, ⟨#[]⟩, 1000, 0, []⟩
abbrev exN : Net := ⟨[exA, exO], [exW]⟩
def exOP : List PV := [.lit (.string ⟨#[111]⟩), .lit (.int .i64 3), .lit (.int .i64 0), .lit (.int .i64 0), .lit (.int .i64 800), .lit (.int .i64 900), .lit (.slice none 0 0), .lit (.bool false), .lit (.int .i64 0)]
def exWP : List PV := [.lit (.string ⟨#[119]⟩), .lit (.string ⟨#[97]⟩), .lit (.string ⟨#[111]⟩), .lit (.int .i64 2), .lit (.int .i64 0), .lit (.int .i64 1500), .lit (.int .i64 0), .lit (.string ⟨#[]⟩), .lit (.int .i64 1000), .lit (.int .i64 0), .lit (.slice none 0 0)]
theorem ex_rows : PLeL [.dat 9 [nodeP exA, exOP], .dat 11 [exWP]] [.dat 9 [nodeP exA, nodeP exO], .dat 11 [linkP exW]] :=
  .cons (PLe.rows (.cons (PLeL.same _) rfl (.cons (.cons PLe.rfl (.cons PLe.rfl (.cons PLe.rfl (.cons PLe.rfl (.cons PLe.rfl (.cons PLe.rfl (.cons (PLe.nil 2) (.cons PLe.rfl (.cons PLe.rfl .nil))))))))) rfl .nil)))
    (.cons (PLe.rows (.cons (.cons PLe.rfl (.cons PLe.rfl (.cons PLe.rfl (.cons PLe.rfl (.cons PLe.rfl (.cons PLe.rfl (.cons PLe.rfl (.cons PLe.rfl (.cons PLe.rfl (.cons PLe.rfl (.cons (PLe.nil 2) .nil))))))))))) rfl .nil)) .nil)
set_option maxRecDepth 20000 in
theorem example_f (m : Nat) : DCalls Tryz.prog 39 [] (hget []) m (netD exN) (hget []) := by
  refine DCallsG.weakenAgg (a := [.dat 9 [nodeP exA, exOP], .dat 11 [exWP]]) (b := [.dat 9 [nodeP exA, nodeP exO], .dat 11 [linkP exW]]) ?_ ex_rows
  refine pureC (n := 10) (rs := [.cell 0 25]) (ts := [25]) Tryz.func39 rfl (by decide) [24, 48, 64] (by (exact SD)) ?_
  (repeat' (first | refine swp_seq [0] ?_ | refine st2 ?_ | (show Fct ..; refine fctI (fun hf => ?_)) | (show SWp _ _ _ (.cond _ _ _) _ _ _ _; first | refine cB (fun hc => ?_) (fun hc => ?_) | refine cU ?_ ?_)))
  exact DVR
def bigN (x : Node) : Bool := decide (110 < x.shape.length) || decide (100 < x.name.size)
def bigL (x : Link) : Bool := decide (110 < x.curve.length) || decide (100 < x.name.size) || decide (100 < x.fro.size) || decide (100 < x.til.size) || decide (100 < x.sect.size)
def bigS (x : Sect) : Bool := decide (110 < x.area.length) || decide (110 < x.conv.length) || decide (100 < x.name.size)
def largeB (n : Net) (l : List Sect) : Bool := decide (12 < n.nodes.length) || decide (20 < n.links.length) || decide (12 < l.length) || n.nodes.any bigN || n.links.any bigL || l.any bigS
theorem nat_lt (a b : Nat) : decide ((a : Int) < (b : Int)) = decide (a < b) := by rw [decide_eq_decide]; omega
theorem big1_f (x : Node) (m : Nat) (h : nodeOk x) : DCalls Tryz.prog 41 [nodeD x] (hget []) m (lb (bigN x)) (hget []) := by
  have h1 := h.1
  have h2 := h.2.2.2.2.2.1.1
  unfold bigN
  rw [← nat_lt, ← nat_lt]
  refine pureC (n := 13) (rs := [.tmp 2]) (ts := [4]) Tryz.func41 rfl (by decide) [] (by (exact SD)) ?_
  (repeat' (first | refine swp_seq [0, 1, 2] ?_ | refine st2 ?_ | (show Fct ..; refine fctI (fun hf => ?_)) | (show SWp _ _ _ (.cond _ _ _) _ _ _ _; first | refine cB (fun hc => ?_) (fun hc => ?_) | refine cU ?_ ?_)))
  exact DVR
theorem big2_f (x : Link) (m : Nat) (h : linkOk x) : DCalls Tryz.prog 43 [linkD x] (hget []) m (lb (bigL x)) (hget []) := by
  obtain ⟨h1, h2, h3, _, _, _, _, h4, _, _, h5, _⟩ := h
  unfold bigL
  rw [← nat_lt, ← nat_lt, ← nat_lt, ← nat_lt, ← nat_lt]
  refine pureC (n := 31) (rs := [.tmp 2]) (ts := [4]) Tryz.func43 rfl (by decide) [] (by (exact SD)) ?_
  (repeat' (first | refine swp_seq [0, 1, 2] ?_ | refine st2 ?_ | (show Fct ..; refine fctI (fun hf => ?_)) | (show SWp _ _ _ (.cond _ _ _) _ _ _ _; first | refine cB (fun hc => ?_) (fun hc => ?_) | refine cU ?_ ?_)))
  exact DVR
theorem big3_f (x : Sect) (m : Nat) (h : sectOk x) : DCalls Tryz.prog 45 [sectD x] (hget []) m (lb (bigS x)) (hget []) := by
  obtain ⟨h1, h2, h3, ⟨h4, _⟩, h5, _⟩ := h
  unfold bigS
  rw [← nat_lt, ← nat_lt, ← nat_lt]
  refine pureC (n := 19) (rs := [.tmp 2]) (ts := [4]) Tryz.func45 rfl (by decide) [] (by (exact SD)) ?_
  (repeat' (first | refine swp_seq [0, 1, 2] ?_ | refine st2 ?_ | (show Fct ..; refine fctI (fun hf => ?_)) | (show SWp _ _ _ (.cond _ _ _) _ _ _ _; first | refine cB (fun hc => ?_) (fun hc => ?_) | refine cU ?_ ?_)))
  exact DVR
theorem large_f (n : Net) (l : List Sect) (m : Nat) (no : netOk n) (co : catOk l) : DCalls Tryz.prog 12 [netD n, sectL l] (hget []) m (lb (largeB n l)) (hget []) := by
  have c1 := fun m => conNode_f 41 bigN n.nodes m no.1.1 (fun x hx m => big1_f x m (no.1.2 x hx))
  have c2 := fun m => conLink_f 43 bigL n.links m no.2.1 (fun x hx m => big2_f x m (no.2.2 x hx))
  have c3 := fun m => conSect_f 45 bigS l m co.1 (fun x hx m => big3_f x m (co.2 x hx))
  have h1 := no.1.1
  have h2 := no.2.1
  have h3 := co.1
  unfold largeB
  rw [← nat_lt, ← nat_lt, ← nat_lt]
  generalize n.nodes.any bigN = b1 at *
  generalize n.links.any bigL = b2 at *
  generalize l.any bigS = b3 at *
  refine pureC (n := 32) (rs := [.tmp 4]) (ts := [4]) Tryz.func12 rfl (by decide) [] (by (exact SD)) ?_
  (repeat' (first | refine swp_seq [0, 1, 2, 4, 19] ?_ | refine st2 ?_ | (show CallQ ..; first | refine cQ (fun hcc => (by first | exact c1 _ | exact c2 _ | exact c3 _)) ?_ | (refine lP ?_; refine lQ (fun hcc m => (by first | exact c1 _ | exact c2 _ | exact c3 _)) ?_)) | (show Fct ..; refine fctI (fun hf => ?_)) | (show SWp _ _ _ (.cond _ _ _) _ _ _ _; first | refine cB (fun hc => ?_) (fun hc => ?_) | refine cU ?_ ?_)))
  · (refine DVQ ?_)
    refine lbC ?_
    grind
  · (refine DVQ ?_)
    refine lbC ?_
    grind
theorem exN_ok : netOk exN := by
  have a : nodeOk exA := ⟨by decide, by unfold i64ok; decide, ⟨by unfold i64ok; decide, by unfold i64ok; decide⟩, by unfold i64ok; decide, by unfold i64ok; decide, ⟨by decide, fun y hy => by
    simp at hy
    rcases hy with rfl | rfl <;> (unfold knotOk i64ok; decide)⟩, by unfold i64ok; decide⟩
  have b : nodeOk exO := ⟨by decide, by unfold i64ok; decide, ⟨by unfold i64ok; decide, by unfold i64ok; decide⟩, by unfold i64ok; decide, by unfold i64ok; decide, ⟨by decide, fun y hy => by simp at hy⟩, by unfold i64ok; decide⟩
  have c : linkOk exW := ⟨by decide, by decide, by decide, by unfold i64ok; decide, by unfold i64ok; decide, by unfold i64ok; decide, by unfold i64ok; decide, by decide, by unfold i64ok; decide, by unfold i64ok; decide, by decide, fun y hy => by simp at hy⟩
  exact pair_ok a b c
theorem nil_ok : catOk [] := ⟨by decide, fun s hs => by simp at hs⟩
theorem ex_1 : flowR exN [] 0 [1600, 800] 1000 true = (53758, 0) := by kernel_rfl
theorem ex_2 : flowR exN [] 0 [1500, 800] 1000 true = (0, 0) := by kernel_rfl
abbrev exP : Link := ⟨⟨#[112]⟩, ⟨#[97]⟩, ⟨#[111]⟩, 1, 50000, 1000, 900, ⟨#[99]⟩, 0, 0, []⟩
theorem ex_3 : slopeI exP = (⟨1, 500⟩, 0) := by kernel_rfl
theorem ex_4 : wishI 5 60 = (300, 0) := by kernel_rfl
theorem exP_ok : linkOk exP := ⟨by decide, by decide, by decide, by unfold i64ok; decide, by unfold i64ok; decide, by unfold i64ok; decide, by unfold i64ok; decide, by decide, by unfold i64ok; decide, by unfold i64ok; decide, by decide, fun y hy => by simp at hy⟩
set_option maxRecDepth 20000 in
set_option maxHeartbeats 4000000 in
theorem awake_f (m : Nat) : DCalls Tryz.prog 11 [] (hget []) m (lb true) (hget []) := by
  have c1 := fun m => Flow_f exN [] 0 [1600, 800] 1000 true m exN_ok nil_ok (by decide)
  rw [ex_1] at c1
  have c2 := fun m => Flow_f exN [] 0 [1500, 800] 1000 true m exN_ok nil_ok (by decide)
  rw [ex_2] at c2
  have c3 := fun m => slope34_f exP m exP_ok
  rw [ex_3] at c3
  have c4 := fun m => wish_f 5 60 m
  rw [ex_4] at c4
  have c5 := fun m => example_f m
  refine pureC (n := 61) (rs := [.tmp 0]) (ts := [4]) Tryz.func11 rfl (by decide) [] (by (exact SD)) ?_
  (repeat' (first | refine swp_seq [0, 1, 2, 3, 4, 5, 6, 7, 8] ?_ | refine st2 ?_ | (show CallQ ..; first | refine cQ (fun hcc => (by first | exact c5 _ | exact c1 _ | exact c2 _ | exact c3 _ | exact c4 _)) ?_ | (refine lP ?_; refine lQ (fun hcc m => (by first | exact c5 _ | exact c1 _ | exact c2 _ | exact c3 _ | exact c4 _)) ?_)) | (show Fct ..; refine fctI (fun hf => ?_)) | (show SWp _ _ _ (.cond _ _ _) _ _ _ _; first | refine cB (fun hc => ?_) (fun hc => ?_) | refine cU ?_ ?_)))
  exact DVR

end Go.Proofs.YtnfbaeeohepajaaGreat
