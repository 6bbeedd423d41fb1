/-
  Contracts of functions of the program, over the engine.
  No condition.
-/
import Derived.Test.YtnfbaeeohepajaaGreatCL5L6
import Derived.Test.YtnfbaeeohepajaaGreatCT5T6
namespace Go.Proofs.YtnfbaeeohepajaaGreat
open Go.Eng
set_option linter.all false
attribute [local irreducible] DCallsG SWp Fct CallQ XCallQ LCallQ XLCallQ drun xrun

theorem args_le {P : Program} {g : FuncId} {C : List Nat} {args args' : List DV} {h h' : Nat → Option HV} {m : Nat} {d : DV} (k : DCallsG P g C args h m d h') (hw : ∀ ρ S w vs, RelL ρ S w args' vs → RelL ρ S w args vs) (hu : ∀ U, DV.usesL U args' → DV.usesL U args) : DCallsG P g C args' h m d h' := by
  unfold DCallsG at k ⊢
  exact ⟨k.1, fun U ρ S w vs H0 hm hr hu0 => k.2 U ρ S w vs H0 hm (hw _ _ _ _ hr) (hu _ hu0)⟩
abbrev endA (s : ByteArray) : Node := ⟨s, 1, ⟨0, 0⟩, 0, 1, [⟨0, 0⟩, ⟨1, 0⟩], false, 0⟩
abbrev endB (s : ByteArray) : Node := ⟨s, 3, ⟨0, 0⟩, 0, 0, [], false, 0⟩
def endBP (s : ByteArray) : List PV := [.lit (.string s), .lit (.int .i64 3), .lit (.int .i64 0), .lit (.int .i64 0), .lit (.int .i64 0), .lit (.int .i64 0), .lit (.slice none 0 0), .lit (.bool false), .lit (.int .i64 0)]
theorem endB_le (s : ByteArray) : PLeL (endBP s) (nodeP (endB s)) :=
  .cons PLe.rfl (.cons PLe.rfl (.cons PLe.rfl (.cons PLe.rfl (.cons PLe.rfl (.cons PLe.rfl (.cons (PLe.nil 2) (.cons PLe.rfl (.cons PLe.rfl .nil))))))))
theorem PLeL.same : ∀ l : List PV, PLeL l l
  | [] => .nil
  | _ :: l => .cons PLe.rfl (PLeL.same l)
theorem give_net {g : FuncId} {d : DV} (na nb : List PV) (x : Link) (h : DCalls Tryz.prog g [.agg [.p (.dat 9 [na, nb]), .p (.dat 11 [linkP x])]] (hget []) 2 d (hget [])) :
    DCallsG Tryz.prog g [0, 1] [.agg [.gl 0, .gl 1]] (hget [(0, .lst 55 9 [na.map .p, nb.map .p]), (1, .lst 39 11 [linkC x])]) 2 d (hget []) :=
  DCallsG.giveG (x := .elems 9 [na, nb]) (by show HV.fv (.lst _ 9 (rows id [na, nb])) = _; simp only [HV.fv]; rw [rows_pv]; rfl) rfl (DCallsG.giveG (x := .elems 11 [linkP x]) (by show HV.fv (.lst _ 11 (rows linkP [x])) = _; simp only [HV.fv]; rw [rows_pv]; rfl) rfl h)
theorem end_rows (s t : ByteArray) : PLeR 9 [nodeP (endA s), endBP t] [nodeP (endA s), nodeP (endB t)] := .cons (PLeL.same _) rfl (.cons (endB_le t) rfl .nil)
theorem give_pump {g : FuncId} {d : DV} (s t : ByteArray) (x : Link) (h : DCalls Tryz.prog g [netD ⟨[endA s, endB t], [x]⟩] (hget []) 2 d (hget [])) :
    DCallsG Tryz.prog g [0, 1] [.agg [.gl 0, .gl 1]] (hget [(0, .lst 55 9 [nodeC (endA s), (endBP t).map .p]), (1, .lst 39 11 [linkC x])]) 2 d (hget []) :=
  give_net (nodeP (endA s)) (endBP t) x (args_le h (fun ρ S w vs hr => by
    match vs, hr with
    | [v], ⟨⟨us, e, hr⟩, _⟩ => match us, hr with
      | [u1, u2], ⟨h1, h2, _⟩ => exact ⟨⟨_, e, PLe.rows (end_rows s t) S w u1 h1, h2, trivial⟩, trivial⟩) fun U _ => ⟨⟨trivial, trivial, trivial⟩, trivial⟩)
theorem netB_no0 {n : Net} {x : Link} (e : n.links = [x]) (h : linkR x = false) : netB n = false :=
  netB_no2 (i := 0) (by rw [e]; exact Nat.zero_lt_one) (by unfold okL; rw [e]; simp [h])
theorem nodeIx_0 {a b : Node} : nodeIx [a, b] a.name = 0 := by unfold nodeIx idxI; simp [List.findIdx?_cons]
theorem nodeIx_1 {a b : Node} (h : ¬ a.name = b.name) : nodeIx [a, b] b.name = 1 := by unfold nodeIx idxI; simp [List.findIdx?_cons, h]
theorem linkIx_0 {x : Link} : linkIx [x] x.name = 0 := by unfold linkIx idxI; simp [List.findIdx?_cons]
theorem endA_R (s : ByteArray) : nodeR (endA s) = nameB s := by
  have : nodeR (endA s) = (nameB s && true) := by
    unfold nodeR
    simp only [Bool.and_assoc]
    congr 1
  rw [this, Bool.and_true]
theorem endB_R (s : ByteArray) : nodeR (endB s) = nameB s := by
  have : nodeR (endB s) = (nameB s && true) := by
    unfold nodeR
    simp only [Bool.and_assoc]
    congr 1
  rw [this, Bool.and_true]
theorem linkR_in {x : Link} (h : linkR x = true) : nameB x.name = true ∧ nameB x.fro = true ∧ nameB x.til = true ∧ ¬ x.fro = x.til ∧ levB x.up = true ∧ levB x.down = true ∧ kindL x = true := by
  unfold linkR at h; simp only [Bool.and_eq_true, Bool.not_eq_true', decide_eq_false_iff_not] at h
  exact ⟨h.1.1.1.1.1.1, h.1.1.1.1.1.2, h.1.1.1.1.2, h.1.1.1.2, h.1.1.2, h.1.2, h.2⟩
theorem netB_ends {x : Link} {a b : Node} (ha : a.name = x.fro) (hb : b.name = x.til) (ra : nodeR a = nameB a.name) (rb : nodeR b = nameB b.name) (hk : ¬ a.kind = 3) : netB ⟨[a, b], [x]⟩ = linkR x := by
  cases h : linkR x
  · exact netB_no0 rfl h
  · have hin := linkR_in h
    have hne : ¬ a.name = b.name := by rw [ha, hb]; exact hin.2.2.2.1
    refine netB_yes (by simp) (by simp) (fun i hi => ?_) fun i hi => ?_
    · have hi : i < 2 := hi
      match i, hi with
      | 0, _ =>
        show (nodeR a && decide (nodeIx [a, b] a.name = 0)) = true
        rw [ra, nodeIx_0, ha, hin.2.1]; rfl
      | 1, _ =>
        show (nodeR b && decide (nodeIx [a, b] b.name = 1)) = true
        rw [rb, nodeIx_1 hne, hb, hin.2.2.1]; rfl
    · have hi : i < 1 := hi
      obtain rfl : i = 0 := by omega
      show (linkR x && decide (linkIx [x] x.name = 0) && decide (0 ≤ nodeIx [a, b] x.fro) && decide (0 ≤ nodeIx [a, b] x.til) && !decide (([a, b].getD (nodeIx [a, b] x.fro).toNat default).kind = 3)) = true
      rw [h, linkIx_0, ← ha, ← hb, nodeIx_0, nodeIx_1 hne]
      simp [hk]
def pumpB (x : Link) : Bool := decide (x.kind = 4) && linkR x
theorem z0 : -9223372036854775808 ≤ (0 : Int) ∧ (0 : Int) ≤ 9223372036854775807 := by decide
theorem z1 : -9223372036854775808 ≤ (1 : Int) ∧ (1 : Int) ≤ 9223372036854775807 := by decide
theorem z3 : -9223372036854775808 ≤ (3 : Int) ∧ (3 : Int) ≤ 9223372036854775807 := by decide
theorem endA_ok {s : ByteArray} (h : s.size ≤ 281474976710656) : nodeOk (endA s) := by
  unfold nodeOk pointOk i64ok
  refine ⟨h, z1, ⟨z0, z0⟩, z0, z1, ⟨by simp, fun y hy => ?_⟩, z0⟩
  simp at hy
  rcases hy with rfl | rfl
  · exact ⟨z0, z0⟩
  · exact ⟨z1, z0⟩
theorem endB_ok {s : ByteArray} (h : s.size ≤ 281474976710656) : nodeOk (endB s) := by
  unfold nodeOk pointOk i64ok
  exact ⟨h, z3, ⟨z0, z0⟩, z0, z0, ⟨by simp, fun y hy => by simp at hy⟩, z0⟩
theorem pair_ok {a b : Node} {x : Link} (ha : nodeOk a) (hb : nodeOk b) (hx : linkOk x) : netOk ⟨[a, b], [x]⟩ :=
  ⟨⟨by simp, fun y hy => by simp at hy; rcases hy with rfl | rfl <;> assumption⟩, by simp, fun y hy => by simp at hy; subst hy; exact hx⟩
set_option maxRecDepth 20000 in
set_option maxHeartbeats 4000000 in
theorem pumpValid_f (x : Link) (m : Nat) (hx : linkOk x) : DCalls Tryz.prog 126 [linkD x] (hget []) m (lb (pumpB x)) (hget []) := by
  unfold pumpB
  refine pureC (n := 24) (rs := [.tmp 2]) (ts := [4]) Tryz.func126 rfl (by decide) [] (by (exact SD)) ?_
  by_cases k : x.kind = 4
  · (have := Nonempty.intro k)
    have c1 := fun m => netValid_f ⟨[endA x.fro, endB x.til], [x]⟩ m (pair_ok (endA_ok hx.2.1) (endB_ok hx.2.2.1) hx)
    rw [netB_ends (a := endA x.fro) (b := endB x.til) rfl rfl (endA_R _) (endB_R _) (show ¬ (1 : Int) = 3 by decide)] at c1
    (repeat' (first | (show SWp _ _ _ (.seq (.region 4 _ _) _) _ _ _ _; refine (stop_in ?_)) | refine swp_seq [0, 1, 2, 3, 4, 7] ?_ | refine st2 ?_ | (show CallQ ..; first | refine cQ (fun hcc => (by fail)) ?_ | (refine lP ?_; refine lQ (fun hcc m => (by fail)) ?_)) | (show Fct ..; refine fctI (fun hf => ?_)) | (show SWp _ _ _ (.cond _ _ _) _ _ _ _; first | refine cB (fun hc => ?_) (fun hc => ?_) | refine cU ?_ ?_)))
    refine stop_out ?_
    (refine sF 72 ?_)
    (repeat' (first | refine swp_seq [0, 1, 2, 3, 4, 7] ?_ | refine st2 ?_ | (show Fct ..; refine fctI (fun hf => ?_)) | (show SWp _ _ _ (.cond _ _ _) _ _ _ _; first | refine cB (fun hc => ?_) (fun hc => ?_) | refine cU ?_ ?_)))
    refine cQT [160, 176] (fun hcc => give_pump x.fro x.til x (c1 2)) ?_ (hC := fun _ _ => Nat.zero_le _) (hCn := by intro i hi; simp only [List.map_cons, List.map_nil, List.mem_cons, List.not_mem_nil, or_false] at hi; rcases hi with rfl | rfl <;> rfl)
    (repeat' (first | refine swp_seq [0, 1, 2, 3, 4, 7] ?_ | refine st2 ?_ | (show Fct ..; refine fctI (fun hf => ?_)) | (show SWp _ _ _ (.cond _ _ _) _ _ _ _; first | refine cB (fun hc => ?_) (fun hc => ?_) | refine cU ?_ ?_)))
    exact DVR
  · (have := Nonempty.intro k)
    (repeat' (first | refine swp_seq [0, 1, 2, 3, 4, 7] ?_ | refine st2 ?_ | (show Fct ..; refine fctI (fun hf => ?_)) | (show SWp _ _ _ (.cond _ _ _) _ _ _ _; first | refine cB (fun hc => ?_) (fun hc => ?_) | refine cU ?_ ?_)))
    exact DVR
theorem pwithin_f (n lo hi : Int) (m : Nat) : DCalls Tryz.prog 168 [li n, li lo, li hi] (hget []) m (lb (btwB n lo hi)) (hget []) := by
  refine pureC (n := 15) (rs := [.tmp 6]) (ts := [4]) Tryz.func168 rfl (by decide) [] (by (exact SD)) ?_
  (repeat' (first | refine swp_seq [0, 1, 2, 6] ?_ | refine st2 ?_ | (show Fct ..; refine fctI (fun hf => ?_)) | (show SWp _ _ _ (.cond _ _ _) _ _ _ _; first | refine cB (fun hc => ?_) (fun hc => ?_) | refine cU ?_ ?_)))
  exact DVR
theorem plevel_f (n : Int) (m : Nat) : DCalls Tryz.prog 127 [li n] (hget []) m (lb (levB n)) (hget []) := by
  refine pureC (n := 5) (rs := [.tmp 2]) (ts := [4]) Tryz.func127 rfl (by decide) [] (by (exact SD)) ?_
  (repeat' (first | refine swp_seq [0, 2] ?_ | refine st2 ?_ | (show CallQ ..; first | refine cQ (fun hcc => (pwithin_f _ _ _ _)) ?_ | (refine lP ?_; refine lQ (fun hcc m => (pwithin_f _ _ _ _)) ?_)) | (show Fct ..; refine fctI (fun hf => ?_)) | (show SWp _ _ _ (.cond _ _ _) _ _ _ _; first | refine cB (fun hc => ?_) (fun hc => ?_) | refine cU ?_ ?_)))
  exact DVR
def onB (x : Link) (was : Bool) (l : Int) : Bool := decide (x.up ≤ l) || (was && decide (x.down ≤ l))
theorem on_f (x : Link) (was : Bool) (l : Int) (m : Nat) : DCalls Tryz.prog 128 [linkD x, lb was, li l] (hget []) m (lb (onB x was l)) (hget []) := by
  refine pureC (n := 20) (rs := [.tmp 6]) (ts := [4]) Tryz.func128 rfl (by decide) [] (by (exact SD)) ?_
  (repeat' (first | refine swp_seq [0, 1, 2, 3, 6] ?_ | refine st2 ?_ | (show Fct ..; refine fctI (fun hf => ?_)) | (show SWp _ _ _ (.cond _ _ _) _ _ _ _; first | refine cB (fun hc => ?_) (fun hc => ?_) | refine cU ?_ ?_)))
  exact DVR
theorem rOn33_f (x : Link) (was : Bool) (l : Int) (m : Nat) : DCalls Tryz.prog 129 [linkD x, lb was, li l] (hget []) m (lb (onB x was l)) (hget []) := by
  refine pureC (n := 20) (rs := [.tmp 6]) (ts := [4]) Tryz.func129 rfl (by decide) [] (by (exact SD)) ?_
  (repeat' (first | refine swp_seq [0, 1, 2, 3, 6] ?_ | refine st2 ?_ | (show Fct ..; refine fctI (fun hf => ?_)) | (show SWp _ _ _ (.cond _ _ _) _ _ _ _; first | refine cB (fun hc => ?_) (fun hc => ?_) | refine cU ?_ ?_)))
  exact DVR
theorem setting33_f (n : Int) (m : Nat) : DCalls Tryz.prog 95 [li n] (hget []) m (lb (btwB n 0 1000)) (hget []) := by
  refine pureC (n := 9) (rs := [.tmp 2]) (ts := [4]) Tryz.func95 rfl (by decide) [] (by (exact SD)) ?_
  (repeat' (first | refine swp_seq [0, 2] ?_ | refine st2 ?_ | (show Fct ..; refine fctI (fun hf => ?_)) | (show SWp _ _ _ (.cond _ _ _) _ _ _ _; first | refine cB (fun hc => ?_) (fun hc => ?_) | refine cU ?_ ?_)))
  exact DVR
theorem pumpsOn_f (x : Link) (was : Bool) (l : Int) (m : Nat) (hx : linkOk x) (hp : pumpB x = true) (hl : levB l = true) : DCalls Tryz.prog 75 [linkD x, lb was, li l] (hget []) m (.tup [lb (onB x was l), li 0]) (hget []) := by
  have c1 := fun m => pumpValid_f x m hx
  have c2 := fun m => plevel_f l m
  rw [hp] at c1
  rw [hl] at c2
  refine pureC (n := 20) (rs := [.tmp 6, .tmp 7]) (ts := [4, 30]) Tryz.func75 rfl (by decide) [] (by (exact SD)) ?_
  (repeat' (first | refine swp_seq [0, 1, 2, 3, 6, 7, 8, 12] ?_ | refine st2 ?_ | (show CallQ ..; first | refine cQ (fun hcc => (by first | exact c1 _ | exact c2 _ | exact on_f _ _ _ _)) ?_ | (refine lP ?_; refine lQ (fun hcc m => (by first | exact c1 _ | exact c2 _ | exact on_f _ _ _ _)) ?_)) | (show Fct ..; refine fctI (fun hf => ?_)) | (show SWp _ _ _ (.cond _ _ _) _ _ _ _; first | refine cB (fun hc => ?_) (fun hc => ?_) | refine cU ?_ ?_)))
  exact DVR
def pumpQ (x : Link) (s d : Nat) : Nat := (floorT x.curve d).toNat * s / 1000
theorem pumpB_in {x : Link} (h : pumpB x = true) : x.kind = 4 ∧ linkR x = true ∧ levB x.up = true ∧ levB x.down = true ∧ x.down < x.up ∧ tabB x.curve = true ∧ ∀ d, 0 ≤ floorT x.curve d ∧ floorT x.curve d ≤ 1099511627776 := by
  unfold pumpB at h; simp only [Bool.and_eq_true, decide_eq_true_eq] at h
  obtain ⟨hk, hr⟩ := h
  have hin := linkR_in hr
  have h7 := hin.2.2.2.2.2.2
  unfold kindL at h7
  simp only [hk] at h7
  simp only [Int.reduceEq, if_false, if_true, reduceIte, Bool.and_eq_true, decide_eq_true_eq] at h7
  obtain ⟨⟨⟨⟨⟨_, h2⟩, _⟩, _⟩, _⟩, h3⟩ := h7
  unfold curveB at h3
  simp only [Bool.and_eq_true, decide_eq_true_eq] at h3
  obtain ⟨⟨⟨⟨g1, g2⟩, g3⟩, g4⟩, g5⟩ := h3
  exact ⟨hk, hr, hin.2.2.2.2.1, hin.2.2.2.2.2.1, h2, g1, fun d => by have := floorT_in (x := d) g1; omega⟩
theorem pumpQ_le {c s : Nat} (h1 : c ≤ 1099511627776) (h2 : s ≤ 1000) : c * s ≤ 1099511627776000 := Nat.mul_le_mul h1 h2
set_option maxHeartbeats 1000000 in
theorem pflow_f (x : Link) (s d : Nat) (m : Nat) (hp : pumpB x = true) (hs : s ≤ 1000) (hd : d ≤ 4194304) : DCalls Tryz.prog 169 [linkD x, li s, li d] (hget []) m (.tup [li (pumpQ x s d), li 0]) (hget []) := by
  have hin := pumpB_in hp
  have hc := hin.2.2.2.2.2.2 d
  have cf := fun m => floor_f x.curve d m hin.2.2.2.2.2.1 (by unfold i64ok; omega)
  unfold pumpQ
  obtain ⟨c, ec⟩ : ∃ c : Nat, floorT x.curve d = (c : Int) := ⟨(floorT x.curve d).toNat, by omega⟩
  rw [ec] at cf hc ⊢
  rw [Int.toNat_natCast]
  have hq := pumpQ_le (c := c) (by omega) hs
  have i1 : MulOk (c : Int) (s : Int) ((c * s : Nat) : Int) := mul_nat _ _ (by omega)
  have i2 : DivOk ((c * s : Nat) : Int) 1000 ((c * s / 1000 : Nat) : Int) := div_nat _ 1000 (by omega)
  generalize c * s / 1000 = q at *
  generalize c * s = p at *
  refine pureC (n := 22) (rs := [.tmp 6, .tmp 7]) (ts := [3, 30]) Tryz.func169 rfl (by decide) [] (by (exact SD)) ?_
  (repeat' (first | refine swp_seq [0, 1, 2, 3, 6, 7, 8, 9] ?_ | refine st2 ?_ | (show CallQ ..; first | refine cQ (fun hcc => (by first | exact cf _)) ?_ | (refine lP ?_; refine lQ (fun hcc m => (by first | exact cf _)) ?_)) | (show Fct ..; refine fctI (fun hf => ?_)) | (show SWp _ _ _ (.cond _ _ _) _ _ _ _; first | refine cB (fun hc => ?_) (fun hc => ?_) | refine cU ?_ ?_)))
  exact DVR
set_option maxHeartbeats 1000000 in
theorem rPflow_f (x : Link) (s d : Nat) (m : Nat) (hp : pumpB x = true) (hs : s ≤ 1000) (hd : d ≤ 4194304) : DCalls Tryz.prog 101 [linkD x, li s, li d] (hget []) m (li (pumpQ x s d)) (hget []) := by
  have hin := pumpB_in hp
  have hc := hin.2.2.2.2.2.2 d
  have cf := fun m => rfloor_f x.curve d m hin.2.2.2.2.2.1 (by unfold i64ok; omega)
  unfold pumpQ
  obtain ⟨c, ec⟩ : ∃ c : Nat, floorT x.curve d = (c : Int) := ⟨(floorT x.curve d).toNat, by omega⟩
  rw [ec] at cf hc ⊢
  rw [Int.toNat_natCast]
  have hq := pumpQ_le (c := c) (by omega) hs
  have i1 : MulOk (c : Int) (s : Int) ((c * s : Nat) : Int) := mul_nat _ _ (by omega)
  have i2 : DivOk ((c * s : Nat) : Int) 1000 ((c * s / 1000 : Nat) : Int) := div_nat _ 1000 (by omega)
  generalize c * s / 1000 = q at *
  generalize c * s = p at *
  refine pureC (n := 14) (rs := [.tmp 6]) (ts := [3]) Tryz.func101 rfl (by decide) [] (by (exact SD)) ?_
  (repeat' (first | refine swp_seq [0, 1, 2, 3, 6] ?_ | refine st2 ?_ | (show CallQ ..; first | refine cQ (fun hcc => (by first | exact cf _)) ?_ | (refine lP ?_; refine lQ (fun hcc m => (by first | exact cf _)) ?_)) | (show Fct ..; refine fctI (fun hf => ?_)) | (show SWp _ _ _ (.cond _ _ _) _ _ _ _; first | refine cB (fun hc => ?_) (fun hc => ?_) | refine cU ?_ ?_)))
  exact DVR
set_option maxHeartbeats 1000000 in
theorem pumpFlow_f (x : Link) (s d : Nat) (m : Nat) (hx : linkOk x) (hp : pumpB x = true) (hs : s ≤ 1000) (hd : d ≤ 4194304) : DCalls Tryz.prog 122 [linkD x, li s, li d] (hget []) m (.tup [li (pumpQ x s d), li 0]) (hget []) := by
  have c1 := fun m => pumpValid_f x m hx
  rw [hp] at c1
  have c2 := fun m => pwithin_f s 0 1000 m
  rw [show btwB (s : Int) 0 1000 = true by unfold btwB; simp; omega] at c2
  have c3 := fun m => pwithin_f d 0 4194304 m
  rw [show btwB (d : Int) 0 4194304 = true by unfold btwB; simp; omega] at c3
  have c4 := fun m => pflow_f x s d m hp hs hd
  generalize pumpQ x s d = q at *
  refine pureC (n := 27) (rs := [.tmp 6, .tmp 7]) (ts := [3, 30]) Tryz.func122 rfl (by decide) [] (by (exact SD)) ?_
  (repeat' (first | refine swp_seq [0, 1, 2, 3, 6, 7, 8, 12] ?_ | refine st2 ?_ | (show CallQ ..; first | refine cQ (fun hcc => (by first | exact c1 _ | exact c2 _ | exact c3 _ | exact c4 _)) ?_ | (refine lP ?_; refine lQ (fun hcc m => (by first | exact c1 _ | exact c2 _ | exact c3 _ | exact c4 _)) ?_)) | (show Fct ..; refine fctI (fun hf => ?_)) | (show SWp _ _ _ (.cond _ _ _) _ _ _ _; first | refine cB (fun hc => ?_) (fun hc => ?_) | refine cU ?_ ?_)))
  exact DVR
def pipY (x : Link) (s : Sect) (up : Int) : Int := max 0 (min (up - x.up) s.height)
def pipH (x : Link) (up down y : Int) : Int := max 0 (min (up - max down (x.down + y)) 4194304)
def pipeN (x : Link) (s : Sect) (up down : Int) : Nat := capaN s (pipY x s up).toNat (pipH x up down (pipY x s up)).toNat x.length.toNat
theorem pipY_in {x : Link} {s : Sect} {up : Int} (h : 1 ≤ s.height) : 0 ≤ pipY x s up ∧ pipY x s up ≤ s.height := by unfold pipY; omega
theorem pipH_in {x : Link} {up down y : Int} : 0 ≤ pipH x up down y ∧ pipH x up down y ≤ 4194304 := by unfold pipH; omega
theorem least_f (a b : Int) (m : Nat) : DCalls Tryz.prog 57 [li a, li b] (hget []) m (li (min a b)) (hget []) := by
  by_cases h : a < b
  · (have := Nonempty.intro h)
    rw [show min a b = a by omega]
    refine pureC (n := 10) (rs := [.tmp 4]) (ts := [3]) Tryz.func57 rfl (by decide) [] (by (exact SD)) ?_
    (repeat' (first | refine swp_seq [0, 1, 4, 7] ?_ | refine st2 ?_ | (show Fct ..; refine fctI (fun hf => ?_)) | (show SWp _ _ _ (.cond _ _ _) _ _ _ _; first | refine cB (fun hc => ?_) (fun hc => ?_) | refine cU ?_ ?_)))
    exact DVR
  · (have := Nonempty.intro h)
    rw [show min a b = b by omega]
    refine pureC (n := 10) (rs := [.tmp 4]) (ts := [3]) Tryz.func57 rfl (by decide) [] (by (exact SD)) ?_
    (repeat' (first | refine swp_seq [0, 1, 4, 7] ?_ | refine st2 ?_ | (show Fct ..; refine fctI (fun hf => ?_)) | (show SWp _ _ _ (.cond _ _ _) _ _ _ _; first | refine cB (fun hc => ?_) (fun hc => ?_) | refine cU ?_ ?_)))
    exact DVR
theorem most_f (a b : Int) (m : Nat) : DCalls Tryz.prog 143 [li a, li b] (hget []) m (li (max a b)) (hget []) := by
  by_cases h : b < a
  · (have := Nonempty.intro h)
    rw [show max a b = a by omega]
    refine pureC (n := 10) (rs := [.tmp 4]) (ts := [3]) Tryz.func143 rfl (by decide) [] (by (exact SD)) ?_
    (repeat' (first | refine swp_seq [0, 1, 4, 7] ?_ | refine st2 ?_ | (show Fct ..; refine fctI (fun hf => ?_)) | (show SWp _ _ _ (.cond _ _ _) _ _ _ _; first | refine cB (fun hc => ?_) (fun hc => ?_) | refine cU ?_ ?_)))
    exact DVR
  · (have := Nonempty.intro h)
    rw [show max a b = b by omega]
    refine pureC (n := 10) (rs := [.tmp 4]) (ts := [3]) Tryz.func143 rfl (by decide) [] (by (exact SD)) ?_
    (repeat' (first | refine swp_seq [0, 1, 4, 7] ?_ | refine st2 ?_ | (show Fct ..; refine fctI (fun hf => ?_)) | (show SWp _ _ _ (.cond _ _ _) _ _ _ _; first | refine cB (fun hc => ?_) (fun hc => ?_) | refine cU ?_ ?_)))
    exact DVR
structure PipeIn (x : Link) (s : Sect) (up down : Int) : Prop where
  so : sectOk s
  sb : secB s = true
  xu : levB x.up = true
  xd : levB x.down = true
  xl : 1 ≤ x.length ∧ x.length ≤ 16777216
  u : levB up = true
  d : levB down = true
set_option maxHeartbeats 1000000 in
theorem pipe_f (x : Link) (s : Sect) (up down : Int) (m : Nat) (h : PipeIn x s up down) : DCalls Tryz.prog 118 [linkD x, sectD s, li up, li down] (hget []) m (.tup [li (limI (pipeN x s up down)), li 0]) (hget []) := by
  have hs := secB_in h.sb
  have a1 := lev_in h.xu
  have a2 := lev_in h.xd
  have a3 := lev_in h.u
  have a4 := lev_in h.d
  have a5 := h.xl
  have s1 := hs.h1
  have s2 := hs.h2
  have y1 := pipY_in (x := x) (up := up) s1
  have y2 := pipH_in (x := x) (up := up) (down := down) (y := pipY x s up)
  have c1 := fun m => capacity28_f s (pipY x s up).toNat (pipH x up down (pipY x s up)).toNat x.length.toNat m h.so h.sb (by omega) (by omega) (by omega)
  unfold pipeN
  generalize capaN s (pipY x s up).toNat (pipH x up down (pipY x s up)).toNat x.length.toNat = q at *
  rw [show ((pipY x s up).toNat : Int) = max 0 (min (up - x.up) s.height) by unfold pipY; omega, show ((pipH x up down (pipY x s up)).toNat : Int) = max 0 (min (up - max down (x.down + max 0 (min (up - x.up) s.height))) 4194304) by unfold pipH pipY; omega, show ((x.length).toNat : Int) = x.length by omega] at c1
  have c2 := fun m => limited_f q m
  clear y1 y2 hs h
  refine pureC (n := 41) (rs := [.tmp 8, .tmp 9]) (ts := [3, 30]) Tryz.func118 rfl (by decide) [] (by (exact SD)) ?_
  (repeat' (first | refine swp_seq [0, 1, 2, 3, 4, 5, 8, 9, 10, 11] ?_ | refine st2 ?_ | (show CallQ ..; first | refine cQ (fun hcc => (by first | exact c1 _ | exact c2 _)) ?_ | (refine lP ?_; refine lQ (fun hcc m => (by first | exact c1 _ | exact c2 _)) ?_)) | (show Fct ..; refine fctI (fun hf => ?_)) | (show SWp _ _ _ (.cond _ _ _) _ _ _ _; first | refine cB (fun hc => ?_) (fun hc => ?_) | refine cU ?_ ?_)))
  exact DVR
set_option maxHeartbeats 1000000 in
theorem rPipe_f (x : Link) (s : Sect) (up down : Int) (m : Nat) (h : PipeIn x s up down) : DCalls Tryz.prog 97 [linkD x, sectD s, li up, li down] (hget []) m (li (limI (pipeN x s up down))) (hget []) := by
  have hs := secB_in h.sb
  have a1 := lev_in h.xu
  have a2 := lev_in h.xd
  have a3 := lev_in h.u
  have a4 := lev_in h.d
  have a5 := h.xl
  have s1 := hs.h1
  have s2 := hs.h2
  have y1 := pipY_in (x := x) (up := up) s1
  have y2 := pipH_in (x := x) (up := up) (down := down) (y := pipY x s up)
  have c1 := fun m => rCapacity28_f s (pipY x s up).toNat (pipH x up down (pipY x s up)).toNat x.length.toNat m h.so h.sb (by omega) (by omega) (by omega)
  unfold pipeN
  generalize capaN s (pipY x s up).toNat (pipH x up down (pipY x s up)).toNat x.length.toNat = q at *
  rw [show ((pipY x s up).toNat : Int) = max 0 (min (up - x.up) s.height) by unfold pipY; omega, show ((pipH x up down (pipY x s up)).toNat : Int) = min 4194304 (max 0 (up - max down (x.down + max 0 (min (up - x.up) s.height)))) by unfold pipH pipY; omega, show ((x.length).toNat : Int) = x.length by omega] at c1
  have c2 := fun m => rflow34_f q m
  clear y1 y2 hs h
  refine pureC (n := 43) (rs := [.tmp 8]) (ts := [3]) Tryz.func97 rfl (by decide) [] (by (exact SD)) ?_
  (repeat' (first | refine swp_seq [0, 1, 2, 3, 4, 5, 8, 9, 10, 11, 12] ?_ | refine st2 ?_ | (show CallQ ..; first | refine cQ (fun hcc => (by first | exact c1 _ | exact c2 _ | exact least_f _ _ _ | exact most_f _ _ _)) ?_ | (refine lP ?_; refine lQ (fun hcc m => (by first | exact c1 _ | exact c2 _ | exact least_f _ _ _ | exact most_f _ _ _)) ?_)) | (show Fct ..; refine fctI (fun hf => ?_)) | (show SWp _ _ _ (.cond _ _ _) _ _ _ _; first | refine cB (fun hc => ?_) (fun hc => ?_) | refine cU ?_ ?_)))
  exact DVR
theorem ends1_f (x : Node) (z : Link) (m : Nat) : DCalls Tryz.prog 115 [nodeD x, .ptr 0 0] (hget [(0, .blk 39 ((linkP z).map .p))]) m (lb (decide (x.name = z.fro))) (hget [(0, .blk 39 ((linkP z).map .p))]) := by
  refine contract (n := 9) (rs := [.tmp 3]) (ts := [4]) Tryz.func115 rfl (by decide) 1 1 [] [] [] (lb (decide (x.name = z.fro))) [(0, .blk 39 ((linkP z).map .p))] (by (exact SD)) (by (exact SD)) ?_
  (repeat' (first | refine swp_seq [0, 1, 2, 3] ?_ | refine st2 ?_ | (show Fct ..; refine fctI (fun hf => ?_)) | (show SWp _ _ _ (.cond _ _ _) _ _ _ _; first | refine cB (fun hc => ?_) (fun hc => ?_) | refine cU ?_ ?_)))
  exact DVR
theorem ends2_f (x : Node) (z : Link) (m : Nat) : DCalls Tryz.prog 116 [nodeD x, .ptr 0 0] (hget [(0, .blk 39 ((linkP z).map .p))]) m (lb (decide (x.name = z.til))) (hget [(0, .blk 39 ((linkP z).map .p))]) := by
  refine contract (n := 9) (rs := [.tmp 3]) (ts := [4]) Tryz.func116 rfl (by decide) 1 1 [] [] [] (lb (decide (x.name = z.til))) [(0, .blk 39 ((linkP z).map .p))] (by (exact SD)) (by (exact SD)) ?_
  (repeat' (first | refine swp_seq [0, 1, 2, 3] ?_ | refine st2 ?_ | (show Fct ..; refine fctI (fun hf => ?_)) | (show SWp _ _ _ (.cond _ _ _) _ _ _ _; first | refine cB (fun hc => ?_) (fun hc => ?_) | refine cU ?_ ?_)))
  exact DVR
theorem ends_f (n : Net) (x : Link) (m : Nat) (hl : n.nodes.length ≤ 281474976710656) : DCalls Tryz.prog 67 [netD n, linkD x] (hget []) m (.tup [li (nodeIx n.nodes x.fro), li (nodeIx n.nodes x.til)]) (hget []) := by
  refine pureC (n := 16) (rs := [.tmp 4, .tmp 5]) (ts := [3, 3]) Tryz.func67 rfl (by decide) [] (by (exact SD)) ?_
  (repeat' (first | refine swp_seq [0, 1, 2, 3, 4, 5] ?_ | refine st2 ?_ | (show Fct ..; refine fctI (fun hf => ?_)) | (show SWp _ _ _ (.cond _ _ _) _ _ _ _; first | refine cB (fun hc => ?_) (fun hc => ?_) | refine cU ?_ ?_)))
  (refine cQT [8] (fun hcc => (idxNodeC_f 115 39 (linkP x) (fun y => decide (y.name = x.fro)) n.nodes hl (fun y _ m => ends1_f y x m))) ?_)
  (repeat' (first | refine swp_seq [0, 1, 2, 3, 4, 5] ?_ | refine st2 ?_ | (show Fct ..; refine fctI (fun hf => ?_)) | (show SWp _ _ _ (.cond _ _ _) _ _ _ _; first | refine cB (fun hc => ?_) (fun hc => ?_) | refine cU ?_ ?_)))
  (refine cQT [8] (fun hcc => (idxNodeC_f 116 39 (linkP x) (fun y => decide (y.name = x.til)) n.nodes hl (fun y _ m => ends2_f y x m))) ?_)
  (repeat' (first | refine swp_seq [0, 1, 2, 3, 4, 5] ?_ | refine st2 ?_ | (show Fct ..; refine fctI (fun hf => ?_)) | (show SWp _ _ _ (.cond _ _ _) _ _ _ _; first | refine cB (fun hc => ?_) (fun hc => ?_) | refine cU ?_ ?_)))
  exact DVR
theorem known1_f (x : Sect) (z : Link) (m : Nat) : DCalls Tryz.prog 94 [sectD x, .ptr 0 0] (hget [(0, .blk 39 ((linkP z).map .p))]) m (lb (decide (x.name = z.sect))) (hget [(0, .blk 39 ((linkP z).map .p))]) := by
  refine contract (n := 9) (rs := [.tmp 3]) (ts := [4]) Tryz.func94 rfl (by decide) 1 1 [] [] [] (lb (decide (x.name = z.sect))) [(0, .blk 39 ((linkP z).map .p))] (by (exact SD)) (by (exact SD)) ?_
  (repeat' (first | refine swp_seq [0, 1, 2, 3] ?_ | refine st2 ?_ | (show Fct ..; refine fctI (fun hf => ?_)) | (show SWp _ _ _ (.cond _ _ _) _ _ _ _; first | refine cB (fun hc => ?_) (fun hc => ?_) | refine cU ?_ ?_)))
  exact DVR
theorem between1_f (x : Sect) (z : Link) (m : Nat) : DCalls Tryz.prog 117 [sectD x, .ptr 0 0] (hget [(0, .blk 39 ((linkP z).map .p))]) m (lb (decide (x.name = z.sect))) (hget [(0, .blk 39 ((linkP z).map .p))]) := by
  refine contract (n := 9) (rs := [.tmp 3]) (ts := [4]) Tryz.func117 rfl (by decide) 1 1 [] [] [] (lb (decide (x.name = z.sect))) [(0, .blk 39 ((linkP z).map .p))] (by (exact SD)) (by (exact SD)) ?_
  (repeat' (first | refine swp_seq [0, 1, 2, 3] ?_ | refine st2 ?_ | (show Fct ..; refine fctI (fun hf => ?_)) | (show SWp _ _ _ (.cond _ _ _) _ _ _ _; first | refine cB (fun hc => ?_) (fun hc => ?_) | refine cU ?_ ?_)))
  exact DVR
theorem conSectC_f (g : FuncId) (t : TypeId) (cs : List PV) (p : Sect → Bool) (l : List Sect) (hl : l.length ≤ 281474976710656) (hg : ∀ x, x ∈ l → ∀ m, DCalls Tryz.prog g [sectD x, .ptr 0 0] (hget [(0, .blk t (cs.map .p))]) m (lb (p x)) (hget [(0, .blk t (cs.map .p))])) :
    DCalls Tryz.prog 44 [sectL l, .clo g [.ptr 0 0]] (hget [(0, .blk t (cs.map .p))]) 1 (lb (l.any p)) (hget [(0, .blk t (cs.map .p))]) := by
  have ci := idxSectC_f g t cs p l hl hg
  refine contract (n := 9) (rs := [.tmp 4]) (ts := [4]) Tryz.func44 rfl (by decide) 1 1 [] [] [] (lb (l.any p)) [(0, .blk t (cs.map .p))] (by (exact SD)) (by (exact SD)) ?_
  (repeat' (first | refine swp_seq [0, 1, 4] ?_ | refine st2 ?_ | (show Fct ..; refine fctI (fun hf => ?_)) | (show SWp _ _ _ (.cond _ _ _) _ _ _ _; first | refine cB (fun hc => ?_) (fun hc => ?_) | refine cU ?_ ?_)))
  (refine cQT [0] (fun hcc => ci) ?_)
  (repeat' (first | refine swp_seq [0, 1, 4] ?_ | refine st2 ?_ | (show Fct ..; refine fctI (fun hf => ?_)) | (show SWp _ _ _ (.cond _ _ _) _ _ _ _; first | refine cB (fun hc => ?_) (fun hc => ?_) | refine cU ?_ ?_)))
  (refine DVQ ?_)
  rw [idxI_any]
theorem secIx_any (l : List Sect) (s : ByteArray) : (l.any fun y => decide (y.name = s)) = decide (0 ≤ secIx l s) := (idxI_any _ _).symm
def knownB (l : List Sect) (x : Link) : Bool := !decide (x.kind = 1) || decide (0 ≤ secIx l x.sect)
theorem known_f (l : List Sect) (x : Link) (m : Nat) (hl : l.length ≤ 281474976710656) : DCalls Tryz.prog 50 [sectL l, linkD x] (hget []) m (lb (knownB l x)) (hget []) := by
  unfold knownB
  rw [← secIx_any]
  refine pureC (n := 13) (rs := [.tmp 4]) (ts := [4]) Tryz.func50 rfl (by decide) [] (by (exact SD)) ?_
  by_cases k : x.kind = 1
  · (have := Nonempty.intro k)
    (repeat' (first | refine swp_seq [0, 1, 3, 4] ?_ | refine st2 ?_ | (show Fct ..; refine fctI (fun hf => ?_)) | (show SWp _ _ _ (.cond _ _ _) _ _ _ _; first | refine cB (fun hc => ?_) (fun hc => ?_) | refine cU ?_ ?_)))
    (refine cQT [0] (fun hcc => (conSectC_f 94 39 (linkP x) (fun y => decide (y.name = x.sect)) l hl (fun y _ m => known1_f y x m))) ?_)
    (repeat' (first | refine swp_seq [0, 1, 3, 4] ?_ | refine st2 ?_ | (show Fct ..; refine fctI (fun hf => ?_)) | (show SWp _ _ _ (.cond _ _ _) _ _ _ _; first | refine cB (fun hc => ?_) (fun hc => ?_) | refine cU ?_ ?_)))
    exact DVR
  · (have := Nonempty.intro k)
    (repeat' (first | refine swp_seq [0, 1, 3, 4] ?_ | refine st2 ?_ | (show Fct ..; refine fctI (fun hf => ?_)) | (show SWp _ _ _ (.cond _ _ _) _ _ _ _; first | refine cB (fun hc => ?_) (fun hc => ?_) | refine cU ?_ ?_)))
    exact DVR
theorem named_f (l : List Sect) (x : Link) (m : Nat) (hl : l.length ≤ 281474976710656) : DCalls Tryz.prog 55 [linkD x, sectL l] (hget []) m (lb (knownB l x)) (hget []) := by
  unfold knownB
  refine pureC (n := 15) (rs := [.tmp 4]) (ts := [4]) Tryz.func55 rfl (by decide) [] (by (exact SD)) ?_
  by_cases k : x.kind = 1
  · (have := Nonempty.intro k)
    (repeat' (first | refine swp_seq [0, 1, 2, 4] ?_ | refine st2 ?_ | (show CallQ ..; first | refine cQ (fun hcc => (by first | exact rFind_f _ _ _ hl)) ?_ | (refine lP ?_; refine lQ (fun hcc m => (by first | exact rFind_f _ _ _ hl)) ?_)) | (show Fct ..; refine fctI (fun hf => ?_)) | (show SWp _ _ _ (.cond _ _ _) _ _ _ _; first | refine cB (fun hc => ?_) (fun hc => ?_) | refine cU ?_ ?_)))
    exact DVR
  · (have := Nonempty.intro k)
    (repeat' (first | refine swp_seq [0, 1, 2, 4] ?_ | refine st2 ?_ | (show Fct ..; refine fctI (fun hf => ?_)) | (show SWp _ _ _ (.cond _ _ _) _ _ _ _; first | refine cB (fun hc => ?_) (fun hc => ?_) | refine cU ?_ ?_)))
    exact DVR
def flowI (n : Net) (l : List Sect) (x : Link) (up down : Int) (s : Nat) (on : Bool) : Int :=
  if x.kind = 1 then limI (pipeN x (l.getD (secIx l x.sect).toNat default) up down)
  else if x.kind = 2 then optL (overO x up down)
  else if x.kind = 3 then optL (gateO x s up down)
  else if on then pumpQ x s (min (up - (n.nodes.getD (nodeIx n.nodes x.fro).toNat default).inv) 4194304).toNat
  else 0
structure BtwIn (n : Net) (l : List Sect) (x : Link) (up down : Int) (s : Nat) : Prop where
  no : netOk n
  xo : linkOk x
  co : catOk l
  cb : catB l = true
  xr : linkR x = true
  kn : knownB l x = true
  fr : 0 ≤ nodeIx n.nodes x.fro
  iv : levB (n.nodes.getD (nodeIx n.nodes x.fro).toNat default).inv = true ∧ (n.nodes.getD (nodeIx n.nodes x.fro).toNat default).inv ≤ up
  u : levB up = true
  d : levB down = true
  se : s ≤ 1000
theorem kind_in {x : Link} (h : linkR x = true) : x.kind = 1 ∨ x.kind = 2 ∨ x.kind = 3 ∨ x.kind = 4 := by
  have h7 := (linkR_in h).2.2.2.2.2.2
  unfold kindL at h7
  by_cases k1 : x.kind = 1
  · exact .inl k1
  by_cases k2 : x.kind = 2
  · exact .inr (.inl k2)
  by_cases k3 : x.kind = 3
  · exact .inr (.inr (.inl k3))
  by_cases k4 : x.kind = 4
  · exact .inr (.inr (.inr k4))
  simp [k1, k2, k3, k4] at h7
theorem kind1_in {x : Link} (h : linkR x = true) (k : x.kind = 1) : 1 ≤ x.length ∧ x.length ≤ 16777216 := by
  have h7 := (linkR_in h).2.2.2.2.2.2
  unfold kindL btwB at h7
  simp [k] at h7
  omega
theorem kind2_in {x : Link} (h : linkR x = true) (k : x.kind = 2) : weirB x = true := by
  have hin := linkR_in h
  have h7 := hin.2.2.2.2.2.2
  unfold kindL at h7
  simp [k] at h7
  unfold weirB
  simp [k, hin.2.2.2.2.1, h7]
theorem kind3_in {x : Link} (h : linkR x = true) (k : x.kind = 3) : gateB x = true := by
  have hin := linkR_in h
  have h7 := hin.2.2.2.2.2.2
  unfold kindL at h7
  simp [k] at h7
  unfold gateB
  simp [k, hin.2.2.2.2.1, h7]
theorem okS_in {l : List Sect} (h : catB l = true) {i : Nat} (hi : i < l.length) : secB (l.getD i default) = true := by
  unfold catB at h
  simp only [Bool.and_eq_true, List.all_eq_true, List.mem_range] at h
  have := h.2 i hi
  unfold okS at this
  simp only [Bool.and_eq_true] at this
  exact this.1
theorem sect_at {l : List Sect} {x : Link} (h : knownB l x = true) (k : x.kind = 1) : ∃ i : Nat, secIx l x.sect = (i : Int) ∧ i < l.length := by
  unfold knownB at h
  simp [k] at h
  have := idxI_lt (fun y : Sect => decide (y.name = x.sect)) l
  change -1 ≤ secIx l x.sect ∧ secIx l x.sect < l.length at this
  exact ⟨(secIx l x.sect).toNat, by omega, by omega⟩
theorem node_at {n : Net} {s : ByteArray} (h : 0 ≤ nodeIx n.nodes s) : ∃ i : Nat, nodeIx n.nodes s = (i : Int) ∧ i < n.nodes.length := by
  have := idxI_lt (fun y : Node => decide (y.name = s)) n.nodes
  change -1 ≤ nodeIx n.nodes s ∧ nodeIx n.nodes s < n.nodes.length at this
  exact ⟨(nodeIx n.nodes s).toNat, by omega, by omega⟩
set_option maxRecDepth 20000 in
set_option maxHeartbeats 4000000 in
theorem between_f' (n : Net) (l : List Sect) (x : Link) (up down : Int) (s : Nat) (on : Bool) (m : Nat) (h : BtwIn n l x up down s) : DCalls Tryz.prog 68 [netD n, sectL l, linkD x, li up, li down, li s, lb on] (hget []) m (.tup [li (flowI n l x up down s on), li 0]) (hget []) := by
  have hr := linkR_in h.xr
  have hl := h.co.1
  unfold flowI
  by_cases k1 : x.kind = 1
  · rw [if_pos k1]
    (have := Nonempty.intro k1)
    obtain ⟨i, ei, hi⟩ := sect_at h.kn k1
    have c1 := fun m => pipe_f x (l.getD i default) up down m ⟨h.co.2 _ (getD_mem hi), okS_in h.cb hi, hr.2.2.2.2.1, hr.2.2.2.2.2.1, kind1_in h.xr k1, h.u, h.d⟩
    have ci := idxSectC_f 117 39 (linkP x) (fun y => decide (y.name = x.sect)) l hl (fun y _ m => between1_f y x m)
    change DCalls _ _ _ _ _ (li (secIx l x.sect)) _ at ci
    rw [ei] at ci ⊢
    rw [Int.toNat_natCast]
    generalize limI (pipeN x (l.getD i default) up down) = q at *
    (have := Nonempty.intro hi)
    clear h hr
    refine pureC (n := 81) (rs := [.tmp 14, .tmp 15]) (ts := [3, 30]) Tryz.func68 rfl (by decide) [] (by (exact SD)) ?_
    (repeat' (first | refine swp_seq [0, 1, 2, 3, 4, 5, 6, 7, 9, 14, 15, 16, 17, 20, 21, 36, 47, 60] ?_ | refine st2 ?_ | (show Fct ..; refine fctI (fun hf => ?_)) | (show SWp _ _ _ (.cond _ _ _) _ _ _ _; first | refine cB (fun hc => ?_) (fun hc => ?_) | refine cU ?_ ?_)))
    (refine cQT [8] (fun hcc => ci) ?_)
    (repeat' (first | refine swp_seq [0, 1, 2, 3, 4, 5, 6, 7, 9, 14, 15, 16, 17, 20, 21, 36, 47, 60] ?_ | refine st2 ?_ | (show CallQ ..; first | refine cQ (fun hcc => (by first | exact c1 _)) ?_ | (refine lP ?_; refine lQ (fun hcc m => (by first | exact c1 _)) ?_)) | (show XCallQ ..; first | refine xQ (fun hcc => (by first | exact c1 _)) ?_ | (refine xlP ?_; refine xlQ (fun hcc m => (by first | exact c1 _)) ?_)) | (show Fct ..; refine fctI (fun hf => ?_)) | (show SWp _ _ _ (.cond _ _ _) _ _ _ _; first | refine cB (fun hc => ?_) (fun hc => ?_) | refine cU ?_ ?_)))
    exact DVR
  by_cases k2 : x.kind = 2
  · rw [if_neg k1, if_pos k2]
    (have := Nonempty.intro k1)
    (have := Nonempty.intro k2)
    have c1 := fun m => over_f x up down m (kind2_in h.xr k2) h.u h.d
    have c2 := fun m => limitedO_f (overO x up down) m
    generalize overO x up down = o at *
    generalize optI o = o1 at *
    generalize optE o = o2 at *
    generalize optL o = o3 at *
    clear h hr
    refine pureC (n := 81) (rs := [.tmp 14, .tmp 15]) (ts := [3, 30]) Tryz.func68 rfl (by decide) [] (by (exact SD)) ?_
    (repeat' (first | refine swp_seq [0, 1, 2, 3, 4, 5, 6, 7, 9, 14, 15, 16, 17, 20, 21, 36, 47, 60] ?_ | refine st2 ?_ | (show CallQ ..; first | refine cQ (fun hcc => (by first | exact c1 _ | exact c2 _)) ?_ | (refine lP ?_; refine lQ (fun hcc m => (by first | exact c1 _ | exact c2 _)) ?_)) | (show XCallQ ..; first | refine xQ (fun hcc => (by first | exact c1 _ | exact c2 _)) ?_ | (refine xlP ?_; refine xlQ (fun hcc m => (by first | exact c1 _ | exact c2 _)) ?_)) | (show Fct ..; refine fctI (fun hf => ?_)) | (show SWp _ _ _ (.cond _ _ _) _ _ _ _; first | refine cB (fun hc => ?_) (fun hc => ?_) | refine cU ?_ ?_)))
    exact DVR
  by_cases k3 : x.kind = 3
  · rw [if_neg k1, if_neg k2, if_pos k3]
    (have := Nonempty.intro k1)
    (have := Nonempty.intro k2)
    (have := Nonempty.intro k3)
    have c1 := fun m => gate_f x s up down m (kind3_in h.xr k3) h.se h.u h.d
    have c2 := fun m => limitedO_f (gateO x s up down) m
    generalize gateO x s up down = o at *
    generalize optI o = o1 at *
    generalize optE o = o2 at *
    generalize optL o = o3 at *
    clear h hr
    refine pureC (n := 81) (rs := [.tmp 14, .tmp 15]) (ts := [3, 30]) Tryz.func68 rfl (by decide) [] (by (exact SD)) ?_
    (repeat' (first | refine swp_seq [0, 1, 2, 3, 4, 5, 6, 7, 9, 14, 15, 16, 17, 20, 21, 36, 47, 60] ?_ | refine st2 ?_ | (show CallQ ..; first | refine cQ (fun hcc => (by first | exact c1 _ | exact c2 _)) ?_ | (refine lP ?_; refine lQ (fun hcc m => (by first | exact c1 _ | exact c2 _)) ?_)) | (show XCallQ ..; first | refine xQ (fun hcc => (by first | exact c1 _ | exact c2 _)) ?_ | (refine xlP ?_; refine xlQ (fun hcc m => (by first | exact c1 _ | exact c2 _)) ?_)) | (show Fct ..; refine fctI (fun hf => ?_)) | (show SWp _ _ _ (.cond _ _ _) _ _ _ _; first | refine cB (fun hc => ?_) (fun hc => ?_) | refine cU ?_ ?_)))
    exact DVR
  rw [if_neg k1, if_neg k2, if_neg k3]
  have k4 : x.kind = 4 := by have := kind_in h.xr; omega
  (have := Nonempty.intro k1)
  (have := Nonempty.intro k2)
  (have := Nonempty.intro k3)
  cases on
  · clear h hr
    refine pureC (n := 81) (rs := [.tmp 14, .tmp 15]) (ts := [3, 30]) Tryz.func68 rfl (by decide) [] (by (exact SD)) ?_
    (repeat' (first | refine swp_seq [0, 1, 2, 3, 4, 5, 6, 7, 9, 14, 15, 16, 17, 20, 21, 36, 47, 60] ?_ | refine st2 ?_ | (show Fct ..; refine fctI (fun hf => ?_)) | (show SWp _ _ _ (.cond _ _ _) _ _ _ _; first | refine cB (fun hc => ?_) (fun hc => ?_) | refine cU ?_ ?_)))
    exact DVR
  · obtain ⟨i, ei, hi⟩ := node_at h.fr
    have c0 := fun m => ends_f n x m h.no.1.1
    have hiv := h.iv
    have hu := lev_in h.u
    have hv := lev_in hiv.1
    rw [ei] at c0 hiv hv ⊢
    rw [Int.toNat_natCast] at hiv hv ⊢
    have c1 := fun m => pumpFlow_f x s (min (up - (n.nodes.getD i default).inv) 4194304).toNat m h.xo (by unfold pumpB; simp [k4, h.xr]) h.se (by omega)
    rw [show ((min (up - (n.nodes.getD i default).inv) 4194304).toNat : Int) = min (up - (n.nodes.getD i default).inv) 4194304 by omega] at c1
    generalize pumpQ x s (min (up - (n.nodes.getD i default).inv) 4194304).toNat = q at *
    generalize nodeIx n.nodes x.til = z at *
    (have := Nonempty.intro hi)
    clear h hr
    refine pureC (n := 81) (rs := [.tmp 14, .tmp 15]) (ts := [3, 30]) Tryz.func68 rfl (by decide) [] (by (exact SD)) ?_
    (repeat' (first | refine swp_seq [0, 1, 2, 3, 4, 5, 6, 7, 9, 14, 15, 16, 17, 20, 21, 36, 47, 60] ?_ | refine st2 ?_ | (show CallQ ..; first | refine cQ (fun hcc => (by first | exact c0 _ | exact c1 _)) ?_ | (refine lP ?_; refine lQ (fun hcc m => (by first | exact c0 _ | exact c1 _)) ?_)) | (show XCallQ ..; first | refine xQ (fun hcc => (by first | exact c0 _ | exact c1 _)) ?_ | (refine xlP ?_; refine xlQ (fun hcc m => (by first | exact c0 _ | exact c1 _)) ?_)) | (show Fct ..; refine fctI (fun hf => ?_)) | (show SWp _ _ _ (.cond _ _ _) _ _ _ _; first | refine cB (fun hc => ?_) (fun hc => ?_) | refine cU ?_ ?_)))
    exact DVR

end Go.Proofs.YtnfbaeeohepajaaGreat
