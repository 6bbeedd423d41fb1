/-
  Contracts of functions of the program, over the engine.
  No condition.
-/
import Derived.Test.YtdhcpkeldpadlaaGreatCU4
import Derived.Test.YtdhcpkeldpadlaaGreatCV9
import Derived.Test.YtdhcpkeldpadlaaGreatCU2
import Derived.Test.YtdhcpkeldpadlaaGreatCA2
namespace Go.Proofs.YtdhcpkeldpadlaaGreat
open Go.Eng
set_option linter.all false
attribute [local irreducible] DCallsG SWp Fct CallQ XCallQ LCallQ XLCallQ drun xrun
set_option maxHeartbeats 64000000
set_option maxRecDepth 20000

theorem sectC_cells (x : Sect) : CellsB (sectC x) = True := by
  refine propext ⟨fun _ => trivial, fun _ d hd => ?_⟩;simp only [sectC, List.mem_cons, List.not_mem_nil, or_false] at hd;rcases hd with rfl | rfl | rfl | rfl | rfl <;> rfl
theorem rows_sectC (l : List Sect) (x : Sect) : rows sectP l ++ [sectC x] = rows sectP (l ++ [x]) := rows_app sectP l [x]
theorem linkC_cells (x : Link) : CellsB (linkC x) = True := by
  refine propext ⟨fun _ => trivial, fun _ d hd => ?_⟩;simp only [linkC, List.mem_cons, List.not_mem_nil, or_false] at hd;rcases hd with rfl | rfl | rfl | rfl | rfl | rfl | rfl | rfl | rfl | rfl | rfl <;> rfl
theorem rows_linkC (l : List Link) (x : Link) : rows linkP l ++ [linkC x] = rows linkP (l ++ [x]) := rows_app linkP l [x]
theorem nodeC_cells (x : Node) : CellsB (nodeC x) = True := by
  refine propext ⟨fun _ => trivial, fun _ d hd => ?_⟩;simp only [nodeC, List.mem_cons, List.not_mem_nil, or_false] at hd;rcases hd with rfl | rfl | rfl | rfl | rfl | rfl | rfl | rfl | rfl <;> rfl
theorem rows_nodeC (l : List Node) (x : Node) : rows nodeP l ++ [nodeC x] = rows nodeP (l ++ [x]) := rows_app nodeP l [x]
theorem phaC_cells (x : Pha) : CellsB (phaC x) = True := by
  refine propext ⟨fun _ => trivial, fun _ d hd => ?_⟩;simp only [phaC, List.mem_cons, List.not_mem_nil, or_false] at hd;rcases hd with rfl | rfl <;> rfl
theorem rows_phaC (l : List Pha) (x : Pha) : rows phaP l ++ [phaC x] = rows phaP (l ++ [x]) := rows_app phaP l [x]
attribute [push_cast] sectC_cells rows_sectC linkC_cells rows_linkC nodeC_cells rows_nodeC phaC_cells rows_phaC
theorem idxSectP_f (g : FuncId) (u : PV) (p : Sect -> Bool) (l : List (Sect)) (m : Nat) (hl : l.length <= 281474976710656) (hg : ∀ x, x ∈ l -> ∀ m, Pu g [sectD x, .p u] m (lb (p x))) :
    Pu 78 [sectL l, .clo g [.p u]] m (li (idxI p l)) := by
  refine pcN 19 [.tmp 4] [3] Tryz.func78 rfl [] ?_;(repeat' first|refine stW [0,1,4,5,7,8,9,16] ?_|refine fctI fun hf=>?_|refine twI (fun hc=>?_) fun hc=>?_);refine loop_swp [0, 1, 7, 8] [] 0 (fun q A H => ∃ i : Nat, i <= l.length /\ q = l.length - i /\ (l.take i).any p = false /\ A = [(0, sectL l), (1, .clo g [.p u]), (7, li l.length), (8, li i)] /\ H = []) (by omega) ?_ ?_ ?_
  · rintro q A H ⟨i, h1, h2, h3, rfl, rfl⟩;exact SDD
  · refine ⟨_, 0, by omega, rfl, rfl, ?_, ?_⟩
    · exact DVR
    · exact DVR
  · rintro q A H ⟨i, h1, h2, h3, rfl, rfl⟩;(repeat' first|refine stW [0,1,4,5,7,8,9,16] ?_|(show CallQ ..;first|refine cQ (fun hcc=>(hg _ (getD_mem SC) _)) ?_|(refine lP ?_;refine lQ (fun hcc m=>(hg _ (getD_mem SC) _)) ?_))|refine fctI fun hf=>?_|refine twI (fun hc=>?_) fun hc=>?_)
    · (refine DVQ ?_);rw [idxI_hit h3 (by omega) (by assumption)]
    · (refine lN [] ?_);exact ⟨_, by omega, i + 1, by omega, rfl, any_step h3 (by omega) (by assumption), rfl, rfl⟩
    · (refine DVQ ?_);rw [List.take_of_length_le (by omega)] at h3;rw [idxI_none h3]
theorem conSectP_f (g : FuncId) (u : PV) (p : Sect -> Bool) (l : List (Sect)) (m : Nat) (hl : l.length <= 281474976710656) (hg : ∀ x, x ∈ l -> ∀ m, Pu g [sectD x, .p u] m (lb (p x))) :
    Pu 34 [sectL l, .clo g [.p u]] m (lb (l.any p)) := by
  have ci := fun m => idxSectP_f g u p l m hl hg
  refine pcN 9 [.tmp 4] [4] Tryz.func34 rfl [] ?_;(repeat' first|refine stW [0,1,4] ?_|refine fctI fun hf=>?_|refine twI (fun hc=>?_) fun hc=>?_);(refine DVQ ?_);rw [idxI_any]
theorem tfind1_f (x : Link) (y : Sect) (m : Nat) : Pu 87 [sectD y, .p (.ptr (linkP x))] m (lb (decide (y.name = x.sect))) := by
  refine pcN 9 [.tmp 3] [4] Tryz.func87 rfl [] ?_;(repeat' first|refine stW [0,1,2,3] ?_|refine fctI fun hf=>?_|refine twI (fun hc=>?_) fun hc=>?_);exact DVR
theorem tfind2_f (x : Link) (y : Sect) (m : Nat) : Pu 88 [sectD y, .p (.ptr (linkP x))] m (lb (decide (y.name = x.sect))) := by
  refine pcN 9 [.tmp 3] [4] Tryz.func88 rfl [] ?_;(repeat' first|refine stW [0,1,2,3] ?_|refine fctI fun hf=>?_|refine twI (fun hc=>?_) fun hc=>?_);exact DVR
abbrev tkB (x : Node) (a b c d : DV) : List DV := [.p (.lit (.string x.name)), .p (.lit (.int .i64 x.kind)), .p (.lit (.int .i64 x.pos.x)), .p (.lit (.int .i64 x.pos.y)), .p (.lit (.int .i64 x.inv)), .p (.lit (.int .i64 x.gnd)), .p (.dat 2 (x.shape.map knotP)), .p (.lit (.bool x.prot)), .p (.lit (.int .i64 x.res)), a, b, c, d]
abbrev tkN (n : Net) (l : List Rule) (t : ByteArray) (c : DV) : List DV := tkB (nodeA n t) (nodeL (partN n t).nodes) (linkL (outL n t)) c (ruleL l)
abbrev seHt (a : List Sect) : HV := .lst 84 5 (rows sectP a)
def findI (n : Net) (c : List Sect) (t : ByteArray) (i : Nat) : Option (List Sect) := findK c ((outL n t).take i) []
theorem findI_next {n : Net} {c a : List Sect} {t : ByteArray} {i : Nat} (h : i < (outL n t).length) (e : findI n c t i = some a) : findI n c t (i + 1) = findR c a ((outL n t).getD i default) := by
  unfold findI at e ⊢;rw [take_snocD h, findK_snoc, e]; rfl
theorem findI_all (n : Net) (c : List Sect) (t : ByteArray) : findI n c t (outL n t).length = findK c (outL n t) [] := by unfold findI; rw [List.take_length]
theorem findR_len {c a b : List Sect} {x : Link} (h : findR c a x = some b) : b.length <= a.length + 1 := by
  unfold findR at h;split at h
  · cases h; omega
  · split at h
    · cases h
    · split at h
      · cases h; omega
      · cases h; simp
theorem findI_len {n : Net} {c : List Sect} {t : ByteArray} : ∀ {i : Nat} {a : List Sect}, i <= (outL n t).length -> findI n c t i = some a -> a.length <= i
  | 0, a, _, h => by
    have h : (some [] : Option (List Sect)) = some a := h;cases h; exact Nat.le_refl _
  | i + 1, a, hi, h => by
    cases hp : findI n c t i with
    | none =>
      exfalso
      unfold findI at h hp;rw [take_snocD (by omega), findK_bad c _ _ _ hp] at h;cases h
    | some b =>
      have h1 := findI_len (by omega) hp;rw [findI_next (by omega) hp] at h;have := findR_len h;omega
theorem secIx_lt (c : List Sect) (s : ByteArray) : secIx c s < (c.length : Int) ∨ secIx c s < 0 := by
  rcases idxI_spec (fun x : Sect => decide (x.name = s)) c with ⟨e, _⟩ | ⟨k, e, hk, _⟩
  · right; unfold secIx; omega
  · left; unfold secIx; omega
theorem find_stop {n : Net} {c : List Sect} {t : ByteArray} (h : findK c (outL n t) [] = none) : ∃ i b, i < (outL n t).length /\ findI n c t i = some b /\ findR c b ((outL n t).getD i default) = none := by
  have key : ∀ d, d <= (outL n t).length -> (∃ i b, i < (outL n t).length /\ findI n c t i = some b /\ findR c b ((outL n t).getD i default) = none) ∨ ∃ b, findI n c t d = some b := by
    intro d;induction d with
    | zero => exact fun _ => .inr ⟨[], rfl⟩
    | succ d ih =>
      intro hd;rcases ih (by omega) with h1 | ⟨b, h1⟩
      · exact .inl h1
      · cases hf : findR c b ((outL n t).getD d default) with
        | none => exact .inl ⟨d, b, by omega, h1, hf⟩
        | some e => exact .inr ⟨e, by rw [findI_next (by omega) h1, hf]⟩
  rcases key _ (Nat.le_refl _) with h1 | ⟨b, h1⟩
  · exact h1
  · rw [findI_all, h] at h1; cases h1
theorem tfind_f (n : Net) (c : List Sect) (l : List Rule) (t : ByteArray) (b : List Sect) (I : Nat) (m : Nat) (no : netOk n) (co : catOk c) (nb : netB n = true) (hI : I <= (outL n t).length) (hb : findI n c t I = some b) (hend : I = (outL n t).length ∨ (I < (outL n t).length /\ findR c b ((outL n t).getD I default) = none)) :
    DCalls Tryz.prog 43 [.ptr 0 0, sectL c] (hget [(0, .blk 91 (tkN n l t nilS))]) 1 (li (if I = (outL n t).length then 0 else 9)) (hget [(0, .blk 91 (tkN n l t (sectL b)))]) := by
  have hlc := co.1;have hol : (outL n t).length <= 400 := Nat.le_trans (List.length_filter_le ..) (netB_len nb).2;refine contract (n := 47) (rs := [.tmp 4]) (ts := [32]) Tryz.func43 rfl (by decide) 1 1 [65] [] [] (li (if I = (outL n t).length then 0 else 9)) [(0, .blk 91 (tkN n l t (sectL b)))] (by (exact SD)) (by (exact SD)) ?_;(repeat' first|refine stW [0,1,4,6,7,12,13,14,15,20,25,32] ?_|refine fctI fun hf=>?_|refine twI (fun hc=>?_) fun hc=>?_);change SWp _ _ _ _ _ _ ((0, .blk 91 ([.p (.lit (.string (nodeA n t).name)), .p (.lit (.int .i64 (nodeA n t).kind)), .p (.lit (.int .i64 (nodeA n t).pos.x)), .p (.lit (.int .i64 (nodeA n t).pos.y)), .p (.lit (.int .i64 (nodeA n t).inv)), .p (.lit (.int .i64 (nodeA n t).gnd)), .p (.dat 2 ((nodeA n t).shape.map knotP)), .p (.lit (.bool (nodeA n t).prot)), .p (.lit (.int .i64 (nodeA n t).res)), nodeL (partN n t).nodes, linkL (outL n t)] ++ .p (.lit (.slice none 0 0)) :: [ruleL l])) :: _) _;refine swp_nilC 0 91 84 5 [.p (.lit (.string (nodeA n t).name)), .p (.lit (.int .i64 (nodeA n t).kind)), .p (.lit (.int .i64 (nodeA n t).pos.x)), .p (.lit (.int .i64 (nodeA n t).pos.y)), .p (.lit (.int .i64 (nodeA n t).inv)), .p (.lit (.int .i64 (nodeA n t).gnd)), .p (.dat 2 ((nodeA n t).shape.map knotP)), .p (.lit (.bool (nodeA n t).prot)), .p (.lit (.int .i64 (nodeA n t).res)), nodeL (partN n t).nodes, linkL (outL n t)] [ruleL l] rfl ?_;refine loop_swp [0, 1, 12, 13, 14] [0, 65] 73 (fun q A H => ∃ (i : Nat) (a : List Sect), i <= I /\ q = I - i /\ findI n c t i = some a /\ A = [(0, .ptr 0 0), (1, sectL c), (12, linkL (outL n t)), (13, li (outL n t).length), (14, li i)] /\ H = [(0, .blk 91 (tkN n l t (.gl 65))), (65, seHt a)]) (by omega) ?_ ?_ ?_
  · rintro q A H ⟨i, a, g1, g2, g3, rfl, rfl⟩;exact SDD
  · refine ⟨_, 0, [], by omega, rfl, rfl, ?_, ?_⟩
    · exact DVR
    · exact DVR
  rintro q A H ⟨i, a, g1, g2, g3, rfl, rfl⟩;have hal := findI_len (by omega) g3;by_cases hi : i < (outL n t).length
  case neg =>
    obtain rfl : i = (outL n t).length := by omega
    obtain rfl : I = (outL n t).length := by omega
    rw [hb] at g3;cases g3;rw [if_pos rfl];have hi3 : ¬ (((outL n t).length : Int) < ((outL n t).length : Int)) := by omega
    (have:=NeI hi3);(repeat' first|refine stW [0,1,4,6,7,12,13,14,15,20,25,32] ?_|refine fctI fun hf=>?_|refine twI (fun hc=>?_) fun hc=>?_);exact DVR
  have hi3 : (i : Int) < ((outL n t).length : Int) := by omega
  have hnx := findI_next hi g3;have hR : findR c a ((outL n t).getD i default) = none -> I = i := fun h => by
    by_cases e : I = i
    · exact e
    · rw [h] at hnx;have := findK_bad c ((outL n t).take (i + 1)) (((outL n t).take I).drop (i + 1)) [] hnx;rw [show (outL n t).take (i + 1) = ((outL n t).take I).take (i + 1) by rw [List.take_take, Nat.min_eq_left (by omega)], List.take_append_drop] at this;have hb : findK c ((outL n t).take I) [] = some b := hb;rw [this] at hb;cases hb
  have hS : ∀ e, findR c a ((outL n t).getD i default) = some e -> i < I := fun e h => by
    rcases hend with q | ⟨q, r⟩
    · omega
    · by_cases e : I = i
      · subst e;rw [hb] at g3;cases g3;rw [h] at r;cases r
      · omega
  have cs1 := fun m => idxSectP_f 87 (.ptr (linkP ((outL n t).getD i default))) (fun y => decide (y.name = ((outL n t).getD i default).sect)) c m hlc (fun y _ m => tfind1_f ((outL n t).getD i default) y m)
  have cs2 := fun m => conSectP_f 88 (.ptr (linkP ((outL n t).getD i default))) (fun y => decide (y.name = ((outL n t).getD i default).sect)) a m (by omega) (fun y _ m => tfind2_f ((outL n t).getD i default) y m)
  change ∀ m, DCalls _ _ _ _ _ (li (secIx c ((outL n t).getD i default).sect)) _ at cs1;unfold findR at hR hS hnx;(have:=NeI hi);(have:=NeI hi3);by_cases hk : ((outL n t).getD i default).kind = 1
  case neg =>
    rw [if_pos hk] at hnx hS;have hlt := hS _ rfl;(have:=NeI hk);clear hR hS cs1 cs2;(repeat' first|refine stW [0,1,4,6,7,12,13,14,15,20,25,32] ?_|refine fctI fun hf=>?_|refine twI (fun hc=>?_) fun hc=>?_);(refine lN [0, 65] ?_);exact ⟨_, by omega, i + 1, a, by omega, rfl, hnx, rfl, rfl⟩
  rw [if_neg (not_not_intro hk)] at hnx hS hR;have hsl := secIx_lt c ((outL n t).getD i default).sect;(have:=NeI hk);by_cases hx : secIx c ((outL n t).getD i default).sect < 0
  · rw [if_pos hx] at hR;obtain rfl := hR rfl;rw [hb] at g3;cases g3;rw [if_neg (by omega)];generalize secIx c ((outL n t).getD I default).sect = K at *
    (have:=NeI hx);clear hS hnx cs2;(repeat' first|(show SWp _ _ _ (.seq (.region 4 _ _) _) _ _ _ _;refine (stop_in ?_))|(show SWp _ _ _ (.region _ _ true) _ _ _ _;refine xG mixed [] ?_)|refine stW [0,1,4,6,7,12,13,14,15,20,25,32] ?_|refine fctI fun hf=>?_|refine twI (fun hc=>?_) fun hc=>?_);refine stop_out ?_;refine sF 97 (v := .blk 39 (linkC ((outL n t).getD I default))) (x := .cells (linkP ((outL n t).getD I default))) ?_ (hx := rfl);(repeat' first|refine stW [0,1,4,6,7,12,13,14,15,20,25,32] ?_|refine fctI fun hf=>?_|refine twI (fun hc=>?_) fun hc=>?_);exact DVR
  rw [if_neg hx] at hR hS hnx;clear hR;obtain ⟨p, hp⟩ : ∃ p : Nat, secIx c ((outL n t).getD i default).sect = (p : Int) := ⟨_, (Int.toNat_of_nonneg (by omega)).symm⟩;have hpl : p < c.length := by omega
  have hpl3 : (p : Int) < (c.length : Int) := by omega
  have hp0 : ¬ (p : Int) < 0 := by omega
  have hA : secA c ((outL n t).getD i default).sect = c.getD p default := by
    unfold secA;rw [hp, Int.toNat_natCast]
  rw [hA] at hnx hS;rw [hp] at cs1;clear hA hsl hx;(have:=NeI hpl);(have:=NeI hpl3);(have:=NeI hp0);cases hany : (a.any fun y => decide (y.name = ((outL n t).getD i default).sect)) <;> simp only [hany] at cs2 hnx hS
  · rw [if_neg (by decide)] at hnx hS;have hlt := hS _ rfl;clear hS;(repeat' first|(show SWp _ _ _ (.seq (.region 4 _ _) _) _ _ _ _;refine (stop_in ?_))|(show SWp _ _ _ (.region _ _ true) _ _ _ _;refine xG mixed [] ?_)|refine stW [0,1,4,6,7,12,13,14,15,20,25,32] ?_|refine fctI fun hf=>?_|refine twI (fun hc=>?_) fun hc=>?_);refine stop_out ?_;refine sF 97 (v := .blk 39 (linkC ((outL n t).getD i default))) (x := .cells (linkP ((outL n t).getD i default))) ?_ (hx := rfl);(repeat' first|(show SWp _ _ _ (.region _ _ true) _ _ _ _;refine xG mixed [0, 65, 12000000, 15000065] ?_)|refine stW [0,1,4,6,7,12,13,14,15,20,25,32] ?_|refine fctI fun hf=>?_|refine twI (fun hc=>?_) fun hc=>?_);(refine lR 321 65 [0, 321] ?_);exact ⟨_, by omega, i + 1, _, by omega, rfl, hnx, rfl, rfl⟩
  · rw [if_pos trivial] at hnx hS;have hlt := hS _ rfl;clear hS;(repeat' first|(show SWp _ _ _ (.seq (.region 4 _ _) _) _ _ _ _;refine (stop_in ?_))|(show SWp _ _ _ (.region _ _ true) _ _ _ _;refine xG mixed [] ?_)|refine stW [0,1,4,6,7,12,13,14,15,20,25,32] ?_|refine fctI fun hf=>?_|refine twI (fun hc=>?_) fun hc=>?_);refine stop_out ?_;refine sF 97 (v := .blk 39 (linkC ((outL n t).getD i default))) (x := .cells (linkP ((outL n t).getD i default))) ?_ (hx := rfl);(repeat' first|refine stW [0,1,4,6,7,12,13,14,15,20,25,32] ?_|refine fctI fun hf=>?_|refine twI (fun hc=>?_) fun hc=>?_);(refine lN [0, 65] ?_);exact ⟨_, by omega, i + 1, a, by omega, rfl, hnx, rfl, rfl⟩
theorem tk_snoc (x : Node) (a b c d : DV) : nodeC x ++ [a, b, c, d] = [.p (.lit (.string x.name)), .p (.lit (.int .i64 x.kind)), .p (.lit (.int .i64 x.pos.x)), .p (.lit (.int .i64 x.pos.y)), .p (.lit (.int .i64 x.inv)), .p (.lit (.int .i64 x.gnd)), .p (.dat 2 (x.shape.map knotP)), .p (.lit (.bool x.prot)), .p (.lit (.int .i64 x.res)), a, b, c, d] := rfl
attribute [push_cast] tk_snoc
theorem nodeA_at {n : Net} {t : ByteArray} {p : Nat} (h : nodeIx n.nodes t = (p : Int)) : nodeA n t = n.nodes.getD p default := by
  show n.nodes.getD (nodeIx n.nodes t).toNat default = _;rw [h, Int.toNat_natCast]
theorem tankBad_f (n : Net) (l : List Rule) (t : ByteArray) (m : Nat) (lo : rulOk l) (no : netOk n) (nb : netB n = true) (h : ¬ tankE n l t = 0) :
    Pu 38 [netD n, ruleL l, ls t] m (.tup [.p (.lit (.pointer none)), li (tankE n l t)]) := by
  have c1 := fun m => suits_f l n m lo no nb
  have ci := idxNodeC_f 84 9 [.lit (.string t)] (fun x => decide (x.name = t)) n.nodes no.1.1 (fun x _ m => tankOf1_f x t m);change DCalls _ _ _ _ _ (li (nodeIx n.nodes t)) _ at ci;have hlt := nix_lt n.nodes t;unfold tankE at h ⊢;cases hs : l.all (knownR n) <;> simp only [hs] at c1
  · rw [if_pos rfl];refine pcN 116 [.tmp 6,.tmp 7] [87,32] Tryz.func38 rfl [] ?_;(repeat' first|refine stW [0,1,2,3,5,6,7,8,9,10,12,14,18,24,33,48,65,66,67,68,74,92,93,94,95,101] ?_|refine fctI fun hf=>?_|refine twI (fun hc=>?_) fun hc=>?_);exact DVR
  rw [hs] at h;rw [if_neg (by decide)] at h ⊢;by_cases h1 : nodeIx n.nodes t < 0
  · rw [if_pos h1];generalize nodeIx n.nodes t = K at *
    (have:=NeI h1);refine pcN 116 [.tmp 6,.tmp 7] [87,32] Tryz.func38 rfl [] ?_;(repeat' first|refine stW [0,1,2,3,5,6,7,8,9,10,12,14,18,24,33,48,65,66,67,68,74,92,93,94,95,101] ?_|refine fctI fun hf=>?_|refine twI (fun hc=>?_) fun hc=>?_);(refine cQT [8] (fun hcc => ci) ?_);(repeat' first|refine stW [0,1,2,3,5,6,7,8,9,10,12,14,18,24,33,48,65,66,67,68,74,92,93,94,95,101] ?_|refine fctI fun hf=>?_|refine twI (fun hc=>?_) fun hc=>?_);exact DVR
  rw [if_neg h1] at h ⊢;obtain ⟨p, hp⟩ : ∃ p : Nat, nodeIx n.nodes t = (p : Int) := ⟨_, (Int.toNat_of_nonneg (by omega)).symm⟩;rw [hp] at ci;have hpl : p < n.nodes.length := by omega
  have hpl3 : (p : Int) < (n.nodes.length : Int) := by omega
  rw [nodeA_at hp] at h ⊢;have hr : nodeR (n.nodes.getD p default) = true := ((netB_iff n).1 nb).nr _ (mem_getD hpl);have a1 := lev_in (node_lev hr).1;have a2 := lev_in (node_lev hr).2.1;have hp0 : ¬ (p : Int) < 0 := by omega
  (have:=NeI hp0);(have:=NeI hpl);(have:=NeI hpl3);by_cases hk : (n.nodes.getD p default).kind = 2
  case neg =>
    rw [if_pos fun c => hk c.1];(have:=NeI hk);refine pcN 116 [.tmp 6,.tmp 7] [87,32] Tryz.func38 rfl [] ?_;(repeat' first|refine stW [0,1,2,3,5,6,7,8,9,10,12,14,18,24,33,48,65,66,67,68,74,92,93,94,95,101] ?_|refine fctI fun hf=>?_|refine twI (fun hc=>?_) fun hc=>?_);(refine cQT [8] (fun hcc => ci) ?_);(repeat' first|refine stW [0,1,2,3,5,6,7,8,9,10,12,14,18,24,33,48,65,66,67,68,74,92,93,94,95,101] ?_|refine fctI fun hf=>?_|refine twI (fun hc=>?_) fun hc=>?_);exact DVR
  (have:=NeI hk);cases hq : (n.nodes.getD p default).prot
  · rw [if_pos (show ¬ ((n.nodes.getD p default).kind = 2 /\ false = true) from fun c => absurd c.2 Bool.false_ne_true)];haveI : ProtAt (n.nodes.getD p default) false := ⟨hq⟩;refine pcN 116 [.tmp 6,.tmp 7] [87,32] Tryz.func38 rfl [] ?_;(repeat' first|refine stW [0,1,2,3,5,6,7,8,9,10,12,14,18,24,33,48,65,66,67,68,74,92,93,94,95,101] ?_|refine fctI fun hf=>?_|refine twI (fun hc=>?_) fun hc=>?_);(refine cQT [8] (fun hcc => ci) ?_);(repeat' first|refine stW [0,1,2,3,5,6,7,8,9,10,12,14,18,24,33,48,65,66,67,68,74,92,93,94,95,101] ?_|refine fctI fun hf=>?_|refine twI (fun hc=>?_) fun hc=>?_);exact DVR
  rw [hq] at h;haveI : ProtAt (n.nodes.getD p default) true := ⟨hq⟩;rw [if_neg fun c => c ⟨hk, rfl⟩] at h ⊢;by_cases hb : 20000 < (n.nodes.getD p default).gnd - (n.nodes.getD p default).inv
  case neg => exact absurd (if_neg hb) h
  rw [if_pos hb];(have:=NeI hb);refine pcN 116 [.tmp 6,.tmp 7] [87,32] Tryz.func38 rfl [] ?_;(repeat' first|refine stW [0,1,2,3,5,6,7,8,9,10,12,14,18,24,33,48,65,66,67,68,74,92,93,94,95,101] ?_|refine fctI fun hf=>?_|refine twI (fun hc=>?_) fun hc=>?_);(refine cQT [8] (fun hcc => ci) ?_);(repeat' first|refine stW [0,1,2,3,5,6,7,8,9,10,12,14,18,24,33,48,65,66,67,68,74,92,93,94,95,101] ?_|refine fctI fun hf=>?_|refine twI (fun hc=>?_) fun hc=>?_);exact DVR
abbrev lkHt (a : List Link) : HV := .lst 39 11 (rows linkP a)
abbrev ndHt (a : List Node) : HV := .lst 68 9 (rows nodeP a)
theorem tankOf_f (n : Net) (l : List Rule) (t : ByteArray) (m : Nat) (lo : rulOk l) (no : netOk n) (nb : netB n = true) (h : tankE n l t = 0) :
    DCalls Tryz.prog 38 [netD n, ruleL l, ls t] (hget []) m (.tup [.ptr m 0, li 0]) (hget [(m, .blk 91 (tkN n l t nilS))]) := by
  obtain ⟨e1, e2, e3, e4, e5⟩ := tankE_in h;have c1 := fun m => suits_f l n m lo no nb
  rw [e1] at c1;have ci := idxNodeC_f 84 9 [.lit (.string t)] (fun x => decide (x.name = t)) n.nodes no.1.1 (fun x _ m => tankOf1_f x t m);change DCalls _ _ _ _ _ (li (nodeIx n.nodes t)) _ at ci;have hlt := nix_lt n.nodes t;obtain ⟨h300, h400⟩ := netB_len nb;obtain ⟨p, hp⟩ : ∃ p : Nat, nodeIx n.nodes t = (p : Int) := ⟨_, (Int.toNat_of_nonneg e2).symm⟩;rw [hp] at ci;have hpl : p < n.nodes.length := by omega
  have hpl3 : (p : Int) < (n.nodes.length : Int) := by omega
  have hr : nodeR (n.nodes.getD p default) = true := ((netB_iff n).1 nb).nr _ (mem_getD hpl);have a1 := lev_in (node_lev hr).1;have a2 := lev_in (node_lev hr).2.1;unfold tkN;rw [nodeA_at hp] at e3 e4 e5 ⊢;have hb : ¬ 20000 < (n.nodes.getD p default).gnd - (n.nodes.getD p default).inv := by omega
  have hol := lkTo_len n t;have hnl := ndTo_len n t;have hoa := lkTo_all n t;have hna := ndTo_all n t;have hea := endTo_has n t;have hp0 : ¬ (p : Int) < 0 := by omega
  (have:=NeI hp0);(have:=NeI hpl);(have:=NeI hpl3);(have:=NeI e3);(have:=NeI hb);haveI hPA : ProtAt (n.nodes.getD p default) true := ⟨e4⟩;refine contract (n := 116) (rs := [.tmp 6, .tmp 7]) (ts := [87, 32]) Tryz.func38 rfl (by decide) 0 0 [488, 496] [] [176] (.tup [.ptr 176 0, li 0]) [(176, .blk 91 (tkB (n.nodes.getD p default) (nodeL (partN n t).nodes) (linkL (outL n t)) nilS (ruleL l)))] (by (exact SD)) (by (exact SD)) ?_;(repeat' first|refine stW [0,1,2,3,5,6,7,8,9,10,12,14,18,24,33,48,65,66,67,68,74,92,93,94,95,101] ?_|refine fctI fun hf=>?_|refine twI (fun hc=>?_) fun hc=>?_);(refine cQT [8] (fun hcc => ci) ?_);(repeat' first|(show SWp _ _ _ (.seq (.region 11 _ _) _) _ _ _ _;refine (stop_in ?_))|(show SWp _ _ _ (.region _ _ true) _ _ _ _;refine xG mixed [] ?_)|refine stW [0,1,2,3,5,6,7,8,9,10,12,14,18,24,33,48,65,66,67,68,74,92,93,94,95,101] ?_|refine fctI fun hf=>?_|refine twI (fun hc=>?_) fun hc=>?_);refine stop_out ?_;rw [show DV.p (PV.lit (Value.bool true)) = DV.p (PV.lit (Value.bool (n.nodes.getD p default).prot)) by rw [e4]];clear hPA;(repeat' first|refine stW [0,1,2,3,5,6,7,8,9,10,12,14,18,24,33,48,65,66,67,68,74,92,93,94,95,101] ?_|refine fctI fun hf=>?_|refine twI (fun hc=>?_) fun hc=>?_);refine swp_hkeep [176, 416, 8, 0] rfl ?_;change SWp _ _ _ _ _ _ ((176, .blk 91 ([.p (.lit (.string (n.nodes.getD p default).name)), .p (.lit (.int .i64 (n.nodes.getD p default).kind)), .p (.lit (.int .i64 (n.nodes.getD p default).pos.x)), .p (.lit (.int .i64 (n.nodes.getD p default).pos.y)), .p (.lit (.int .i64 (n.nodes.getD p default).inv)), .p (.lit (.int .i64 (n.nodes.getD p default).gnd)), .p (.dat 2 ((n.nodes.getD p default).shape.map knotP)), .p (.lit (.bool (n.nodes.getD p default).prot)), .p (.lit (.int .i64 (n.nodes.getD p default).res)), .p (.lit (.slice none 0 0))] ++ .p (.lit (.slice none 0 0)) :: [nilS, ruleL l])) :: _) _;refine swp_nilC 176 91 39 11 [.p (.lit (.string (n.nodes.getD p default).name)), .p (.lit (.int .i64 (n.nodes.getD p default).kind)), .p (.lit (.int .i64 (n.nodes.getD p default).pos.x)), .p (.lit (.int .i64 (n.nodes.getD p default).pos.y)), .p (.lit (.int .i64 (n.nodes.getD p default).inv)), .p (.lit (.int .i64 (n.nodes.getD p default).gnd)), .p (.dat 2 ((n.nodes.getD p default).shape.map knotP)), .p (.lit (.bool (n.nodes.getD p default).prot)), .p (.lit (.int .i64 (n.nodes.getD p default).res)), .p (.lit (.slice none 0 0))] [nilS, ruleL l] rfl ?_;change SWp _ _ _ _ _ _ ((176, .blk 91 ([.p (.lit (.string (n.nodes.getD p default).name)), .p (.lit (.int .i64 (n.nodes.getD p default).kind)), .p (.lit (.int .i64 (n.nodes.getD p default).pos.x)), .p (.lit (.int .i64 (n.nodes.getD p default).pos.y)), .p (.lit (.int .i64 (n.nodes.getD p default).inv)), .p (.lit (.int .i64 (n.nodes.getD p default).gnd)), .p (.dat 2 ((n.nodes.getD p default).shape.map knotP)), .p (.lit (.bool (n.nodes.getD p default).prot)), .p (.lit (.int .i64 (n.nodes.getD p default).res))] ++ .p (.lit (.slice none 0 0)) :: [.gl 488, nilS, ruleL l])) :: _) _;refine swp_nilC 176 91 68 9 [.p (.lit (.string (n.nodes.getD p default).name)), .p (.lit (.int .i64 (n.nodes.getD p default).kind)), .p (.lit (.int .i64 (n.nodes.getD p default).pos.x)), .p (.lit (.int .i64 (n.nodes.getD p default).pos.y)), .p (.lit (.int .i64 (n.nodes.getD p default).inv)), .p (.lit (.int .i64 (n.nodes.getD p default).gnd)), .p (.dat 2 ((n.nodes.getD p default).shape.map knotP)), .p (.lit (.bool (n.nodes.getD p default).prot)), .p (.lit (.int .i64 (n.nodes.getD p default).res))] [.gl 488, nilS, ruleL l] rfl ?_;refine loop_swp [3, 5, 9, 10, 65, 66, 67] [0, 8, 176, 416, 488, 496] 504 (fun q A H => ∃ i : Nat, i <= n.links.length /\ q = n.links.length - i /\ A = [(3, .ptr 0 0), (5, .ptr 8 0), (9, .ptr 176 0), (10, .mref 416), (65, linkL n.links), (66, li n.links.length), (67, li i)] /\ H = [(0, .blk 25 (netC n)), (8, .blk 9 [ls t]), (176, .blk 91 (tkB (n.nodes.getD p default) (.gl 496) (.gl 488) nilS (ruleL l))), (416, .map (setS (endTo n t i))), (488, lkHt (lkTo n t i)), (496, ndHt [])]) (by omega) ?_ ?_ ?_
  · rintro q A H ⟨i, g1, g2, rfl, rfl⟩;exact SDD
  · refine ⟨_, 0, by omega, rfl, ?_, ?_⟩
    · exact DVR
    · rw [show setS (endTo n t 0) = [(.string t, lb true)] from by unfold setS; rfl];exact DVR
  rintro q A H ⟨i, g1, g2, rfl, rfl⟩;by_cases hi : i < n.links.length
  · have hi3 : (i : Int) < (n.links.length : Int) := by omega
    have hX := hol i;by_cases e : (n.links.getD i default).fro = t
    · obtain ⟨h1, h2⟩ := lkTo_yes hi e;generalize lkTo n t i = X at *
      generalize endTo n t i = E at *
      clear hoa hna hea hol hnl c1 ci;(have:=NeI hi);(have:=NeI hi3);(have:=NeI e);(repeat' first|(show SWp _ _ _ (.region _ _ true) _ _ _ _;refine xG mixed [176, 488, 10000176, 14000488] ?_)|refine stW [0,1,2,3,5,6,7,8,9,10,12,14,18,24,33,48,65,66,67,68,74,92,93,94,95,101] ?_|refine fctI fun hf=>?_|refine twI (fun hc=>?_) fun hc=>?_);(refine lR 640 488 [0, 8, 176, 416, 640, 496] ?_);exact ⟨_, by omega, i + 1, by omega, rfl, rfl, by rw [h1, h2] <;> rfl⟩
    · obtain ⟨h1, h2⟩ := lkTo_no hi e;generalize lkTo n t i = X at *
      generalize endTo n t i = E at *
      clear hoa hna hea hol hnl c1 ci;(have:=NeI hi);(have:=NeI hi3);(have:=NeI e);(repeat' first|refine stW [0,1,2,3,5,6,7,8,9,10,12,14,18,24,33,48,65,66,67,68,74,92,93,94,95,101] ?_|refine fctI fun hf=>?_|refine twI (fun hc=>?_) fun hc=>?_);(refine lN [0, 8, 176, 416, 488, 496] ?_);exact ⟨_, by omega, i + 1, by omega, rfl, rfl, by rw [h1, h2] <;> rfl⟩
  obtain rfl : i = n.links.length := by omega
  have hi3 : ¬ ((n.links.length : Int) < (n.links.length : Int)) := by omega
  (have:=NeI hi3);rw [hoa];generalize endTo n t n.links.length = E at *
  (repeat' first|refine stW [0,1,2,3,5,6,7,8,9,10,12,14,18,24,33,48,65,66,67,68,74,92,93,94,95,101] ?_|refine fctI fun hf=>?_|refine twI (fun hc=>?_) fun hc=>?_);refine loop_swp [9, 10, 92, 93, 94] [176, 416, 488, 496] 544 (fun q A H => ∃ i : Nat, i <= n.nodes.length /\ q = n.nodes.length - i /\ A = [(9, .ptr 176 0), (10, .mref 416), (92, nodeL n.nodes), (93, li n.nodes.length), (94, li i)] /\ H = [(176, .blk 91 (tkB (n.nodes.getD p default) (.gl 496) (.gl 488) nilS (ruleL l))), (416, .map (setS E)), (488, lkHt (outL n t)), (496, ndHt (ndTo n t i))]) (by omega) ?_ ?_ ?_
  · rintro q A H ⟨i, g1, g2, rfl, rfl⟩;exact SDD
  · refine ⟨_, 0, by omega, rfl, ?_, ?_⟩
    · exact DVR
    · exact DVR
  rintro q A H ⟨i, g1, g2, rfl, rfl⟩;by_cases hi : i < n.nodes.length
  · have hi3 : (i : Int) < (n.nodes.length : Int) := by omega
    have hX := hnl i;have hE := hea (n.nodes.getD i default).name;have hy := @ndTo_yes n t i hi;have hn := @ndTo_no n t i hi;generalize ndTo n t i = X at *
    clear hoa hna hea hol hnl c1 ci;(have:=NeI hi);(have:=NeI hi3);cases hb : nearB n t (n.nodes.getD i default).name <;> rw [hb] at hE
    · replace hn := hn hb
      clear hy;(have:=NeI hE);(repeat' first|refine stW [0,1,2,3,5,6,7,8,9,10,12,14,18,24,33,48,65,66,67,68,74,92,93,94,95,101] ?_|refine fctI fun hf=>?_|refine twI (fun hc=>?_) fun hc=>?_);(refine lN [176, 416, 488, 496] ?_);exact ⟨_, by omega, i + 1, by omega, rfl, rfl, by rw [hn] <;> rfl⟩
    · replace hy := hy hb
      clear hn;(have:=NeI hE);(repeat' first|(show SWp _ _ _ (.region _ _ true) _ _ _ _;refine xG mixed [176, 496, 10000176, 14000496] ?_)|refine stW [0,1,2,3,5,6,7,8,9,10,12,14,18,24,33,48,65,66,67,68,74,92,93,94,95,101] ?_|refine fctI fun hf=>?_|refine twI (fun hc=>?_) fun hc=>?_);(refine lR 680 496 [176, 416, 488, 680] ?_);exact ⟨_, by omega, i + 1, by omega, rfl, rfl, by rw [hy] <;> rfl⟩
  obtain rfl : i = n.nodes.length := by omega
  have hi3 : ¬ ((n.nodes.length : Int) < (n.nodes.length : Int)) := by omega
  (have:=NeI hi3);rw [hna];clear hoa hna hea hol hnl c1 ci;(repeat' first|refine stW [0,1,2,3,5,6,7,8,9,10,12,14,18,24,33,48,65,66,67,68,74,92,93,94,95,101] ?_|refine fctI fun hf=>?_|refine twI (fun hc=>?_) fun hc=>?_);exact DVR

end Go.Proofs.YtdhcpkeldpadlaaGreat
