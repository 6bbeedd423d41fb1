/-
  Contracts of functions of the program, over the engine.
  No condition.
-/
import Derived.Test.YtlgfdfljnbncfaaGreatCN0N1NBNmT1T2T2eT3
import Derived.Test.YtlgfdfljnbncfaaGreatCT5T6T6bT7T7bT7c
import Derived.Test.YtlgfdfljnbncfaaGreatCKSK1K2K3K5K4W0W1W2W3
import Derived.Test.YtlgfdfljnbncfaaGreatCL9L10L11L12L16L20RL25L27
import Derived.Test.YtlgfdfljnbncfaaGreatEngV
import Derived.Test.YtlgfdfljnbncfaaGreatRows
import Derived.Test.YtlgfdfljnbncfaaGreatCL1L2L2cL2oL3L4L5
import Derived.Test.YtlgfdfljnbncfaaGreatEngDf
namespace Go.Proofs.YtlgfdfljnbncfaaGreat
open Go.Eng
set_option linter.all false
attribute [local irreducible] DCallsG SWp Fct CallQ XCallQ LCallQ XLCallQ drun xrun
set_option maxHeartbeats 64000000
set_option maxRecDepth 20000
def lenOk (s : Sta) : Prop := s.vol.length <= 1048576 /\ s.pon.length <= 1048576 /\ s.set.length <= 1048576 /\ s.on.length <= 1048576
def heldL (s : Sta) : List Int := (List.range s.vol.length).map fun i => s.vol.getD i default + s.pon.getD i default
theorem heldL_at (s : Sta) {i : Nat} (hi : i < s.vol.length) : (heldL s).getD i default = s.vol.getD i default + s.pon.getD i default := by
  simp [heldL, List.getD_eq_getElem?_getD, hi]
def holdOk (s : Sta) : Prop := s.vol.length <= 1048576 /\ s.pon.length = s.vol.length /\ ∀ i, i < s.vol.length -> (0 <= s.vol.getD i default /\ s.vol.getD i default <= 1125899906842624) /\ 0 <= s.pon.getD i default /\ s.pon.getD i default <= 1125899906842624
def hS (n : Net) (held : List Int) : List Int := (List.range n.nodes.length).map fun i => if (n.nodes.getD i default).kind = 3 then 0 else held.getD i default
def vS (n : Net) (held : List Int) : List Int := (List.range n.nodes.length).map fun i => if capN (n.nodes.getD i default) < held.getD i default then capN (n.nodes.getD i default) else held.getD i default
def pS (n : Net) (held : List Int) : List Int := (List.range n.nodes.length).map fun i => held.getD i default - (if capN (n.nodes.getD i default) < held.getD i default then capN (n.nodes.getD i default) else held.getD i default)
def fitI (l : List Int) (i : Nat) : Bool := (List.range i).all fun j => decide (l.getD j default <= 1125899906842624)
def fitS (n : Net) (held : List Int) : Bool := fitI (pS n held) n.nodes.length
theorem map_at {n i : Nat} {f : Nat -> Int} (h : i < n) : ((List.range n).map f).getD i default = f i := by simp [List.getD_eq_getElem?_getD, h]
theorem capN_in {n : Net} (hv : netB n = true) {i : Nat} (hi : i < n.nodes.length) : 0 <= capN (n.nodes.getD i default) /\ capN (n.nodes.getD i default) <= 1125899906842624 := by
  have hr := netB_node hv hi;generalize n.nodes.getD i default = x at *
  unfold capN;by_cases h3 : x.kind = 3
  · rw [if_pos h3]; omega
  · rw [if_neg h3];unfold nodeR kindB at hr;simp only [h3, if_false, Bool.and_eq_true] at hr;have hk : x.kind = 1 ∨ x.kind = 2 := by
      have := hr.2;by_cases hk : x.kind = 1 ∨ x.kind = 2
      · exact hk
      · simp [hk] at this
    have h2 := hr.2;simp only [hk, if_true, Bool.and_eq_true] at h2;have hs := h2.1.1.2;unfold shapeB at hs;simp only [Bool.and_eq_true, decide_eq_true_eq] at hs;have hm := tab_mono hs.1.1.1.1 (x.shape.length - 1) 0 (by omega) (by have := tabB_len hs.1.1.1.1; omega);omega
theorem staB_in {n : Net} {s : Sta} (hv : netB n = true) (h : staB n s = true) : lensB n s = true /\ (∀ i, i < n.nodes.length -> okSN n s i = true) /\ ∀ i, i < n.links.length -> okSL n s i = true := by
  unfold staB at h; simp only [Bool.and_eq_true, List.all_eq_true, List.mem_range] at h; exact ⟨h.1.1, h.1.2, h.2⟩
theorem sta_hold {n : Net} {s : Sta} (hv : netB n = true) (h : staB n s = true) : holdOk s /\ lenOk s /\ s.vol.length = n.nodes.length /\ s.pon.length = n.nodes.length := by
  obtain ⟨h1, h2, h3⟩ := staB_in hv h;obtain ⟨l1, l2, l3, l4⟩ := lensB_of h1;have a1 := netB_len hv;refine ⟨⟨by omega, by omega, fun i hi => ?_⟩, ⟨by omega, by omega, by omega, by omega⟩, l1, l2⟩;have hk := h2 i (by omega);have hc := capN_in hv (i := i) (by omega);unfold okSN btwB volB at hk;simp only [Bool.and_eq_true, decide_eq_true_eq] at hk;omega
theorem heldL_le {s : Sta} (h : holdOk s) : ∀ i, i < s.vol.length -> 0 <= (heldL s).getD i default /\ (heldL s).getD i default <= 2251799813685248 := fun i hi => by
  have := h.2.2 i hi;rw [heldL_at s hi]; omega
theorem hS_at {n : Net} {held : List Int} {i : Nat} (hi : i < n.nodes.length) : (hS n held).getD i default = if (n.nodes.getD i default).kind = 3 then 0 else held.getD i default := map_at hi
def strRow (s : ByteArray) : List PV := [.lit (.string s)]
abbrev strs (l : List ByteArray) : DV := .p (.dat 1 (l.map strRow))
abbrev strL (l : List ByteArray) : HV := .lst 9 1 (rows strRow l)
theorem app_str (l : List ByteArray) (v : ByteArray) : rows strRow l ++ [[.p (.lit (.string v))]] = rows strRow (l ++ [v]) := by simp [rows, strRow]
attribute [push_cast] strRow app_str
theorem app_pair (l : List (Int × Int)) (a b : Int) : rows pairP l ++ [[.p (.lit (.int .i64 a)), .p (.lit (.int .i64 b))]] = rows pairP (l ++ [(a, b)]) := by simp [rows, pairP]
attribute [push_cast] app_pair
def selI (p : Nat -> Bool) (l : List Int) : Nat -> Int
  | 0 => 0
  | i + 1 => if p i then selI p l i + l.getD i default else selI p l i
theorem selI_le {p : Nat -> Bool} {l : List Int} {b : Int} (h : ∀ i, i < l.length -> 0 <= l.getD i default /\ l.getD i default <= b) : ∀ i, i <= l.length -> 0 <= selI p l i /\ selI p l i <= i * b
  | 0, _ => by simp [selI]
  | i + 1, hi => by
    have h1 := selI_le (p := p) h i (by omega);have h2 := h i (by omega);have : ((i + 1 : Nat) : Int) * b = i * b + b := by push_cast; rw [Int.add_mul]; omega
    unfold selI;split <;> omega
theorem idx_c0 (a : List PV) (l : List (List PV)) : idx (a :: l) 0 = a := rfl
theorem idx_c1 (a b : List PV) (l : List (List PV)) : idx (a :: b :: l) 1 = b := rfl
theorem idx_c2 (a b c : List PV) (l : List (List PV)) : idx (a :: b :: c :: l) 2 = c := rfl
attribute [push_cast] idx_c0 idx_c1 idx_c2 List.map_cons List.map_nil List.length_cons List.length_nil decide_true decide_false
section
open Go.Eng
end
class GetAt (l : List Int) (j : Nat) (v : outParam Int) : Prop where
  out : l.getD j default = v
theorem get_at {l : List Int} {j : Nat} {v : Int} [h : GetAt l j v] : l.getD j default = v := h.out
attribute [push_cast] get_at
def shareI (P : Nat -> Bool) (h : Int) (w : List Int) (L k : Nat) : Int :=
  if selI P w L <= h then w.getD k default else h * selI P w (k + 1) / selI P w L - h * selI P w k / selI P w L
theorem selI_nn {P : Nat -> Bool} {w : List Int} : ∀ n, (∀ i, i < n -> 0 <= w.getD i default) -> 0 <= selI P w n
  | 0, _ => by simp [selI]
  | n + 1, h => by
    have h1 := selI_nn (P := P) n fun i hi => h i (by omega)
    have h2 := h n (by omega);unfold selI; split <;> omega
theorem selI_mono {P : Nat -> Bool} {w : List Int} {a : Nat} : ∀ n, a <= n -> (∀ i, i < n -> 0 <= w.getD i default) -> selI P w a <= selI P w n
  | 0, h, _ => by rw [Nat.le_zero.1 h]; exact Int.le_refl _
  | n + 1, h, hw => by
    by_cases e : a = n + 1
    · rw [e]; exact Int.le_refl _
    · have h1 := selI_mono (P := P) (a := a) n (by omega) fun i hi => hw i (by omega)
      have h2 := hw n (by omega);rw [show selI P w (n + 1) = if P n then selI P w n + w.getD n default else selI P w n from rfl];split <;> omega
theorem selI_hit {P : Nat -> Bool} {w : List Int} {k : Nat} (h : P k = true) : selI P w (k + 1) = selI P w k + w.getD k default := by
  rw [show selI P w (k + 1) = if P k then selI P w k + w.getD k default else selI P w k from rfl, if_pos h]
theorem selI_miss {P : Nat -> Bool} {w : List Int} {k : Nat} (h : P k = false) : selI P w (k + 1) = selI P w k := by
  rw [show selI P w (k + 1) = if P k then selI P w k + w.getD k default else selI P w k from rfl, if_neg (by rw [h]; decide)]
section
variable {P : Nat -> Bool} {h : Int} {w : List Int} {L : Nat}
theorem share_in (hw : ∀ i, i < L -> 0 <= w.getD i default) (h0 : 0 <= h) {k : Nat} (hk : k < L) (hp : P k = true) : 0 <= shareI P h w L k /\ shareI P h w L k <= w.getD k default := by
  have hwk := hw k hk;unfold shareI;split
  · exact ⟨hwk, Int.le_refl _⟩
  next hS =>
  have e := selI_hit (w := w) hp;have m1 := selI_mono (P := P) L (a := k + 1) (by omega) hw;have m0 := selI_nn (P := P) (w := w) k fun i hi => hw i (by omega)
  generalize selI P w L = S at *
  generalize selI P w (k + 1) = B at *
  generalize selI P w k = A at *
  generalize w.getD k default = x at *
  have hS0 : 0 < S := by omega
  subst e;rw [Int.mul_add];have hx : 0 <= h * x := Int.mul_nonneg h0 hwk;constructor
  · have := Int.ediv_le_ediv (c := S) hS0 (show h * A <= h * A + h * x by omega);omega
  · have h1 : h * x <= S * x := Int.mul_le_mul_of_nonneg_right (by omega) hwk;have h2 := Int.ediv_le_ediv (c := S) hS0 (show h * A + h * x <= h * A + S * x by omega);rw [Int.add_mul_ediv_left _ _ (by omega)] at h2;omega
theorem share_sum {X : List Int} (hX : ∀ k, k < L -> P k = true -> X.getD k default = shareI P h w L k) : ∀ i, i <= L -> selI P X i = if selI P w L <= h then selI P w i else h * selI P w i / selI P w L
  | 0, _ => by
    show (0 : Int) = if _ then 0 else h * 0 / _
    rw [Int.mul_zero, Int.zero_ediv, ite_self]
  | i + 1, hi => by
    have ih := share_sum hX i (by omega);cases hp : P i
    · rw [selI_miss hp, selI_miss hp, ih]
    · rw [selI_hit hp, ih, hX i (by omega) hp];unfold shareI;split
      · rw [selI_hit hp]
      · omega
theorem share_all {X : List Int} (hX : ∀ k, k < L -> P k = true -> X.getD k default = shareI P h w L k) (hw : ∀ i, i < L -> 0 <= w.getD i default) (h0 : 0 <= h) : selI P X L <= h := by
  rw [share_sum hX L (Nat.le_refl _)];split
  · assumption
  next hS =>
  have hS0 : 0 < selI P w L := by
    have := selI_nn (P := P) (w := w) L hw;omega
  rw [Int.mul_ediv_cancel _ (by omega)];exact Int.le_refl _
end
def froQ (n : Net) (q k : Nat) : Bool := decide (nodeIx n.nodes (n.links.getD k default).fro = (q : Int))
def limK (n : Net) (held w : List Int) (k : Nat) : Int := shareI (froQ n (fromI n k)) (held.getD (fromI n k) default) w n.links.length k
def limR (n : Net) (held w : List Int) : List Int := (List.range n.links.length).map (limK n held w)
theorem limR_len (n : Net) (held w : List Int) : (limR n held w).length = n.links.length := by simp [limR]
theorem rngm_at {α : Type} [Inhabited α] {f : Nat -> α} {L k : Nat} (hk : k < L) : ((List.range L).map f).getD k default = f k := by
  rw [List.getD_eq_getElem?_getD, List.getElem?_map, List.getElem?_range hk]; rfl
theorem limR_at {n : Net} {held w : List Int} {k : Nat} (hk : k < n.links.length) : (limR n held w).getD k default = limK n held w k := rngm_at hk
section
variable {n : Net} {held w : List Int}
theorem lim_in (hF : ∀ k, k < n.links.length -> froQ n (fromI n k) k = true) (hw : ∀ i, i < n.links.length -> 0 <= w.getD i default) (hh : ∀ k, k < n.links.length -> 0 <= held.getD (fromI n k) default) {k : Nat} (hk : k < n.links.length) : 0 <= limK n held w k /\ limK n held w k <= w.getD k default :=
  share_in hw (hh k hk) hk (hF k hk)
theorem lim_all (hQ : ∀ q k, k < n.links.length -> froQ n q k = true -> fromI n k = q) (hw : ∀ i, i < n.links.length -> 0 <= w.getD i default) {q : Nat} (hh : 0 <= held.getD q default) : selI (froQ n q) (limR n held w) n.links.length <= held.getD q default :=
  share_all (fun k hk hp => by rw [limR_at hk]; unfold limK; rw [hQ q k hk hp]) hw hh
end
def tilQ (n : Net) (q k : Nat) : Bool := decide (nodeIx n.nodes (n.links.getD k default).til = (q : Int))
def isOut (n : Net) (q : Nat) : Bool := decide ((n.nodes.getD q default).kind = 3)
def inH (n : Net) (held inf : List Int) (i : Nat) : List Int := (List.range n.nodes.length).map fun q => held.getD q default + if q < i /\ isOut n q = false then inf.getD q default else 0
def mvH (n : Net) (held X : List Int) (i : Nat) : List Int := (List.range n.nodes.length).map fun q => held.getD q default - selI (froQ n q) X i + if isOut n q then 0 else selI (tilQ n q) X i
theorem inH_at {n : Net} {held inf : List Int} {i q : Nat} (hq : q < n.nodes.length) : (inH n held inf i).getD q default = held.getD q default + if q < i /\ isOut n q = false then inf.getD q default else 0 := rngm_at hq
theorem mvH_at {n : Net} {held X : List Int} {i q : Nat} (hq : q < n.nodes.length) : (mvH n held X i).getD q default = held.getD q default - selI (froQ n q) X i + if isOut n q then 0 else selI (tilQ n q) X i := rngm_at hq
structure EndsIn (n : Net) : Prop where
  f : ∀ k, k < n.links.length -> fromI n k < n.nodes.length /\ nodeIx n.nodes (n.links.getD k default).fro = (fromI n k : Int)
  t : ∀ k, k < n.links.length -> tillI n k < n.nodes.length /\ nodeIx n.nodes (n.links.getD k default).til = (tillI n k : Int)
theorem EndsIn.fro {n : Net} (E : EndsIn n) {q k : Nat} (hk : k < n.links.length) : froQ n q k = decide (q = fromI n k) := by
  unfold froQ;rw [(E.f k hk).2];by_cases e : q = fromI n k
  · rw [decide_eq_true e, decide_eq_true (by omega)]
  · rw [decide_eq_false e, decide_eq_false (by omega)]
theorem EndsIn.til {n : Net} (E : EndsIn n) {q k : Nat} (hk : k < n.links.length) : tilQ n q k = decide (q = tillI n k) := by
  unfold tilQ;rw [(E.t k hk).2];by_cases e : q = tillI n k
  · rw [decide_eq_true e, decide_eq_true (by omega)]
  · rw [decide_eq_false e, decide_eq_false (by omega)]
def heldA (n : Net) (s : Sta) (inf : List Int) : List Int := inH n (heldL s) inf n.nodes.length
def heldB (n : Net) (s : Sta) (inf : List Int) : List Int := hS n (heldA n s inf)
def lvl1 (n : Net) (s : Sta) (inf : List Int) : List Int := levelsL n (vS n (heldB n s inf))
def onS (n : Net) (s : Sta) (inf : List Int) : List Bool := pumpsL n (lvl1 n s inf) s.on
def sta2 (n : Net) (s : Sta) (inf : List Int) : Sta := ⟨vS n (heldB n s inf), pS n (heldB n s inf), s.set, onS n s inf⟩
def wshL (n : Net) (l : List Sect) (lv : List Int) (s : Sta) (sec : Int) : List Int := (List.range n.links.length).map fun k => (wishI (flowAt n l lv s k) sec).1
def wsh (n : Net) (l : List Sect) (s : Sta) (inf : List Int) (sec : Int) : List Int := wshL n l (lvl1 n s inf) (sta2 n s inf) sec
def pasL (n : Net) (l : List Sect) (s : Sta) (inf : List Int) (sec : Int) : List Int := limR n (heldB n s inf) (wsh n l s inf sec)
def heldC (n : Net) (l : List Sect) (s : Sta) (inf : List Int) (sec : Int) : List Int := mvH n (heldB n s inf) (pasL n l s inf sec) n.links.length
def heldD (n : Net) (l : List Sect) (s : Sta) (inf : List Int) (sec : Int) : List Int := hS n (heldC n l s inf sec)
def stepS (n : Net) (l : List Sect) (s : Sta) (inf : List Int) (sec : Int) : Sta := ⟨vS n (heldD n l s inf sec), pS n (heldD n l s inf sec), s.set, onS n s inf⟩
structure StepIn (n : Net) (l : List Sect) (s : Sta) (inf : List Int) (sec : Int) : Prop where
  no : netOk n
  co : catOk l
  nb : netB n = true
  sb : staB n s = true
  cb : catB l = true
  il : inf.length = n.nodes.length
  ir : ∀ i, i < n.nodes.length -> 0 <= inf.getD i default /\ inf.getD i default <= 1125899906842624
  sc : 1 <= sec /\ sec <= 86400
  kn : ∀ k, k < n.links.length -> knownB l (n.links.getD k default) = true
theorem ends_of {n : Net} (nb : netB n = true) : EndsIn n := ⟨fun _ hk => fromI_lt nb hk, fun _ hk => tillI_lt nb hk⟩
section
variable {n : Net} {l : List Sect} {s : Sta} {inf : List Int} {sec : Int}
theorem StepIn.hold (S : StepIn n l s inf sec) : ∀ q, q < n.nodes.length -> 0 <= (heldL s).getD q default /\ (heldL s).getD q default <= 2251799813685248 := fun q hq => by
  obtain ⟨hh, _, l1, _⟩ := sta_hold S.nb S.sb;exact heldL_le hh q (by omega)
theorem StepIn.inA (S : StepIn n l s inf sec) : ∀ q, q < n.nodes.length -> 0 <= (heldA n s inf).getD q default /\ (heldA n s inf).getD q default <= 3377699720527872 := fun q hq => by
  have h1 := S.hold q hq;have h2 := S.ir q hq;unfold heldA;rw [inH_at hq];split <;> omega
theorem vS_len (h : List Int) : (vS n h).length = n.nodes.length := by simp [vS]
theorem pS_len (h : List Int) : (pS n h).length = n.nodes.length := by simp [pS]
theorem heldB_at {q : Nat} (hq : q < n.nodes.length) : (heldB n s inf).getD q default = if isOut n q then 0 else (heldA n s inf).getD q default := by
  unfold heldB isOut;rw [hS_at hq];by_cases h : (n.nodes.getD q default).kind = 3
  · rw [if_pos h, if_pos (decide_eq_true h)]
  · rw [if_neg h, if_neg (by simpa using h)]
theorem StepIn.inB (S : StepIn n l s inf sec) : ∀ q, q < n.nodes.length -> 0 <= (heldB n s inf).getD q default /\ (heldB n s inf).getD q default <= 3377699720527872 := fun q hq => by
  have h1 := S.inA q hq;rw [heldB_at hq];split <;> omega
theorem vS_at {h : List Int} {q : Nat} (hq : q < n.nodes.length) : (vS n h).getD q default = if capN (n.nodes.getD q default) < h.getD q default then capN (n.nodes.getD q default) else h.getD q default := map_at hq
theorem pS_at {h : List Int} {q : Nat} (hq : q < n.nodes.length) : (pS n h).getD q default = h.getD q default - (if capN (n.nodes.getD q default) < h.getD q default then capN (n.nodes.getD q default) else h.getD q default) := map_at hq
theorem vS_in (nb : netB n = true) {h : List Int} {q : Nat} (hq : q < n.nodes.length) (hh : 0 <= h.getD q default) : 0 <= (vS n h).getD q default /\ (vS n h).getD q default <= capN (n.nodes.getD q default) := by
  have := capN_in nb hq;rw [vS_at hq];split <;> omega
theorem capN_out {q : Nat} (h : isOut n q = true) : capN (n.nodes.getD q default) = 0 := by
  unfold capN;rw [if_pos (of_decide_eq_true h)]
theorem fitS_at {h : List Int} (hf : fitS n h = true) {q : Nat} (hq : q < n.nodes.length) : (pS n h).getD q default <= 1125899906842624 := by
  unfold fitS fitI at hf;rw [List.all_eq_true] at hf;exact of_decide_eq_true (hf q (List.mem_range.2 hq))
theorem isOut_kind {q : Nat} : isOut n q = true ↔ (n.nodes.getD q default).kind = 3 := decide_eq_true_iff
theorem sta_settled (S : StepIn n l s inf sec) {h : List Int} {on : List Bool} (hl : on.length = n.links.length) (hon : ∀ k, k < n.links.length -> on.getD k default = true -> (n.links.getD k default).kind = 4) (h0 : ∀ q, q < n.nodes.length -> 0 <= h.getD q default) (ho : ∀ q, q < n.nodes.length -> isOut n q = true -> h.getD q default = 0) (hf : fitS n h = true) : staB n ⟨vS n h, pS n h, s.set, on⟩ = true := by
  obtain ⟨h1, h2, h3⟩ := staB_in S.nb S.sb;obtain ⟨l1, l2, l3, l4⟩ := lensB_of h1;unfold staB lensB;simp only [Bool.and_eq_true, decide_eq_true_eq, List.all_eq_true, List.mem_range];refine ⟨⟨⟨⟨⟨vS_len h, pS_len h⟩, l3⟩, hl⟩, fun q hq => ?_⟩, fun k hk => ?_⟩
  · have a1 := vS_in S.nb hq (h0 q hq);have a2 := fitS_at hf hq;have a3 := pS_at (n := n) (h := h) hq;have a4 := h0 q hq;have a5 := ho q hq;unfold okSN btwB volB;simp only [Bool.and_eq_true, decide_eq_true_eq, Bool.not_eq_true', Bool.and_eq_false_iff, decide_eq_false_iff_not, Bool.not_eq_false'];refine ⟨⟨a1, ?_⟩, ?_⟩
    · constructor
      · show 0 <= (pS n h).getD q default;rw [a3];split <;> omega
      · exact a2
    · by_cases hk : (n.nodes.getD q default).kind = 3
      · refine .inr ?_;have e := a5 (isOut_kind.2 hk);show (pS n h).getD q default = 0;rw [a3, e, capN_out (isOut_kind.2 hk)]; rfl
      · exact .inl hk
  · have b1 := h3 k hk;unfold okSL at b1 ⊢;simp only [Bool.and_eq_true, Bool.not_eq_true', Bool.and_eq_false_iff, Bool.not_eq_false', decide_eq_true_eq] at b1 ⊢;refine ⟨b1.1, ?_⟩;cases ho2 : on.getD k default
    · exact .inl rfl
    · exact .inr (hon k hk ho2)
end
section
variable {n : Net} {l : List Sect} {s : Sta} {inf : List Int} {sec : Int} {held w : List Int}
structure PassIn (n : Net) (held w : List Int) : Prop where
  w0 : ∀ k, k < n.links.length -> 0 <= w.getD k default /\ w.getD k default <= 1125899906842624
  h0 : ∀ q, q < n.nodes.length -> 0 <= held.getD q default
theorem PassIn.x (W : PassIn n held w) (E : EndsIn n) {k : Nat} (hk : k < n.links.length) : 0 <= (limR n held w).getD k default /\ (limR n held w).getD k default <= 1125899906842624 := by
  have h1 := lim_in (n := n) (held := held) (w := w) (fun k hk => by rw [E.fro hk]; exact decide_eq_true rfl) (fun i hi => (W.w0 i hi).1) (fun k hk => W.h0 _ (E.f k hk).1) hk;have h2 := (W.w0 k hk).2;rw [limR_at hk]; omega
theorem PassIn.le (W : PassIn n held w) (E : EndsIn n) {q : Nat} (hq : q < n.nodes.length) : selI (froQ n q) (limR n held w) n.links.length <= held.getD q default :=
  lim_all (fun q k hk hf => by rw [E.fro hk] at hf; exact (of_decide_eq_true hf).symm) (fun i hi => (W.w0 i hi).1) (W.h0 q hq)
end
theorem own54 : ownKnob Tryz.prog.godebug = none := by kernel_rfl
theorem laid54 : laidOutB Tryz.prog = true := by kernel_rfl
theorem exMap {α : Type} (f : α -> List PV) (p : α -> Prop) : ∀ (l : List (List PV)), (∀ r, r ∈ l -> ∃ x, r = f x /\ p x) -> ∃ xs : List α, l = xs.map f /\ ∀ x, x ∈ xs -> p x
  | [], _ => ⟨[], rfl, by simp⟩
  | r :: l, h => by
    obtain ⟨x, hx, hp⟩ := h r (by simp);obtain ⟨xs, hxs, hq⟩ := exMap f p l fun r hr => h r (by simp [hr])
    refine ⟨x :: xs, by simp [hx, hxs], fun y hy => ?_⟩;rcases List.mem_cons.1 hy with rfl | hy
    · exact hp
    · exact hq y hy
theorem PT_slice {P : Program} {n : Nat} {t e : TypeId} {xs : List PV} (hu : P.underlying t = some (.slice e)) (h : PT P (n + 1) t xs) : ∃ l, xs = [.dat (P.cellsOf e) l] /\ l.length * P.bytesOf e <= reachBytes /\ ∀ r, r ∈ l -> PT P n e r := by
  unfold PT at h; rw [hu] at h; exact h
theorem PT_struct {P : Program} {n : Nat} {t : TypeId} {fs : Array Field} {xs : List PV} (hu : P.underlying t = some (.struct fs)) (h : PT P (n + 1) t xs) : PTf P (PT P n) fs.toList xs := by
  unfold PT at h; rw [hu] at h; exact h
theorem PT_int {P : Program} {n : Nat} {t : TypeId} {k : IntKind} {xs : List PV} (hu : P.underlying t = some (.int k)) (h : PT P (n + 1) t xs) : ∃ z, xs = [.lit (.int k z)] /\ (Lit.int k z).wf = true := by
  unfold PT at h; rw [hu] at h; exact h
theorem PT_str {P : Program} {n : Nat} {t : TypeId} {xs : List PV} (hu : P.underlying t = some .string) (h : PT P (n + 1) t xs) : ∃ s : ByteArray, xs = [.lit (.string s)] /\ s.size <= reachBytes := by
  unfold PT at h; rw [hu] at h; exact h
theorem PT_bool {P : Program} {n : Nat} {t : TypeId} {xs : List PV} (hu : P.underlying t = some .bool) (h : PT P (n + 1) t xs) : ∃ b : Bool, xs = [.lit (.bool b)] := by
  unfold PT at h; rw [hu] at h; exact h
attribute [local irreducible] PT
theorem reachB : reachBytes <= 281474976710656 := by decide
theorem len_le {l k : Nat} (hk : 0 < k) (h : l * k <= reachBytes) : l <= 281474976710656 := Nat.le_trans (Nat.le_mul_of_pos_right l hk) (Nat.le_trans h reachB)
theorem pt_int {n : Nat} {xs : List PV} (h : PT Tryz.prog (n + 1) 3 xs) : ∃ z : Int, xs = [.lit (.int .i64 z)] /\ i64ok z := by
  obtain ⟨z, rfl, hz⟩ := PT_int (P := Tryz.prog) (t := 3) Tryz.underlying3 h;refine ⟨z, rfl, ?_⟩;unfold i64ok;simpa [Lit.wf, IntKind.min, IntKind.max, IntKind.signed, IntKind.bits] using hz
theorem pt_bool {n : Nat} {xs : List PV} (h : PT Tryz.prog (n + 1) 4 xs) : ∃ b : Bool, xs = [.lit (.bool b)] := PT_bool (P := Tryz.prog) (t := 4) Tryz.underlying4 h
theorem pt_str {n : Nat} {xs : List PV} (h : PT Tryz.prog (n + 1) 9 xs) : ∃ s : ByteArray, xs = [.lit (.string s)] /\ s.size <= 281474976710656 := by
  obtain ⟨z, rfl, hz⟩ := PT_str (P := Tryz.prog) (t := 9) Tryz.underlying9 h;exact ⟨z, rfl, Nat.le_trans hz reachB⟩
theorem pt_knot {n : Nat} {xs : List PV} (h : PT Tryz.prog (n + 2) 139 xs) : ∃ x : Knot, xs = knotP x /\ knotOk x := by
  replace h := PT_struct (P := Tryz.prog) (t := 139) Tryz.underlying139 h
  obtain ⟨_, _, rfl, h0, _, _, rfl, h1, rfl⟩ := h;obtain ⟨a0, rfl, k0⟩ := pt_int h0;obtain ⟨a1, rfl, k1⟩ := pt_int h1;exact ⟨⟨a0, a1⟩, rfl, ⟨k0, k1⟩⟩
theorem cells_knots : Tryz.prog.cellsOf 139 = 2 := by kernel_rfl
theorem bytes_knots : 0 < Tryz.prog.bytesOf 139 := by rw [show Tryz.prog.bytesOf 139 = 16 from by kernel_rfl]; decide
theorem pt_knots {n : Nat} {xs : List PV} (h : PT Tryz.prog (n + 3) 42 xs) : ∃ l : List Knot, xs = [.dat 2 (l.map knotP)] /\ l.length <= 281474976710656 /\ ∀ x, x ∈ l -> knotOk x := by
  obtain ⟨l, rfl, hl, hr⟩ := PT_slice (P := Tryz.prog) (t := 42) Tryz.underlying42 h;obtain ⟨zs, rfl, hz⟩ := exMap knotP knotOk l fun r hr2 => by
    obtain ⟨z, rfl, hz⟩ := pt_knot (hr r hr2);exact ⟨z, rfl, hz⟩
  rw [cells_knots];have := len_le bytes_knots hl;rw [List.length_map] at this;exact ⟨zs, rfl, this, hz⟩
theorem pt_point {n : Nat} {xs : List PV} (h : PT Tryz.prog (n + 2) 40 xs) : ∃ x : Point, xs = pointP x /\ pointOk x := by
  replace h := PT_struct (P := Tryz.prog) (t := 40) Tryz.underlying40 h
  obtain ⟨_, _, rfl, h0, _, _, rfl, h1, rfl⟩ := h;obtain ⟨a0, rfl, k0⟩ := pt_int h0;obtain ⟨a1, rfl, k1⟩ := pt_int h1;exact ⟨⟨a0, a1⟩, rfl, ⟨k0, k1⟩⟩
theorem pt_node {n : Nat} {xs : List PV} (h : PT Tryz.prog (n + 4) 44 xs) : ∃ x : Node, xs = nodeP x /\ nodeOk x := by
  replace h := PT_struct (P := Tryz.prog) (t := 44) Tryz.underlying44 h
  obtain ⟨_, _, rfl, h0, _, _, rfl, h1, _, _, rfl, h2, _, _, rfl, h3, _, _, rfl, h4, _, _, rfl, h5, _, _, rfl, h6, _, _, rfl, h7, rfl⟩ := h;obtain ⟨a0, rfl, k0⟩ := pt_str h0;obtain ⟨a1, rfl, k1⟩ := pt_int h1;obtain ⟨a2, rfl, k2⟩ := pt_point h2;obtain ⟨a3, rfl, k3⟩ := pt_int h3;obtain ⟨a4, rfl, k4⟩ := pt_int h4;obtain ⟨a5, rfl, k5⟩ := pt_knots h5;obtain ⟨a6, rfl⟩ := pt_bool h6;obtain ⟨a7, rfl, k7⟩ := pt_int h7;exact ⟨⟨a0, a1, a2, a3, a4, a5, a6, a7⟩, rfl, ⟨k0, k1, k2, k3, k4, k5, k7⟩⟩
theorem cells_nodes : Tryz.prog.cellsOf 44 = 9 := by kernel_rfl
theorem bytes_nodes : 0 < Tryz.prog.bytesOf 44 := by rw [show Tryz.prog.bytesOf 44 = 96 from by kernel_rfl]; decide
theorem pt_nodes {n : Nat} {xs : List PV} (h : PT Tryz.prog (n + 5) 22 xs) : ∃ l : List Node, xs = [.dat 9 (l.map nodeP)] /\ l.length <= 281474976710656 /\ ∀ x, x ∈ l -> nodeOk x := by
  obtain ⟨l, rfl, hl, hr⟩ := PT_slice (P := Tryz.prog) (t := 22) Tryz.underlying22 h;obtain ⟨zs, rfl, hz⟩ := exMap nodeP nodeOk l fun r hr2 => by
    obtain ⟨z, rfl, hz⟩ := pt_node (hr r hr2);exact ⟨z, rfl, hz⟩
  rw [cells_nodes];have := len_le bytes_nodes hl;rw [List.length_map] at this;exact ⟨zs, rfl, this, hz⟩
theorem pt_link {n : Nat} {xs : List PV} (h : PT Tryz.prog (n + 4) 57 xs) : ∃ x : Link, xs = linkP x /\ linkOk x := by
  replace h := PT_struct (P := Tryz.prog) (t := 57) Tryz.underlying57 h
  obtain ⟨_, _, rfl, h0, _, _, rfl, h1, _, _, rfl, h2, _, _, rfl, h3, _, _, rfl, h4, _, _, rfl, h5, _, _, rfl, h6, _, _, rfl, h7, _, _, rfl, h8, _, _, rfl, h9, _, _, rfl, h10, rfl⟩ := h;obtain ⟨a0, rfl, k0⟩ := pt_str h0;obtain ⟨a1, rfl, k1⟩ := pt_str h1;obtain ⟨a2, rfl, k2⟩ := pt_str h2;obtain ⟨a3, rfl, k3⟩ := pt_int h3;obtain ⟨a4, rfl, k4⟩ := pt_int h4;obtain ⟨a5, rfl, k5⟩ := pt_int h5;obtain ⟨a6, rfl, k6⟩ := pt_int h6;obtain ⟨a7, rfl, k7⟩ := pt_str h7;obtain ⟨a8, rfl, k8⟩ := pt_int h8;obtain ⟨a9, rfl, k9⟩ := pt_int h9;obtain ⟨a10, rfl, k10⟩ := pt_knots h10;exact ⟨⟨a0, a1, a2, a3, a4, a5, a6, a7, a8, a9, a10⟩, rfl, ⟨k0, k1, k2, k3, k4, k5, k6, k7, k8, k9, k10⟩⟩
theorem cells_links : Tryz.prog.cellsOf 57 = 11 := by kernel_rfl
theorem bytes_links : 0 < Tryz.prog.bytesOf 57 := by rw [show Tryz.prog.bytesOf 57 = 136 from by kernel_rfl]; decide
theorem pt_links {n : Nat} {xs : List PV} (h : PT Tryz.prog (n + 5) 23 xs) : ∃ l : List Link, xs = [.dat 11 (l.map linkP)] /\ l.length <= 281474976710656 /\ ∀ x, x ∈ l -> linkOk x := by
  obtain ⟨l, rfl, hl, hr⟩ := PT_slice (P := Tryz.prog) (t := 23) Tryz.underlying23 h;obtain ⟨zs, rfl, hz⟩ := exMap linkP linkOk l fun r hr2 => by
    obtain ⟨z, rfl, hz⟩ := pt_link (hr r hr2);exact ⟨z, rfl, hz⟩
  rw [cells_links];have := len_le bytes_links hl;rw [List.length_map] at this;exact ⟨zs, rfl, this, hz⟩
theorem pt_net {n : Nat} {xs : List PV} (h : PT Tryz.prog (n + 6) 25 xs) : ∃ x : Net, xs = netP x /\ netOk x := by
  replace h := PT_struct (P := Tryz.prog) (t := 25) Tryz.underlying25 h
  obtain ⟨_, _, rfl, h0, _, _, rfl, h1, rfl⟩ := h;obtain ⟨a0, rfl, k0⟩ := pt_nodes h0;obtain ⟨a1, rfl, k1⟩ := pt_links h1;exact ⟨⟨a0, a1⟩, rfl, ⟨k0, k1⟩⟩
theorem dv_net (n : Net) : dvT Tryz.prog 25 (netP n) = netD n := by unfold dvT; rw [Tryz.underlying25]; rfl
theorem dv_int (n : Int) : dvT Tryz.prog 3 [.lit (.int .i64 n)] = li n := by unfold dvT; rw [Tryz.underlying3]; rfl
theorem pt_sect {n : Nat} {xs : List PV} (h : PT Tryz.prog (n + 4) 98 xs) : ∃ x : Sect, xs = sectP x /\ sectOk x := by
  replace h := PT_struct (P := Tryz.prog) (t := 98) Tryz.underlying98 h
  obtain ⟨_, _, rfl, h0, _, _, rfl, h1, _, _, rfl, h2, _, _, rfl, h3, _, _, rfl, h4, rfl⟩ := h;obtain ⟨a0, rfl, k0⟩ := pt_str h0;obtain ⟨a1, rfl, k1⟩ := pt_int h1;obtain ⟨a2, rfl, k2⟩ := pt_int h2;obtain ⟨a3, rfl, k3⟩ := pt_knots h3;obtain ⟨a4, rfl, k4⟩ := pt_knots h4;exact ⟨⟨a0, a1, a2, a3, a4⟩, rfl, ⟨k0, k1, k2, k3, k4⟩⟩
theorem cells_sects : Tryz.prog.cellsOf 98 = 5 := by kernel_rfl
theorem bytes_sects : 0 < Tryz.prog.bytesOf 98 := by rw [show Tryz.prog.bytesOf 98 = 80 from by kernel_rfl]; decide
theorem pt_sects {n : Nat} {xs : List PV} (h : PT Tryz.prog (n + 5) 26 xs) : ∃ l : List Sect, xs = [.dat 5 (l.map sectP)] /\ l.length <= 281474976710656 /\ ∀ x, x ∈ l -> sectOk x := by
  obtain ⟨l, rfl, hl, hr⟩ := PT_slice (P := Tryz.prog) (t := 26) Tryz.underlying26 h;obtain ⟨zs, rfl, hz⟩ := exMap sectP sectOk l fun r hr2 => by
    obtain ⟨z, rfl, hz⟩ := pt_sect (hr r hr2);exact ⟨z, rfl, hz⟩
  rw [cells_sects];have := len_le bytes_sects hl;rw [List.length_map] at this;exact ⟨zs, rfl, this, hz⟩
theorem dv_sects (l : List Sect) : dvT Tryz.prog 26 [.dat 5 (l.map sectP)] = sectL l := by unfold dvT; rw [Tryz.underlying26]; rfl
section
variable {n : Net} {l : List Sect} {s : Sta} {inf : List Int} {sec : Int}
theorem wishI_in {q sec : Int} (h : 0 <= q /\ q <= 1099511627776) (hs : 1 <= sec /\ sec <= 86400) : wishI q sec = (min (q * sec) 1125899906842624, 0) /\ 0 <= (wishI q sec).1 /\ (wishI q sec).1 <= 1125899906842624 := by
  have e : wishI q sec = (min (q * sec) 1125899906842624, 0) := by
    unfold wishI;rw [if_neg (by omega)]
  have h1 : 0 <= q * sec := Int.mul_nonneg h.1 (by omega);rw [e];refine ⟨rfl, ?_, ?_⟩
  · show 0 <= min (q * sec) 1125899906842624;omega
  · show min (q * sec) 1125899906842624 <= 1125899906842624;omega
theorem StepIn.lv (S : StepIn n l s inf sec) : (lvl1 n s inf).length = n.nodes.length /\ lvA n (lvl1 n s inf) = true := by
  refine ⟨rng_len _ _, lvA_yes fun q hq => ?_⟩;have h0 := (vS_in S.nb hq (S.inB q hq).1).1;have := levelI_in (netB_node S.nb hq) h0;unfold lvB lvl1 levelsL;rw [rng_at hq];unfold btwB;simp only [Bool.and_eq_true, decide_eq_true_eq];exact this
theorem onS_len : (onS n s inf).length = n.links.length := rng_len _ _
theorem onS_kind {k : Nat} (hk : k < n.links.length) (h : (onS n s inf).getD k default = true) : (n.links.getD k default).kind = 4 := by
  unfold onS pumpsL at h;rw [rng_at hk] at h;unfold pumpAt at h;simp only [Bool.and_eq_true, decide_eq_true_eq] at h;exact h.1
theorem StepIn.ok2 (S : StepIn n l s inf sec) (hf : fitS n (heldB n s inf) = true) : staB n (sta2 n s inf) = true :=
  sta_settled S onS_len (fun k hk ho => onS_kind hk ho) (fun q hq => (S.inB q hq).1) (fun q hq ho => by rw [heldB_at hq, if_pos ho]) hf
theorem StepIn.flows (S : StepIn n l s inf sec) (hf : fitS n (heldB n s inf) = true) : FlowsIn n l (lvl1 n s inf) (sta2 n s inf) := ⟨S.no, S.co, S.nb, S.cb, S.ok2 hf, S.lv.1, S.lv.2, S.kn⟩
theorem StepIn.pass (S : StepIn n l s inf sec) (hf : fitS n (heldB n s inf) = true) : PassIn n (heldB n s inf) (wsh n l s inf sec) where
  w0 k hk := by
    have h := flowI_in (on := ((sta2 n s inf).on.getD k default)) ((S.flows hf).btw hk);unfold wsh wshL;rw [rng_at hk];exact (wishI_in h S.sc).2
  h0 q hq := (S.inB q hq).1
theorem StepIn.inC (S : StepIn n l s inf sec) (hf : fitS n (heldB n s inf) = true) : ∀ q, q < n.nodes.length -> 0 <= (heldC n l s inf sec).getD q default /\ (heldC n l s inf sec).getD q default <= 1152921504606846976 := fun q hq => by
  have W := S.pass hf;have E := ends_of S.nb;have h400 := (netB_len S.nb).2;have hB := S.inB q hq;unfold heldC;rw [mvH_at hq];have h1 := W.le E hq;have hx : ∀ i, i < (pasL n l s inf sec).length -> 0 <= (pasL n l s inf sec).getD i default /\ (pasL n l s inf sec).getD i default <= 1125899906842624 := fun i hi => W.x E (by unfold pasL at hi; rw [limR_len] at hi; exact hi)
  have hl : (pasL n l s inf sec).length = n.links.length := limR_len ..;have h2 := selI_le (p := tilQ n q) hx n.links.length (by omega);have h3 := selI_le (p := froQ n q) hx n.links.length (by omega);have h1 : selI (froQ n q) (pasL n l s inf sec) n.links.length <= (heldB n s inf).getD q default := h1;have h4 : (n.links.length : Int) * 1125899906842624 <= 400 * 1125899906842624 := Int.mul_le_mul_of_nonneg_right (by omega) (by decide);split <;> omega
theorem StepIn.inD (S : StepIn n l s inf sec) (hf : fitS n (heldB n s inf) = true) : ∀ q, q < n.nodes.length -> 0 <= (heldD n l s inf sec).getD q default := fun q hq => by
  have := S.inC hf q hq;unfold heldD;rw [hS_at hq];split <;> omega
theorem StepIn.fin (S : StepIn n l s inf sec) (hf : fitS n (heldB n s inf) = true) (hg : fitS n (heldD n l s inf sec) = true) : staB n (stepS n l s inf sec) = true :=
  sta_settled S onS_len (fun k hk ho => onS_kind hk ho) (S.inD hf) (fun q hq ho => by unfold heldD; rw [hS_at hq, if_pos (isOut_kind.1 ho)]) hg
end
section
variable {n : Net} {l : List Sect} {s : Sta} {inf : List Int} {sec : Int}
end
section
variable {n : Net} {l : List Sect} {s : Sta} {inf : List Int} {sec : Int}
end
section
open Go.Eng
end
class PairAt (l : List (Int × Int)) (j : Nat) (a b : outParam Int) : Prop where
  out : l.getD j default = (a, b)
theorem pair_at1 {l : List (Int × Int)} {j : Nat} {a b : Int} [h : PairAt l j a b] : (l.getD j default).1 = a := by rw [h.out]
theorem pair_at2 {l : List (Int × Int)} {j : Nat} {a b : Int} [h : PairAt l j a b] : (l.getD j default).2 = b := by rw [h.out]
attribute [push_cast] pair_at1 pair_at2
section
open Go.Eng
theorem swp_nilC {D : Dfr} {P : Program} {N pin nx nx' : Nat} {c : Code} {Q : Exit -> LE -> LH -> Nat -> Prop} {A : LE} {H : LH} (b : Nat) (t te : TypeId) (n : Nat) (cs1 cs2 : List DV) (hn : nx + 8 = nx')
    (h : @SWp D P N pin c Q A ((b, .blk t (cs1 ++ .gl nx :: cs2)) :: (nx, .lst te n []) :: H) nx') : @SWp D P N pin c Q A ((b, .blk t (cs1 ++ .p (.lit (.slice none 0 0)) :: cs2)) :: H) nx := by
  subst hn;unfold SWp at h ⊢;intro hp B hB a w hS;obtain ⟨ρ, S, HS, ES⟩ := hS;have h0 : hget ((b, HV.blk t (cs1 ++ .p (.lit (.slice none 0 0)) :: cs2)) :: H) b = some (.blk t (cs1 ++ .p (.lit (.slice none 0 0)) :: cs2)) := by simp [hget]
  have hbU := (HS.heapU b _ h0).1;have hbn : b ≠ nx := by omega
  obtain ⟨ρ', hρ'⟩ : ∃ ρ' : Nat -> Hd, ρ' = upd ρ nx { a := none, len := 0, cap := 0 } := ⟨_, rfl⟩;have hlt : ∀ i, i < nx -> ρ' i = ρ i := fun i hi => by subst hρ'; exact upd_ne _ _ (by omega)
  have hnx : ρ' nx = { a := none, len := 0, cap := 0 } := by subst hρ'; exact upd_same ..
  have key : ∀ (l : List DV) (vs : List Value), RelL ρ' S w (l ++ .p (.lit (.slice none 0 0)) :: cs2) vs -> RelL ρ' S w (l ++ .gl nx :: cs2) vs := fun l => by
    induction l with
    | nil =>
      intro vs k;cases vs with
      | nil => exact k.elim
      | cons v vs =>
        refine ⟨?_, k.2⟩;have := rel_lit k.1;simp only [Rel];rw [hnx]; exact this
    | cons d l ih =>
      intro vs k;cases vs with
      | nil => exact k.elim
      | cons v vs => exact ⟨k.1, ih vs k.2⟩
  refine h (by omega) B hB a w ⟨ρ', S, ?_, ?_⟩
  · refine HS.seen (fun i hi => hlt i (by have := hB i hi; omega)) fun i v hi => ?_
    simp only [hget] at hi;split at hi
    · next e1 =>
      subst e1;obtain rfl := Option.some.inj hi;have hU := HS.heapU i _ h0;have hO := HRel.mono (U := fun i => i < nx) (fun i hi => hlt i hi) (fun _ k => k) (fun _ _ => rfl) hU.1 hU.2 (fun _ _ => rfl) (HS.heap i _ h0);refine ⟨?_, by omega, ?_, fun c hc => ⟨_, h0, ?_⟩⟩
      · simp only [HRel] at hO ⊢;obtain ⟨bb, vs, fz, k1, k2, k3, k4⟩ := hO;exact ⟨bb, vs, fz, k1, k2, key _ _ k3, k4⟩
      · refine usesL_iff.2 fun d hd => ?_
        have hu := usesL_iff.1 (show DV.usesL _ (cs1 ++ .p (.lit (.slice none 0 0)) :: cs2) from hU.2);rcases List.mem_append.1 hd with hd | hd
        · exact uses_mono (fun i k => by omega) _ (hu d (List.mem_append.2 (.inl hd)))
        · rcases List.mem_cons.1 hd with rfl | hd
          · show nx < nx + 8; omega
          · exact uses_mono (fun i k => by omega) _ (hu d (List.mem_append.2 (.inr (List.mem_cons_of_mem _ hd))))
      · simp only [hblk] at hc ⊢;rw [hlt i hbU] at hc; exact hc
    · next e1 =>
      split at hi
      · next e2 =>
        subst e2;obtain rfl := Option.some.inj hi;refine ⟨?_, by omega, trivial, fun c hc => ?_⟩
        · simp only [HRel];rw [hnx];exact ⟨rfl, by simp [BL], by simp, by simp, .inl rfl⟩
        · simp only [hblk] at hc;rw [hnx] at hc;simp at hc
      · next e2 =>
        have hh : hget ((b, HV.blk t (cs1 ++ .p (.lit (.slice none 0 0)) :: cs2)) :: H) i = some v := by simp only [hget, if_neg e1]; exact hi
        have hU := HS.heapU i v hh;refine ⟨HRel.mono (U := fun i => i < nx) (fun i hi => hlt i hi) (fun _ k => k) (fun _ _ => rfl) hU.1 hU.2 (fun _ _ => rfl) (HS.heap i v hh), by have : i < nx := hU.1; omega, HV.uses_mono (fun i k => by omega) v hU.2, fun c hc => ⟨v, hh, ?_⟩⟩;rw [hlt i hU.1] at hc; exact hc
  · exact ES.mono (fun i hi => hlt i hi) (fun _ k => k) (fun _ _ => rfl) fun i k => by omega
end
theorem rep_in (k : Nat) : List.replicate k [DV.p (.lit (.int .i64 0))] = rows inRow (List.replicate k 0) := by
  unfold rows; rw [List.map_replicate]; rfl
theorem rep_bo (k : Nat) : List.replicate k [DV.p (.lit (.bool false))] = rows boRow (List.replicate k false) := by
  unfold rows; rw [List.map_replicate]; rfl
attribute [push_cast] rep_in rep_bo
end Go.Proofs.YtlgfdfljnbncfaaGreat
