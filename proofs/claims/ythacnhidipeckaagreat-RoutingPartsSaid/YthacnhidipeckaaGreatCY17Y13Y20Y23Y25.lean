/-
  Contracts of functions of the program, over the engine.
  No condition.
-/
import Derived.Test.YthacnhidipeckaaGreatCY16
import Derived.Test.YthacnhidipeckaaGreatCY9Y10Y12Y8Y14
import Derived.Test.YthacnhidipeckaaGreatCT16T15T18T20Y0Y5Y1
import Derived.Test.YthacnhidipeckaaGreatCY6T21L14Y7Y11
import Derived.Test.YthacnhidipeckaaGreatCY15
namespace Go.Proofs.YthacnhidipeckaaGreat
open Go.Eng
set_option linter.all false
attribute [local irreducible] DCallsG SWp Fct CallQ XCallQ LCallQ XLCallQ drun xrun
theorem stepE_0 {n : Net} {l : List Sect} {s : Sta} {inf : List Int} {sec : Int} (no : netOk n) (co : catOk l) (h : stepE n l s inf sec = 0) : StepIn n l s inf sec ∧ fitS n (heldB n s inf) = true ∧ fitS n (heldD n l s inf sec) = true := by
  unfold stepE at h
  split at h
  · cases h
  next h1 =>
  split at h
  · cases h
  next h2 =>
  split at h
  · cases h
  next h3 =>
  split at h
  · cases h
  next h4 =>
  split at h
  · cases h
  next h5 =>
  split at h
  · cases h
  next h6 =>
  have h1 : (netB n && staB n s && catB l) = true := by simpa only [Bool.not_eq_true, Bool.not_eq_false] using h1
  simp only [Bool.and_eq_true] at h1
  have h2 : inf.length = n.nodes.length := by simpa using h2
  have h7 : rangB inf 1125899906842624 = true := by
    cases hr : rangB inf 1125899906842624
    · exact absurd (.inl hr) h3
    · rfl
  have h8 : 1 ≤ sec ∧ sec ≤ 86400 := by
    have a1 : ¬ sec < 1 := fun q => h3 (.inr (.inl q))
    have a2 : ¬ 86400 < sec := fun q => h3 (.inr (.inr q))
    omega
  refine ⟨⟨no, co, h1.1.1, h1.1.2, h1.2, h2, fun i hi => rang_at h7 i (by omega), h8, fun k hk => ?_⟩, by simpa using h5, by simpa using h6⟩
  have h4 : (n.links.any fun x => !knownB l x) = false := by simpa using h4
  rw [List.any_eq_false] at h4
  have := h4 _ (getD_mem hk)
  simpa using this
theorem stepR_good {n : Net} {l : List Sect} {s : Sta} {inf : List Int} {sec : Int} (h : stepE n l s inf sec = 0) : stepR n l s inf sec = (stepS n l s inf sec, stepL n l s inf sec, 0) := by
  unfold stepR; rw [if_pos h]
theorem Step_f (n : Net) (l : List Sect) (s : Sta) (inf : List Int) (sec : Int) (m : Nat) (no : netOk n) (co : catOk l) (so : staOk s) (hil : inf.length ≤ 281474976710656) (h14 : n.nodes.length ≤ 14) :
    DCalls Tryz.prog 14 [netD n, sectL l, staD s, ints inf, li sec] (hget []) m (.tup [staD (stepR n l s inf sec).1, ledgD (stepR n l s inf sec).2.1, li (stepR n l s inf sec).2.2]) (hget []) := by
  by_cases h : (netB n && staB n s && catB l) = true ∧ inf.length = n.nodes.length ∧ (rangB inf 1125899906842624 = true ∧ 1 ≤ sec ∧ sec ≤ 86400) ∧ (n.links.any fun x => !knownB l x) = false
  · obtain ⟨h1, h2, ⟨h3, h4⟩, h5⟩ := h
    simp only [Bool.and_eq_true] at h1
    refine stepGood_f n l s inf sec m ⟨no, co, h1.1.1, h1.1.2, h1.2, h2, fun i hi => rang_at h3 i (by omega), h4, fun k hk => ?_⟩ so h14
    rw [List.any_eq_false] at h5
    have := h5 _ (getD_mem hk)
    simpa using this
  · exact stepBad_f n l s inf sec m no co so hil h
section
variable {n : Net} {l : List Sect} {s : Sta} {inf : List Int} {sec : Int}
end
def renNo (x : Node) (s : ByteArray) : Node := { x with name := s }
def renLi (x : Link) (a b c : ByteArray) : Link := { x with name := a, fro := b, til := c }
structure Emb (n m : Net) (a : Nat → Nat) (b : Nat) : Prop where
  nb : netB n = true
  mb : netB m = true
  nd : ∀ q, q < n.nodes.length → a q < m.nodes.length ∧ ∃ s, m.nodes.getD (a q) default = renNo (n.nodes.getD q default) s
  ij : ∀ q r, q < n.nodes.length → r < n.nodes.length → a q = a r → q = r
  bl : b + n.links.length ≤ m.links.length
  lk : ∀ k, k < n.links.length → ∃ s1 s2 s3, m.links.getD (b + k) default = renLi (n.links.getD k default) s1 s2 s3
  fr : ∀ k, k < n.links.length → fromI m (b + k) = a (fromI n k)
  ti : ∀ k, k < n.links.length → tillI m (b + k) = a (tillI n k)
  ot : ∀ k, k < m.links.length → k < b ∨ b + n.links.length ≤ k → ∀ q, q < n.nodes.length → a q ≠ fromI m k ∧ a q ≠ tillI m k
def OnN (N : Nat) (a : Nat → Nat) (X Y : List Int) : Prop := ∀ q, q < N → Y.getD (a q) default = X.getD q default
def OnL {α : Type} [Inhabited α] (L b : Nat) (X Y : List α) : Prop := ∀ k, k < L → Y.getD (b + k) default = X.getD k default
theorem selI_emb {P Q : Nat → Bool} {X Y : List Int} {b L : Nat} (h1 : ∀ k, k < b → Q k = false) (h2 : ∀ k, k < L → Q (b + k) = P k) (h3 : OnL L b X Y) : ∀ k, k ≤ L → selI Q Y (b + k) = selI P X k
  | 0, _ => by rw [Nat.add_zero, selI_none b h1]; rfl
  | k + 1, h => by
    rw [← Nat.add_assoc, selI_at, selI_at, selI_emb h1 h2 h3 k (by omega), h2 k (by omega), h3 k (by omega)]
theorem selI_embA {P Q : Nat → Bool} {X Y : List Int} {b L M : Nat} (h1 : ∀ k, k < b → Q k = false) (h2 : ∀ k, k < L → Q (b + k) = P k) (h3 : OnL L b X Y) (hM : b + L ≤ M) (h4 : ∀ k, b + L ≤ k → k < M → Q k = false) : selI Q Y M = selI P X L := by
  rw [selI_skip M hM h4, selI_emb h1 h2 h3 L (Nat.le_refl _)]
section
variable {n m : Net} {a : Nat → Nat} {b : Nat} {X Y h1 h2 w1 w2 : List Int}
theorem Emb.out (E : Emb n m a b) {q : Nat} (hq : q < n.nodes.length) : isOut m (a q) = isOut n q := by
  obtain ⟨_, s, e⟩ := E.nd q hq
  unfold isOut; rw [e]; rfl
theorem Emb.kind (E : Emb n m a b) {q : Nat} (hq : q < n.nodes.length) : (m.nodes.getD (a q) default).kind = (n.nodes.getD q default).kind := by
  obtain ⟨_, s, e⟩ := E.nd q hq
  rw [e]; rfl
theorem Emb.cap (E : Emb n m a b) {q : Nat} (hq : q < n.nodes.length) : capN (m.nodes.getD (a q) default) = capN (n.nodes.getD q default) := by
  obtain ⟨_, s, e⟩ := E.nd q hq
  rw [e]; rfl
theorem Emb.inv (E : Emb n m a b) {q : Nat} (hq : q < n.nodes.length) : (m.nodes.getD (a q) default).inv = (n.nodes.getD q default).inv := by
  obtain ⟨_, s, e⟩ := E.nd q hq
  rw [e]; rfl
theorem Emb.lev (E : Emb n m a b) {q : Nat} (hq : q < n.nodes.length) (v : Int) : levelI (m.nodes.getD (a q) default) v = levelI (n.nodes.getD q default) v := by
  obtain ⟨_, s, e⟩ := E.nd q hq
  rw [e]; rfl
theorem Emb.froK (E : Emb n m a b) {q k : Nat} (hq : q < n.nodes.length) (hk : k < n.links.length) : froQ m (a q) (b + k) = froQ n q k := by
  have hl := E.bl
  have hf := (fromI_lt E.nb hk).1
  rw [(ends_of E.mb).fro (by omega), (ends_of E.nb).fro hk, E.fr k hk, decide_eq_decide]
  exact ⟨E.ij _ _ hq hf, congrArg a⟩
theorem Emb.tilK (E : Emb n m a b) {q k : Nat} (hq : q < n.nodes.length) (hk : k < n.links.length) : tilQ m (a q) (b + k) = tilQ n q k := by
  have hl := E.bl
  have hf := (tillI_lt E.nb hk).1
  rw [(ends_of E.mb).til (by omega), (ends_of E.nb).til hk, E.ti k hk, decide_eq_decide]
  exact ⟨E.ij _ _ hq hf, congrArg a⟩
theorem Emb.froO (E : Emb n m a b) {q k : Nat} (hq : q < n.nodes.length) (hk : k < m.links.length) (h : k < b ∨ b + n.links.length ≤ k) : froQ m (a q) k = false := by
  rw [(ends_of E.mb).fro hk]
  exact decide_eq_false (E.ot k hk h q hq).1
theorem Emb.tilO (E : Emb n m a b) {q k : Nat} (hq : q < n.nodes.length) (hk : k < m.links.length) (h : k < b ∨ b + n.links.length ≤ k) : tilQ m (a q) k = false := by
  rw [(ends_of E.mb).til hk]
  exact decide_eq_false (E.ot k hk h q hq).2
theorem Emb.selF (E : Emb n m a b) (hX : OnL n.links.length b X Y) {q k : Nat} (hq : q < n.nodes.length) (hk : k ≤ n.links.length) : selI (froQ m (a q)) Y (b + k) = selI (froQ n q) X k := by
  have hl := E.bl
  exact selI_emb (fun k hk => E.froO hq (by omega) (.inl hk)) (fun k hk => E.froK hq hk) hX k hk
theorem Emb.selFA (E : Emb n m a b) (hX : OnL n.links.length b X Y) {q : Nat} (hq : q < n.nodes.length) : selI (froQ m (a q)) Y m.links.length = selI (froQ n q) X n.links.length := by
  have hl := E.bl
  exact selI_embA (fun k hk => E.froO hq (by omega) (.inl hk)) (fun k hk => E.froK hq hk) hX hl (fun k h1 h2 => E.froO hq h2 (.inr h1))
theorem Emb.selTA (E : Emb n m a b) (hX : OnL n.links.length b X Y) {q : Nat} (hq : q < n.nodes.length) : selI (tilQ m (a q)) Y m.links.length = selI (tilQ n q) X n.links.length := by
  have hl := E.bl
  exact selI_embA (fun k hk => E.tilO hq (by omega) (.inl hk)) (fun k hk => E.tilK hq hk) hX hl (fun k h1 h2 => E.tilO hq h2 (.inr h1))
theorem Emb.lim (E : Emb n m a b) (hh : OnN n.nodes.length a h1 h2) (hw : OnL n.links.length b w1 w2) : OnL n.links.length b (limR n h1 w1) (limR m h2 w2) := fun k hk => by
  have hl := E.bl
  have hf := (fromI_lt E.nb hk).1
  rw [limR_at (by omega), limR_at hk]
  unfold limK
  rw [E.fr k hk, hh _ hf]
  unfold shareI
  rw [E.selFA hw hf, Nat.add_assoc, E.selF hw hf (show k + 1 ≤ _ by omega), E.selF hw hf (show k ≤ _ by omega), hw k hk]
theorem Emb.mv (E : Emb n m a b) (hh : OnN n.nodes.length a h1 h2) (hX : OnL n.links.length b X Y) : OnN n.nodes.length a (mvH n h1 X n.links.length) (mvH m h2 Y m.links.length) := fun q hq => by
  rw [mvH_at (E.nd q hq).1, mvH_at hq, hh q hq, E.selFA hX hq, E.selTA hX hq, E.out hq]
theorem Emb.hS (E : Emb n m a b) (hh : OnN n.nodes.length a h1 h2) : OnN n.nodes.length a (hS n h1) (hS m h2) := fun q hq => by
  rw [hS_at (E.nd q hq).1, hS_at hq, hh q hq, E.kind hq]
theorem Emb.vS (E : Emb n m a b) (hh : OnN n.nodes.length a h1 h2) : OnN n.nodes.length a (vS n h1) (vS m h2) := fun q hq => by
  rw [vS_at (E.nd q hq).1, vS_at hq, hh q hq, E.cap hq]
theorem Emb.pS (E : Emb n m a b) (hh : OnN n.nodes.length a h1 h2) : OnN n.nodes.length a (pS n h1) (pS m h2) := fun q hq => by
  rw [pS_at (E.nd q hq).1, pS_at hq, hh q hq, E.cap hq]
theorem Emb.lv (E : Emb n m a b) (hh : OnN n.nodes.length a h1 h2) : OnN n.nodes.length a (levelsL n h1) (levelsL m h2) := fun q hq => by
  unfold levelsL
  rw [rng_at (E.nd q hq).1, rng_at hq, hh q hq, E.lev hq]
theorem flowI_ren {n m : Net} {l : List Sect} {x : Link} {s1 s2 s3 : ByteArray} {u d : Int} {s : Nat} {on : Bool} (h : (m.nodes.getD (nodeIx m.nodes s2).toNat default).inv = (n.nodes.getD (nodeIx n.nodes x.fro).toNat default).inv) : flowI m l (renLi x s1 s2 s3) u d s on = flowI n l x u d s on := by
  unfold flowI
  rw [show (renLi x s1 s2 s3).fro = s2 from rfl, h]
  rfl
theorem Emb.flow (E : Emb n m a b) {l : List Sect} {lv1 lv2 : List Int} {s t : Sta} (hh : OnN n.nodes.length a lv1 lv2) (hs : OnL n.links.length b s.set t.set) (ho : OnL n.links.length b s.on t.on) {k : Nat} (hk : k < n.links.length) : flowAt m l lv2 t (b + k) = flowAt n l lv1 s k := by
  have hf := (fromI_lt E.nb hk).1
  have ht := (tillI_lt E.nb hk).1
  obtain ⟨s1, s2, s3, e⟩ := E.lk k hk
  have hfr := E.fr k hk
  unfold flowAt
  rw [E.fr k hk, E.ti k hk, hh _ hf, hh _ ht, hs k hk, ho k hk, e]
  refine flowI_ren ?_
  have h1 : (nodeIx m.nodes s2).toNat = a (fromI n k) := by
    rw [← hfr]; unfold fromI; rw [e]; rfl
  rw [h1, E.inv hf]; rfl
theorem Emb.pump (E : Emb n m a b) {lv1 lv2 : List Int} {o1 o2 : List Bool} (hh : OnN n.nodes.length a lv1 lv2) (ho : OnL n.links.length b o1 o2) : OnL n.links.length b (pumpsL n lv1 o1) (pumpsL m lv2 o2) := fun k hk => by
  have hl := E.bl
  have hf := (fromI_lt E.nb hk).1
  obtain ⟨s1, s2, s3, e⟩ := E.lk k hk
  unfold pumpsL
  rw [rng_at (show b + k < _ by omega), rng_at hk]
  unfold pumpAt
  rw [E.fr k hk, hh _ hf, ho k hk, e]; rfl
end
structure SIn (n m : Net) (a : Nat → Nat) (b : Nat) (s t : Sta) (i1 i2 : List Int) : Prop where
  v : OnN n.nodes.length a s.vol t.vol
  p : OnN n.nodes.length a s.pon t.pon
  se : OnL n.links.length b s.set t.set
  on : OnL n.links.length b s.on t.on
  i : OnN n.nodes.length a i1 i2
  l1 : s.vol.length = n.nodes.length
  l2 : t.vol.length = m.nodes.length
section
variable {n m : Net} {a : Nat → Nat} {b : Nat} {s t : Sta} {i1 i2 : List Int} {l : List Sect} {sec : Int}
theorem Emb.hA (E : Emb n m a b) (R : SIn n m a b s t i1 i2) : OnN n.nodes.length a (heldA n s i1) (heldA m t i2) := fun q hq => by
  have hm := (E.nd q hq).1
  unfold heldA
  rw [inH_at hm, inH_at hq, heldL_at t (by rw [R.l2]; exact hm), heldL_at s (by rw [R.l1]; exact hq), R.v q hq, R.p q hq, E.out hq, R.i q hq]
  simp only [eq_true hm, eq_true hq, true_and]
theorem Emb.hB (E : Emb n m a b) (R : SIn n m a b s t i1 i2) : OnN n.nodes.length a (heldB n s i1) (heldB m t i2) := E.hS (E.hA R)
theorem Emb.l1 (E : Emb n m a b) (R : SIn n m a b s t i1 i2) : OnN n.nodes.length a (lvl1 n s i1) (lvl1 m t i2) := E.lv (E.vS (E.hB R))
theorem Emb.onS (E : Emb n m a b) (R : SIn n m a b s t i1 i2) : OnL n.links.length b (onS n s i1) (onS m t i2) := E.pump (E.l1 R) R.on
theorem Emb.wsh (E : Emb n m a b) (R : SIn n m a b s t i1 i2) : OnL n.links.length b (wsh n l s i1 sec) (wsh m l t i2 sec) := fun k hk => by
  have hl := E.bl
  have hf := E.flow (l := l) (s := sta2 n s i1) (t := sta2 m t i2) (E.l1 R) R.se (E.onS R) hk
  show (wshL m l (lvl1 m t i2) (sta2 m t i2) sec).getD (b + k) default = (wshL n l (lvl1 n s i1) (sta2 n s i1) sec).getD k default
  unfold wshL
  rw [rng_at (show b + k < _ by omega), rng_at hk, hf]
theorem Emb.pas (E : Emb n m a b) (R : SIn n m a b s t i1 i2) : OnL n.links.length b (pasL n l s i1 sec) (pasL m l t i2 sec) := E.lim (E.hB R) (E.wsh R)
theorem Emb.hD (E : Emb n m a b) (R : SIn n m a b s t i1 i2) : OnN n.nodes.length a (heldD n l s i1 sec) (heldD m l t i2 sec) := E.hS (E.mv (E.hB R) (E.pas R))
theorem Emb.stV (E : Emb n m a b) (R : SIn n m a b s t i1 i2) : OnN n.nodes.length a (stepS n l s i1 sec).vol (stepS m l t i2 sec).vol := E.vS (E.hD R)
theorem Emb.stP (E : Emb n m a b) (R : SIn n m a b s t i1 i2) : OnN n.nodes.length a (stepS n l s i1 sec).pon (stepS m l t i2 sec).pon := E.pS (E.hD R)
end
section
variable {α : Type} [Inhabited α]
end
abbrev nodeLt (l : List Node) : HV := .lst 46 9 (rows nodeP l)
theorem nodeC_d9 (x : Node) : (nodeC x).drop 9 = [] := rfl
theorem set_no (l : List Node) (i : Nat) (v : Node) : (rows nodeP l).set i (nodeC v) = rows nodeP (l.set i v) := rows_set nodeP l i v
theorem cells_no (x : Node) (r : List DV) : CellsB (nodeC x ++ r) = CellsB r :=
  propext ⟨fun h d hd => h d (List.mem_append.2 (.inr hd)), fun h d hd => by
    rcases List.mem_append.1 hd with hd | hd
    · exact List.all_eq_true.1 (nodeC_all x) d hd
    · exact h d hd⟩
attribute [push_cast] nodeC_d9 set_no cells_no List.append_nil
set_option maxHeartbeats 1000000 in
theorem cloneNo_f (l : List Node) (m : Nat) (hl : l.length ≤ 1048576) : DCallsG Tryz.prog 15 [] [nodeL l] (hget []) m (.gl m) (hget [(m, nodeLt l)]) := by
  refine contract (n := 8) (rs := [.tmp 2]) (ts := [22]) Tryz.func15 rfl (by decide) 0 0 [] [] [24] (.gl 24) [(24, nodeLt l)] (by (exact SD)) (by (exact SD)) ?_
  cases l with
  | nil =>
    (repeat' (first | refine swp_seq [0, 2, 4] ?_ | (first | refine rF (fun hf => ?_) | refine tN ?_ | refine swp_skip ?_ | refine swp_block ?_ | refine swp_scope ?_ | refine blockK_normal ?_ | refine scopeK_normal ?_ | (refine cB (fun hc => ?_) (fun hc => ?_) <;> first | exact False.elim hc | exact absurd hc Bool.false_ne_true | exact absurd hc.symm Bool.false_ne_true | skip) | refine cU ?_ ?_)))
    · (refine sN 2 46 9 ?_)
      (refine sR 32 24 ?_)
      (repeat' (first | refine swp_seq [0, 2, 4] ?_ | (first | refine rF (fun hf => ?_) | refine tN ?_ | refine swp_skip ?_ | refine swp_ret ?_ | refine swp_exit ?_ | refine swp_block ?_ | refine swp_scope ?_ | refine thenK_ret ?_ | refine thenK_exit ?_ | refine blockK_normal ?_ | refine blockK_ret ?_ | refine blockK_here ?_ | refine bX ?_ | refine scopeK_normal ?_ | refine scopeK_ret ?_ | refine scopeK_exit ?_ | refine loopK_ret ?_ | refine loopK_exit ?_ | refine dF mixed ?_ | (refine cB (fun hc => ?_) (fun hc => ?_) <;> first | exact False.elim hc | exact absurd hc Bool.false_ne_true | exact absurd hc.symm Bool.false_ne_true | skip) | refine cU ?_ ?_)))
      exact DVS
    · (repeat' (first | refine swp_seq [0, 2, 4] ?_ | (first | refine rF (fun hf => ?_) | refine tN ?_ | refine swp_skip ?_ | refine swp_ret ?_ | refine swp_exit ?_ | refine swp_block ?_ | refine swp_scope ?_ | refine thenK_ret ?_ | refine thenK_exit ?_ | refine blockK_normal ?_ | refine blockK_ret ?_ | refine blockK_here ?_ | refine bX ?_ | refine scopeK_normal ?_ | refine scopeK_ret ?_ | refine scopeK_exit ?_ | refine loopK_ret ?_ | refine loopK_exit ?_ | refine dF mixed ?_ | (refine cB (fun hc => ?_) (fun hc => ?_) <;> first | exact False.elim hc | exact absurd hc Bool.false_ne_true | exact absurd hc.symm Bool.false_ne_true | skip) | refine cU ?_ ?_)))
      exact DVS
  | cons b l =>
    (repeat' (first | refine swp_seq [0, 2, 4] ?_ | (first | refine rF (fun hf => ?_) | refine tN ?_ | refine swp_skip ?_ | refine swp_ret ?_ | refine swp_exit ?_ | refine swp_block ?_ | refine swp_scope ?_ | refine thenK_ret ?_ | refine thenK_exit ?_ | refine blockK_normal ?_ | refine blockK_ret ?_ | refine blockK_here ?_ | refine bX ?_ | refine scopeK_normal ?_ | refine scopeK_ret ?_ | refine scopeK_exit ?_ | refine loopK_ret ?_ | refine loopK_exit ?_ | refine dF mixed ?_ | (refine cB (fun hc => ?_) (fun hc => ?_) <;> first | exact False.elim hc | exact absurd hc Bool.false_ne_true | exact absurd hc.symm Bool.false_ne_true | skip) | refine cU ?_ ?_)))
    exact DVS
section
variable {α : Type} [Inhabited α]
theorem cat_a (X Y : List α) {q : Nat} (h : q < X.length) : (X ++ Y).getD q default = X.getD q default := by
  rw [List.getD_eq_getElem?_getD, List.getElem?_append_left h, ← List.getD_eq_getElem?_getD]
theorem cat_b (X Y : List α) {N q : Nat} (h : X.length = N) : (X ++ Y).getD (N + q) default = Y.getD q default := by
  subst h
  rw [List.getD_eq_getElem?_getD, List.getElem?_append_right (by omega), Nat.add_sub_cancel_left, ← List.getD_eq_getElem?_getD]
theorem cat_ext {X Y Z : List α} {N M : Nat} (hX : X.length = N) (hY : Y.length = M) (hZ : Z.length = N + M) (h1 : ∀ q, q < N → Z.getD q default = X.getD q default) (h2 : ∀ q, q < M → Z.getD (N + q) default = Y.getD q default) : Z = X ++ Y := by
  refine List.ext_getElem (by rw [List.length_append]; omega) fun k hk hk2 => ?_
  have key : Z.getD k default = (X ++ Y).getD k default := by
    by_cases h : k < N
    · rw [h1 k h, cat_a _ _ (by omega)]
    · obtain ⟨q, rfl⟩ : ∃ q, k = N + q := ⟨k - N, by omega⟩
      rw [h2 q (by omega), cat_b _ _ hX]
  rw [List.getD_eq_getElem?_getD, List.getD_eq_getElem?_getD, List.getElem?_eq_getElem hk, List.getElem?_eq_getElem hk2] at key
  exact key
end
theorem sumN_split {F : Nat → Int} (N : Nat) : ∀ M, sumN F (N + M) = sumN F N + sumN (fun q => F (N + q)) M
  | 0 => by
    show sumN F N = sumN F N + 0
    omega
  | M + 1 => by
    have := sumN_split (F := F) N M
    show sumN F (N + M) + F (N + M) = sumN F N + (sumN (fun q => F (N + q)) M + F (N + M))
    omega
def parN (z : ByteArray → ByteArray) (n : Net) : Net := ⟨n.nodes ++ n.nodes.map (fun x => renNo x (z x.name)), n.links ++ n.links.map (fun x => renLi x (z x.name) (z x.fro) (z x.til))⟩
def parS (s t : Sta) : Sta := ⟨s.vol ++ t.vol, s.pon ++ t.pon, s.set ++ t.set, s.on ++ t.on⟩
section
variable {z : ByteArray → ByteArray} {n : Net}
theorem parN_nl : (parN z n).nodes.length = n.nodes.length + n.nodes.length := by simp [parN]
theorem parN_ll : (parN z n).links.length = n.links.length + n.links.length := by simp [parN]
theorem parN_n1 {q : Nat} (hq : q < n.nodes.length) : (parN z n).nodes.getD q default = n.nodes.getD q default := cat_a _ _ hq
theorem map_getD {α β : Type} [Inhabited α] [Inhabited β] (f : α → β) (l : List α) {k : Nat} (hk : k < l.length) : (l.map f).getD k default = f (l.getD k default) := by
  rw [List.getD_eq_getElem?_getD, List.getElem?_map, List.getElem?_eq_getElem hk, List.getD_eq_getElem?_getD, List.getElem?_eq_getElem hk]; rfl
theorem parN_n2 {q : Nat} (hq : q < n.nodes.length) : (parN z n).nodes.getD (n.nodes.length + q) default = renNo (n.nodes.getD q default) (z (n.nodes.getD q default).name) := by
  unfold parN
  rw [cat_b _ _ rfl, map_getD _ _ hq]
theorem parN_l1 {k : Nat} (hk : k < n.links.length) : (parN z n).links.getD k default = n.links.getD k default := cat_a _ _ hk
theorem parN_l2 {k : Nat} (hk : k < n.links.length) : (parN z n).links.getD (n.links.length + k) default = renLi (n.links.getD k default) (z (n.links.getD k default).name) (z (n.links.getD k default).fro) (z (n.links.getD k default).til) := by
  unfold parN
  rw [cat_b _ _ rfl, map_getD _ _ hk]
variable (nb : netB n = true) (mb : netB (parN z n) = true)
include nb mb
theorem par_ix1 {s : ByteArray} {i : Nat} (hi : i < n.nodes.length) (h : nodeIx n.nodes s = (i : Int)) : nodeIx (parN z n).nodes s = (i : Int) := by
  have e := (idx_eq nb hi s).1 h
  refine (idx_eq mb (by rw [parN_nl]; omega) s).2 ?_
  rw [parN_n1 hi]; exact e
theorem par_ix2 {s : ByteArray} {i : Nat} (hi : i < n.nodes.length) (h : nodeIx n.nodes s = (i : Int)) : nodeIx (parN z n).nodes (z s) = ((n.nodes.length + i : Nat) : Int) := by
  have e := (idx_eq nb hi s).1 h
  refine (idx_eq mb (by rw [parN_nl]; omega) (z s)).2 ?_
  rw [parN_n2 hi, e]; rfl
theorem par_fr1 {k : Nat} (hk : k < n.links.length) : fromI (parN z n) k = fromI n k := by
  have h := fromI_lt nb hk
  show (nodeIx (parN z n).nodes ((parN z n).links.getD k default).fro).toNat = _
  rw [parN_l1 hk, par_ix1 nb mb h.1 h.2, Int.toNat_natCast]
theorem par_ti1 {k : Nat} (hk : k < n.links.length) : tillI (parN z n) k = tillI n k := by
  have h := tillI_lt nb hk
  show (nodeIx (parN z n).nodes ((parN z n).links.getD k default).til).toNat = _
  rw [parN_l1 hk, par_ix1 nb mb h.1 h.2, Int.toNat_natCast]
theorem par_fr2 {k : Nat} (hk : k < n.links.length) : fromI (parN z n) (n.links.length + k) = n.nodes.length + fromI n k := by
  have h := fromI_lt nb hk
  show (nodeIx (parN z n).nodes ((parN z n).links.getD (n.links.length + k) default).fro).toNat = _
  rw [parN_l2 hk]
  show (nodeIx (parN z n).nodes (z (n.links.getD k default).fro)).toNat = _
  rw [par_ix2 nb mb h.1 h.2, Int.toNat_natCast]
theorem par_ti2 {k : Nat} (hk : k < n.links.length) : tillI (parN z n) (n.links.length + k) = n.nodes.length + tillI n k := by
  have h := tillI_lt nb hk
  show (nodeIx (parN z n).nodes ((parN z n).links.getD (n.links.length + k) default).til).toNat = _
  rw [parN_l2 hk]
  show (nodeIx (parN z n).nodes (z (n.links.getD k default).til)).toNat = _
  rw [par_ix2 nb mb h.1 h.2, Int.toNat_natCast]
theorem emb1 : Emb n (parN z n) (fun q => q) 0 where
  nb := nb
  mb := mb
  nd q hq := ⟨by rw [parN_nl]; omega, (n.nodes.getD q default).name, by rw [parN_n1 hq]; rfl⟩
  ij q r _ _ h := h
  bl := by rw [parN_ll]; omega
  lk k hk := ⟨(n.links.getD k default).name, (n.links.getD k default).fro, (n.links.getD k default).til, by rw [Nat.zero_add, parN_l1 hk]; rfl⟩
  fr k hk := by rw [Nat.zero_add, par_fr1 nb mb hk]
  ti k hk := by rw [Nat.zero_add, par_ti1 nb mb hk]
  ot k hk h q hq := by
    rw [parN_ll] at hk
    obtain ⟨j, rfl⟩ : ∃ j, k = n.links.length + j := ⟨k - n.links.length, by omega⟩
    rw [par_fr2 nb mb (by omega), par_ti2 nb mb (by omega)]
    constructor
    · show q ≠ _; omega
    · show q ≠ _; omega
theorem emb2 : Emb n (parN z n) (fun q => n.nodes.length + q) n.links.length where
  nb := nb
  mb := mb
  nd q hq := ⟨by rw [parN_nl]; omega, _, by rw [parN_n2 hq]⟩
  ij q r _ _ h := by
    have h : n.nodes.length + q = n.nodes.length + r := h
    omega
  bl := by rw [parN_ll]; omega
  lk k hk := ⟨_, _, _, by rw [parN_l2 hk]⟩
  fr k hk := by rw [par_fr2 nb mb hk]
  ti k hk := by rw [par_ti2 nb mb hk]
  ot k hk h q hq := by
    rw [parN_ll] at hk
    have hk2 : k < n.links.length := by omega
    have h1 := (fromI_lt nb hk2).1
    have h2 := (tillI_lt nb hk2).1
    rw [par_fr1 nb mb hk2, par_ti1 nb mb hk2]
    constructor
    · show n.nodes.length + q ≠ _; omega
    · show n.nodes.length + q ≠ _; omega
end
section
variable {z : ByteArray → ByteArray} {n : Net} {l : List Sect} {s t : Sta} {i1 i2 : List Int} {sec : Int}
theorem sin1 (S : StepIn n l s i1 sec) (T : StepIn n l t i2 sec) : SIn n (parN z n) (fun q => q) 0 s (parS s t) i1 (i1 ++ i2) := by
  obtain ⟨l1, l2, l3, l4⟩ := lensB_of (staB_in S.nb S.sb).1
  obtain ⟨k1, k2, k3, k4⟩ := lensB_of (staB_in T.nb T.sb).1
  exact ⟨fun q hq => cat_a _ _ (by omega), fun q hq => cat_a _ _ (by omega), fun k hk => by rw [Nat.zero_add]; exact cat_a _ _ (by omega), fun k hk => by rw [Nat.zero_add]; exact cat_a _ _ (by omega), fun q hq => cat_a _ _ (by have := S.il; omega), l1, by rw [parN_nl]; show (s.vol ++ t.vol).length = _; rw [List.length_append]; omega⟩
theorem sin2 (S : StepIn n l s i1 sec) (T : StepIn n l t i2 sec) : SIn n (parN z n) (fun q => n.nodes.length + q) n.links.length t (parS s t) i2 (i1 ++ i2) := by
  obtain ⟨l1, l2, l3, l4⟩ := lensB_of (staB_in S.nb S.sb).1
  obtain ⟨k1, k2, k3, k4⟩ := lensB_of (staB_in T.nb T.sb).1
  exact ⟨fun q hq => cat_b _ _ l1, fun q hq => cat_b _ _ l2, fun k hk => cat_b _ _ l3, fun k hk => cat_b _ _ l4, fun q hq => cat_b _ _ S.il, k1, by rw [parN_nl]; show (s.vol ++ t.vol).length = _; rw [List.length_append]; omega⟩
theorem par_sta (S : StepIn n l s i1 sec) (T : StepIn n l t i2 sec) : staB (parN z n) (parS s t) = true := by
  obtain ⟨h1, h2, h3⟩ := staB_in S.nb S.sb
  obtain ⟨g1, g2, g3⟩ := staB_in T.nb T.sb
  obtain ⟨l1, l2, l3, l4⟩ := lensB_of h1
  obtain ⟨k1, k2, k3, k4⟩ := lensB_of g1
  unfold staB lensB
  simp only [Bool.and_eq_true, decide_eq_true_eq, List.all_eq_true, List.mem_range]
  rw [parN_nl, parN_ll]
  refine ⟨⟨⟨⟨⟨?_, ?_⟩, ?_⟩, ?_⟩, fun q hq => ?_⟩, fun k hk => ?_⟩
  · show (s.vol ++ t.vol).length = _; rw [List.length_append]; omega
  · show (s.pon ++ t.pon).length = _; rw [List.length_append]; omega
  · show (s.set ++ t.set).length = _; rw [List.length_append]; omega
  · show (s.on ++ t.on).length = _; rw [List.length_append]; omega
  · by_cases h : q < n.nodes.length
    · have := h2 q h
      unfold okSN at this ⊢
      rw [parN_n1 h, show (parS s t).vol.getD q default = s.vol.getD q default from cat_a _ _ (by omega), show (parS s t).pon.getD q default = s.pon.getD q default from cat_a _ _ (by omega)]
      exact this
    · obtain ⟨j, rfl⟩ : ∃ j, q = n.nodes.length + j := ⟨q - n.nodes.length, by omega⟩
      have := g2 j (by omega)
      unfold okSN at this ⊢
      rw [parN_n2 (by omega), show (parS s t).vol.getD (n.nodes.length + j) default = t.vol.getD j default from cat_b _ _ l1, show (parS s t).pon.getD (n.nodes.length + j) default = t.pon.getD j default from cat_b _ _ l2]
      exact this
  · by_cases h : k < n.links.length
    · have := h3 k h
      unfold okSL at this ⊢
      rw [parN_l1 h, show (parS s t).set.getD k default = s.set.getD k default from cat_a _ _ (by omega), show (parS s t).on.getD k default = s.on.getD k default from cat_a _ _ (by omega)]
      exact this
    · obtain ⟨j, rfl⟩ : ∃ j, k = n.links.length + j := ⟨k - n.links.length, by omega⟩
      have := g3 j (by omega)
      unfold okSL at this ⊢
      rw [parN_l2 (by omega), show (parS s t).set.getD (n.links.length + j) default = t.set.getD j default from cat_b _ _ l3, show (parS s t).on.getD (n.links.length + j) default = t.on.getD j default from cat_b _ _ l4]
      exact this
theorem par_in (no : netOk (parN z n)) (mb : netB (parN z n) = true) (S : StepIn n l s i1 sec) (T : StepIn n l t i2 sec) : StepIn (parN z n) l (parS s t) (i1 ++ i2) sec where
  no := no
  co := S.co
  nb := mb
  sb := par_sta S T
  cb := S.cb
  il := by rw [List.length_append, S.il, T.il, parN_nl]
  ir i hi := by
    rw [parN_nl] at hi
    by_cases h : i < n.nodes.length
    · rw [cat_a _ _ (by rw [S.il]; exact h)]; exact S.ir i h
    · obtain ⟨j, rfl⟩ : ∃ j, i = n.nodes.length + j := ⟨i - n.nodes.length, by omega⟩
      rw [cat_b _ _ S.il]; exact T.ir j (by omega)
  sc := S.sc
  kn k hk := by
    rw [parN_ll] at hk
    by_cases h : k < n.links.length
    · rw [parN_l1 h]; exact S.kn k h
    · obtain ⟨j, rfl⟩ : ∃ j, k = n.links.length + j := ⟨k - n.links.length, by omega⟩
      rw [parN_l2 (by omega)]; exact T.kn j (by omega)
theorem fit_of {h : List Int} {m : Net} (hh : ∀ q, q < m.nodes.length → (pS m h).getD q default ≤ 1125899906842624) : fitS m h = true := by
  unfold fitS fitI
  rw [List.all_eq_true]
  intro q hq
  exact decide_eq_true (hh q (List.mem_range.1 hq))
theorem par_fit {h1 h2 h : List Int} {z : ByteArray → ByteArray} (E1 : Emb n (parN z n) (fun q => q) 0) (E2 : Emb n (parN z n) (fun q => n.nodes.length + q) n.links.length) (a1 : OnN n.nodes.length (fun q => q) h1 h) (a2 : OnN n.nodes.length (fun q => n.nodes.length + q) h2 h) (f1 : fitS n h1 = true) (f2 : fitS n h2 = true) : fitS (parN z n) h = true := by
  refine fit_of fun q hq => ?_
  rw [parN_nl] at hq
  by_cases hl : q < n.nodes.length
  · have e := E1.pS a1 q hl
    have e : (pS (parN z n) h).getD q default = (pS n h1).getD q default := e
    rw [e]; exact fitS_at f1 hl
  · obtain ⟨j, rfl⟩ : ∃ j, q = n.nodes.length + j := ⟨q - n.nodes.length, by omega⟩
    have e := E2.pS a2 j (by omega)
    have e : (pS (parN z n) h).getD (n.nodes.length + j) default = (pS n h2).getD j default := e
    rw [e]; exact fitS_at f2 (by omega)
theorem par_step (no : netOk (parN z n)) (mb : netB (parN z n) = true) (S : StepIn n l s i1 sec) (T : StepIn n l t i2 sec) (f1 : fitS n (heldB n s i1) = true) (f2 : fitS n (heldB n t i2) = true) (g1 : fitS n (heldD n l s i1 sec) = true) (g2 : fitS n (heldD n l t i2 sec) = true) :
    StepIn (parN z n) l (parS s t) (i1 ++ i2) sec ∧ fitS (parN z n) (heldB (parN z n) (parS s t) (i1 ++ i2)) = true ∧ fitS (parN z n) (heldD (parN z n) l (parS s t) (i1 ++ i2) sec) = true ∧
    stepS (parN z n) l (parS s t) (i1 ++ i2) sec = parS (stepS n l s i1 sec) (stepS n l t i2 sec) ∧
    stepL (parN z n) l (parS s t) (i1 ++ i2) sec = ⟨(stepL n l s i1 sec).inn + (stepL n l t i2 sec).inn, (stepL n l s i1 sec).out + (stepL n l t i2 sec).out, (stepL n l s i1 sec).passed ++ (stepL n l t i2 sec).passed⟩ := by
  have P := par_in no mb S T
  have E1 := emb1 S.nb mb
  have E2 := emb2 S.nb mb
  have R1 := sin1 (z := z) S T
  have R2 := sin2 (z := z) S T
  have hv : (stepS (parN z n) l (parS s t) (i1 ++ i2) sec).vol = (stepS n l s i1 sec).vol ++ (stepS n l t i2 sec).vol :=
    cat_ext (N := n.nodes.length) (M := n.nodes.length) (vS_len _) (vS_len _) (by rw [← parN_nl (z := z)]; exact vS_len _) (fun q hq => E1.stV R1 q hq) (fun q hq => E2.stV R2 q hq)
  have hp : (stepS (parN z n) l (parS s t) (i1 ++ i2) sec).pon = (stepS n l s i1 sec).pon ++ (stepS n l t i2 sec).pon :=
    cat_ext (N := n.nodes.length) (M := n.nodes.length) (pS_len _) (pS_len _) (by rw [← parN_nl (z := z)]; exact pS_len _) (fun q hq => E1.stP R1 q hq) (fun q hq => E2.stP R2 q hq)
  have ho : onS (parN z n) (parS s t) (i1 ++ i2) = onS n s i1 ++ onS n t i2 :=
    cat_ext (N := n.links.length) (M := n.links.length) onS_len onS_len (by rw [← parN_ll (z := z)]; exact onS_len) (fun k hk => by have := E1.onS R1 k hk; rw [Nat.zero_add] at this; exact this) (fun k hk => E2.onS R2 k hk)
  have hx : pasL (parN z n) l (parS s t) (i1 ++ i2) sec = pasL n l s i1 sec ++ pasL n l t i2 sec :=
    cat_ext (N := n.links.length) (M := n.links.length) (limR_len ..) (limR_len ..) (by rw [← parN_ll (z := z)]; exact limR_len ..) (fun k hk => by have := E1.pas (l := l) (sec := sec) R1 k hk; rw [Nat.zero_add] at this; exact this) (fun k hk => E2.pas R2 k hk)
  refine ⟨P, par_fit E1 E2 (E1.hB R1) (E2.hB R2) f1 f2, par_fit E1 E2 (E1.hD R1) (E2.hD R2) g1 g2, ?_, ?_⟩
  · show (⟨(stepS (parN z n) l (parS s t) (i1 ++ i2) sec).vol, (stepS (parN z n) l (parS s t) (i1 ++ i2) sec).pon, s.set ++ t.set, onS (parN z n) (parS s t) (i1 ++ i2)⟩ : Sta) = _
    rw [hv, hp, ho]; rfl
  · have hil := S.il
    have hit := T.il
    have x1 : (pasL n l s i1 sec).length = n.links.length := limR_len ..
    have x2 : (pasL n l t i2 sec).length = n.links.length := limR_len ..
    show (⟨sumI (i1 ++ i2) (parN z n).nodes.length, selI (isOut (parN z n)) (i1 ++ i2) (parN z n).nodes.length + selI (toOut (parN z n)) (pasL (parN z n) l (parS s t) (i1 ++ i2) sec) (parN z n).links.length, pasL (parN z n) l (parS s t) (i1 ++ i2) sec⟩ : Ledg) = _
    rw [hx, parN_nl, parN_ll]
    have e1 : sumI (i1 ++ i2) (n.nodes.length + n.nodes.length) = sumI i1 n.nodes.length + sumI i2 n.nodes.length := by
      rw [sumI_sum _ (by rw [List.length_append]; omega), sumI_sum _ (by omega), sumI_sum _ (by omega), sumN_split]
      congr 1
      · exact sumN_congr _ fun q hq => cat_a _ _ (by omega)
      · exact sumN_congr _ fun q hq => cat_b _ _ hil
    have e2 : selI (isOut (parN z n)) (i1 ++ i2) (n.nodes.length + n.nodes.length) = selI (isOut n) i1 n.nodes.length + selI (isOut n) i2 n.nodes.length := by
      rw [selI_sum, selI_sum, selI_sum, sumN_split]
      congr 1
      · refine sumN_congr _ fun q hq => ?_
        show (if isOut (parN z n) q then (i1 ++ i2).getD q default else 0) = _
        rw [show isOut (parN z n) q = isOut n q from E1.out hq, cat_a _ _ (by omega)]
      · refine sumN_congr _ fun q hq => ?_
        show (if isOut (parN z n) (n.nodes.length + q) then (i1 ++ i2).getD (n.nodes.length + q) default else 0) = _
        rw [show isOut (parN z n) (n.nodes.length + q) = isOut n q from E2.out hq, cat_b _ _ hil]
    have e3 : selI (toOut (parN z n)) (pasL n l s i1 sec ++ pasL n l t i2 sec) (n.links.length + n.links.length) = selI (toOut n) (pasL n l s i1 sec) n.links.length + selI (toOut n) (pasL n l t i2 sec) n.links.length := by
      rw [selI_sum, selI_sum, selI_sum, sumN_split]
      congr 1
      · refine sumN_congr _ fun k hk => ?_
        have ht := tillI_lt S.nb hk
        show (if isOut (parN z n) (tillI (parN z n) k) then _ else _) = if isOut n (tillI n k) then _ else _
        rw [par_ti1 S.nb mb hk, show isOut (parN z n) (tillI n k) = isOut n (tillI n k) from E1.out ht.1, cat_a _ _ (by omega)]
      · refine sumN_congr _ fun k hk => ?_
        have ht := tillI_lt S.nb hk
        show (if isOut (parN z n) (tillI (parN z n) (n.links.length + k)) then _ else _) = if isOut n (tillI n k) then _ else _
        rw [par_ti2 S.nb mb hk, show isOut (parN z n) (n.nodes.length + tillI n k) = isOut n (tillI n k) from E2.out ht.1, cat_b _ _ x1]
    rw [e1, e2, e3]
    show (⟨_, _, _⟩ : Ledg) = ⟨sumI i1 n.nodes.length + sumI i2 n.nodes.length, (selI (isOut n) i1 n.nodes.length + selI (toOut n) (pasL n l s i1 sec) n.links.length) + (selI (isOut n) i2 n.nodes.length + selI (toOut n) (pasL n l t i2 sec) n.links.length), _⟩
    congr 1
    omega
end

end Go.Proofs.YthacnhidipeckaaGreat
