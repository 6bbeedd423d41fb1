/-
  Contracts of functions of the program, over the engine.
  No condition.
-/
import Derived.Test.YtcdggndojmmlhaaGreatCY6T21L14Y7Y11
import Derived.Test.YtcdggndojmmlhaaGreatCY15
namespace Go.Proofs.YtcdggndojmmlhaaGreat
open Go.Eng
set_option linter.all false
attribute [local irreducible] DCallsG SWp Fct CallQ XCallQ LCallQ XLCallQ drun xrun
def revN (n : Net) : Net := ⟨n.nodes.reverse, n.links⟩
theorem rev_at {α : Type} [Inhabited α] {l : List α} {q : Nat} (hq : q < l.length) : l.reverse.getD q default = l.getD (l.length - 1 - q) default := by
  rw [List.getD_eq_getElem?_getD, List.getD_eq_getElem?_getD, List.getElem?_reverse hq]
theorem idxI_rev {α : Type} [Inhabited α] (p : α → Bool) (l : List α) (hu : ∀ i j, i < l.length → j < l.length → p (l.getD i default) = true → p (l.getD j default) = true → i = j) : idxI p l.reverse = if 0 ≤ idxI p l then (l.length : Int) - 1 - idxI p l else -1 := by
  rcases idxI_spec p l with ⟨e, h⟩ | ⟨k, e, hk, hp, hm⟩
  · rw [e, if_neg (by omega)]
    rcases idxI_spec p l.reverse with ⟨e2, _⟩ | ⟨j, e2, hj, hp2, _⟩
    · exact e2
    · rw [List.length_reverse] at hj
      rw [rev_at hj, h _ (by omega)] at hp2
      cases hp2
  · rw [e, if_pos (by omega)]
    rcases idxI_spec p l.reverse with ⟨_, h2⟩ | ⟨j, e2, hj, hp2, _⟩
    · have := h2 (l.length - 1 - k) (by rw [List.length_reverse]; omega)
      rw [rev_at (by omega), show l.length - 1 - (l.length - 1 - k) = k by omega, hp] at this
      cases this
    · rw [List.length_reverse] at hj
      rw [rev_at hj] at hp2
      have := hu _ _ (by omega) hk hp2 hp
      rw [e2]; omega
theorem name_uniq {n : Net} (nb : netB n = true) {i j : Nat} (hi : i < n.nodes.length) (hj : j < n.nodes.length) (h : (n.nodes.getD i default).name = (n.nodes.getD j default).name) : i = j := by
  have h1 := netB_okN nb hi
  have h2 := netB_okN nb hj
  unfold okN at h1 h2
  simp only [Bool.and_eq_true, decide_eq_true_eq] at h1 h2
  rw [h] at h1
  omega
theorem nodeIx_rev {n : Net} (nb : netB n = true) (s : ByteArray) : nodeIx (revN n).nodes s = if 0 ≤ nodeIx n.nodes s then (n.nodes.length : Int) - 1 - nodeIx n.nodes s else -1 :=
  idxI_rev _ _ fun i j hi hj h1 h2 => name_uniq nb hi hj ((of_decide_eq_true h1).trans (of_decide_eq_true h2).symm)
theorem nodeIx_lt (l : List Node) (s : ByteArray) : -1 ≤ nodeIx l s ∧ nodeIx l s < l.length := idxI_lt _ _
theorem rev_len (n : Net) : (revN n).nodes.length = n.nodes.length := List.length_reverse ..
theorem rev_node {n : Net} {q : Nat} (hq : q < n.nodes.length) : (revN n).nodes.getD q default = n.nodes.getD (n.nodes.length - 1 - q) default := rev_at hq
theorem netB_rev {n : Net} (nb : netB n = true) : netB (revN n) = true := by
  obtain ⟨h1, h2⟩ := netB_len nb
  refine netB_yes (by rw [rev_len]; exact h1) h2 (fun i hi => ?_) (fun k hk => ?_)
  · rw [rev_len] at hi
    have h := netB_okN nb (i := n.nodes.length - 1 - i) (by omega)
    unfold okN at h ⊢
    simp only [Bool.and_eq_true, decide_eq_true_eq] at h ⊢
    rw [rev_node hi]
    refine ⟨h.1, ?_⟩
    rw [nodeIx_rev nb, h.2, if_pos (by omega)]; omega
  · have h := netB_okL nb hk
    have a1 := nodeIx_lt n.nodes (n.links.getD k default).fro
    have a2 := nodeIx_lt n.nodes (n.links.getD k default).til
    unfold okL at h ⊢
    simp only [Bool.and_eq_true, decide_eq_true_eq, Bool.not_eq_true', decide_eq_false_iff_not] at h ⊢
    show (((_ ∧ _) ∧ 0 ≤ nodeIx (revN n).nodes (n.links.getD k default).fro) ∧ 0 ≤ nodeIx (revN n).nodes (n.links.getD k default).til) ∧ ¬ ((revN n).nodes.getD (nodeIx (revN n).nodes (n.links.getD k default).fro).toNat default).kind = 3
    rw [nodeIx_rev nb, nodeIx_rev nb, if_pos h.1.1.2, if_pos h.1.2]
    refine ⟨⟨⟨h.1.1.1, by omega⟩, by omega⟩, ?_⟩
    rw [rev_node (by omega), show n.nodes.length - 1 - ((n.nodes.length : Int) - 1 - nodeIx n.nodes (n.links.getD k default).fro).toNat = (nodeIx n.nodes (n.links.getD k default).fro).toNat by omega]
    exact h.2
theorem fromI_rev {n : Net} (nb : netB n = true) {k : Nat} (hk : k < n.links.length) : fromI (revN n) k = n.nodes.length - 1 - fromI n k := by
  have h := fromI_lt nb hk
  show (nodeIx (revN n).nodes (n.links.getD k default).fro).toNat = _
  rw [nodeIx_rev nb, h.2, if_pos (by omega)]; omega
theorem tillI_rev {n : Net} (nb : netB n = true) {k : Nat} (hk : k < n.links.length) : tillI (revN n) k = n.nodes.length - 1 - tillI n k := by
  have h := tillI_lt nb hk
  show (nodeIx (revN n).nodes (n.links.getD k default).til).toNat = _
  rw [nodeIx_rev nb, h.2, if_pos (by omega)]; omega
theorem rng_rev {α : Type} [Inhabited α] {N : Nat} {f g : Nat → α} (h : ∀ q, q < N → g q = f (N - 1 - q)) : (List.range N).map g = ((List.range N).map f).reverse := by
  refine List.ext_getElem (by simp) fun i h1 h2 => ?_
  have hi : i < N := by simpa using h1
  rw [List.getElem_map, List.getElem_range, List.getElem_reverse, List.getElem_map, List.getElem_range, h i hi]
  congr 1
  simp
def revS (s : Sta) : Sta := ⟨s.vol.reverse, s.pon.reverse, s.set, s.on⟩
section
variable {n : Net} {l : List Sect} {s : Sta} {inf : List Int} {sec : Int}
theorem isOut_rev {q : Nat} (hq : q < n.nodes.length) : isOut (revN n) q = isOut n (n.nodes.length - 1 - q) := by
  unfold isOut; rw [rev_node hq]
theorem getD_rev {X : List Int} {q : Nat} (hX : X.length = n.nodes.length) (hq : q < n.nodes.length) : X.reverse.getD q default = X.getD (n.nodes.length - 1 - q) default := by
  rw [rev_at (by omega), hX]
theorem heldL_rev (h1 : s.vol.length = n.nodes.length) (h2 : s.pon.length = n.nodes.length) : heldL (revS s) = (heldL s).reverse := by
  have e : (revS s).vol.length = s.vol.length := List.length_reverse ..
  unfold heldL
  rw [e]
  refine rng_rev fun q hq => ?_
  show s.vol.reverse.getD q default + s.pon.reverse.getD q default = _
  rw [rev_at hq, rev_at (by omega), h2, ← h1]
theorem inH_rev {held : List Int} (hh : held.length = n.nodes.length) (hi : inf.length = n.nodes.length) : inH (revN n) held.reverse inf.reverse (revN n).nodes.length = (inH n held inf n.nodes.length).reverse := by
  unfold inH
  rw [rev_len]
  refine rng_rev fun q hq => ?_
  rw [getD_rev hh hq, getD_rev hi hq, isOut_rev hq]
  cases isOut n (n.nodes.length - 1 - q)
  · rw [if_pos ⟨hq, rfl⟩, if_pos ⟨by omega, rfl⟩]
  · rw [if_neg (by simp), if_neg (by simp)]
theorem hS_rev {h : List Int} (hh : h.length = n.nodes.length) : hS (revN n) h.reverse = (hS n h).reverse := by
  unfold hS
  rw [rev_len]
  refine rng_rev fun q hq => ?_
  rw [getD_rev hh hq, rev_node hq]
theorem vS_rev {h : List Int} (hh : h.length = n.nodes.length) : vS (revN n) h.reverse = (vS n h).reverse := by
  unfold vS
  rw [rev_len]
  refine rng_rev fun q hq => ?_
  rw [getD_rev hh hq, rev_node hq]
theorem pS_rev {h : List Int} (hh : h.length = n.nodes.length) : pS (revN n) h.reverse = (pS n h).reverse := by
  unfold pS
  rw [rev_len]
  refine rng_rev fun q hq => ?_
  rw [getD_rev hh hq, rev_node hq]
theorem levels_rev {v : List Int} (hv : v.length = n.nodes.length) : levelsL (revN n) v.reverse = (levelsL n v).reverse := by
  unfold levelsL
  rw [rev_len]
  refine rng_rev fun q hq => ?_
  rw [getD_rev hv hq, rev_node hq]
theorem mvH_rev (nb : netB n = true) {held X : List Int} (hh : held.length = n.nodes.length) {i : Nat} (hi : i ≤ n.links.length) : mvH (revN n) held.reverse X i = (mvH n held X i).reverse := by
  have E := ends_of nb
  have E2 := ends_of (netB_rev nb)
  unfold mvH
  rw [rev_len]
  refine rng_rev fun q hq => ?_
  rw [getD_rev hh hq, isOut_rev hq]
  have e1 : selI (froQ (revN n) q) X i = selI (froQ n (n.nodes.length - 1 - q)) X i := selI_congr fun k hk => by
    have h1 := E2.fro (q := q) (show k < (revN n).links.length from by show k < n.links.length; omega)
    have h2 := E.fro (q := n.nodes.length - 1 - q) (show k < n.links.length by omega)
    have h3 := (E.f k (by omega)).1
    rw [h1, h2, fromI_rev nb (by omega)]
    rw [decide_eq_decide]; omega
  have e2 : selI (tilQ (revN n) q) X i = selI (tilQ n (n.nodes.length - 1 - q)) X i := selI_congr fun k hk => by
    have h1 := E2.til (q := q) (show k < (revN n).links.length from by show k < n.links.length; omega)
    have h2 := E.til (q := n.nodes.length - 1 - q) (show k < n.links.length by omega)
    have h3 := (E.t k (by omega)).1
    rw [h1, h2, tillI_rev nb (by omega)]
    rw [decide_eq_decide]; omega
  rw [e1, e2]
theorem toOut_rev (nb : netB n = true) {k : Nat} (hk : k < n.links.length) : toOut (revN n) k = toOut n k := by
  have h := (tillI_lt nb hk).1
  unfold toOut
  rw [tillI_rev nb hk, isOut_rev (by omega), show n.nodes.length - 1 - (n.nodes.length - 1 - tillI n k) = tillI n k by omega]
theorem limR_rev (nb : netB n = true) {held w : List Int} (hh : held.length = n.nodes.length) : limR (revN n) held.reverse w = limR n held w := by
  have E := ends_of nb
  have E2 := ends_of (netB_rev nb)
  unfold limR
  refine List.map_congr_left fun k hk => ?_
  have hk : k < n.links.length := List.mem_range.1 hk
  have h3 := (E.f k hk).1
  unfold limK
  rw [fromI_rev nb hk, getD_rev hh (by omega), show n.nodes.length - 1 - (n.nodes.length - 1 - fromI n k) = fromI n k by omega]
  have key : ∀ i, i ≤ n.links.length → selI (froQ (revN n) (n.nodes.length - 1 - fromI n k)) w i = selI (froQ n (fromI n k)) w i := fun i hi => selI_congr fun j hj => by
    have h1 := E2.fro (q := n.nodes.length - 1 - fromI n k) (show j < (revN n).links.length from by show j < n.links.length; omega)
    have h2 := E.fro (q := fromI n k) (show j < n.links.length by omega)
    have h4 := (E.f j (by omega)).1
    rw [h1, h2, fromI_rev nb (by omega)]
    rw [decide_eq_decide]; omega
  unfold shareI
  show (if selI _ w n.links.length ≤ _ then _ else _ * selI _ w (k + 1) / selI _ w n.links.length - _ * selI _ w k / selI _ w n.links.length) = _
  rw [key _ (Nat.le_refl _), key _ (by omega), key _ (by omega)]
end
section
variable {n : Net} {l : List Sect} {s : Sta} {inf : List Int} {sec : Int}
theorem at_rev {X : List Int} (hX : X.length = n.nodes.length) {q : Nat} (hq : q < n.nodes.length) : X.reverse.getD (n.nodes.length - 1 - q) default = X.getD q default := by
  rw [getD_rev hX (by omega), show n.nodes.length - 1 - (n.nodes.length - 1 - q) = q by omega]
theorem flowAt_rev (nb : netB n = true) {lv : List Int} {a b : Sta} (hl : lv.length = n.nodes.length) (h1 : a.set = b.set) (h2 : a.on = b.on) {k : Nat} (hk : k < n.links.length) : flowAt (revN n) l lv.reverse a k = flowAt n l lv b k := by
  have f := fromI_rev nb hk
  have t := tillI_rev nb hk
  have hf := (fromI_lt nb hk).1
  have ht := (tillI_lt nb hk).1
  have e1 : lv.reverse.getD (fromI (revN n) k) default = lv.getD (fromI n k) default := by rw [f, at_rev hl hf]
  have e2 : lv.reverse.getD (tillI (revN n) k) default = lv.getD (tillI n k) default := by rw [t, at_rev hl ht]
  have e3 : (revN n).nodes.getD (nodeIx (revN n).nodes (n.links.getD k default).fro).toNat default = n.nodes.getD (nodeIx n.nodes (n.links.getD k default).fro).toNat default := by
    show (revN n).nodes.getD (fromI (revN n) k) default = n.nodes.getD (fromI n k) default
    rw [f, rev_node (by omega), show n.nodes.length - 1 - (n.nodes.length - 1 - fromI n k) = fromI n k by omega]
  unfold flowAt
  rw [e1, e2, h1, h2]
  show flowI (revN n) l (n.links.getD k default) _ _ _ _ = _
  unfold flowI
  rw [e3]
theorem pumps_rev (nb : netB n = true) {lv : List Int} {on : List Bool} (hl : lv.length = n.nodes.length) : pumpsL (revN n) lv.reverse on = pumpsL n lv on := by
  unfold pumpsL
  refine List.map_congr_left fun k hk => ?_
  have hk : k < n.links.length := List.mem_range.1 hk
  have f := fromI_rev nb hk
  have hf := (fromI_lt nb hk).1
  have e1 : lv.reverse.getD (fromI (revN n) k) default = lv.getD (fromI n k) default := by rw [f, at_rev hl hf]
  unfold pumpAt
  rw [e1]; rfl
theorem staB_rev1 (h : staB n s = true) : staB (revN n) (revS s) = true := by
  unfold staB at h ⊢
  simp only [Bool.and_eq_true, List.all_eq_true, List.mem_range] at h ⊢
  obtain ⟨⟨h1, h2⟩, h3⟩ := h
  have h1' := h1
  unfold lensB at h1 ⊢
  simp only [Bool.and_eq_true, decide_eq_true_eq] at h1 ⊢
  refine ⟨⟨⟨⟨⟨?_, ?_⟩, h1.1.2⟩, h1.2⟩, fun q hq => ?_⟩, h3⟩
  · show s.vol.reverse.length = _
    rw [List.length_reverse, rev_len]; exact h1.1.1.1
  · show s.pon.reverse.length = _
    rw [List.length_reverse, rev_len]; exact h1.1.1.2
  · rw [rev_len] at hq
    have := h2 (n.nodes.length - 1 - q) (by omega)
    unfold okSN at this ⊢
    rw [rev_node hq]
    show (btwB (s.vol.reverse.getD q default) 0 _ && volB (s.pon.reverse.getD q default) && !(_ && !decide (s.pon.reverse.getD q default = 0))) = true
    rw [getD_rev h1.1.1.1 hq, getD_rev h1.1.1.2 hq]
    exact this
theorem rev_rev (n : Net) : revN (revN n) = n := by
  cases n; simp [revN]
theorem revS_revS (s : Sta) : revS (revS s) = s := by
  cases s; simp [revS]
theorem staB_rev : staB (revN n) (revS s) = staB n s := by
  rw [Bool.eq_iff_iff]
  refine ⟨fun h => ?_, staB_rev1⟩
  have := staB_rev1 h
  rw [rev_rev, revS_revS] at this
  exact this
theorem netB_rev' : netB (revN n) = netB n := by
  rw [Bool.eq_iff_iff]
  refine ⟨fun h => ?_, netB_rev⟩
  have := netB_rev h
  rw [rev_rev] at this
  exact this
theorem rang_rev {B : Int} : rangB inf.reverse B = rangB inf B := by
  have key : ∀ x : List Int, rangB x B = true → rangB x.reverse B = true := fun x h => by
    unfold rangB at h ⊢
    rw [List.all_eq_true] at h ⊢
    intro i hi
    rw [List.mem_range, List.length_reverse] at hi
    rw [rev_at hi]
    exact h _ (List.mem_range.2 (by omega))
  rw [Bool.eq_iff_iff]
  refine ⟨fun h => ?_, key _⟩
  have := key _ h
  rw [List.reverse_reverse] at this
  exact this
theorem fitS_rev {h : List Int} (hh : h.length = n.nodes.length) : fitS (revN n) h.reverse = fitS n h := by
  have hp := pS_rev hh
  have hl : (pS n h).length = n.nodes.length := pS_len h
  unfold fitS fitI
  rw [hp, rev_len, Bool.eq_iff_iff, List.all_eq_true, List.all_eq_true]
  constructor
  · intro k q hq
    have hq := List.mem_range.1 hq
    have := k (n.nodes.length - 1 - q) (List.mem_range.2 (by omega))
    rw [getD_rev hl (by omega), show n.nodes.length - 1 - (n.nodes.length - 1 - q) = q by omega] at this
    exact this
  · intro k q hq
    have hq := List.mem_range.1 hq
    rw [getD_rev hl hq]
    exact k _ (List.mem_range.2 (by omega))
theorem sumN_first {F : Nat → Int} : ∀ N, sumN F (N + 1) = F 0 + sumN (fun q => F (q + 1)) N
  | 0 => by
    show 0 + F 0 = F 0 + 0
    omega
  | N + 1 => by
    have := sumN_first (F := F) N
    show sumN F (N + 1) + F (N + 1) = F 0 + (sumN (fun q => F (q + 1)) N + F (N + 1))
    omega
theorem sumN_rev {F : Nat → Int} : ∀ N, sumN (fun q => F (N - 1 - q)) N = sumN F N
  | 0 => rfl
  | N + 1 => by
    rw [sumN_first]
    have h := sumN_congr (F := fun q => F (N + 1 - 1 - (q + 1))) (G := fun q => F (N - 1 - q)) N fun q hq => by
      show F (N + 1 - 1 - (q + 1)) = F (N - 1 - q)
      rw [show N + 1 - 1 - (q + 1) = N - 1 - q by omega]
    rw [h, sumN_rev N]
    show F (N + 1 - 1 - 0) + sumN F N = sumN F N + F N
    rw [show N + 1 - 1 - 0 = N by omega]
    omega
theorem heldB_len : (heldB n s inf).length = n.nodes.length := hS_len _
theorem heldA_rev (h1 : s.vol.length = n.nodes.length) (h2 : s.pon.length = n.nodes.length) (hi : inf.length = n.nodes.length) : heldA (revN n) (revS s) inf.reverse = (heldA n s inf).reverse := by
  unfold heldA
  rw [heldL_rev h1 h2, inH_rev (by rw [heldL_len, h1]) hi]
theorem heldB_rev (h1 : s.vol.length = n.nodes.length) (h2 : s.pon.length = n.nodes.length) (hi : inf.length = n.nodes.length) : heldB (revN n) (revS s) inf.reverse = (heldB n s inf).reverse := by
  unfold heldB
  rw [heldA_rev h1 h2 hi, hS_rev heldA_len]
theorem lvl1_rev (h1 : s.vol.length = n.nodes.length) (h2 : s.pon.length = n.nodes.length) (hi : inf.length = n.nodes.length) : lvl1 (revN n) (revS s) inf.reverse = (lvl1 n s inf).reverse := by
  unfold lvl1
  rw [heldB_rev h1 h2 hi, vS_rev heldB_len, levels_rev (vS_len _)]
theorem lvl1_len : (lvl1 n s inf).length = n.nodes.length := rng_len _ _
theorem onS_rev (nb : netB n = true) (h1 : s.vol.length = n.nodes.length) (h2 : s.pon.length = n.nodes.length) (hi : inf.length = n.nodes.length) : onS (revN n) (revS s) inf.reverse = onS n s inf := by
  unfold onS
  rw [lvl1_rev h1 h2 hi, pumps_rev nb lvl1_len]; rfl
theorem wsh_rev (nb : netB n = true) (h1 : s.vol.length = n.nodes.length) (h2 : s.pon.length = n.nodes.length) (hi : inf.length = n.nodes.length) : wsh (revN n) l (revS s) inf.reverse sec = wsh n l s inf sec := by
  have ho := onS_rev nb h1 h2 hi
  unfold wsh wshL
  rw [lvl1_rev h1 h2 hi]
  refine List.map_congr_left fun k hk => ?_
  have hk : k < n.links.length := List.mem_range.1 hk
  rw [flowAt_rev nb lvl1_len (a := sta2 (revN n) (revS s) inf.reverse) (b := sta2 n s inf) rfl ho hk]
theorem pasL_rev (nb : netB n = true) (h1 : s.vol.length = n.nodes.length) (h2 : s.pon.length = n.nodes.length) (hi : inf.length = n.nodes.length) : pasL (revN n) l (revS s) inf.reverse sec = pasL n l s inf sec := by
  unfold pasL
  rw [wsh_rev nb h1 h2 hi, heldB_rev h1 h2 hi, limR_rev nb heldB_len]
theorem heldD_rev (nb : netB n = true) (h1 : s.vol.length = n.nodes.length) (h2 : s.pon.length = n.nodes.length) (hi : inf.length = n.nodes.length) : heldD (revN n) l (revS s) inf.reverse sec = (heldD n l s inf sec).reverse := by
  unfold heldD heldC
  rw [pasL_rev nb h1 h2 hi, heldB_rev h1 h2 hi]
  show hS (revN n) (mvH (revN n) _ _ n.links.length) = _
  rw [mvH_rev nb heldB_len (Nat.le_refl _), hS_rev (mvH_len ..)]
theorem heldD_len : (heldD n l s inf sec).length = n.nodes.length := hS_len _
theorem stepS_rev (nb : netB n = true) (h1 : s.vol.length = n.nodes.length) (h2 : s.pon.length = n.nodes.length) (hi : inf.length = n.nodes.length) : stepS (revN n) l (revS s) inf.reverse sec = revS (stepS n l s inf sec) := by
  unfold stepS revS
  rw [show (⟨s.vol.reverse, s.pon.reverse, s.set, s.on⟩ : Sta) = revS s from rfl, heldD_rev nb h1 h2 hi, vS_rev heldD_len, pS_rev heldD_len, onS_rev nb h1 h2 hi]; rfl
theorem selI_isOut_rev (hi : inf.length = n.nodes.length) : selI (isOut (revN n)) inf.reverse n.nodes.length = selI (isOut n) inf n.nodes.length := by
  rw [selI_sum, selI_sum, ← sumN_rev (F := fun q => if isOut n q then inf.getD q default else 0)]
  refine sumN_congr _ fun q hq => ?_
  show (if isOut (revN n) q then inf.reverse.getD q default else 0) = if isOut n (n.nodes.length - 1 - q) then inf.getD (n.nodes.length - 1 - q) default else 0
  rw [isOut_rev hq, getD_rev hi hq]
theorem sumI_rev (hi : inf.length = n.nodes.length) : sumI inf.reverse n.nodes.length = sumI inf n.nodes.length := by
  rw [sumI_sum _ (by rw [List.length_reverse]; omega), sumI_sum _ (by omega), ← sumN_rev (F := fun q => inf.getD q default)]
  refine sumN_congr _ fun q hq => ?_
  show inf.reverse.getD q default = inf.getD (n.nodes.length - 1 - q) default
  rw [getD_rev hi hq]
theorem selI_toOut_rev (nb : netB n = true) (X : List Int) : selI (toOut (revN n)) X n.links.length = selI (toOut n) X n.links.length :=
  selI_congr fun k hk => toOut_rev nb hk
theorem stepL_rev (nb : netB n = true) (h1 : s.vol.length = n.nodes.length) (h2 : s.pon.length = n.nodes.length) (hi : inf.length = n.nodes.length) : stepL (revN n) l (revS s) inf.reverse sec = stepL n l s inf sec := by
  unfold stepL
  rw [rev_len, pasL_rev nb h1 h2 hi, sumI_rev hi, selI_isOut_rev hi]
  show (⟨_, _ + selI (toOut (revN n)) _ n.links.length, _⟩ : Ledg) = _
  rw [selI_toOut_rev nb]
theorem stepE_rev : stepE (revN n) l (revS s) inf.reverse sec = stepE n l s inf sec := by
  unfold stepE
  rw [netB_rev', staB_rev, rang_rev, List.length_reverse, rev_len]
  show (if (netB n && staB n s && catB l) = false then (1 : Int) else if inf.length ≠ n.nodes.length then 3 else if _ then 2 else if (n.links.any fun x => !knownB l x) = true then 9 else _) = _
  by_cases hv : (netB n && staB n s && catB l) = false
  · rw [if_pos hv, if_pos hv]
  rw [if_neg hv, if_neg hv]
  by_cases hi : inf.length ≠ n.nodes.length
  · rw [if_pos hi, if_pos hi]
  rw [if_neg hi, if_neg hi]
  have hv : (netB n && staB n s && catB l) = true := by simpa only [Bool.not_eq_false] using hv
  simp only [Bool.and_eq_true] at hv
  obtain ⟨⟨nb, sb⟩, _⟩ := hv
  have hi : inf.length = n.nodes.length := by simpa using hi
  obtain ⟨_, _, h1, h2⟩ := sta_hold nb sb
  rw [heldD_rev nb h1 h2 hi, heldB_rev h1 h2 hi, fitS_rev heldB_len, fitS_rev heldD_len]
end
theorem list_extA {α : Type} [Inhabited α] {a b : List α} (hl : a.length = b.length) (h : ∀ k, k < a.length → a.getD k default = b.getD k default) : a = b := by
  refine List.ext_getElem hl fun k h1 h2 => ?_
  have := h k h1
  rw [List.getD_eq_getElem?_getD, List.getD_eq_getElem?_getD, List.getElem?_eq_getElem h1, List.getElem?_eq_getElem h2] at this
  exact this
section
variable {α : Type} [Inhabited α]
def rvL (l : List α) (i : Nat) : List α := (List.range l.length).map fun k => if k < i ∨ l.length ≤ k + i then l.getD (l.length - 1 - k) default else l.getD k default
theorem rvL_len (l : List α) (i : Nat) : (rvL l i).length = l.length := by simp [rvL]
theorem rvL_get (l : List α) (i : Nat) {k : Nat} (hk : k < l.length) : (rvL l i).getD k default = if k < i ∨ l.length ≤ k + i then l.getD (l.length - 1 - k) default else l.getD k default := by
  unfold rvL
  rw [List.getD_eq_getElem?_getD (l := List.map _ _), List.getElem?_map, List.getElem?_range hk]; rfl
theorem rvL_zero (l : List α) : rvL l 0 = l := list_extA (rvL_len l 0) fun k hk => by
  rw [rvL_len] at hk
  rw [rvL_get l 0 hk, if_neg (by omega)]
theorem rvL_end {l : List α} {i : Nat} (h : l.length ≤ 2 * i + 1) : rvL l i = l.reverse := list_extA (by rw [rvL_len, List.length_reverse]) fun k hk => by
  rw [rvL_len] at hk
  rw [rvL_get l i hk, List.getD_eq_getElem?_getD (l := l.reverse), List.getElem?_reverse hk, ← List.getD_eq_getElem?_getD]
  by_cases h2 : k < i ∨ l.length ≤ k + i
  · rw [if_pos h2]
  · rw [if_neg h2, show l.length - 1 - k = k by omega]
theorem setA_get {l : List α} {i k : Nat} {x : α} (hi : i < l.length) : (l.set i x).getD k default = if i = k then x else l.getD k default := by
  by_cases e : i = k
  · subst e
    rw [if_pos rfl, List.getD_eq_getElem?_getD, List.getElem?_set_self hi]; rfl
  · rw [if_neg e, List.getD_eq_getElem?_getD, List.getElem?_set_ne e, ← List.getD_eq_getElem?_getD]
theorem rvL_next {l : List α} {i : Nat} (h : 2 * i + 1 < l.length) : ((rvL l i).set i ((rvL l i).getD (l.length - 1 - i) default)).set (l.length - 1 - i) ((rvL l i).getD i default) = rvL l (i + 1) := by
  have hl := rvL_len l i
  refine list_extA (by rw [List.length_set, List.length_set, rvL_len, rvL_len]) fun k hk => ?_
  rw [List.length_set, List.length_set, rvL_len] at hk
  rw [setA_get (by rw [List.length_set]; omega), setA_get (by omega), rvL_get l (i + 1) hk]
  by_cases h1 : l.length - 1 - i = k
  · rw [if_pos h1, if_pos (by omega), rvL_get l i (by omega), if_neg (by omega), ← h1, show l.length - 1 - (l.length - 1 - i) = i by omega]
  rw [if_neg h1]
  by_cases h2 : i = k
  · rw [if_pos h2, if_pos (by omega), rvL_get l i (by omega), if_neg (by omega), ← h2]
  rw [if_neg h2, rvL_get l i hk]
  by_cases h3 : k < i ∨ l.length ≤ k + i
  · rw [if_pos h3, if_pos (by omega)]
  · rw [if_neg h3, if_neg (by omega)]
end
set_option maxRecDepth 20000 in
set_option maxHeartbeats 4000000 in
theorem rev_f (l : List Int) (hl : l.length ≤ 1048576) : DCallsG Tryz.prog 15 [] [.gl 0] (hget [(0, inLt l)]) 1 (.tup []) (hget [(0, inLt l.reverse)]) := by
  refine contract (n := 28) (rs := []) (ts := []) Tryz.func15 rfl (by decide) 1 1 [] [] [] (.tup []) [(0, inLt l.reverse)] (by (exact SD)) (by (exact SD)) ?_
  (repeat' (first | refine swp_seq [0, 2, 3, 9] ?_ | refine st2 ?_ | (show Fct ..; refine fctI (fun hf => ?_)) | (show SWp _ _ _ (.cond _ _ _) _ _ _ _; first | refine cB (fun hc => ?_) (fun hc => ?_) | refine cU ?_ ?_)))
  refine loop_swp [0, 2, 3] [0] 1 (fun q A H => ∃ i : Nat, 2 * i ≤ l.length + 1 ∧ q = l.length + 1 - i ∧ A = [(0, .gl 0), (2, li i), (3, li ((l.length : Int) - 1 - i))] ∧ H = [(0, inLt (rvL l i))]) (by omega) ?_ ?_ ?_
  · rintro q A H ⟨i, h1, h2, rfl, rfl⟩
    exact ⟨by (exact SD), by (exact SD)⟩
  · refine ⟨_, 0, by omega, rfl, ?_, ?_⟩
    · rw [show (l.length : Int) - 1 - ((0 : Nat) : Int) = (l.length : Int) - 1 by omega]
      exact DVR
    · rw [rvL_zero]
      exact DVR
  rintro q A H ⟨i, h1, h2, rfl, rfl⟩
  by_cases hi : 2 * i + 1 < l.length
  · have hnx := rvL_next hi
    have hln := rvL_len l i
    have hj : (l.length : Int) - 1 - i = ((l.length - 1 - i : Nat) : Int) := by omega
    rw [hj]
    have hjl : l.length - 1 - i < l.length := by omega
    have hij : (i : Int) < ((l.length - 1 - i : Nat) : Int) := by omega
    generalize hJ : l.length - 1 - i = J at *
    generalize rvL l i = X at *
    have hiX : i < X.length := by omega
    have hjX : J < X.length := by omega
    (have := Nonempty.intro hij)
    (have := Nonempty.intro hiX)
    have hjY : J < (X.set i (X.getD J default)).length := by rw [List.length_set]; exact hjX
    (have := Nonempty.intro hjX)
    (have := Nonempty.intro hjY)
    (repeat' (first | refine swp_seq [0, 2, 3, 9] ?_ | (show SWp _ _ _ (.region _ _ true) _ _ _ _; refine xG mixed [0] ?_) | refine st2 ?_ | (show Fct ..; refine fctI (fun hf => ?_)) | (show SWp _ _ _ (.cond _ _ _) _ _ _ _; first | refine cB (fun hc => ?_) (fun hc => ?_) | refine cU ?_ ?_)))
    rw [hnx]
    (refine lN [0] ?_)
    exact ⟨_, by omega, i + 1, by omega, rfl, by rw [show (l.length : Int) - 1 - ((i + 1 : Nat) : Int) = (J : Int) - 1 by omega]; rfl, rfl⟩
  · have hij : ¬ (i : Int) < (l.length : Int) - 1 - i := by omega
    (have := Nonempty.intro hij)
    rw [rvL_end (by omega)]
    (repeat' (first | refine swp_seq [0, 2, 3, 9] ?_ | refine st2 ?_ | (show Fct ..; refine fctI (fun hf => ?_)) | (show SWp _ _ _ (.cond _ _ _) _ _ _ _; first | refine cB (fun hc => ?_) (fun hc => ?_) | refine cU ?_ ?_)))
    exact DVR
abbrev nodeLt (l : List Node) : HV := .lst 46 9 (rows nodeP l)
theorem nodeC_d9 (x : Node) : (nodeC x).drop 9 = [] := rfl
theorem set_no (l : List Node) (i : Nat) (v : Node) : (rows nodeP l).set i (nodeC v) = rows nodeP (l.set i v) := rows_set nodeP l i v
theorem cells_no (x : Node) (r : List DV) : CellsB (nodeC x ++ r) = CellsB r :=
  propext ⟨fun h d hd => h d (List.mem_append.2 (.inr hd)), fun h d hd => by
    rcases List.mem_append.1 hd with hd | hd
    · exact List.all_eq_true.1 (nodeC_all x) d hd
    · exact h d hd⟩
attribute [push_cast] nodeC_d9 set_no cells_no List.append_nil
set_option maxRecDepth 20000 in
set_option maxHeartbeats 4000000 in
theorem revNo_f (l : List Node) (hl : l.length ≤ 1048576) : DCallsG Tryz.prog 14 [] [.gl 0] (hget [(0, nodeLt l)]) 1 (.tup []) (hget [(0, nodeLt l.reverse)]) := by
  refine contract (n := 28) (rs := []) (ts := []) Tryz.func14 rfl (by decide) 1 1 [] [] [] (.tup []) [(0, nodeLt l.reverse)] (by (exact SD)) (by (exact SD)) ?_
  (repeat' (first | refine swp_seq [0, 2, 3, 9] ?_ | refine st2 ?_ | (show Fct ..; refine fctI (fun hf => ?_)) | (show SWp _ _ _ (.cond _ _ _) _ _ _ _; first | refine cB (fun hc => ?_) (fun hc => ?_) | refine cU ?_ ?_)))
  refine loop_swp [0, 2, 3] [0] 1 (fun q A H => ∃ i : Nat, 2 * i ≤ l.length + 1 ∧ q = l.length + 1 - i ∧ A = [(0, .gl 0), (2, li i), (3, li ((l.length : Int) - 1 - i))] ∧ H = [(0, nodeLt (rvL l i))]) (by omega) ?_ ?_ ?_
  · rintro q A H ⟨i, h1, h2, rfl, rfl⟩
    exact ⟨by (exact SD), by (exact SD)⟩
  · refine ⟨_, 0, by omega, rfl, ?_, ?_⟩
    · rw [show (l.length : Int) - 1 - ((0 : Nat) : Int) = (l.length : Int) - 1 by omega]
      exact DVR
    · rw [rvL_zero]
      exact DVR
  rintro q A H ⟨i, h1, h2, rfl, rfl⟩
  by_cases hi : 2 * i + 1 < l.length
  · have hnx := rvL_next hi
    have hln := rvL_len l i
    have hj : (l.length : Int) - 1 - i = ((l.length - 1 - i : Nat) : Int) := by omega
    rw [hj]
    have hjl : l.length - 1 - i < l.length := by omega
    have hij : (i : Int) < ((l.length - 1 - i : Nat) : Int) := by omega
    generalize hJ : l.length - 1 - i = J at *
    generalize rvL l i = X at *
    have hiX : i < X.length := by omega
    have hjX : J < X.length := by omega
    (have := Nonempty.intro hij)
    (have := Nonempty.intro hiX)
    have hjY : J < (X.set i (X.getD J default)).length := by rw [List.length_set]; exact hjX
    (have := Nonempty.intro hjX)
    (have := Nonempty.intro hjY)
    (repeat' (first | refine swp_seq [0, 2, 3, 9] ?_ | (show SWp _ _ _ (.region _ _ true) _ _ _ _; refine xG mixed [0] ?_) | refine st2 ?_ | (show Fct ..; refine fctI (fun hf => ?_)) | (show SWp _ _ _ (.cond _ _ _) _ _ _ _; first | refine cB (fun hc => ?_) (fun hc => ?_) | refine cU ?_ ?_)))
    rw [hnx]
    (refine lN [0] ?_)
    exact ⟨_, by omega, i + 1, by omega, rfl, by rw [show (l.length : Int) - 1 - ((i + 1 : Nat) : Int) = (J : Int) - 1 by omega]; rfl, rfl⟩
  · have hij : ¬ (i : Int) < (l.length : Int) - 1 - i := by omega
    (have := Nonempty.intro hij)
    rw [rvL_end (by omega)]
    (repeat' (first | refine swp_seq [0, 2, 3, 9] ?_ | refine st2 ?_ | (show Fct ..; refine fctI (fun hf => ?_)) | (show SWp _ _ _ (.cond _ _ _) _ _ _ _; first | refine cB (fun hc => ?_) (fun hc => ?_) | refine cU ?_ ?_)))
    exact DVR
set_option maxHeartbeats 1000000 in
theorem cloneNo_f (l : List Node) (m : Nat) (hl : l.length ≤ 1048576) : DCallsG Tryz.prog 12 [] [nodeL l] (hget []) m (.gl m) (hget [(m, nodeLt l)]) := by
  refine contract (n := 8) (rs := [.tmp 2]) (ts := [22]) Tryz.func12 rfl (by decide) 0 0 [] [] [24] (.gl 24) [(24, nodeLt l)] (by (exact SD)) (by (exact SD)) ?_
  cases l with
  | nil =>
    (repeat' (first | refine swp_seq [0, 2, 4] ?_ | (first | refine rF (fun hf => ?_) | refine tN ?_ | refine swp_skip ?_ | refine swp_block ?_ | refine swp_scope ?_ | refine blockK_normal ?_ | refine scopeK_normal ?_ | (refine cB (fun hc => ?_) (fun hc => ?_) <;> first | exact False.elim hc | exact absurd hc Bool.false_ne_true | exact absurd hc.symm Bool.false_ne_true | skip) | refine cU ?_ ?_)))
    · (refine sN 2 46 9 ?_)
      (refine sR 32 24 ?_)
      (repeat' (first | refine swp_seq [0, 2, 4] ?_ | (first | refine rF (fun hf => ?_) | refine tN ?_ | refine swp_skip ?_ | refine swp_ret ?_ | refine swp_exit ?_ | refine swp_block ?_ | refine swp_scope ?_ | refine thenK_ret ?_ | refine thenK_exit ?_ | refine blockK_normal ?_ | refine blockK_ret ?_ | refine blockK_here ?_ | refine bX ?_ | refine scopeK_normal ?_ | refine scopeK_ret ?_ | refine scopeK_exit ?_ | refine loopK_ret ?_ | refine loopK_exit ?_ | refine dF mixed ?_ | (refine cB (fun hc => ?_) (fun hc => ?_) <;> first | exact False.elim hc | exact absurd hc Bool.false_ne_true | exact absurd hc.symm Bool.false_ne_true | skip) | refine cU ?_ ?_)))
      exact DVS
    · (repeat' (first | refine swp_seq [0, 2, 4] ?_ | (first | refine rF (fun hf => ?_) | refine tN ?_ | refine swp_skip ?_ | refine swp_ret ?_ | refine swp_exit ?_ | refine swp_block ?_ | refine swp_scope ?_ | refine thenK_ret ?_ | refine thenK_exit ?_ | refine blockK_normal ?_ | refine blockK_ret ?_ | refine blockK_here ?_ | refine bX ?_ | refine scopeK_normal ?_ | refine scopeK_ret ?_ | refine scopeK_exit ?_ | refine loopK_ret ?_ | refine loopK_exit ?_ | refine dF mixed ?_ | (refine cB (fun hc => ?_) (fun hc => ?_) <;> first | exact False.elim hc | exact absurd hc Bool.false_ne_true | exact absurd hc.symm Bool.false_ne_true | skip) | refine cU ?_ ?_)))
      exact DVS
  | cons b l =>
    (repeat' (first | refine swp_seq [0, 2, 4] ?_ | (first | refine rF (fun hf => ?_) | refine tN ?_ | refine swp_skip ?_ | refine swp_ret ?_ | refine swp_exit ?_ | refine swp_block ?_ | refine swp_scope ?_ | refine thenK_ret ?_ | refine thenK_exit ?_ | refine blockK_normal ?_ | refine blockK_ret ?_ | refine blockK_here ?_ | refine bX ?_ | refine scopeK_normal ?_ | refine scopeK_ret ?_ | refine scopeK_exit ?_ | refine loopK_ret ?_ | refine loopK_exit ?_ | refine dF mixed ?_ | (refine cB (fun hc => ?_) (fun hc => ?_) <;> first | exact False.elim hc | exact absurd hc Bool.false_ne_true | exact absurd hc.symm Bool.false_ne_true | skip) | refine cU ?_ ?_)))
    exact DVS

end Go.Proofs.YtcdggndojmmlhaaGreat
