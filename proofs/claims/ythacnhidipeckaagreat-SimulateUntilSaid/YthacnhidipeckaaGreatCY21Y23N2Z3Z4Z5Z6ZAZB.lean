/-
  Contracts of functions of the program, over the engine.
  No condition.
-/
import Derived.Test.YthacnhidipeckaaGreatCY15
import Derived.Test.YthacnhidipeckaaGreatCN0N1NBNmT1T2T2eT3
import Derived.Test.YthacnhidipeckaaGreatCY16Y17
import Derived.Test.YthacnhidipeckaaGreatCL9L10L11
namespace Go.Proofs.YthacnhidipeckaaGreat
open Go.Eng
set_option linter.all false
attribute [local irreducible] DCallsG SWp Fct CallQ XCallQ LCallQ XLCallQ drun xrun
section
open Go.Eng
end
theorem rep_in (k : Nat) : List.replicate k [DV.p (.lit (.int .i64 0))] = rows inRow (List.replicate k 0) := by
  unfold rows; rw [List.map_replicate]; rfl
theorem rep_bo (k : Nat) : List.replicate k [DV.p (.lit (.bool false))] = rows boRow (List.replicate k false) := by
  unfold rows; rw [List.map_replicate]; rfl
attribute [push_cast] rep_in rep_bo
section
variable {α : Type} [Inhabited α]
end
theorem nodeC_d9 (x : Node) : (nodeC x).drop 9 = [] := rfl
theorem set_no (l : List Node) (i : Nat) (v : Node) : (rows nodeP l).set i (nodeC v) = rows nodeP (l.set i v) := rows_set nodeP l i v
theorem cells_no (x : Node) (r : List DV) : CellsB (nodeC x ++ r) = CellsB r :=
  propext ⟨fun h d hd => h d (List.mem_append.2 (.inr hd)), fun h d hd => by
    rcases List.mem_append.1 hd with hd | hd
    · exact List.all_eq_true.1 (nodeC_all x) d hd
    · exact h d hd⟩
attribute [push_cast] nodeC_d9 set_no cells_no List.append_nil
structure Infl where
  nod : ByteArray
  vols : List Int
instance : Inhabited Infl := ⟨⟨default, default⟩⟩
theorem infl_ext {x y : Infl} (h : x.nod = y.nod /\ x.vols = y.vols) : x = y := by
  cases x; cases y; simp_all
instance : DecidableEq Infl := fun x y => decidable_of_iff (x.nod = y.nod /\ x.vols = y.vols) ⟨infl_ext, fun h => by subst h; simp⟩
def inflP (x : Infl) : List PV := [.lit (.string x.nod), .dat 1 (x.vols.map inRow)]
def inflC (x : Infl) : List DV := [.p (.lit (.string x.nod)), .p (.dat 1 (x.vols.map inRow))]
abbrev inflD (x : Infl) : DV := .agg (inflC x)
abbrev inflL (l : List Infl) : DV := .p (.dat 2 (l.map inflP))
theorem inflP_map (x : Infl) : (inflP x).map DV.p = inflC x := rfl
theorem inflP_len (x : Infl) : (inflP x).length = 2 := rfl
theorem inflC_len (x : Infl) : (inflC x).length = 2 := rfl
theorem inflP_take (x : Infl) : (inflP x).take 2 = inflP x := rfl
theorem inflC_take (x : Infl) : (inflC x).take 2 = inflC x := rfl
theorem inflC_all (x : Infl) : (inflC x).all DV.cellB = true := rfl
theorem inflP_d0 (x : Infl) : (inflP x).getD 0 default = .lit (.string x.nod) := rfl
theorem inflC_d0 (x : Infl) : (inflC x)[0]? = some (.p (.lit (.string x.nod))) := rfl
theorem inflP_s0 (x : Infl) : (inflP x).take 1 = [.lit (.string x.nod)] := rfl
theorem inflC_s0 (x : Infl) : (inflC x).take 1 = [.p (.lit (.string x.nod))] := rfl
theorem inflP_d1 (x : Infl) : (inflP x).getD 1 default = .dat 1 (x.vols.map inRow) := rfl
theorem inflC_d1 (x : Infl) : (inflC x)[1]? = some (.p (.dat 1 (x.vols.map inRow))) := rfl
theorem inflP_s1 (x : Infl) : ((inflP x).drop 1).take 1 = [.dat 1 (x.vols.map inRow)] := rfl
theorem inflC_s1 (x : Infl) : ((inflC x).drop 1).take 1 = [.p (.dat 1 (x.vols.map inRow))] := rfl
theorem inflC_ren (o n : Nat) (x : Infl) : DV.renL o n (inflC x) = inflC x := rfl
theorem inflC_frz (o : Nat) (v : FV) (x : Infl) : DV.frzL o v (inflC x) = inflC x := rfl
theorem inflC_mp (r : Nat -> Nat) (x : Infl) : DV.mpL r (inflC x) = inflC x := rfl
theorem inflC_uses (U : Nat -> Prop) (x : Infl) : DV.usesL U (inflC x) = True := by simp [inflC, DV.usesL, DV.uses]
attribute [push_cast] inflP_map inflP_len inflC_len inflP_take inflC_take inflC_all inflP_d0 inflC_d0 inflP_s0 inflC_s0 inflP_d1 inflC_d1 inflP_s1 inflC_s1 inflC_ren inflC_frz inflC_mp inflC_uses
def inflOk (x : Infl) : Prop := x.nod.size <= 281474976710656 /\ intsOk x.vols
structure Cnd where
  nod : ByteArray
  below : Bool
  level : Int
instance : Inhabited Cnd := ⟨⟨default, default, default⟩⟩
theorem cnd_ext {x y : Cnd} (h : x.nod = y.nod /\ x.below = y.below /\ x.level = y.level) : x = y := by
  cases x; cases y; simp_all
instance : DecidableEq Cnd := fun x y => decidable_of_iff (x.nod = y.nod /\ x.below = y.below /\ x.level = y.level) ⟨cnd_ext, fun h => by subst h; simp⟩
structure Rule where
  name : ByteArray
  whn : List Cnd
  lnk : ByteArray
  setg : Int
instance : Inhabited Rule := ⟨⟨default, default, default, default⟩⟩
theorem rule_ext {x y : Rule} (h : x.name = y.name /\ x.whn = y.whn /\ x.lnk = y.lnk /\ x.setg = y.setg) : x = y := by
  cases x; cases y; simp_all
instance : DecidableEq Rule := fun x y => decidable_of_iff (x.name = y.name /\ x.whn = y.whn /\ x.lnk = y.lnk /\ x.setg = y.setg) ⟨rule_ext, fun h => by subst h; simp⟩
def rightI (x : Infl) : Bool := nameB x.nod && decide (x.vols.length <= 10000) && x.vols.all (fun v => btwB v 0 1125899906842624)
def hasB (l : List ByteArray) (s : ByteArray) : Bool := l.any fun y => decide (y = s)
def dupB (l : List ByteArray) : Bool := (List.range l.length).any fun i => hasB (l.take i) (l.getD i default)
def givenN (infl : List Infl) (names : List ByteArray) : Int :=
  if 1000 < infl.length ∨ 1000 < names.length then 4
  else if (infl.any fun x => !rightI x) = true then 1
  else if dupB names = true then 10
  else if (infl.any fun x => !hasB names x.nod) = true then 9 else 0
def volAt (s : ByteArray) (k : Nat) (x : Infl) : Int := if x.nod = s /\ k < x.vols.length then x.vols.getD k default else 0
def sumAt (l : List Infl) (s : ByteArray) (k : Nat) : Int := (l.map (volAt s k)).sum
def atL (l : List Infl) (names : List ByteArray) (k : Nat) : List Int := names.map fun s => sumAt l s k
def atB (l : List Infl) (names : List ByteArray) (k : Nat) : Bool := (atL l names k).all fun v => decide (v <= 1125899906842624)
theorem rightI_vol {x : Infl} (h : rightI x = true) {k : Nat} (hk : k < x.vols.length) : 0 <= x.vols.getD k default /\ x.vols.getD k default <= 1125899906842624 := by
  unfold rightI at h;simp only [Bool.and_eq_true, List.all_eq_true] at h;exact btwB_in (h.2 _ (getD_mem hk))
theorem volAt_in {x : Infl} (h : rightI x = true) (s : ByteArray) (k : Nat) : 0 <= volAt s k x /\ volAt s k x <= 1125899906842624 := by
  unfold volAt;split;next h2 => exact rightI_vol h h2.2
  · omega
theorem sumAt_snoc (l : List Infl) (s : ByteArray) (k : Nat) {j : Nat} (hj : j < l.length) : sumAt (l.take (j + 1)) s k = sumAt (l.take j) s k + volAt s k (l.getD j default) := by
  unfold sumAt;rw [List.take_succ_eq_append_getElem hj, List.map_append, List.sum_append];simp [List.getD_eq_getElem?_getD, List.getElem?_eq_getElem hj]
theorem sumAt_nn {l : List Infl} (h : ∀ x, x ∈ l -> rightI x = true) (s : ByteArray) (k : Nat) : 0 <= sumAt l s k := by
  unfold sumAt;induction l with
  | nil => simp
  | cons x l ih =>
    rw [List.map_cons, List.sum_cons];have h1 := (volAt_in (h x (List.mem_cons_self ..)) s k).1;have h2 := ih fun y hy => h y (List.mem_cons_of_mem _ hy)
    omega
theorem sumAt_le {l : List Infl} (h : ∀ x, x ∈ l -> rightI x = true) (s : ByteArray) (k j : Nat) : sumAt (l.take j) s k <= sumAt l s k := by
  have e : sumAt l s k = sumAt (l.take j) s k + sumAt (l.drop j) s k := by
    unfold sumAt;rw [<- List.sum_append, <- List.map_append, List.take_append_drop]
  have := sumAt_nn (l := l.drop j) (fun x hx => h x (List.mem_of_mem_drop hx)) s k;omega
theorem hasB_mem {l : List ByteArray} {s : ByteArray} : hasB l s = true ↔ s ∈ l := by
  unfold hasB;rw [List.any_eq_true];constructor
  · rintro ⟨y, hy, e⟩;rw [<- of_decide_eq_true e]; exact hy
  · exact fun h => ⟨s, h, decide_eq_true rfl⟩
theorem dup_uniq {l : List ByteArray} (h : dupB l = false) {i j : Nat} (hi : i < l.length) (hj : j < l.length) (e : l.getD i default = l.getD j default) : i = j := by
  have key : ∀ a b, a < b -> b < l.length -> l.getD a default = l.getD b default -> False := fun a b hab hb e => by
    unfold dupB at h;rw [List.any_eq_false] at h;have h2 := h b (List.mem_range.2 hb);refine h2 (hasB_mem.2 ?_);rw [<- e];refine List.mem_iff_getElem.2 ⟨a, by rw [List.length_take]; omega, ?_⟩;rw [List.getElem_take, List.getD_eq_getElem?_getD, List.getElem?_eq_getElem (by omega)]; rfl
  by_cases h1 : i < j
  · exact (key i j h1 hj e).elim
  by_cases h2 : j < i
  · exact (key j i h2 hi e.symm).elim
  omega
theorem atL_len (l : List Infl) (names : List ByteArray) (k : Nat) : (atL l names k).length = names.length := List.length_map ..
theorem atL_at (l : List Infl) (names : List ByteArray) (k : Nat) {q : Nat} (hq : q < names.length) : (atL l names k).getD q default = sumAt l (names.getD q default) k := by
  unfold atL;rw [List.getD_eq_getElem?_getD, List.getElem?_map, List.getElem?_eq_getElem hq, List.getD_eq_getElem?_getD, List.getElem?_eq_getElem hq]; rfl
theorem atL_set {l : List Infl} {names : List ByteArray} {k j q : Nat} (hd : dupB names = false) (hj : j < l.length) (hq : q < names.length) (e : (l.getD j default).nod = names.getD q default) (hk : k < (l.getD j default).vols.length) :
    (atL (l.take j) names k).set q ((atL (l.take j) names k).getD q default + (l.getD j default).vols.getD k default) = atL (l.take (j + 1)) names k := by
  refine list_ext (by rw [List.length_set, atL_len, atL_len]) fun i hi => ?_
  rw [List.length_set, atL_len] at hi;rw [atL_at _ _ _ hi, sumAt_snoc _ _ _ hj];unfold volAt;by_cases h : q = i
  · subst h;rw [List.getD_eq_getElem?_getD, List.getElem?_set_self (by rw [atL_len]; exact hq), if_pos ⟨e, hk⟩, <- atL_at _ _ _ hq]; rfl
  · rw [List.getD_eq_getElem?_getD, List.getElem?_set_ne h, <- List.getD_eq_getElem?_getD, atL_at _ _ _ hi, if_neg (fun c => h (dup_uniq hd hq hi (by rw [<- e]; exact c.1))), Int.add_zero]
theorem atL_skip {l : List Infl} {names : List ByteArray} {k j : Nat} (hj : j < l.length) (hk : (l.getD j default).vols.length <= k) : atL (l.take j) names k = atL (l.take (j + 1)) names k := by
  refine list_ext (by rw [atL_len, atL_len]) fun i hi => ?_
  rw [atL_len] at hi;rw [atL_at _ _ _ hi, atL_at _ _ _ hi, sumAt_snoc _ _ _ hj];unfold volAt;rw [if_neg (by omega), Int.add_zero]
theorem atL_0 (names : List ByteArray) (k : Nat) : atL [] names k = List.replicate names.length 0 := by
  show names.map (fun _ => (0 : Int)) = _;rw [List.map_const']
theorem atB_big {l : List Infl} {names : List ByteArray} {k j q : Nat} (h : ∀ x, x ∈ l -> rightI x = true) (hq : q < names.length) (hb : 1125899906842624 < sumAt (l.take j) (names.getD q default) k) : atB l names k = false := by
  have h1 := sumAt_le h (names.getD q default) k j;unfold atB;rw [List.all_eq_false];refine ⟨(atL l names k).getD q default, getD_mem (by rw [atL_len]; exact hq), ?_⟩;rw [atL_at _ _ _ hq];simp only [decide_eq_true_eq]; omega
theorem atB_in {l : List Infl} {names : List ByteArray} {k : Nat} (h : ∀ q, q < names.length -> sumAt l (names.getD q default) k <= 1125899906842624) : atB l names k = true := by
  unfold atB;rw [List.all_eq_true];intro v hv;obtain ⟨q, hq, rfl⟩ := List.mem_iff_getElem.1 hv;have hq2 : q < names.length := by rw [atL_len] at hq; exact hq
  have e := atL_at l names k hq2;rw [List.getD_eq_getElem?_getD, List.getElem?_eq_getElem hq] at e;have e : (atL l names k)[q] = sumAt l (names.getD q default) k := e;rw [e];exact decide_eq_true (h q hq2)
def stpI (n : Net) (l : List Sect) (infl : List Infl) (names : List ByteArray) (sec : Int) (k : Nat) (s : Sta) : Sta × Ledg × Int := if atB infl names k = true then stepR n l s (atL infl names k) sec else (zeroS, zeroL, 5)
structure Run where
  now : Sta
  ss : List Sta
  gs : List Ledg
  e : Int
def runI (n : Net) (l : List Sect) (infl : List Infl) (names : List ByteArray) (sec : Int) (s : Sta) : Nat -> Run
  | 0 => ⟨s, [], [], 0⟩
  | k + 1 => if (runI n l infl names sec s k).e = 0 then
      (if (stpI n l infl names sec k (runI n l infl names sec s k).now).2.2 = 0 then ⟨(stpI n l infl names sec k (runI n l infl names sec s k).now).1, (runI n l infl names sec s k).ss ++ [(stpI n l infl names sec k (runI n l infl names sec s k).now).1], (runI n l infl names sec s k).gs ++ [(stpI n l infl names sec k (runI n l infl names sec s k).now).2.1], 0⟩
       else ⟨(runI n l infl names sec s k).now, [], [], (stpI n l infl names sec k (runI n l infl names sec s k).now).2.2⟩)
    else ⟨(runI n l infl names sec s k).now, [], [], (runI n l infl names sec s k).e⟩
def namesL (n : Net) : List ByteArray := n.nodes.map Node.name
def runR (n : Net) (l : List Sect) (s : Sta) (infl : List Infl) (sec steps : Int) : List Sta × List Ledg × Int :=
  if (netB n && staB n s && catB l) = false then ([], [], 1)
  else if ¬ givenN infl (namesL n) = 0 then ([], [], givenN infl (namesL n))
  else if steps < 0 ∨ 10000 < steps ∨ sec < 1 ∨ 86400 < sec then ([], [], 2)
  else ((runI n l infl (namesL n) sec s steps.toNat).ss, (runI n l infl (namesL n) sec s steps.toNat).gs, (runI n l infl (namesL n) sec s steps.toNat).e)
section
variable {n : Net} {l : List Sect} {infl : List Infl} {names : List ByteArray} {sec : Int} {s : Sta}
theorem runI_good {k : Nat} (h1 : (runI n l infl names sec s k).e = 0) (h2 : (stpI n l infl names sec k (runI n l infl names sec s k).now).2.2 = 0) : runI n l infl names sec s (k + 1) = ⟨(stpI n l infl names sec k (runI n l infl names sec s k).now).1, (runI n l infl names sec s k).ss ++ [(stpI n l infl names sec k (runI n l infl names sec s k).now).1], (runI n l infl names sec s k).gs ++ [(stpI n l infl names sec k (runI n l infl names sec s k).now).2.1], 0⟩ := by
  rw [runI, if_pos h1, if_pos h2]
theorem runI_bad {k : Nat} (h1 : (runI n l infl names sec s k).e = 0) (h2 : ¬ (stpI n l infl names sec k (runI n l infl names sec s k).now).2.2 = 0) : runI n l infl names sec s (k + 1) = ⟨(runI n l infl names sec s k).now, [], [], (stpI n l infl names sec k (runI n l infl names sec s k).now).2.2⟩ := by
  rw [runI, if_pos h1, if_neg h2]
theorem runI_err {k : Nat} (h1 : ¬ (runI n l infl names sec s k).e = 0) : runI n l infl names sec s (k + 1) = ⟨(runI n l infl names sec s k).now, [], [], (runI n l infl names sec s k).e⟩ := by
  rw [runI, if_neg h1]
theorem runI_stay {k : Nat} (h : ¬ (runI n l infl names sec s k).e = 0) : ∀ j, (runI n l infl names sec s (k + j)).e = (runI n l infl names sec s k).e
  | 0 => rfl
  | j + 1 => by
    have ih := runI_stay h j;rw [<- Nat.add_assoc, runI_err (by rw [ih]; exact h), ih]
theorem runI_down {k j : Nat} (h : (runI n l infl names sec s (k + j)).e = 0) : (runI n l infl names sec s k).e = 0 := by
  by_cases h1 : (runI n l infl names sec s k).e = 0
  · exact h1
  · rw [runI_stay h1 j] at h; exact absurd h h1
theorem runI_len : ∀ {k : Nat}, (runI n l infl names sec s k).e = 0 -> (runI n l infl names sec s k).ss.length = k /\ (runI n l infl names sec s k).gs.length = k
  | 0, _ => ⟨rfl, rfl⟩
  | k + 1, h => by
    have h1 := runI_down (k := k) (j := 1) h;obtain ⟨a, b⟩ := runI_len h1;by_cases h2 : (stpI n l infl names sec k (runI n l infl names sec s k).now).2.2 = 0
    · rw [runI_good h1 h2];exact ⟨by simp [a], by simp [b]⟩
    · rw [runI_bad h1 h2] at h;exact absurd h h2
theorem runI_nil : ∀ {k : Nat}, ¬ (runI n l infl names sec s k).e = 0 -> (runI n l infl names sec s k).ss = [] /\ (runI n l infl names sec s k).gs = []
  | 0, h => absurd rfl h
  | k + 1, h => by
    by_cases h1 : (runI n l infl names sec s k).e = 0
    · by_cases h2 : (stpI n l infl names sec k (runI n l infl names sec s k).now).2.2 = 0
      · rw [runI_good h1 h2] at h; exact absurd rfl h
      · rw [runI_bad h1 h2]; exact ⟨rfl, rfl⟩
    · rw [runI_err h1]; exact ⟨rfl, rfl⟩
theorem stpI_good (no : netOk n) (co : catOk l) {k : Nat} {t : Sta} (h : (stpI n l infl names sec k t).2.2 = 0) : staB n (stpI n l infl names sec k t).1 = true := by
  unfold stpI at h ⊢;split at h;next hb =>
    rw [if_pos hb];unfold stepR at h ⊢;split at h;next he =>
      rw [if_pos he];obtain ⟨S, hf, hg⟩ := stepE_0 no co he;exact S.fin hf hg
    next he => exact absurd h he
  · cases h
theorem runI_sta (no : netOk n) (co : catOk l) (sb : staB n s = true) : ∀ k, staB n (runI n l infl names sec s k).now = true
  | 0 => sb
  | k + 1 => by
    have ih := runI_sta no co sb k;by_cases h1 : (runI n l infl names sec s k).e = 0
    · by_cases h2 : (stpI n l infl names sec k (runI n l infl names sec s k).now).2.2 = 0
      · rw [runI_good h1 h2]; exact stpI_good no co h2
      · rw [runI_bad h1 h2]; exact ih
    · rw [runI_err h1]; exact ih
end
def cutI (i : Nat) (x : Infl) : Infl := ⟨x.nod, x.vols.drop (min i x.vols.length)⟩
section
variable {n : Net} {l : List Sect} {infl : List Infl} {names : List ByteArray} {sec : Int} {s : Sta}
end
section
variable {n : Net} {l : List Sect} {names : List ByteArray} {sec : Int} {s : Sta}
end
def dryL (n : Net) : List Int := List.replicate n.nodes.length 0
def restB (now : Sta) (r : Sta × Ledg × Int) : Bool := decide (now = r.1) && !(r.2.1.passed.any fun v => !decide (v = 0))
def untilF (n : Net) (l : List Sect) (sec : Int) : Nat -> Nat -> Sta -> Int × Sta × Int
  | 0, _, _ => (0, zeroS, 6)
  | f + 1, k, now => if ¬ (stepR n l now (dryL n) sec).2.2 = 0 then (0, zeroS, (stepR n l now (dryL n) sec).2.2)
      else if restB now (stepR n l now (dryL n) sec) = true then ((k : Int), now, 0)
      else untilF n l sec f (k + 1) (stepR n l now (dryL n) sec).1
def untilR (n : Net) (l : List Sect) (s : Sta) (sec most : Int) : Int × Sta × Int :=
  if (netB n && staB n s && catB l) = false then (0, zeroS, 1)
  else if most < 0 ∨ 10000 < most ∨ sec < 1 ∨ 86400 < sec then (0, zeroS, 2)
  else untilF n l sec (most.toNat + 1) 0 s
section
variable {n : Net} {ss : List Sta} {i : Nat}
end
theorem pvL_p : ∀ l : List PV, pvL (l.map DV.p) = some l
  | [] => rfl
  | x :: l => by rw [List.map_cons, pvL, pvL_p l]; rfl
theorem vkey_s (s t : ByteArray) : vkey (.string s) (.string t) = decide (s = t) := rfl
def setS (l : List ByteArray) : List (Value × DV) := l.map fun s => (.string s, lb true)
def mapS (l : List ByteArray) : PV := .map (l.map fun s => .string s) (l.map fun _ => .lit (.bool true))
def insS (l : List ByteArray) (s : ByteArray) : List ByteArray := if hasB l s = true then l else l ++ [s]
theorem setS_cons (x : ByteArray) (l : List ByteArray) : setS (x :: l) = (.string x, lb true) :: setS l := rfl
theorem hasB_cons (x : ByteArray) (l : List ByteArray) (s : ByteArray) : hasB (x :: l) s = (decide (x = s) || hasB l s) := rfl
theorem setS_find (s : ByteArray) : ∀ l : List ByteArray, mfind (setS l) (.string s) = if hasB l s = true then some (lb true) else none
  | [] => rfl
  | x :: l => by
    rw [setS_cons, mfind, vkey_s, setS_find s l, hasB_cons];by_cases h : s = x
    · subst h;rw [if_pos (decide_eq_true rfl), decide_eq_true rfl, Bool.true_or, if_pos rfl]
    · rw [if_neg (by simpa using h), decide_eq_false (fun e => h e.symm), Bool.false_or]
theorem setS_val (l : List ByteArray) (s : ByteArray) : (mfind (setS l) (.string s)).getD (.p (.lit (.bool false))) = lb (hasB l s) := by
  rw [setS_find];cases hasB l s <;> rfl
theorem setS_has (l : List ByteArray) (s : ByteArray) : (mfind (setS l) (.string s)).isSome = hasB l s := by
  rw [setS_find];cases hasB l s <;> rfl
theorem setS_set (s : ByteArray) : ∀ l : List ByteArray, mset (setS l) (.string s) (.p (.lit (.bool true))) = setS (insS l s)
  | [] => rfl
  | x :: l => by
    have ih := setS_set s l;unfold insS at ih ⊢;rw [setS_cons, mset, vkey_s, hasB_cons];by_cases h : s = x
    · subst h;rw [if_pos (decide_eq_true rfl), decide_eq_true rfl, Bool.true_or, if_pos rfl]; rfl
    · rw [if_neg (by simpa using h), decide_eq_false (fun e => h e.symm), Bool.false_or, ih];cases hasB l s <;> rfl
theorem setS_mem {l : List ByteArray} {e : Value × DV} (h : e ∈ setS l) : ∃ s, e = (.string s, lb true) := by
  obtain ⟨x, _, rfl⟩ := List.mem_map.1 h;exact ⟨_, rfl⟩
theorem setS_uses (U : Nat -> Prop) (l : List ByteArray) : DV.usesL U ((setS l).map (·.2)) = True :=
  propext ⟨fun _ => trivial, fun _ => usesL_iff.2 fun d hd => by
    obtain ⟨e, he, rfl⟩ := List.mem_map.1 hd;obtain ⟨s, rfl⟩ := setS_mem he;trivial⟩
theorem setS_mp (r : Nat -> Nat) (l : List ByteArray) : (setS l).map (fun e => (e.1, e.2.mp r)) = setS l := by
  unfold setS; rw [List.map_map]; exact List.map_congr_left fun z _ => rfl
theorem setS_ren (o n : Nat) (l : List ByteArray) : (setS l).map (fun e => (e.1, e.2.ren o n)) = setS l := by
  unfold setS; rw [List.map_map]; exact List.map_congr_left fun z _ => rfl
theorem setS_frz (o : Nat) (x : FV) (l : List ByteArray) : (setS l).map (fun e => (e.1, e.2.frz o x)) = setS l := by
  unfold setS; rw [List.map_map]; exact List.map_congr_left fun z _ => rfl
theorem setS_len (l : List ByteArray) : (setS l).length = l.length := List.length_map _
theorem setS_ok (l : List ByteArray) : keysOk .str (setS l) = True :=
  propext ⟨fun _ => trivial, fun _ e he => by
    obtain ⟨s, rfl⟩ := setS_mem he;rfl⟩
theorem setS_fv (l : List ByteArray) : HV.fv (.map (setS l)) = some (.mp (l.map fun s => .string s) (l.map fun _ => .lit (.bool true))) := by
  have e1 : (setS l).map (·.2) = (l.map fun _ => PV.lit (.bool true)).map DV.p := by unfold setS; rw [List.map_map, List.map_map]; rfl
  have e2 : (setS l).map (·.1) = l.map fun s => (.string s : Value) := by unfold setS; rw [List.map_map]; rfl
  simp only [HV.fv];rw [e1, e2, pvL_p]; rfl
theorem mapS_eq (l : List ByteArray) : PV.map (l.map fun s => .string s) (l.map fun _ => .lit (.bool true)) = mapS l := rfl
theorem mapS_pm (l : List ByteArray) : pmap (mapS l) = some (setS l) := by
  unfold mapS pmap setS;simp only [List.map_map];congr 1
  induction l with
  | nil => rfl
  | cons e l ih => simp only [List.map_cons, List.zip_cons_cons, ih]; rfl
attribute [push_cast] setS_val setS_has setS_set setS_uses setS_mp setS_ren setS_frz setS_len setS_ok mapS_pm
attribute [irreducible] setS mapS
def strE (l : List (ByteArray × Int)) : List (Value × DV) := l.map fun e => (.string e.1, li e.2)
def mapT (l : List (ByteArray × Int)) : PV := .map (l.map fun e => .string e.1) (l.map fun e => .lit (.int .i64 e.2))
def lookS : List (ByteArray × Int) -> ByteArray -> Option Int
  | [], _ => none
  | e :: l, s => if e.1 = s then some e.2 else lookS l s
def valS (l : List (ByteArray × Int)) (s : ByteArray) : Int := (lookS l s).getD 0
def putS : List (ByteArray × Int) -> ByteArray -> Int -> List (ByteArray × Int)
  | [], s, v => [(s, v)]
  | e :: l, s, v => if e.1 = s then (s, v) :: l else e :: putS l s v
theorem strE_cons (e : ByteArray × Int) (l : List (ByteArray × Int)) : strE (e :: l) = (.string e.1, li e.2) :: strE l := rfl
theorem strE_find (s : ByteArray) : ∀ l : List (ByteArray × Int), mfind (strE l) (.string s) = (lookS l s).map li
  | [] => rfl
  | e :: l => by
    rw [strE_cons, mfind, vkey_s, strE_find s l, lookS];by_cases h : s = e.1
    · rw [if_pos (decide_eq_true h), if_pos h.symm]; rfl
    · rw [if_neg (by simpa using h), if_neg (fun c => h c.symm)]
theorem strE_val (l : List (ByteArray × Int)) (s : ByteArray) : (mfind (strE l) (.string s)).getD (.p (.lit (.int .i64 0))) = li (valS l s) := by
  rw [strE_find]; unfold valS;cases lookS l s <;> rfl
theorem strE_set (s : ByteArray) (v : Int) : ∀ l : List (ByteArray × Int), mset (strE l) (.string s) (.p (.lit (.int .i64 v))) = strE (putS l s v)
  | [] => rfl
  | e :: l => by
    rw [strE_cons, mset, vkey_s, putS];by_cases h : s = e.1
    · rw [if_pos (decide_eq_true h), if_pos h.symm]; rfl
    · rw [if_neg (by simpa using h), if_neg (fun c => h c.symm), strE_set s v l]; rfl
theorem strE_mem {l : List (ByteArray × Int)} {e : Value × DV} (h : e ∈ strE l) : ∃ s v, e = (.string s, li v) := by
  obtain ⟨x, _, rfl⟩ := List.mem_map.1 h;exact ⟨_, _, rfl⟩
theorem strE_uses (U : Nat -> Prop) (l : List (ByteArray × Int)) : DV.usesL U ((strE l).map (·.2)) = True :=
  propext ⟨fun _ => trivial, fun _ => usesL_iff.2 fun d hd => by
    obtain ⟨e, he, rfl⟩ := List.mem_map.1 hd;obtain ⟨s, v, rfl⟩ := strE_mem he;trivial⟩
theorem strE_mp (r : Nat -> Nat) (l : List (ByteArray × Int)) : (strE l).map (fun e => (e.1, e.2.mp r)) = strE l := by
  unfold strE; rw [List.map_map]; exact List.map_congr_left fun z _ => rfl
theorem strE_ren (o n : Nat) (l : List (ByteArray × Int)) : (strE l).map (fun e => (e.1, e.2.ren o n)) = strE l := by
  unfold strE; rw [List.map_map]; exact List.map_congr_left fun z _ => rfl
theorem strE_frz (o : Nat) (x : FV) (l : List (ByteArray × Int)) : (strE l).map (fun e => (e.1, e.2.frz o x)) = strE l := by
  unfold strE; rw [List.map_map]; exact List.map_congr_left fun z _ => rfl
theorem strE_len (l : List (ByteArray × Int)) : (strE l).length = l.length := List.length_map _
theorem strE_ok (l : List (ByteArray × Int)) : keysOk .str (strE l) = True :=
  propext ⟨fun _ => trivial, fun _ e he => by
    obtain ⟨s, v, rfl⟩ := strE_mem he;rfl⟩
theorem mapT_pm (l : List (ByteArray × Int)) : pmap (mapT l) = some (strE l) := by
  unfold mapT pmap strE;simp only [List.map_map];congr 1
  induction l with
  | nil => rfl
  | cons e l ih => simp only [List.map_cons, List.zip_cons_cons, ih]; rfl
attribute [push_cast] strE_val strE_set strE_uses strE_mp strE_ren strE_frz strE_len strE_ok mapT_pm
attribute [irreducible] strE mapT
def ixL (l : List ByteArray) (f : Nat -> Int) (i : Nat) : List (ByteArray × Int) := (List.range i).map fun j => (l.getD j default, f j)
theorem look_snoc (s : ByteArray) (e : ByteArray × Int) : ∀ l : List (ByteArray × Int), lookS (l ++ [e]) s = (lookS l s).or (if e.1 = s then some e.2 else none)
  | [] => rfl
  | x :: l => by
    rw [List.cons_append, lookS, lookS, look_snoc s e l];by_cases h : x.1 = s
    · rw [if_pos h, if_pos h]; rfl
    · rw [if_neg h, if_neg h]
theorem put_snoc (s : ByteArray) (v : Int) : ∀ l : List (ByteArray × Int), lookS l s = none -> putS l s v = l ++ [(s, v)]
  | [], _ => rfl
  | x :: l, h => by
    rw [lookS] at h;by_cases e : x.1 = s
    · rw [if_pos e] at h; cases h
    · rw [if_neg e] at h;rw [putS, if_neg e, put_snoc s v l h]; rfl
theorem ixL_suc (l : List ByteArray) (f : Nat -> Int) (i : Nat) : ixL l f (i + 1) = ixL l f i ++ [(l.getD i default, f i)] := by
  unfold ixL; rw [List.range_succ, List.map_append]; rfl
theorem ixL_none {l : List ByteArray} {f : Nat -> Int} {s : ByteArray} : ∀ i, (∀ j, j < i -> l.getD j default ≠ s) -> lookS (ixL l f i) s = none
  | 0, _ => rfl
  | i + 1, h => by
    rw [ixL_suc, look_snoc, ixL_none i fun j hj => h j (by omega), if_neg (h i (by omega))]; rfl
theorem ixL_some {l : List ByteArray} {f : Nat -> Int} {q : Nat} : ∀ i, q < i -> (∀ j, j < i -> l.getD j default = l.getD q default -> j = q) -> lookS (ixL l f i) (l.getD q default) = some (f q)
  | 0, h, _ => by omega
  | i + 1, h, hu => by
    rw [ixL_suc, look_snoc];by_cases e : q = i
    · subst e;rw [ixL_none q fun j hj c => by have := hu j (by omega) c; omega, if_pos rfl]; rfl
    · rw [ixL_some i (by omega) fun j hj => hu j (by omega)]; rfl
theorem ixL_put {l : List ByteArray} {f : Nat -> Int} {i : Nat} (h : ∀ j, j < i -> l.getD j default ≠ l.getD i default) : putS (ixL l f i) (l.getD i default) (f i) = ixL l f (i + 1) := by
  rw [put_snoc _ _ _ (ixL_none i h), ixL_suc]
class ValAt (l : List (ByteArray × Int)) (s : ByteArray) (v : outParam Int) : Prop where
  h : valS l s = v
theorem valS_at {l : List (ByteArray × Int)} {s : ByteArray} {v : Int} [h : ValAt l s v] : valS l s = v := h.h
theorem hasB_f (l : List ByteArray) (s : ByteArray) [h : Nonempty (hasB l s = false)] : hasB l s = false := h.elim id
theorem hasB_t (l : List ByteArray) (s : ByteArray) [h : Nonempty (hasB l s = true)] : hasB l s = true := h.elim id
attribute [push_cast] valS_at hasB_f hasB_t
set_option maxHeartbeats 1000000 in
theorem idxInfl_f (g : FuncId) (p : Infl -> Bool) (l : List (Infl)) (m : Nat) (hl : l.length <= 281474976710656) (hg : ∀ x, x ∈ l -> ∀ m, DCalls Tryz.prog g [inflD x] (hget []) m (lb (p x)) (hget [])) :
    DCalls Tryz.prog 141 [inflL l, .clo g []] (hget []) m (li (idxI p l)) (hget []) := by
  refine pureC (n := 19) (rs := [.tmp 4]) (ts := [3]) Tryz.func141 rfl (by decide) [] (by (exact SD)) ?_;(repeat' (first|refine swp_seq [0,1,4,5,7,8,9,16] ?_|refine st2 ?_|refine fctI fun hf=>?_|(show CondG ..;first|refine cBG (fun hc=>?_) (fun hc=>?_)|refine cUG ?_ ?_)));refine loop_swp [0, 1, 7, 8] [] 0 (fun q A H => ∃ i : Nat, i <= l.length /\ q = l.length - i /\ (l.take i).any p = false /\ A = [(0, inflL l), (1, .clo g []), (7, li l.length), (8, li i)] /\ H = []) (by omega) ?_ ?_ ?_
  · rintro q A H ⟨i, h1, h2, h3, rfl, rfl⟩;exact SDD
  · refine ⟨_, 0, by omega, rfl, rfl, ?_, ?_⟩
    · exact DVR
    · exact DVR
  · rintro q A H ⟨i, h1, h2, h3, rfl, rfl⟩;(repeat' (first|refine swp_seq [0,1,4,5,7,8,9,16] ?_|refine st2 ?_|(show CallQ ..;first|refine cQ (fun hcc=>(hg _ (getD_mem SC) _)) ?_|(refine lP ?_;refine lQ (fun hcc m=>(hg _ (getD_mem SC) _)) ?_))|refine fctI fun hf=>?_|(show CondG ..;first|refine cBG (fun hc=>?_) (fun hc=>?_)|refine cUG ?_ ?_)))
    · (refine DVQ ?_);rw [idxI_hit h3 (by omega) (by assumption)]
    · (refine lN [] ?_);exact ⟨_, by omega, i + 1, by omega, rfl, any_step h3 (by omega) (by assumption), rfl, rfl⟩
    · (refine DVQ ?_);rw [List.take_of_length_le (by omega)] at h3;rw [idxI_none h3]
theorem conInfl_f (g : FuncId) (p : Infl -> Bool) (l : List (Infl)) (m : Nat) (hl : l.length <= 281474976710656) (hg : ∀ x, x ∈ l -> ∀ m, DCalls Tryz.prog g [inflD x] (hget []) m (lb (p x)) (hget [])) :
    DCalls Tryz.prog 88 [inflL l, .clo g []] (hget []) m (lb (l.any p)) (hget []) := by
  refine pureC (n := 9) (rs := [.tmp 4]) (ts := [4]) Tryz.func88 rfl (by decide) [] (by (exact SD)) ?_;(repeat' (first|refine swp_seq [0,1,4] ?_|refine st2 ?_|(show CallQ ..;first|refine cQ (fun hcc=>(idxInfl_f g p l _ hl hg)) ?_|(refine lP ?_;refine lQ (fun hcc m=>(idxInfl_f g p l _ hl hg)) ?_))|refine fctI fun hf=>?_|(show CondG ..;first|refine cBG (fun hc=>?_) (fun hc=>?_)|refine cUG ?_ ?_)));(refine DVQ ?_);rw [idxI_any]
set_option maxHeartbeats 1000000 in
theorem idxInflC_f (g : FuncId) (t : TypeId) (cs : List PV) (p : Infl -> Bool) (l : List (Infl)) (hl : l.length <= 281474976710656) (hg : ∀ x, x ∈ l -> ∀ m, DCalls Tryz.prog g [inflD x, .ptr 0 0] (hget [(0, .blk t (cs.map .p))]) m (lb (p x)) (hget [(0, .blk t (cs.map .p))])) :
    DCalls Tryz.prog 141 [inflL l, .clo g [.ptr 0 0]] (hget [(0, .blk t (cs.map .p))]) 1 (li (idxI p l)) (hget [(0, .blk t (cs.map .p))]) := by
  refine contract (n := 19) (rs := [.tmp 4]) (ts := [3]) Tryz.func141 rfl (by decide) 1 1 [] [] [] (li (idxI p l)) [(0, .blk t (cs.map .p))] (by (exact SD)) (by (exact SD)) ?_;(repeat' (first|refine swp_seq [0,1,4,5,7,8,9,16] ?_|refine st2 ?_|refine fctI fun hf=>?_|(show CondG ..;first|refine cBG (fun hc=>?_) (fun hc=>?_)|refine cUG ?_ ?_)));refine loop_swp [0, 1, 7, 8] [0] 1 (fun q A H => ∃ i : Nat, i <= l.length /\ q = l.length - i /\ (l.take i).any p = false /\ A = [(0, inflL l), (1, .clo g [.ptr 0 0]), (7, li l.length), (8, li i)] /\ H = [(0, .blk t (cs.map .p))]) (by omega) ?_ ?_ ?_
  · rintro q A H ⟨i, h1, h2, h3, rfl, rfl⟩;exact SDD
  · refine ⟨_, 0, by omega, rfl, rfl, ?_, ?_⟩
    · exact DVR
    · exact DVR
  · rintro q A H ⟨i, h1, h2, h3, rfl, rfl⟩;(repeat' (first|refine swp_seq [0,1,4,5,7,8,9,16] ?_|refine st2 ?_|(show CallQ ..;first|refine cQ (fun hcc=>(hg _ (getD_mem SC) _)) ?_|(refine lP ?_;refine lQ (fun hcc m=>(hg _ (getD_mem SC) _)) ?_))|refine fctI fun hf=>?_|(show CondG ..;first|refine cBG (fun hc=>?_) (fun hc=>?_)|refine cUG ?_ ?_)))
    · (refine DVQ ?_);rw [idxI_hit h3 (by omega) (by assumption)]
    · (refine lN [0] ?_);exact ⟨_, by omega, i + 1, by omega, rfl, any_step h3 (by omega) (by assumption), rfl, rfl⟩
    · (refine DVQ ?_);rw [List.take_of_length_le (by omega)] at h3;rw [idxI_none h3]
theorem conInflC_f (g : FuncId) (t : TypeId) (cs : List PV) (p : Infl -> Bool) (l : List Infl) (hl : l.length <= 281474976710656) (hg : ∀ x, x ∈ l -> ∀ m, DCalls Tryz.prog g [inflD x, .ptr 0 0] (hget [(0, .blk t (cs.map .p))]) m (lb (p x)) (hget [(0, .blk t (cs.map .p))])) :
    DCalls Tryz.prog 88 [inflL l, .clo g [.ptr 0 0]] (hget [(0, .blk t (cs.map .p))]) 1 (lb (l.any p)) (hget [(0, .blk t (cs.map .p))]) := by
  have ci := idxInflC_f g t cs p l hl hg;refine contract (n := 9) (rs := [.tmp 4]) (ts := [4]) Tryz.func88 rfl (by decide) 1 1 [] [] [] (lb (l.any p)) [(0, .blk t (cs.map .p))] (by (exact SD)) (by (exact SD)) ?_;(repeat' (first|refine swp_seq [0,1,4] ?_|refine st2 ?_|refine fctI fun hf=>?_|(show CondG ..;first|refine cBG (fun hc=>?_) (fun hc=>?_)|refine cUG ?_ ?_)));(refine cQT [0] (fun hcc => ci) ?_);(repeat' (first|refine swp_seq [0,1,4] ?_|refine st2 ?_|refine fctI fun hf=>?_|(show CondG ..;first|refine cBG (fun hc=>?_) (fun hc=>?_)|refine cUG ?_ ?_)));(refine DVQ ?_);rw [idxI_any]
theorem sright1_f (v : Int) (m : Nat) : DCalls Tryz.prog 179 [li v] (hget []) m (lb (!btwB v 0 1125899906842624)) (hget []) := by
  refine pureC (n := 9) (rs := [.tmp 2]) (ts := [4]) Tryz.func179 rfl (by decide) [] (by (exact SD)) ?_;(repeat' (first|refine swp_seq [0,2] ?_|refine st2 ?_|refine fctI fun hf=>?_|(show CondG ..;first|refine cBG (fun hc=>?_) (fun hc=>?_)|refine cUG ?_ ?_)));(refine DVQ ?_);refine lbC ?_;unfold btwB; grind
theorem not_all {α : Type} (p : α -> Bool) (l : List α) : (!l.any fun x => !p x) = l.all p := by
  induction l with
  | nil => rfl
  | cons x l ih => rw [List.any_cons, List.all_cons, <- ih]; cases p x <;> simp
theorem sright_f (x : Infl) (m : Nat) (hx : inflOk x) : DCalls Tryz.prog 143 [inflD x] (hget []) m (lb (rightI x)) (hget []) := by
  obtain ⟨h1, h2, _⟩ := hx;have c1 := fun m => name_f x.nod m h1
  have c2 := fun m => conInt_f 179 (fun v => !btwB v 0 1125899906842624) x.vols m h2 (fun v _ m => sright1_f v m)
  have e := not_all (fun v => btwB v 0 1125899906842624) x.vols;unfold rightI;rw [<- e];generalize (x.vols.any fun v => !btwB v 0 1125899906842624) = A at *
  generalize nameB x.nod = B at *
  refine pureC (n := 18) (rs := [.tmp 2]) (ts := [4]) Tryz.func143 rfl (by decide) [] (by (exact SD)) ?_;(repeat' (first|refine swp_seq [0,1,2] ?_|refine st2 ?_|(show CallQ ..;first|refine cQ (fun hcc=>(by first | exact c1 _ | exact c2 _)) ?_|(refine lP ?_;refine lQ (fun hcc m=>(by first | exact c1 _ | exact c2 _)) ?_))|refine fctI fun hf=>?_|(show CondG ..;first|refine cBG (fun hc=>?_) (fun hc=>?_)|refine cUG ?_ ?_)));(refine DVQ ?_);refine lbC ?_;grind
theorem given1_f (x : Infl) (m : Nat) (hx : inflOk x) : DCalls Tryz.prog 142 [inflD x] (hget []) m (lb (!rightI x)) (hget []) := by
  refine pureC (n := 6) (rs := [.tmp 2]) (ts := [4]) Tryz.func142 rfl (by decide) [] (by (exact SD)) ?_;(repeat' (first|refine swp_seq [0,1,2] ?_|refine st2 ?_|(show CallQ ..;first|refine cQ (fun hcc=>(by first | exact sright_f _ _ hx)) ?_|(refine lP ?_;refine lQ (fun hcc m=>(by first | exact sright_f _ _ hx)) ?_))|refine fctI fun hf=>?_|(show CondG ..;first|refine cBG (fun hc=>?_) (fun hc=>?_)|refine cUG ?_ ?_)));exact DVR
theorem given2_f (x : Infl) (l : List ByteArray) (m : Nat) : DCalls Tryz.prog 144 [inflD x, .ptr 0 0] (hget [(0, .blk 178 ([mapS l].map .p))]) m (lb (!hasB l x.nod)) (hget [(0, .blk 178 ([mapS l].map .p))]) := by
  refine contract (n := 9) (rs := [.tmp 3]) (ts := [4]) Tryz.func144 rfl (by decide) 1 1 [] [] [] (lb (!hasB l x.nod)) [(0, .blk 178 [.p (mapS l)])] (by (exact SD)) (by (exact SD)) ?_;(repeat' (first|refine swp_seq [0,1,2,3] ?_|refine st2 ?_|refine fctI fun hf=>?_|(show CondG ..;first|refine cBG (fun hc=>?_) (fun hc=>?_)|refine cUG ?_ ?_)));exact DVR
set_option maxRecDepth 20000 in
set_option maxHeartbeats 8000000 in
theorem given_f (infl : List Infl) (names : List ByteArray) (m : Nat) (hi : infl.length <= 281474976710656 /\ ∀ x, x ∈ infl -> inflOk x) (hn : names.length <= 281474976710656) : DCalls Tryz.prog 91 [inflL infl, strs names] (hget []) m (li (givenN infl names)) (hget []) := by
  obtain ⟨hi1, hi2⟩ := hi;by_cases h1 : 1000 < infl.length
  · rw [show givenN infl names = 4 from if_pos (.inl h1)];have h3 : (1000 : Int) < (infl.length : Int) := by omega
    (have:=NeI h3);refine pureC (n := 34) (rs := [.tmp 4]) (ts := [37]) Tryz.func91 rfl (by decide) [] (by (exact SD)) ?_;(repeat' (first|refine swp_seq [0,1,4,5,7,15,17,19,20,21,22,27,33] ?_|refine st2 ?_|refine fctI fun hf=>?_|(show CondG ..;first|refine cBG (fun hc=>?_) (fun hc=>?_)|refine cUG ?_ ?_)));exact DVR
  by_cases h2 : 1000 < names.length
  · rw [show givenN infl names = 4 from if_pos (.inr h2)];have h3 : ¬ (1000 : Int) < (infl.length : Int) := by omega
    have h4 : (1000 : Int) < (names.length : Int) := by omega
    (have:=NeI h3);(have:=NeI h4);refine pureC (n := 34) (rs := [.tmp 4]) (ts := [37]) Tryz.func91 rfl (by decide) [] (by (exact SD)) ?_;(repeat' (first|refine swp_seq [0,1,4,5,7,15,17,19,20,21,22,27,33] ?_|refine st2 ?_|refine fctI fun hf=>?_|(show CondG ..;first|refine cBG (fun hc=>?_) (fun hc=>?_)|refine cUG ?_ ?_)));exact DVR
  have h3 : ¬ (1000 : Int) < (infl.length : Int) := by omega
  have h4 : ¬ (1000 : Int) < (names.length : Int) := by omega
  have c1 := fun m => conInfl_f 142 (fun x => !rightI x) infl m hi1 (fun x hx m => given1_f x m (hi2 x hx))
  (have:=NeI h3);(have:=NeI h4);have e0 : givenN infl names = if (infl.any fun x => !rightI x) = true then 1 else if dupB names = true then 10 else if (infl.any fun x => !hasB names x.nod) = true then 9 else 0 := if_neg (by omega)
  rw [e0];cases hr : (infl.any fun x => !rightI x) <;> simp only [hr] at c1
  case true =>
    rw [if_pos rfl];refine pureC (n := 34) (rs := [.tmp 4]) (ts := [37]) Tryz.func91 rfl (by decide) [] (by (exact SD)) ?_;(repeat' (first|refine swp_seq [0,1,4,5,7,15,17,19,20,21,22,27,33] ?_|refine st2 ?_|(show CallQ ..;first|refine cQ (fun hcc=>(by first | exact c1 _)) ?_|(refine lP ?_;refine lQ (fun hcc m=>(by first | exact c1 _)) ?_))|refine fctI fun hf=>?_|(show CondG ..;first|refine cBG (fun hc=>?_) (fun hc=>?_)|refine cUG ?_ ?_)));exact DVR
  rw [if_neg (by decide)];refine pureC (n := 34) (rs := [.tmp 4]) (ts := [37]) Tryz.func91 rfl (by decide) [] (by (exact SD)) ?_;(repeat' (first|refine swp_seq [0,1,4,5,7,15,17,19,20,21,22,27,33] ?_|refine st2 ?_|(show CallQ ..;first|refine cQ (fun hcc=>(by first | exact c1 _)) ?_|(refine lP ?_;refine lQ (fun hcc m=>(by first | exact c1 _)) ?_))|refine fctI fun hf=>?_|(show CondG ..;first|refine cBG (fun hc=>?_) (fun hc=>?_)|refine cUG ?_ ?_)));refine loop_swp [0, 5, 19, 20, 21] [88, 96] 136 (fun q A H => ∃ i : Nat, i <= names.length /\ q = names.length - i /\ (∀ j, j < i -> hasB (names.take j) (names.getD j default) = false) /\ A = [(0, inflL infl), (5, .ptr 96 0), (19, strs names), (20, li names.length), (21, li i)] /\ H = [(88, .map (setS (names.take i))), (96, .blk 178 [.mref 88])]) (by omega) ?_ ?_ ?_
  · rintro q A H ⟨i, g1, g2, g3, rfl, rfl⟩;exact SDD
  · refine ⟨_, 0, by omega, rfl, by omega, ?_, ?_⟩
    · exact DVR
    · rw [List.take_zero, show setS [] = [] from by unfold setS; rfl];exact DVR
  rintro q A H ⟨i, g1, g2, g3, rfl, rfl⟩;by_cases hi : i < names.length
  · have hi3 : (i : Int) < (names.length : Int) := by omega
    have hins : hasB (names.take i) (names.getD i default) = false -> insS (names.take i) (names.getD i default) = names.take (i + 1) := fun h => by
      unfold insS;rw [h, if_neg (by decide), List.take_succ_eq_append_getElem hi, List.getD_eq_getElem?_getD, List.getElem?_eq_getElem hi]; rfl
    (have:=NeI hi);(have:=NeI hi3);cases hb : hasB (names.take i) (names.getD i default)
    · have hins := hins hb;(have:=NeI hb);generalize hX : names.take i = X at *
      (repeat' (first|refine swp_seq [0,1,4,5,7,15,17,19,20,21,22,27,33] ?_|refine st2 ?_|refine fctI fun hf=>?_|(show CondG ..;first|refine cBG (fun hc=>?_) (fun hc=>?_)|refine cUG ?_ ?_)));rw [hins];(refine lN [88, 96] ?_);refine ⟨_, by omega, i + 1, by omega, rfl, fun j hj => ?_, rfl, rfl⟩;by_cases e : j = i
      · subst e; rw [hX]; exact hb
      · exact g3 j (by omega)
    · have hd : dupB names = true := List.any_eq_true.2 ⟨i, List.mem_range.2 hi, hb⟩;rw [hd, if_pos rfl];(have:=NeI hb);generalize names.take i = X at *
      (repeat' (first|refine swp_seq [0,1,4,5,7,15,17,19,20,21,22,27,33] ?_|refine st2 ?_|refine fctI fun hf=>?_|(show CondG ..;first|refine cBG (fun hc=>?_) (fun hc=>?_)|refine cUG ?_ ?_)));exact DVR
  obtain rfl : i = names.length := by omega
  have hi3 : ¬ ((names.length : Int) < (names.length : Int)) := by omega
  have hd : dupB names = false := by
    unfold dupB;rw [List.any_eq_false];intro j hj;rw [g3 j (List.mem_range.1 hj)]; decide
  rw [hd, if_neg (by decide)];(have:=NeI hi3);rw [List.take_length];have c2 := conInflC_f 144 178 [mapS names] (fun x => !hasB names x.nod) infl hi1 (fun x _ m => given2_f x names m);(repeat' (first|(show SWp _ _ _ (.seq (.region 13 _ _) _) _ _ _ _;refine (stop_in ?_))|refine swp_seq [0,1,4,5,7,15,17,19,20,21,22,27,33] ?_|refine st2 ?_|(show CallQ ..;first|refine cQ (fun hcc=>(by fail)) ?_|(refine lP ?_;refine lQ (fun hcc m=>(by fail)) ?_))|refine fctI fun hf=>?_|(show CondG ..;first|refine cBG (fun hc=>?_) (fun hc=>?_)|refine cUG ?_ ?_)));refine stop_out ?_;refine sF 88 (v := .map (setS names)) (x := .mp (names.map fun s => .string s) (names.map fun _ => .lit (.bool true))) ?_ (hx := setS_fv names);rw [mapS_eq];cases hk : (infl.any fun x => !hasB names x.nod) <;> simp only [hk] at c2
  · rw [if_neg (by decide)];(repeat' (first|refine swp_seq [0,1,4,5,7,15,17,19,20,21,22,27,33] ?_|refine st2 ?_|refine fctI fun hf=>?_|(show CondG ..;first|refine cBG (fun hc=>?_) (fun hc=>?_)|refine cUG ?_ ?_)));(refine cQT [96] (fun hcc => c2) ?_);(repeat' (first|refine swp_seq [0,1,4,5,7,15,17,19,20,21,22,27,33] ?_|refine st2 ?_|refine fctI fun hf=>?_|(show CondG ..;first|refine cBG (fun hc=>?_) (fun hc=>?_)|refine cUG ?_ ?_)));exact DVR
  · rw [if_pos rfl];(repeat' (first|refine swp_seq [0,1,4,5,7,15,17,19,20,21,22,27,33] ?_|refine st2 ?_|refine fctI fun hf=>?_|(show CondG ..;first|refine cBG (fun hc=>?_) (fun hc=>?_)|refine cUG ?_ ?_)));(refine cQT [96] (fun hcc => c2) ?_);(repeat' (first|refine swp_seq [0,1,4,5,7,15,17,19,20,21,22,27,33] ?_|refine st2 ?_|refine fctI fun hf=>?_|(show CondG ..;first|refine cBG (fun hc=>?_) (fun hc=>?_)|refine cUG ?_ ?_)));exact DVR
theorem hasB_ix {l : List ByteArray} {s : ByteArray} (h : hasB l s = true) : ∃ q, q < l.length /\ l.getD q default = s := by
  obtain ⟨q, hq, e⟩ := List.mem_iff_getElem.1 (hasB_mem.1 h);exact ⟨q, hq, by rw [List.getD_eq_getElem?_getD, List.getElem?_eq_getElem hq, <- e]; rfl⟩
theorem ix_val {l : List ByteArray} (hd : dupB l = false) {q : Nat} (hq : q < l.length) (f : Nat -> Int) : valS (ixL l f l.length) (l.getD q default) = f q := by
  unfold valS;rw [ixL_some l.length hq fun j hj e => dup_uniq hd hj hq e]; rfl
def atR (l : List Infl) (names : List ByteArray) (k : Nat) : List Int × Int := if atB l names k = true then (atL l names k, 0) else ([], 5)
set_option maxRecDepth 20000 in
set_option maxHeartbeats 16000000 in
theorem infAt_f (infl : List Infl) (names : List ByteArray) (k : Nat) (m : Nat) (hi1 : infl.length <= 281474976710656) (hn : names.length <= 1000) (hr : ∀ x, x ∈ infl -> rightI x = true) (hd : dupB names = false) (hk : ∀ x, x ∈ infl -> hasB names x.nod = true) (hkm : k <= 10000) :
    DCalls Tryz.prog 92 [inflL infl, strs names, li k] (hget []) m (.tup [ints (atR infl names k).1, li (atR infl names k).2]) (hget []) := by
  refine pureC (n := 63) (rs := [.tmp 6, .tmp 7]) (ts := [27, 37]) Tryz.func92 rfl (by decide) [80] (by (exact SD)) ?_;(repeat' (first|refine swp_seq [0,1,2,6,7,8,9,10,11,13,14,16,17,18,19,30,31,32,33,40,60] ?_|refine st2 ?_|refine fctI fun hf=>?_|(show CondG ..;first|refine cBG (fun hc=>?_) (fun hc=>?_)|refine cUG ?_ ?_)));refine loop_swp [0, 1, 2, 8, 16, 17, 18] [16] 56 (fun q A H => ∃ i : Nat, i <= names.length /\ q = names.length - i /\ A = [(0, inflL infl), (1, strs names), (2, li k), (8, .mref 16), (16, strs names), (17, li names.length), (18, li i)] /\ H = [(16, .map (strE (ixL names (fun j => (j : Int)) i)))]) (by omega) ?_ ?_ ?_
  · rintro q A H ⟨i, g1, g2, rfl, rfl⟩;exact SDD
  · refine ⟨_, 0, by omega, rfl, ?_, ?_⟩
    · exact DVR
    · rw [show strE (ixL names (fun j => (j : Int)) 0) = [] from by unfold strE; rfl];exact DVR
  rintro q A H ⟨i, g1, g2, rfl, rfl⟩;by_cases hi : i < names.length
  · have hi3 : (i : Int) < (names.length : Int) := by omega
    have hput := ixL_put (l := names) (f := fun j => (j : Int)) (i := i) fun j hj e => by
      have := dup_uniq hd (show j < names.length by omega) hi e;omega
    have hput : putS (ixL names (fun j => (j : Int)) i) (names.getD i default) (i : Int) = ixL names (fun j => (j : Int)) (i + 1) := hput;generalize ixL names (fun j => (j : Int)) i = X at *
    (have:=NeI hi);(have:=NeI hi3);(repeat' (first|refine swp_seq [0,1,2,6,7,8,9,10,11,13,14,16,17,18,19,30,31,32,33,40,60] ?_|refine st2 ?_|refine fctI fun hf=>?_|(show CondG ..;first|refine cBG (fun hc=>?_) (fun hc=>?_)|refine cUG ?_ ?_)));rw [hput];(refine lN [16] ?_);exact ⟨_, by omega, i + 1, by omega, rfl, rfl, rfl⟩
  obtain rfl : i = names.length := by omega
  have hi3 : ¬ ((names.length : Int) < (names.length : Int)) := by omega
  (have:=NeI hi3);have hval := fun q (hq : q < names.length) => ix_val hd hq (fun j => (j : Int))
  generalize ixL names (fun j => (j : Int)) names.length = IX at *
  (repeat' (first|refine swp_seq [0,1,2,6,7,8,9,10,11,13,14,16,17,18,19,30,31,32,33,40,60] ?_|refine st2 ?_|refine fctI fun hf=>?_|(show CondG ..;first|refine cBG (fun hc=>?_) (fun hc=>?_)|refine cUG ?_ ?_)));refine loop_swp [0, 2, 8, 11, 30, 31, 32] [16, 80] 112 (fun q A H => ∃ j : Nat, j <= infl.length /\ q = infl.length - j /\ (∀ q, q < names.length -> sumAt (infl.take j) (names.getD q default) k <= 1125899906842624) /\ A = [(0, inflL infl), (2, li k), (8, .mref 16), (11, .gl 80), (30, inflL infl), (31, li infl.length), (32, li j)] /\ H = [(16, .map (strE IX)), (80, inLt (atL (infl.take j) names k))]) (by omega) ?_ ?_ ?_
  · rintro q A H ⟨j, g1, g2, g3, rfl, rfl⟩;exact SDD
  · refine ⟨_, 0, by omega, rfl, fun q hq => by show (0 : Int) <= _; decide, ?_, ?_⟩
    · exact DVR
    · rw [List.take_zero, atL_0, show inLt (List.replicate names.length 0) = .lst 3 1 (List.replicate names.length [DV.p (.lit (.int .i64 0))]) from by show HV.lst 3 1 (rows inRow _) = _; unfold rows; rw [List.map_replicate]; rfl];exact DVR
  rintro q A H ⟨j, g1, g2, g3, rfl, rfl⟩;by_cases hj : j < infl.length
  · have hj3 : (j : Int) < (infl.length : Int) := by omega
    have hm := getD_mem hj;have hrx := hr _ hm;(have:=NeI hj);(have:=NeI hj3);by_cases hkl : (infl.getD j default).vols.length <= k
    · have hkl3 : ((infl.getD j default).vols.length : Int) <= (k : Int) := by omega
      have hsk := atL_skip (names := names) hj hkl;have hs := fun q => sumAt_snoc infl (names.getD q default) k hj
      have hz : ∀ q, volAt (names.getD q default) k (infl.getD j default) = 0 := fun q => by unfold volAt; rw [if_neg (by omega)]
      (have:=NeI hkl3);rw [hsk];generalize hX : atL (infl.take (j + 1)) names k = X at *
      (repeat' (first|refine swp_seq [0,1,2,6,7,8,9,10,11,13,14,16,17,18,19,30,31,32,33,40,60] ?_|refine st2 ?_|refine fctI fun hf=>?_|(show CondG ..;first|refine cBG (fun hc=>?_) (fun hc=>?_)|refine cUG ?_ ?_)));(refine lN [16, 80] ?_);exact ⟨_, by omega, j + 1, by omega, rfl, fun q hq => by rw [hs, hz]; have := g3 q hq; omega, rfl, by rw [hX]⟩
    · have hkl2 : k < (infl.getD j default).vols.length := by omega
      have hkl3 : ¬ ((infl.getD j default).vols.length : Int) <= (k : Int) := by omega
      have hkl4 : (k : Int) < ((infl.getD j default).vols.length : Int) := by omega
      obtain ⟨p, hp, hpe⟩ := hasB_ix (hk _ hm);have hset := atL_set (k := k) hd hj hp hpe.symm hkl2;have hv : valS IX (infl.getD j default).nod = (p : Int) := by rw [<- hpe]; exact hval p hp
      haveI : ValAt IX (infl.getD j default).nod (p : Int) := ⟨hv⟩;have hvr := rightI_vol hrx hkl2;have hpl := atL_at (infl.take j) names k hp;have hXl := atL_len (infl.take j) names k;have hsn := fun q => sumAt_snoc infl (names.getD q default) k hj
      have hvp : volAt (names.getD p default) k (infl.getD j default) = (infl.getD j default).vols.getD k default := by unfold volAt; rw [if_pos ⟨hpe.symm, hkl2⟩]
      have hvo : ∀ q, q < names.length -> q ≠ p -> volAt (names.getD q default) k (infl.getD j default) = 0 := fun q hq hne => by
        unfold volAt;rw [if_neg fun c => hne (dup_uniq hd hq hp (by rw [hpe]; exact c.1.symm))]
      have hb1 := g3 p hp;have hb0 := sumAt_nn (l := infl.take j) (fun x hx => hr x (List.mem_of_mem_take hx)) (names.getD p default) k;rw [<- hpl] at hb1 hb0;have hbig := fun h => atB_big (k := k) (j := j + 1) hr hp h
      rw [hsn, hvp, <- hpl] at hbig;generalize hX : atL (infl.take j) names k = X at *
      have hpX : p < X.length := by omega
      have hpX3 : (p : Int) < (X.length : Int) := by omega
      (have:=NeI hkl2);(have:=NeI hkl3);(have:=NeI hkl4);(have:=NeI hpX);(have:=NeI hpX3);clear hval;by_cases hb : 1125899906842624 < X.getD p default + (infl.getD j default).vols.getD k default
      · have hB := hbig hb;rw [show atR infl names k = ([], 5) from if_neg (by rw [hB]; decide)];(have:=NeI hb);clear hbig hsn hvo g3 hk hr;(repeat' (first|refine swp_seq [0,1,2,6,7,8,9,10,11,13,14,16,17,18,19,30,31,32,33,40,60] ?_|(show SWp _ _ _ (.region _ _ true) _ _ _ _;refine xG mixed [80] ?_)|refine st2 ?_|refine fctI fun hf=>?_|(show CondG ..;first|refine cBG (fun hc=>?_) (fun hc=>?_)|refine cUG ?_ ?_)));exact DVR
      · (have:=NeI hb);have g4 : ∀ q, q < names.length -> sumAt (infl.take (j + 1)) (names.getD q default) k <= 1125899906842624 := fun q hq => by
          rw [hsn];by_cases e : q = p
          · subst e; rw [hvp, <- hpl]; omega
          · rw [hvo q hq e]; have := g3 q hq; omega
        clear hbig hsn hvo g3 hk hr;(repeat' (first|refine swp_seq [0,1,2,6,7,8,9,10,11,13,14,16,17,18,19,30,31,32,33,40,60] ?_|(show SWp _ _ _ (.region _ _ true) _ _ _ _;refine xG mixed [80] ?_)|refine st2 ?_|refine fctI fun hf=>?_|(show CondG ..;first|refine cBG (fun hc=>?_) (fun hc=>?_)|refine cUG ?_ ?_)));rw [hset];(refine lN [16, 80] ?_);exact ⟨_, by omega, j + 1, by omega, rfl, g4, rfl, rfl⟩
  obtain rfl : j = infl.length := by omega
  have hj3 : ¬ ((infl.length : Int) < (infl.length : Int)) := by omega
  (have:=NeI hj3);rw [List.take_length] at g3;rw [List.take_length, show atR infl names k = (atL infl names k, 0) from if_pos (atB_in g3)];generalize atL infl names k = X at *
  clear hval g3 hk hr;(repeat' (first|refine swp_seq [0,1,2,6,7,8,9,10,11,13,14,16,17,18,19,30,31,32,33,40,60] ?_|refine st2 ?_|refine fctI fun hf=>?_|(show CondG ..;first|refine cBG (fun hc=>?_) (fun hc=>?_)|refine cUG ?_ ?_)));exact DVR
theorem scount_f (k : Int) (m : Nat) : DCalls Tryz.prog 79 [li k] (hget []) m (lb (btwB k 0 10000)) (hget []) := by
  refine pureC (n := 9) (rs := [.tmp 2]) (ts := [4]) Tryz.func79 rfl (by decide) [] (by (exact SD)) ?_;(repeat' (first|refine swp_seq [0,2] ?_|refine st2 ?_|refine fctI fun hf=>?_|(show CondG ..;first|refine cBG (fun hc=>?_) (fun hc=>?_)|refine cUG ?_ ?_)));(refine DVQ ?_);refine lbC ?_;unfold btwB; grind
theorem givenN_0 {infl : List Infl} {names : List ByteArray} (h : givenN infl names = 0) : infl.length <= 1000 /\ names.length <= 1000 /\ (∀ x, x ∈ infl -> rightI x = true) /\ dupB names = false /\ ∀ x, x ∈ infl -> hasB names x.nod = true := by
  unfold givenN at h;split at h
  · cases h
  next h1 =>
  split at h
  · cases h
  next h2 =>
  split at h
  · cases h
  next h3 =>
  split at h
  · cases h
  next h4 =>
  refine ⟨by omega, by omega, fun x hx => ?_, by simpa using h3, fun x hx => ?_⟩
  · cases hr : rightI x
    · exact absurd (List.any_eq_true.2 ⟨x, hx, by rw [hr]; rfl⟩) h2
    · rfl
  · cases hr : hasB names x.nod
    · exact absurd (List.any_eq_true.2 ⟨x, hx, by rw [hr]; rfl⟩) h4
    · rfl
end Go.Proofs.YthacnhidipeckaaGreat
