/-
  Contracts of functions of the program, over the engine.
  No condition.
-/
import Derived.Test.YthacnhidipeckaaGreatCT12T13T14T2I
import Derived.Test.YthacnhidipeckaaGreatCT8T9T9bT9cT9eT10T11
import Derived.Test.YthacnhidipeckaaGreatCN0N1NBNmT1T2T2eT3
import Derived.Test.YthacnhidipeckaaGreatCKSK1K2K3K5K4W0W1W2W3
namespace Go.Proofs.YthacnhidipeckaaGreat
open Go.Eng
set_option linter.all false
attribute [local irreducible] DCallsG SWp Fct CallQ XCallQ LCallQ XLCallQ drun xrun
theorem idx_c0 (a : List PV) (l : List (List PV)) : idx (a :: l) 0 = a := rfl
theorem idx_c1 (a b : List PV) (l : List (List PV)) : idx (a :: b :: l) 1 = b := rfl
theorem idx_c2 (a b c : List PV) (l : List (List PV)) : idx (a :: b :: c :: l) 2 = c := rfl
attribute [push_cast] idx_c0 idx_c1 idx_c2 List.map_cons List.map_nil List.length_cons List.length_nil decide_true decide_false
section
open Go.Eng
def idD : DV -> Bool
  | .gl _ => true
  | .p (.lit _) => true
  | _ => false
def idR : DV -> Bool
  | .tup l => l.all idD
  | d => idD d
theorem idD_rel {ρ : Nat -> Hd} {S S' : Nat -> Prop} {w : World} {d : DV} {v : Value} (h : idD d = true) (hr : Rel ρ S w d v) : Rel ρ S' w d v := by
  unfold idD at h;split at h
  · exact hr
  · exact litD_rel rfl hr
  · cases h
theorem idL_rel {ρ : Nat -> Hd} {S S' : Nat -> Prop} {w : World} : ∀ {l : List DV} {vs : List Value}, l.all idD = true -> RelL ρ S w l vs -> RelL ρ S' w l vs
  | [], [], _, _ => trivial
  | d :: l, v :: vs, h, hr => by
    simp only [List.all_cons, Bool.and_eq_true] at h;exact ⟨idD_rel h.1 hr.1, idL_rel h.2 hr.2⟩
  | [], _ :: _, _, h => h.elim
  | _ :: _, [], _, h => h.elim
theorem idR_rel {ρ : Nat -> Hd} {S S' : Nat -> Prop} {w : World} {d : DV} {v : Value} (h : idR d = true) (hr : Rel ρ S w d v) : Rel ρ S' w d v := by
  unfold idR at h;split at h
  · next l =>
    simp only [Rel] at hr ⊢;obtain ⟨vs, rfl, hr⟩ := hr;exact ⟨vs, rfl, idL_rel h hr⟩
  · exact idD_rel h hr
def litH : HV -> Bool
  | .lst _ _ l => l.flatten.all litD
  | _ => false
theorem litH_rel {ρ : Nat -> Hd} {S S' : Nat -> Prop} {w : World} {i : Nat} {v : HV} (h : litH v = true) (hr : HRel ρ S w i v) : HRel ρ S' w i v := by
  cases v with
  | lst t n l =>
    simp only [HRel] at hr ⊢;obtain ⟨h1, h2, h3, h4, h5⟩ := hr;refine ⟨h1, h2, h3, h4, ?_⟩;rcases h5 with h5 | ⟨b, vs, sp, fz, k1, k2, k3, k4, k5⟩
    · exact .inl h5
    · exact .inr ⟨b, vs, sp, fz, k1, k2, litL_rel h k3, k4, k5⟩
  | _ => cases h
def litHs : LH -> Bool
  | [] => true
  | (_, v) :: H => litH v && litHs H
theorem litHs_get : ∀ {H : LH}, litHs H = true -> ∀ i v, hget H i = some v -> litH v = true
  | [], _, _, _, h => by cases h
  | (j, u) :: H, k, i, v, h => by
    simp only [litHs, Bool.and_eq_true] at k;simp only [hget] at h;split at h
    · cases h; exact k.1
    · exact litHs_get k.2 i v h
theorem lit_frz {o : Nat} {x : FV} {d : DV} (h : litD d = true) : d.frz o x = d := by
  unfold litD at h;split at h
  · rfl
  · cases h
theorem frzL_id {o : Nat} {x : FV} : ∀ {l : List DV}, (∀ d, d ∈ l -> d.frz o x = d) -> DV.frzL o x l = id l
  | [], _ => rfl
  | d :: l, h => by
    have e1 := h d (by simp);have e2 := frzL_id (l := l) fun a ha => h a (by simp [ha])
    show DV.frz o x d :: DV.frzL o x l = d :: l;rw [e1, e2]; rfl
theorem hfrz_lit {o : Nat} {x : FV} : ∀ {H : LH}, litHs H = true -> hget H o = none -> hfrzL o x H = H
  | [], _, _ => rfl
  | (j, u) :: H, k, h => by
    simp only [litHs, Bool.and_eq_true] at k;simp only [hget] at h;split at h
    · cases h
    · next e =>
      simp only [hfrzL];rw [if_neg (fun q => e q.symm), hfrz_lit k.2 h];congr 2
      cases u with
      | lst t n l =>
        simp only [HV.frz];congr 1
        have k1 := k.1;simp only [litH, List.all_eq_true] at k1;refine (List.map_congr_left fun r hr => ?_).trans (List.map_id l);exact frzL_id fun d hd => lit_frz (k1 d (List.mem_flatten.2 ⟨r, hr, hd⟩))
      | _ => exact absurd k.1 (by simp [litH])
theorem DCallsG.lendLit {P : Program} {g : FuncId} {args : List DV} {d : DV} {m o : Nat} {hv : HV} {x : FV} {h0 h2 : LH} (hx : hv.fv = some x) (hl0 : litHs h0 = true) (hl2 : litHs h2 = true) (ho0 : hget h0 o = none) (ho2 : hget h2 o = none) (hd : idR d = true)
    (hc : DCallsG P g [] (DV.frzL o x args) (hget h0) m d (hget h2)) : DCallsG P g [] args (hget ((o, hv) :: h0)) m d (hget ((o, hv) :: h2)) := by
  unfold DCallsG at hc ⊢;refine ⟨hc.1, fun U ρ S w vs H0 hmU hr huU => ?_⟩;have ho : hget ((o, hv) :: h0) o = some hv := by simp [hget]
  have hO := H0.heap o hv ho;have hOu := H0.heapU o hv ho;have hr1 := RelL.frz hx hO args vs hr;have hz := HSat.frz (HSat0.to (C := fun _ => True) (U0 := fun _ => False) H0 (fun _ _ _ => .inl trivial)) ho hx (fun k => k);rw [<- hget_frz, show hfrzL o x ((o, hv) :: h0) = h0 by simp only [hfrzL, if_true]; exact hfrz_lit hl0 ho0] at hz;have hz0 := hz.to0;have hS1 : ∀ b, hblk (ρ o) hv = some b -> Sfrz S (hblk (ρ o) hv) b := fun b e => .inr e
  refine (hc.2 U ρ _ w vs hz0 hmU hr1 (usesL_frz args huU)).mono ?_;rintro e w' ⟨v, ρ', S', rfl, HS, hr', hu'⟩;have up : ∀ i v, hget h0 i = some v -> i ≠ o /\ hget ((o, hv) :: h0) i = some v := fun i v hi => by
    have e : i ≠ o := fun e => by subst e; rw [ho0] at hi; cases hi
    exact ⟨e, by simp only [hget, if_neg e]; exact hi⟩
  have keepS : ∀ b, Sfrz S (hblk (ρ o) hv) b -> w'.heap[b]? = w.heap[b]? := fun b hb =>
    HS.keep b (hz0.sIn b hb) (fun i ⟨_, _, v, k1, k2⟩ => hz0.sep i v b k1 k2 hb) (fun ⟨i, v, k, _⟩ => by cases k)
  have hoo : HRel ρ' S w' o hv := HRel.mono (U := U) (fun i hi => HS.pin i hi) (fun _ k => k) (fun b hb => keepS b (.inl hb)) hOu.1 hOu.2 (fun b hb => keepS b (hS1 b hb)) hO;have get2 : ∀ i v, hget ((o, hv) :: h2) i = some v -> (i = o /\ v = hv) ∨ (i ≠ o /\ hget h2 i = some v) := fun i v hi => by
    simp only [hget] at hi;split at hi
    · next e => exact .inl ⟨e, (Option.some.inj hi).symm⟩
    · next e => exact .inr ⟨e, hi⟩
  have own : ∀ i b, (Base.of (fun i => i ∈ ([] : List Nat)) U ρ (Sfrz S (hblk (ρ o) hv)) w (hget h0)).own0 i b -> (Base.of (fun i => i ∈ ([] : List Nat)) U ρ S w (hget ((o, hv) :: h0))).own0 i b := fun i b ⟨k1, k2, u, k3, k4⟩ =>
    ⟨k1, k2, u, (up i u k3).2, k4⟩
  have fre : ∀ b, (Base.of (fun i => i ∈ ([] : List Nat)) U ρ (Sfrz S (hblk (ρ o) hv)) w (hget h0)).fresh b -> (Base.of (fun i => i ∈ ([] : List Nat)) U ρ S w (hget ((o, hv) :: h0))).fresh b := fun b hb => by
    rcases hb with ⟨i, v, k, _⟩ | k
    · cases k
    · exact .inr k
  have hρo : ρ' o = ρ o := HS.pin o hOu.1;refine ⟨v, ρ', S, rfl, ?_, idR_rel hd hr', hu'⟩;exact {
    heap := fun i v k => by
      rcases get2 i v k with ⟨rfl, rfl⟩ | ⟨_, k⟩
      · exact hoo
      · exact litH_rel (litHs_get hl2 i v k) (HS.heap i v k)
    heapU := fun i v k => by
      rcases get2 i v k with ⟨rfl, rfl⟩ | ⟨_, k⟩
      · exact ⟨.inl hOu.1, HV.uses_mono (fun i k => .inl k) _ hOu.2⟩
      · exact HS.heapU i v k
    disj := fun i j v u b hi hj hbi hbj => by
      rcases get2 i v hi with ⟨rfl, rfl⟩ | ⟨ni, hi2⟩ <;> rcases get2 j u hj with ⟨rfl, rfl⟩ | ⟨nj, hj2⟩
      · rfl
      · rw [hρo] at hbi;exact absurd (HS.sOld b (hS1 b hbi)) (HS.sep j u b hj2 hbj)
      · rw [hρo] at hbj;exact absurd (HS.sOld b (hS1 b hbj)) (HS.sep i v b hi2 hbi)
      · exact HS.disj i j v u b hi2 hj2 hbi hbj
    sep := fun i v b hi hb => by
      rcases get2 i v hi with ⟨rfl, rfl⟩ | ⟨_, hi⟩
      · rw [hρo] at hb;exact H0.sep i _ b ho hb
      · exact fun k => HS.sep i v b hi hb (HS.sOld b (.inl k))
    prov := fun i v b hi hb => by
      rcases get2 i v hi with ⟨rfl, rfl⟩ | ⟨_, hi⟩
      · rw [hρo] at hb;exact .inl ⟨by simp, hOu.1, _, ho, hb⟩
      · rcases HS.prov i v b hi hb with k | k
        · exact .inl (own i b k)
        · exact .inr (fre b k)
    sIn := fun b hb => Nat.lt_of_lt_of_le (H0.sIn b hb) HS.size
    sProv := fun b hb => .inl hb
    sOld := fun b hb => hb
    pin := HS.pin
    ownU := fun i b hb => hb.2.1
    os := HS.os
    tape := HS.tape
    output := HS.output
    size := HS.size
    keep := fun b hb k1 k2 => HS.keep b hb (fun i k => k1 i (own i b k)) (fun ⟨i, v, k, _⟩ => by cases k) }
end
theorem part_hi {t a b p : Nat} (ht : t < 9223372036854775808) (hab : a <= b) (hb : 0 < b) (hp : t * a = p) : p / 18446744073709551616 < b /\ p / b <= t := by
  subst hp;have h1 : t * a <= t * b := Nat.mul_le_mul_left t hab;constructor
  · have h2 : t * b <= 9223372036854775808 * b := Nat.mul_le_mul_right b (by omega);have h3 : t * a / 18446744073709551616 <= 9223372036854775808 * b / 18446744073709551616 := Nat.div_le_div_right (by omega);generalize t * a / 18446744073709551616 = q at *
    omega
  · have h2 : t * a / b <= t * b / b := Nat.div_le_div_right h1;rw [Nat.mul_div_cancel t hb] at h2;exact h2
theorem partG_f (t a b : Nat) (m : Nat) (ht : t < 9223372036854775808) (hab : a <= b) (hb : 0 < b /\ b < 9223372036854775808) :
    DCalls Tryz.prog 123 [li t, li a, li b] (hget []) m (li ((t * a / b : Nat) : Int)) (hget []) := by
  have w1 : IntKind.u64.wrap (t : Int) = (t : Int) := by rw [u64w]; omega
  have w2 : IntKind.u64.wrap (a : Int) = (a : Int) := by rw [u64w]; omega
  have w3 : IntKind.u64.wrap (b : Int) = (b : Int) := by rw [u64w]; omega
  have cM := fun m => mul64_f t a m (by omega) (by omega)
  obtain ⟨p, hp⟩ : ∃ p, t * a = p := ⟨_, rfl⟩;obtain ⟨h1, h2⟩ := part_hi ht hab hb.1 hp;rw [hp] at cM ⊢;have hdm : p / 18446744073709551616 * 18446744073709551616 + p % 18446744073709551616 = p := by rw [Nat.mul_comm]; exact Nat.div_add_mod p _
  have hlt : p % 18446744073709551616 < 18446744073709551616 := Nat.mod_lt _ (by decide);have cD := fun m => div64g_f (p / 18446744073709551616) (p % 18446744073709551616) b m h1 (by omega) hlt
  rw [hdm] at cD;clear hdm hp;generalize p / 18446744073709551616 = hi at *
  generalize p % 18446744073709551616 = lo at *
  generalize p % b = r at *
  generalize p / b = q at *
  have hq : q < 9223372036854775808 := by omega
  refine pureC (n := 29) (rs := [.tmp 6]) (ts := [3]) Tryz.func123 rfl (by decide) [] (by (exact SD)) ?_;(repeat' (first|refine swp_seq [0,1,2,6,7,8,9] ?_|refine st2 ?_|refine fctI fun hf=>?_|(show CondG ..;first|refine cBG (fun hc=>?_) (fun hc=>?_)|refine cUG ?_ ?_)));rw [w1, w2];(repeat' (first|refine swp_seq [0,1,2,6,7,8,9] ?_|refine st2 ?_|(show CallQ ..;first|refine cQ (fun hcc=>(cM _)) ?_|(refine lP ?_;refine lQ (fun hcc m=>(cM _)) ?_))|refine fctI fun hf=>?_|(show CondG ..;first|refine cBG (fun hc=>?_) (fun hc=>?_)|refine cUG ?_ ?_)));rw [w3];(repeat' (first|refine swp_seq [0,1,2,6,7,8,9] ?_|refine st2 ?_|(show CallQ ..;first|refine cQ (fun hcc=>(cD _)) ?_|(refine lP ?_;refine lQ (fun hcc m=>(cD _)) ?_))|refine fctI fun hf=>?_|(show CondG ..;first|refine cBG (fun hc=>?_) (fun hc=>?_)|refine cUG ?_ ?_)));exact DVR
theorem partI_f (h a b : Int) (m : Nat) (hh : 0 <= h /\ h < 9223372036854775808) (ha : 0 <= a /\ a <= b) (hb : 0 < b /\ b < 9223372036854775808) : DCalls Tryz.prog 123 [li h, li a, li b] (hget []) m (li (h * a / b)) (hget []) := by
  obtain ⟨x, rfl⟩ : ∃ x : Nat, h = x := ⟨h.toNat, by omega⟩;obtain ⟨y, rfl⟩ : ∃ y : Nat, a = y := ⟨a.toNat, by omega⟩;obtain ⟨z, rfl⟩ : ∃ z : Nat, b = z := ⟨b.toNat, by omega⟩;have := partG_f x y z m (by omega) (by omega) (by omega);rw [show ((x * y / z : Nat) : Int) = (x : Int) * (y : Int) / (z : Int) by push_cast; rfl] at this;exact this
class GetAt (l : List Int) (j : Nat) (v : outParam Int) : Prop where
  out : l.getD j default = v
theorem get_at {l : List Int} {j : Nat} {v : Int} [h : GetAt l j v] : l.getD j default = v := h.out
attribute [push_cast] get_at
def shareI (P : Nat -> Bool) (h : Int) (w : List Int) (L k : Nat) : Int :=
  if selI P w L <= h then w.getD k default else h * selI P w (k + 1) / selI P w L - h * selI P w k / selI P w L
theorem selI_nn {P : Nat -> Bool} {w : List Int} : ∀ n, (∀ i, i < n -> 0 <= w.getD i default) -> 0 <= selI P w n
  | 0, _ => by simp [selI]
  | n + 1, h => by
    have h1 := selI_nn (P := P) n fun i hi => h i (by omega)
    have h2 := h n (by omega);unfold selI; split <;> omega
theorem selI_mono {P : Nat -> Bool} {w : List Int} {a : Nat} : ∀ n, a <= n -> (∀ i, i < n -> 0 <= w.getD i default) -> selI P w a <= selI P w n
  | 0, h, _ => by rw [Nat.le_zero.1 h]; exact Int.le_refl _
  | n + 1, h, hw => by
    by_cases e : a = n + 1
    · rw [e]; exact Int.le_refl _
    · have h1 := selI_mono (P := P) (a := a) n (by omega) fun i hi => hw i (by omega)
      have h2 := hw n (by omega);rw [show selI P w (n + 1) = if P n then selI P w n + w.getD n default else selI P w n from rfl];split <;> omega
theorem selI_hit {P : Nat -> Bool} {w : List Int} {k : Nat} (h : P k = true) : selI P w (k + 1) = selI P w k + w.getD k default := by
  rw [show selI P w (k + 1) = if P k then selI P w k + w.getD k default else selI P w k from rfl, if_pos h]
theorem selI_miss {P : Nat -> Bool} {w : List Int} {k : Nat} (h : P k = false) : selI P w (k + 1) = selI P w k := by
  rw [show selI P w (k + 1) = if P k then selI P w k + w.getD k default else selI P w k from rfl, if_neg (by rw [h]; decide)]
theorem selI_skip {P : Nat -> Bool} {w : List Int} {a : Nat} : ∀ n, a <= n -> (∀ i, a <= i -> i < n -> P i = false) -> selI P w n = selI P w a
  | 0, h, _ => by rw [Nat.le_zero.1 h]
  | n + 1, h, hP => by
    by_cases e : a = n + 1
    · rw [e]
    · rw [selI_miss (hP n (by omega) (by omega)), selI_skip (a := a) n (by omega) fun i h1 h2 => hP i h1 (by omega)]
section
variable {P : Nat -> Bool} {h : Int} {w : List Int} {L : Nat}
theorem share_in (hw : ∀ i, i < L -> 0 <= w.getD i default) (h0 : 0 <= h) {k : Nat} (hk : k < L) (hp : P k = true) : 0 <= shareI P h w L k /\ shareI P h w L k <= w.getD k default := by
  have hwk := hw k hk;unfold shareI;split
  · exact ⟨hwk, Int.le_refl _⟩
  next hS =>
  have e := selI_hit (w := w) hp;have m1 := selI_mono (P := P) L (a := k + 1) (by omega) hw;have m0 := selI_nn (P := P) (w := w) k fun i hi => hw i (by omega)
  generalize selI P w L = S at *
  generalize selI P w (k + 1) = B at *
  generalize selI P w k = A at *
  generalize w.getD k default = x at *
  have hS0 : 0 < S := by omega
  subst e;rw [Int.mul_add];have hx : 0 <= h * x := Int.mul_nonneg h0 hwk;constructor
  · have := Int.ediv_le_ediv (c := S) hS0 (show h * A <= h * A + h * x by omega);omega
  · have h1 : h * x <= S * x := Int.mul_le_mul_of_nonneg_right (by omega) hwk;have h2 := Int.ediv_le_ediv (c := S) hS0 (show h * A + h * x <= h * A + S * x by omega);rw [Int.add_mul_ediv_left _ _ (by omega)] at h2;omega
theorem share_sum {X : List Int} (hX : ∀ k, k < L -> P k = true -> X.getD k default = shareI P h w L k) : ∀ i, i <= L -> selI P X i = if selI P w L <= h then selI P w i else h * selI P w i / selI P w L
  | 0, _ => by
    show (0 : Int) = if _ then 0 else h * 0 / _
    rw [Int.mul_zero, Int.zero_ediv, ite_self]
  | i + 1, hi => by
    have ih := share_sum hX i (by omega);cases hp : P i
    · rw [selI_miss hp, selI_miss hp, ih]
    · rw [selI_hit hp, ih, hX i (by omega) hp];unfold shareI;split
      · rw [selI_hit hp]
      · omega
theorem share_all {X : List Int} (hX : ∀ k, k < L -> P k = true -> X.getD k default = shareI P h w L k) (hw : ∀ i, i < L -> 0 <= w.getD i default) (h0 : 0 <= h) : selI P X L <= h := by
  rw [share_sum hX L (Nat.le_refl _)];split
  · assumption
  next hS =>
  have hS0 : 0 < selI P w L := by
    have := selI_nn (P := P) (w := w) L hw;omega
  rw [Int.mul_ediv_cancel _ (by omega)];exact Int.le_refl _
end
end Go.Proofs.YthacnhidipeckaaGreat
