/-
  Contracts of functions of the program, over the engine.
  No condition.
-/
import Derived.Test.YtefkhfkapnmikaaGreatCY15
import Derived.Test.YtefkhfkapnmikaaGreatCX0
import Derived.Test.YtefkhfkapnmikaaGreatCX1
namespace Go.Proofs.YtefkhfkapnmikaaGreat
open Go.Eng
set_option linter.all false
attribute [local irreducible] DCallsG SWp Fct CallQ XCallQ LCallQ XLCallQ drun xrun
set_option maxHeartbeats 64000000
set_option maxRecDepth 20000

section
open Go.Eng
theorem swp_nilC {D : Dfr} {P : Program} {N pin nx nx' : Nat} {c : Code} {Q : Exit -> LE -> LH -> Nat -> Prop} {A : LE} {H : LH} (b : Nat) (t te : TypeId) (n : Nat) (cs1 cs2 : List DV) (hn : nx + 8 = nx')
    (h : @SWp D P N pin c Q A ((b, .blk t (cs1 ++ .gl nx :: cs2)) :: (nx, .lst te n []) :: H) nx') : @SWp D P N pin c Q A ((b, .blk t (cs1 ++ .p (.lit (.slice none 0 0)) :: cs2)) :: H) nx := by
  subst hn;unfold SWp at h ⊢;intro hp B hB a w hS;obtain ⟨ρ, S, HS, ES⟩ := hS;have h0 : hget ((b, HV.blk t (cs1 ++ .p (.lit (.slice none 0 0)) :: cs2)) :: H) b = some (.blk t (cs1 ++ .p (.lit (.slice none 0 0)) :: cs2)) := by simp [hget]
  have hbU := (HS.heapU b _ h0).1;have hbn : b ≠ nx := by omega
  obtain ⟨ρ', hρ'⟩ : ∃ ρ' : Nat -> Hd, ρ' = upd ρ nx { a := none, len := 0, cap := 0 } := ⟨_, rfl⟩;have hlt : ∀ i, i < nx -> ρ' i = ρ i := fun i hi => by subst hρ'; exact upd_ne _ _ (by omega)
  have hnx : ρ' nx = { a := none, len := 0, cap := 0 } := by subst hρ'; exact upd_same ..
  have key : ∀ (l : List DV) (vs : List Value), RelL ρ' S w (l ++ .p (.lit (.slice none 0 0)) :: cs2) vs -> RelL ρ' S w (l ++ .gl nx :: cs2) vs := fun l => by
    induction l with
    | nil =>
      intro vs k;cases vs with
      | nil => exact k.elim
      | cons v vs =>
        refine ⟨?_, k.2⟩;have := rel_lit k.1;simp only [Rel];rw [hnx]; exact this
    | cons d l ih =>
      intro vs k;cases vs with
      | nil => exact k.elim
      | cons v vs => exact ⟨k.1, ih vs k.2⟩
  refine h (by omega) B hB a w ⟨ρ', S, ?_, ?_⟩
  · refine HS.seen (fun i hi => hlt i (by have := hB i hi; omega)) fun i v hi => ?_
    simp only [hget] at hi;split at hi
    · next e1 =>
      subst e1;obtain rfl := Option.some.inj hi;have hU := HS.heapU i _ h0;have hO := HRel.mono (U := fun i => i < nx) (fun i hi => hlt i hi) (fun _ k => k) (fun _ _ => rfl) hU.1 hU.2 (fun _ _ => rfl) (HS.heap i _ h0);refine ⟨?_, by omega, ?_, fun c hc => ⟨_, h0, ?_⟩⟩
      · simp only [HRel] at hO ⊢;obtain ⟨bb, vs, fz, k1, k2, k3, k4⟩ := hO;exact ⟨bb, vs, fz, k1, k2, key _ _ k3, k4⟩
      · refine usesL_iff.2 fun d hd => ?_
        have hu := usesL_iff.1 (show DV.usesL _ (cs1 ++ .p (.lit (.slice none 0 0)) :: cs2) from hU.2);rcases List.mem_append.1 hd with hd | hd
        · exact uses_mono (fun i k => by omega) _ (hu d (List.mem_append.2 (.inl hd)))
        · rcases List.mem_cons.1 hd with rfl | hd
          · show nx < nx + 8; omega
          · exact uses_mono (fun i k => by omega) _ (hu d (List.mem_append.2 (.inr (List.mem_cons_of_mem _ hd))))
      · simp only [hblk] at hc ⊢;rw [hlt i hbU] at hc; exact hc
    · next e1 =>
      split at hi
      · next e2 =>
        subst e2;obtain rfl := Option.some.inj hi;refine ⟨?_, by omega, trivial, fun c hc => ?_⟩
        · simp only [HRel];rw [hnx];exact ⟨rfl, by simp [BL], by simp, by simp, .inl rfl⟩
        · simp only [hblk] at hc;rw [hnx] at hc;simp at hc
      · next e2 =>
        have hh : hget ((b, HV.blk t (cs1 ++ .p (.lit (.slice none 0 0)) :: cs2)) :: H) i = some v := by simp only [hget, if_neg e1]; exact hi
        have hU := HS.heapU i v hh;refine ⟨HRel.mono (U := fun i => i < nx) (fun i hi => hlt i hi) (fun _ k => k) (fun _ _ => rfl) hU.1 hU.2 (fun _ _ => rfl) (HS.heap i v hh), by have : i < nx := hU.1; omega, HV.uses_mono (fun i k => by omega) v hU.2, fun c hc => ⟨v, hh, ?_⟩⟩;rw [hlt i hU.1] at hc; exact hc
  · exact ES.mono (fun i hi => hlt i hi) (fun _ k => k) (fun _ _ => rfl) fun i k => by omega
end
theorem rep_in (k : Nat) : List.replicate k [DV.p (.lit (.int .i64 0))] = rows inRow (List.replicate k 0) := by
  unfold rows; rw [List.map_replicate]; rfl
theorem rep_bo (k : Nat) : List.replicate k [DV.p (.lit (.bool false))] = rows boRow (List.replicate k false) := by
  unfold rows; rw [List.map_replicate]; rfl
attribute [push_cast] rep_in rep_bo
theorem idxSta_f (g : FuncId) (p : Sta -> Bool) (l : List (Sta)) (m : Nat) (hl : l.length <= 281474976710656) (hg : ∀ x, x ∈ l -> ∀ m, Pu g [staD x] m (lb (p x))) :
    Pu 83 [staL l, .clo g []] m (li (idxI p l)) := by
  refine pcN 19 [.tmp 4] [3] Tryz.func83 rfl [] ?_;(repeat' first|refine stW [0,1,4,5,7,8,9,16] ?_|refine fctI fun hf=>?_|refine twI (fun hc=>?_) fun hc=>?_);refine loop_swp [0, 1, 7, 8] [] 0 (fun q A H => ∃ i : Nat, i <= l.length /\ q = l.length - i /\ (l.take i).any p = false /\ A = [(0, staL l), (1, .clo g []), (7, li l.length), (8, li i)] /\ H = []) (by omega) ?_ ?_ ?_
  · rintro q A H ⟨i, h1, h2, h3, rfl, rfl⟩;exact SDD
  · refine ⟨_, 0, by omega, rfl, rfl, ?_, ?_⟩
    · exact DVR
    · exact DVR
  · rintro q A H ⟨i, h1, h2, h3, rfl, rfl⟩;(repeat' first|refine stW [0,1,4,5,7,8,9,16] ?_|(show CallQ ..;first|refine cQ (fun hcc=>(hg _ (getD_mem SC) _)) ?_|(refine lP ?_;refine lQ (fun hcc m=>(hg _ (getD_mem SC) _)) ?_))|refine fctI fun hf=>?_|refine twI (fun hc=>?_) fun hc=>?_)
    · (refine DVQ ?_);rw [idxI_hit h3 (by omega) (by assumption)]
    · (refine lN [] ?_);exact ⟨_, by omega, i + 1, by omega, rfl, any_step h3 (by omega) (by assumption), rfl, rfl⟩
    · (refine DVQ ?_);rw [List.take_of_length_le (by omega)] at h3;rw [idxI_none h3]
theorem conSta_f (g : FuncId) (p : Sta -> Bool) (l : List (Sta)) (m : Nat) (hl : l.length <= 281474976710656) (hg : ∀ x, x ∈ l -> ∀ m, Pu g [staD x] m (lb (p x))) :
    Pu 29 [staL l, .clo g []] m (lb (l.any p)) := by
  refine pcN 9 [.tmp 4] [4] Tryz.func29 rfl [] ?_;(repeat' first|refine stW [0,1,4] ?_|(show CallQ ..;first|refine cQ (fun hcc=>(idxSta_f g p l _ hl hg)) ?_|(refine lP ?_;refine lQ (fun hcc m=>(idxSta_f g p l _ hl hg)) ?_))|refine fctI fun hf=>?_|refine twI (fun hc=>?_) fun hc=>?_);(refine DVQ ?_);rw [idxI_any]
theorem idxStaC_f (g : FuncId) (t : TypeId) (cs : List PV) (p : Sta -> Bool) (l : List (Sta)) (hl : l.length <= 281474976710656) (hg : ∀ x, x ∈ l -> ∀ m, DCalls Tryz.prog g [staD x, .ptr 0 0] (hget [(0, .blk t (cs.map .p))]) m (lb (p x)) (hget [(0, .blk t (cs.map .p))])) :
    DCalls Tryz.prog 83 [staL l, .clo g [.ptr 0 0]] (hget [(0, .blk t (cs.map .p))]) 1 (li (idxI p l)) (hget [(0, .blk t (cs.map .p))]) := by
  refine contract (n := 19) (rs := [.tmp 4]) (ts := [3]) Tryz.func83 rfl (by decide) 1 1 [] [] [] (li (idxI p l)) [(0, .blk t (cs.map .p))] (by (exact SD)) (by (exact SD)) ?_;(repeat' first|refine stW [0,1,4,5,7,8,9,16] ?_|refine fctI fun hf=>?_|refine twI (fun hc=>?_) fun hc=>?_);refine loop_swp [0, 1, 7, 8] [0] 1 (fun q A H => ∃ i : Nat, i <= l.length /\ q = l.length - i /\ (l.take i).any p = false /\ A = [(0, staL l), (1, .clo g [.ptr 0 0]), (7, li l.length), (8, li i)] /\ H = [(0, .blk t (cs.map .p))]) (by omega) ?_ ?_ ?_
  · rintro q A H ⟨i, h1, h2, h3, rfl, rfl⟩;exact SDD
  · refine ⟨_, 0, by omega, rfl, rfl, ?_, ?_⟩
    · exact DVR
    · exact DVR
  · rintro q A H ⟨i, h1, h2, h3, rfl, rfl⟩;(repeat' first|refine stW [0,1,4,5,7,8,9,16] ?_|(show CallQ ..;first|refine cQ (fun hcc=>(hg _ (getD_mem SC) _)) ?_|(refine lP ?_;refine lQ (fun hcc m=>(hg _ (getD_mem SC) _)) ?_))|refine fctI fun hf=>?_|refine twI (fun hc=>?_) fun hc=>?_)
    · (refine DVQ ?_);rw [idxI_hit h3 (by omega) (by assumption)]
    · (refine lN [0] ?_);exact ⟨_, by omega, i + 1, by omega, rfl, any_step h3 (by omega) (by assumption), rfl, rfl⟩
    · (refine DVQ ?_);rw [List.take_of_length_le (by omega)] at h3;rw [idxI_none h3]
theorem conStaC_f (g : FuncId) (t : TypeId) (cs : List PV) (p : Sta -> Bool) (l : List Sta) (hl : l.length <= 281474976710656) (hg : ∀ x, x ∈ l -> ∀ m, DCalls Tryz.prog g [staD x, .ptr 0 0] (hget [(0, .blk t (cs.map .p))]) m (lb (p x)) (hget [(0, .blk t (cs.map .p))])) :
    DCalls Tryz.prog 29 [staL l, .clo g [.ptr 0 0]] (hget [(0, .blk t (cs.map .p))]) 1 (lb (l.any p)) (hget [(0, .blk t (cs.map .p))]) := by
  have ci := idxStaC_f g t cs p l hl hg;refine contract (n := 9) (rs := [.tmp 4]) (ts := [4]) Tryz.func29 rfl (by decide) 1 1 [] [] [] (lb (l.any p)) [(0, .blk t (cs.map .p))] (by (exact SD)) (by (exact SD)) ?_;(repeat' first|refine stW [0,1,4] ?_|refine fctI fun hf=>?_|refine twI (fun hc=>?_) fun hc=>?_);(refine cQT [0] (fun hcc => ci) ?_);(repeat' first|refine stW [0,1,4] ?_|refine fctI fun hf=>?_|refine twI (fun hc=>?_) fun hc=>?_);(refine DVQ ?_);rw [idxI_any]
abbrev ilLt (l : List (List Int)) : HV := .lst 28 1 (rows ilRow l)
theorem getD_appL {α : Type} [Inhabited α] {a b : List α} {q : Nat} (h : q < a.length) : (a ++ b).getD q default = a.getD q default := by
  rw [List.getD_eq_getElem?_getD, List.getElem?_append_left h, <- List.getD_eq_getElem?_getD]
theorem getD_appR {α : Type} [Inhabited α] {a b : List α} (q : Nat) : (a ++ b).getD (a.length + q) default = b.getD q default := by
  rw [List.getD_eq_getElem?_getD, List.getElem?_append_right (by omega), show a.length + q - a.length = q by omega, <- List.getD_eq_getElem?_getD]
theorem getD_dropI (v : List Int) (d k : Nat) : (v.drop d).getD k default = v.getD (d + k) default := by
  rw [List.getD_eq_getElem?_getD, List.getElem?_drop, <- List.getD_eq_getElem?_getD]
section
variable {n : Net} {s : List Sect} {l : List Rule} {infl : List Infl} {sec : Int} {x : Sta}
theorem infl_cut_at (i : Nat) {j : Nat} (hj : j < infl.length) : (infl.map (cutI i)).getD j default = cutI i (infl.getD j default) := by
  rw [List.getD_eq_getElem?_getD, List.getElem?_map, List.getElem?_eq_getElem hj, List.getD_eq_getElem?_getD, List.getElem?_eq_getElem hj]; rfl
theorem inK_cut (i k : Nat) : ∀ j, j <= infl.length -> inK n (infl.map (cutI i)) k j = inK n infl (i + k) j
  | 0, _ => rfl
  | j + 1, h => by
    rw [inK, inK, inK_cut i k j (by omega), infl_cut_at i (by omega)];have e1 : (cutI i (infl.getD j default)).nod = (infl.getD j default).nod := rfl;have e2 : (cutI i (infl.getD j default)).vols = (infl.getD j default).vols.drop (min i (infl.getD j default).vols.length) := rfl;rw [e1, e2, List.length_drop];by_cases hc : i + k < (infl.getD j default).vols.length /\ 0 <= nodeIx n.nodes (infl.getD j default).nod
    · rw [if_pos hc, if_pos ⟨by omega, hc.2⟩];congr 1
      rw [getD_dropI, show min i (infl.getD j default).vols.length + k = i + k by omega]
    · rw [if_neg hc, if_neg (fun c => hc ⟨by omega, c.2⟩)]
theorem goC_cut (i j : Nat) (t : Sta) : goC n s l (infl.map (cutI i)) sec j t = goC n s l infl sec (i + j) t := by
  unfold goC;rw [List.length_map, inK_cut i j infl.length (Nat.le_refl _)]
theorem nodsL_cut (i : Nat) : nodsL (infl.map (cutI i)) = nodsL infl := by
  unfold nodsL;rw [List.map_map];exact List.map_congr_left fun z _ => rfl
theorem wrong_cut {i : Nat} (h : wrongC n infl = 0) : wrongC n (infl.map (cutI i)) = 0 := by
  unfold wrongC at h ⊢;rw [nodsL_cut];split at h
  · cases h
  next h1 =>
  split at h
  · cases h
  next h2 =>
  split at h
  · cases h
  next h3 =>
  rw [if_neg, if_neg h2, if_neg]
  · intro c;obtain ⟨y, hy, e⟩ := List.any_eq_true.1 c;obtain ⟨z, hz, rfl⟩ := List.mem_map.1 hy;refine h3 (List.any_eq_true.2 ⟨z, hz, ?_⟩);have e : decide (10000 < (z.vols.drop (min i z.vols.length)).length) = true := e;rw [List.length_drop] at e;have := of_decide_eq_true e;exact decide_eq_true (by omega)
  · intro c;obtain ⟨y, hy, e⟩ := List.any_eq_true.1 c;obtain ⟨z, hz, rfl⟩ := List.mem_map.1 hy;exact h1 (List.any_eq_true.2 ⟨z, hz, e⟩)
structure TwoC (n : Net) (s : List Sect) (l : List Rule) (infl : List Infl) (sec : Int) (k m : Nat) (A B : List Sta × List Ledg × Int) : Prop where
  bad : ¬ B.2.2 = 0 -> A.2.2 = B.2.2 /\ A.1 = [] /\ B.1 = []
  lb : B.2.2 = 0 -> B.1.length = k /\ B.2.1.length = k
  mid : B.2.2 = 0 -> ∀ mid, mid = B.1.getD (k - 1) default -> staB n mid = true /\ ∃ C, runC n s l mid (infl.map (cutI k)) sec (m : Int) = C /\ A.2.2 = C.2.2 /\
    (¬ A.2.2 = 0 -> A.1 = [] /\ C.1 = []) /\ (A.2.2 = 0 -> C.1.length = m /\ C.2.1.length = m /\ A.1 = B.1 ++ C.1 /\ A.2.1 = B.2.1 ++ C.2.1)
theorem runC_of {k : Nat} (hv : (netB n && staB n x && catB s && rulesB l) = true) (hk : k <= 10000) (hw : wrongC n infl = 0) : runC n s l x infl sec (k : Int) = ((runG (goC n s l infl sec) x k).ss, (runG (goC n s l infl sec) x k).gs, (runG (goC n s l infl sec) x k).e) := by
  unfold runC;rw [if_neg (by rw [hv]; decide), if_neg (by omega), if_neg (fun c => c hw), Int.toNat_natCast]
theorem two_runsC (no : netOk n) (co : catOk s) (hv : (netB n && staB n x && catB s && rulesB l) = true) {k m : Nat} (hk : 1 <= k /\ k <= 6) (hm : 1 <= m /\ m <= 6) : TwoC n s l infl sec k m (runC n s l x infl sec ((k + m : Nat) : Int)) (runC n s l x infl sec (k : Int)) := by
  by_cases hw : wrongC n infl = 0
  case neg =>
    have e : ∀ q : Nat, q <= 10000 -> runC n s l x infl sec (q : Int) = ([], [], wrongC n infl) := fun q hq => by
      unfold runC;rw [if_neg (by rw [hv]; decide), if_neg (by omega), if_pos hw]
    rw [e _ (by omega), e _ (by omega)];exact ⟨fun _ => ⟨rfl, rfl, rfl⟩, fun h => absurd h hw, fun h => absurd h hw⟩
  have hA := runC_of (infl := infl) (sec := sec) hv (k := k + m) (by omega) hw;have hB := runC_of (infl := infl) (sec := sec) hv (k := k) (by omega) hw;rw [hA, hB];have hv2 := hv;simp only [Bool.and_eq_true] at hv2;obtain ⟨⟨⟨nb, sb⟩, cb⟩, rb⟩ := hv2;have hinv := runG_inv (F := goC n s l infl sec) (s := x) (Q := fun t => staB n t = true) (fun k t _ h => stepC_sta no co h) sb;refine ⟨fun h => ?_, fun h => ?_, fun h mid hmid => ?_⟩
  · have h2 : ¬ (runG (goC n s l infl sec) x (k + m)).e = 0 := by rw [runG_stay h m]; exact h
    exact ⟨runG_stay h m, (runG_nil h2).1, (runG_nil h).1⟩
  · exact runG_len h
  · have hml : mid = (runG (goC n s l infl sec) x k).now := by
      rw [hmid]; exact runG_last h (by omega)
    have sbm : staB n mid = true := by rw [hml]; exact (hinv k).1
    have hvm : (netB n && staB n mid && catB s && rulesB l) = true := by rw [nb, sbm, cb, rb]; rfl
    have hC := runC_of (infl := infl.map (cutI k)) (sec := sec) hvm (k := m) (by omega) (wrong_cut hw);obtain ⟨p1, p2, p3⟩ := runG_parts (F := goC n s l infl sec) (s := x) (G := goC n s l (infl.map (cutI k)) sec) (i := k) (fun j t => goC_cut k j t) h m;rw [<- hml] at p1 p2 p3;refine ⟨sbm, _, hC, p2.symm, fun h2 => ?_, fun h2 => ?_⟩
    · exact ⟨(runG_nil h2).1, (runG_nil (by rw [p2]; exact h2)).1⟩
    · obtain ⟨p4, p5⟩ := p3 h2;obtain ⟨l1, l2⟩ := runG_len (F := goC n s l (infl.map (cutI k)) sec) (s := mid) (k := m) (by rw [p2]; exact h2);exact ⟨l1, l2, p4, p5⟩
end
def leastI (ss : List Sta) (i : Nat) : Nat -> Int
  | 0 => (ss.getD 0 default).vol.getD i default
  | k + 1 => min (leastI ss i k) ((ss.getD k default).vol.getD i default)
theorem leastI_app {a b : List Sta} {i : Nat} : ∀ k, k <= a.length -> 0 < a.length -> leastI (a ++ b) i k = leastI a i k
  | 0, _, h => by
    show ((a ++ b).getD 0 default).vol.getD i default = (a.getD 0 default).vol.getD i default;rw [getD_appL h]
  | k + 1, hk, h => by
    show min (leastI (a ++ b) i k) _ = min (leastI a i k) _;rw [leastI_app k (by omega) h, getD_appL (show k < a.length by omega)]
theorem leastI_both {a b : List Sta} {i : Nat} (ha : 0 < a.length) (hb : 0 < b.length) : ∀ k, k < b.length -> leastI (a ++ b) i (a.length + (k + 1)) = min (leastI a i a.length) (leastI b i (k + 1))
  | 0, _ => by
    show min (leastI (a ++ b) i a.length) _ = min _ (min ((b.getD 0 default).vol.getD i default) ((b.getD 0 default).vol.getD i default));rw [leastI_app a.length (Nat.le_refl _) ha, show (a ++ b).getD a.length default = b.getD 0 default from getD_appR 0];omega
  | k + 1, hk => by
    have ih := leastI_both (a := a) (b := b) (i := i) ha hb k (by omega);show min (leastI (a ++ b) i (a.length + (k + 1))) (((a ++ b).getD (a.length + (k + 1)) default).vol.getD i default) = min _ (min (leastI b i (k + 1)) ((b.getD (k + 1) default).vol.getD i default));rw [ih, getD_appR];omega
def swI (a b : Sta) : Nat -> Int
  | 0 => 0
  | k + 1 => swI a b k + if a.set.getD k default = b.set.getD k default /\ a.on.getD k default = b.on.getD k default then 0 else 1
def swN (ss : List Sta) : Nat -> Int
  | 0 => 0
  | i + 1 => swN ss i + if i = 0 then 0 else swI (ss.getD (i - 1) default) (ss.getD i default) (ss.getD i default).set.length
theorem swI_in {a b : Sta} : ∀ k : Nat, 0 <= swI a b k /\ swI a b k <= k
  | 0 => by simp [swI]
  | k + 1 => by
    have := swI_in (a := a) (b := b) k;rw [swI];split <;> omega
theorem swN_app {a b : List Sta} : ∀ k, k <= a.length -> swN (a ++ b) k = swN a k
  | 0, _ => rfl
  | k + 1, h => by
    rw [swN, swN, swN_app k (by omega)];by_cases e : k = 0
    · rw [if_pos e, if_pos e]
    · rw [if_neg e, if_neg e];have e1 : ∀ q, q < a.length -> (a ++ b).getD q default = a.getD q default := fun q hq => by
        rw [List.getD_eq_getElem?_getD, List.getElem?_append_left hq, <- List.getD_eq_getElem?_getD]
      rw [e1 _ (by omega), e1 _ (by omega)]
theorem swN_both {a b : List Sta} (ha : 0 < a.length) : ∀ k, k < b.length -> swN (a ++ b) (a.length + (k + 1)) = swN a a.length + swN b (k + 1) + swI (a.getD (a.length - 1) default) (b.getD 0 default) (b.getD 0 default).set.length
  | 0, h => by
    have e1 : (a ++ b).getD (a.length - 1) default = a.getD (a.length - 1) default := by
      rw [List.getD_eq_getElem?_getD, List.getElem?_append_left (by omega), <- List.getD_eq_getElem?_getD]
    have e2 : (a ++ b).getD a.length default = b.getD 0 default := by
      rw [List.getD_eq_getElem?_getD, List.getElem?_append_right (Nat.le_refl _), Nat.sub_self, <- List.getD_eq_getElem?_getD]
    show swN (a ++ b) a.length + _ = swN a a.length + (0 + _) + _;rw [swN_app a.length (Nat.le_refl _), if_neg (by omega), if_pos rfl, e1, e2];omega
  | k + 1, h => by
    have ih := swN_both (a := a) (b := b) ha k (by omega);have e1 : ∀ q, (a ++ b).getD (a.length + q) default = b.getD q default := fun q => by
      rw [List.getD_eq_getElem?_getD, List.getElem?_append_right (by omega), show a.length + q - a.length = q by omega, <- List.getD_eq_getElem?_getD]
    have e2 : swN (a ++ b) (a.length + (k + 1 + 1)) = swN (a ++ b) (a.length + (k + 1)) + if a.length + (k + 1) = 0 then 0 else swI ((a ++ b).getD (a.length + (k + 1) - 1) default) ((a ++ b).getD (a.length + (k + 1)) default) ((a ++ b).getD (a.length + (k + 1)) default).set.length := rfl
    have e3 : swN b (k + 1 + 1) = swN b (k + 1) + if k + 1 = 0 then 0 else swI (b.getD (k + 1 - 1) default) (b.getD (k + 1) default) (b.getD (k + 1) default).set.length := rfl
    rw [e2, e3, ih, if_neg (by omega), if_neg (by omega), show a.length + (k + 1) - 1 = a.length + k by omega, e1, e1, Nat.add_sub_cancel];omega
def firedK (n : Net) (lv : List Int) (l : List Rule) : Nat -> List Int
  | 0 => []
  | i + 1 => if holdB n lv (l.getD i default) = true then firedK n lv l i ++ [(i : Int)] else firedK n lv l i
def logL (n : Net) (l : List Rule) (ss : List Sta) : List (List Int) := ss.map fun x => firedK n (levelsL n x.vol) l l.length
def listB (n : Net) (ss : List Sta) : Bool := netB n && ss.all fun x => staB n x
def logR (n : Net) (l : List Rule) (ss : List Sta) : List (List Int) × Int :=
  if (listB n ss && rulesB l) = false then ([], 1) else if 10000 < ss.length then ([], 4) else if l.all (knownR n) = false then ([], 9) else (logL n l ss, 0)
def steadyF (e : Nat -> Bool) (N : Nat) : Nat -> Nat -> Nat
  | 0, k => k
  | f + 1, k => if k < N /\ e k = true then steadyF e N f (k + 1) else k
theorem steady_stop {e : Nat -> Bool} {N k : Nat} (h : k = N ∨ e k = false) : ∀ f, steadyF e N f k = k
  | 0 => rfl
  | f + 1 => by
    rw [steadyF, if_neg];rintro ⟨h1, h2⟩;rcases h with h | h
    · omega
    · rw [h] at h2; cases h2
theorem steady_at {e : Nat -> Bool} {N : Nat} : ∀ k, k <= N -> (∀ j, j < k -> e j = true) -> steadyF e N N 0 = steadyF e N (N - k) k
  | 0, _, _ => rfl
  | k + 1, h, he => by
    rw [steady_at k (by omega) fun j hj => he j (by omega), show N - k = (N - (k + 1)) + 1 by omega, steadyF, if_pos ⟨by omega, he k (by omega)⟩]
def likeS (n : Net) (l : List Rule) (ss : List Sta) (i j : Nat) : Bool := decide ((ss.getD i default).set = (ss.getD j default).set) && decide ((ss.getD i default).on = (ss.getD j default).on) && decide ((logL n l ss).getD i default = (logL n l ss).getD j default)
def steadyR (n : Net) (l : List Rule) (ss : List Sta) : Int × Int :=
  if ¬ (logR n l ss).2 = 0 then (0, (logR n l ss).2) else ((steadyF (fun k => likeS n l ss (ss.length - 1) (ss.length - 1 - k)) ss.length ss.length 0 : Nat), 0)
def sizeB (ss : List Sta) : Bool := ss.all fun x => decide (x.set.length = (ss.getD 0 default).set.length) && decide (x.on.length = x.set.length)
def switchR (ss : List Sta) : Int × Int := if 10000 < ss.length then (0, 4) else if sizeB ss = false then (0, 3) else (swN ss ss.length, 0)
def leastR (n : Net) (ss : List Sta) (tank : ByteArray) : Int × Int :=
  if listB n ss = false then (0, 1) else if 10000 < ss.length then (0, 4) else if nodeIx n.nodes tank < 0 then (0, 9) else if ss.length = 0 then (0, 14) else (leastI ss (nodeIx n.nodes tank).toNat ss.length, 0)
theorem like_refl (n : Net) (l : List Rule) (ss : List Sta) (i : Nat) : likeS n l ss i i = true := by simp [likeS]
theorem like_trans {n : Net} {l : List Rule} {ss : List Sta} {i j k : Nat} (h1 : likeS n l ss i j = true) : likeS n l ss i k = likeS n l ss j k := by
  unfold likeS at h1 ⊢;simp only [Bool.and_eq_true, decide_eq_true_eq] at h1;rw [h1.1.1, h1.1.2, h1.2]
theorem like_symm {n : Net} {l : List Rule} {ss : List Sta} {i j : Nat} : likeS n l ss i j = likeS n l ss j i := by
  unfold likeS;rw [Bool.eq_iff_iff];simp only [Bool.and_eq_true, decide_eq_true_eq];exact ⟨fun h => ⟨⟨h.1.1.symm, h.1.2.symm⟩, h.2.symm⟩, fun h => ⟨⟨h.1.1.symm, h.1.2.symm⟩, h.2.symm⟩⟩
theorem swI_0 {a b : Sta} : ∀ k, swI a b k = 0 ↔ ∀ j, j < k -> a.set.getD j default = b.set.getD j default /\ a.on.getD j default = b.on.getD j default
  | 0 => ⟨fun _ j hj => by omega, fun _ => rfl⟩
  | k + 1 => by
    have ih := swI_0 (a := a) (b := b) k;have hk := (swI_in (a := a) (b := b) k).1;rw [swI];constructor
    · intro h j hj;split at h;next hc =>
        by_cases e : j = k
        · subst e; exact hc
        · exact ih.1 (by omega) j (by omega)
      next hc => omega
    · intro h;rw [if_pos (h k (by omega)), ih.2 fun j hj => h j (by omega)]; rfl
theorem list_extB {a b : List Bool} (h1 : a.length = b.length) (h2 : ∀ i, i < a.length -> a.getD i default = b.getD i default) : a = b := by
  refine List.ext_getElem h1 fun i hi hj => ?_
  have := h2 i hi;rw [List.getD_eq_getElem?_getD, List.getD_eq_getElem?_getD, List.getElem?_eq_getElem hi, List.getElem?_eq_getElem hj] at this;exact this
theorem swI_same {a b : Sta} {L : Nat} (h1 : a.set.length = L /\ a.on.length = L) (h2 : b.set.length = L /\ b.on.length = L) : swI a b L = 0 ↔ a.set = b.set /\ a.on = b.on := by
  rw [swI_0];constructor
  · intro h;exact ⟨list_ext (by omega) fun i hi => (h i (by omega)).1, list_extB (by omega) fun i hi => (h i (by omega)).2⟩
  · rintro ⟨e1, e2⟩ j _;rw [e1, e2]; exact ⟨rfl, rfl⟩
theorem firedK_len (n : Net) (lv : List Int) (l : List Rule) : ∀ i, (firedK n lv l i).length <= i
  | 0 => Nat.le_refl _
  | i + 1 => by
    have := firedK_len n lv l i;rw [firedK];split
    · rw [List.length_append, List.length_singleton]; omega
    · omega
theorem rgiven_f (l : List Rule) (n : Net) (lv : List Int) (m : Nat) (hl : rulOk l) (nb : netB n = true) (h1 : lv.length = n.nodes.length) (hk : l.all (knownR n) = true) :
    Pu 141 [ruleL l, strs (namesL n), ints lv] m (.tup [.p (mapT (lvM n lv)), li 0]) := by
  have hl1 := hl.1;have hlen := netB_len nb;have hnl := namesL_len n;have e1 : ((namesL n).length : Int) = (lv.length : Int) := by omega
  (have:=NeI e1);refine pcN 71 [.tmp 6,.tmp 7] [172,39] Tryz.func141 rfl [] ?_;(repeat' first|refine stW [0,1,2,6,7,8,9,10,12,14,16,18,23,25,26,27,28,38,46,47,48,49,53,54,55,56,67] ?_|refine fctI fun hf=>?_|refine twI (fun hc=>?_) fun hc=>?_);refine loop_swp [0, 2, 8, 25, 26, 27] [56] 96 (fun q A H => ∃ i : Nat, i <= (namesL n).length /\ q = (namesL n).length - i /\ A = [(0, ruleL l), (2, ints lv), (8, .mref 56), (25, strs (namesL n)), (26, li (namesL n).length), (27, li i)] /\ H = [(56, .map (strE (ixL (namesL n) (fun j => lv.getD j default) i)))]) (by omega) ?_ ?_ ?_
  · rintro q A H ⟨i, g1, g2, rfl, rfl⟩;exact SDD
  · refine ⟨_, 0, by omega, rfl, ?_, ?_⟩
    · exact DVR
    · rw [show strE (ixL (namesL n) (fun j => lv.getD j default) 0) = [] from by unfold strE; rfl];exact DVR
  rintro q A H ⟨i, g1, g2, rfl, rfl⟩;by_cases hi : i < (namesL n).length
  · have hi3 : (i : Int) < ((namesL n).length : Int) := by omega
    have hi4 : i < lv.length := by omega
    have hi5 : (i : Int) < (lv.length : Int) := by omega
    have hput := ixL_put (l := namesL n) (f := fun j => lv.getD j default) (i := i) (namesL_ne nb (by omega));have hput : putS (ixL (namesL n) (fun j => lv.getD j default) i) ((namesL n).getD i default) (lv.getD i default) = ixL (namesL n) (fun j => lv.getD j default) (i + 1) := hput;haveI : KnoAt (ixL (namesL n) (fun j => lv.getD j default) i) ((namesL n).getD i default) false := ⟨by unfold knoS; rw [ixL_none i (namesL_ne nb (by omega))]; rfl⟩;generalize ixL (namesL n) (fun j => lv.getD j default) i = X at *
    (have:=NeI hi);(have:=NeI hi3);(have:=NeI hi4);(have:=NeI hi5);(repeat' first|refine stW [0,1,2,6,7,8,9,10,12,14,16,18,23,25,26,27,28,38,46,47,48,49,53,54,55,56,67] ?_|refine fctI fun hf=>?_|refine twI (fun hc=>?_) fun hc=>?_);rw [hput];(refine lN [56] ?_);exact ⟨_, by omega, i + 1, by omega, rfl, rfl, rfl⟩
  obtain rfl : i = (namesL n).length := by omega
  have hi3 : ¬ (((namesL n).length : Int) < ((namesL n).length : Int)) := by omega
  (have:=NeI hi3);rw [show ixL (namesL n) (fun j => lv.getD j default) (namesL n).length = lvM n lv from by rw [hnl]; rfl];have hkv := lvM_kno nb lv;generalize lvM n lv = IX at *
  (repeat' first|(show SWp _ _ _ (.seq (.region 12 _ _) _) _ _ _ _;refine (stop_in ?_))|refine stW [0,1,2,6,7,8,9,10,12,14,16,18,23,25,26,27,28,38,46,47,48,49,53,54,55,56,67] ?_|refine fctI fun hf=>?_|refine twI (fun hc=>?_) fun hc=>?_);refine stop_out ?_;refine sF 56 (v := .map (strE IX)) (x := .mp (IX.map fun e => .string e.1) (IX.map fun e => .lit (.int .i64 e.2))) ?_ (hx := strE_fv IX);rw [mapT_eq];(repeat' first|refine stW [0,1,2,6,7,8,9,10,12,14,16,18,23,25,26,27,28,38,46,47,48,49,53,54,55,56,67] ?_|refine fctI fun hf=>?_|refine twI (fun hc=>?_) fun hc=>?_);refine loop_swp [8, 46, 47, 48] [] 128 (fun q A H => ∃ i : Nat, i <= l.length /\ q = l.length - i /\ A = [(8, .p (mapT IX)), (46, ruleL l), (47, li l.length), (48, li i)] /\ H = []) (by omega) ?_ ?_ ?_
  · rintro q A H ⟨i, g1, g2, rfl, rfl⟩;exact SDD
  · refine ⟨_, 0, by omega, rfl, ?_, ?_⟩
    · exact DVR
    · exact DVR
  rintro q A H ⟨i, g1, g2, rfl, rfl⟩;by_cases hi : i < l.length
  · have hi3 : (i : Int) < (l.length : Int) := by omega
    have hw := ruleOk_at hl hi;have hkr := kn_at hk hi;rw [knownR_eq, Bool.and_eq_true] at hkr;have hkc := List.all_eq_true.1 hkr.2;(have:=NeI hi);(have:=NeI hi3);clear hkr hk;(repeat' first|refine stW [0,1,2,6,7,8,9,10,12,14,16,18,23,25,26,27,28,38,46,47,48,49,53,54,55,56,67] ?_|refine fctI fun hf=>?_|refine twI (fun hc=>?_) fun hc=>?_);refine loop_swp [8, 46, 47, 48, 53, 54, 55] [] 200 (fun q A H => ∃ j : Nat, j <= (l.getD i default).whn.length /\ q = (l.getD i default).whn.length - j /\ A = [(8, .p (mapT IX)), (46, ruleL l), (47, li l.length), (48, li i), (53, cndL (l.getD i default).whn), (54, li (l.getD i default).whn.length), (55, li j)] /\ H = []) (by omega) ?_ ?_ ?_
    · rintro q A H ⟨j, k1, k2, rfl, rfl⟩;exact SDD
    · refine ⟨_, 0, by omega, rfl, ?_, ?_⟩
      · exact DVR
      · exact DVR
    rintro q A H ⟨j, k1, k2, rfl, rfl⟩;by_cases hj : j < (l.getD i default).whn.length
    · have hj3 : (j : Int) < ((l.getD i default).whn.length : Int) := by omega
      haveI : KnoAt IX ((l.getD i default).whn.getD j default).nod true := ⟨by rw [hkv]; exact hkc _ (getD_mem hj)⟩;(have:=NeI hj);(have:=NeI hj3);clear hkc hkv;(repeat' first|refine stW [0,1,2,6,7,8,9,10,12,14,16,18,23,25,26,27,28,38,46,47,48,49,53,54,55,56,67] ?_|refine fctI fun hf=>?_|refine twI (fun hc=>?_) fun hc=>?_);(refine lN [] ?_);exact ⟨_, by omega, j + 1, by omega, rfl, rfl, rfl⟩
    obtain rfl : j = (l.getD i default).whn.length := by omega
    have hj3 : ¬ (((l.getD i default).whn.length : Int) < ((l.getD i default).whn.length : Int)) := by omega
    (have:=NeI hj3);clear hkc hkv;(repeat' first|refine stW [0,1,2,6,7,8,9,10,12,14,16,18,23,25,26,27,28,38,46,47,48,49,53,54,55,56,67] ?_|refine fctI fun hf=>?_|refine twI (fun hc=>?_) fun hc=>?_);(refine lN [] ?_);exact ⟨_, by omega, i + 1, by omega, rfl, rfl, rfl⟩
  obtain rfl : i = l.length := by omega
  have hi3 : ¬ ((l.length : Int) < (l.length : Int)) := by omega
  (have:=NeI hi3);clear hkv hk;(repeat' first|refine stW [0,1,2,6,7,8,9,10,12,14,16,18,23,25,26,27,28,38,46,47,48,49,53,54,55,56,67] ?_|refine fctI fun hf=>?_|refine twI (fun hc=>?_) fun hc=>?_);exact DVR
theorem rfired_f (l : List Rule) (n : Net) (lv : List Int) (m : Nat) (hl : rulOk l) (nb : netB n = true) (rb : rulesB l = true) (h1 : lv.length = n.nodes.length) (hk : l.all (knownR n) = true) :
    Pu 87 [ruleL l, strs (namesL n), ints lv] m (.tup [ints (firedK n lv l l.length), li 0]) := by
  have hl1 := hl.1;have h60 := rulesB_60 rb;have c1 := fun m => rulesV_f l m hl
  rw [rb] at c1;have c2 := fun m => rgiven_f l n lv m hl nb h1 hk
  have hho := fun r => @hold_eq n nb lv r
  generalize lvM n lv = IX at *
  refine pcN 42 [.tmp 6,.tmp 7] [28,39] Tryz.func87 rfl [160] ?_;(repeat' first|refine stW [0,1,2,6,7,8,9,10,11,12,15,24,26,27,28,29,35] ?_|refine fctI fun hf=>?_|refine twI (fun hc=>?_) fun hc=>?_);(refine sN 10 3 1 ?_);refine loop_swp [8, 10, 26, 27, 28] [160] 168 (fun q A H => ∃ i : Nat, i <= l.length /\ q = l.length - i /\ A = [(8, .p (mapT IX)), (10, .gl 160), (26, ruleL l), (27, li l.length), (28, li i)] /\ H = [(160, inLt (firedK n lv l i))]) (by omega) ?_ ?_ ?_
  · rintro q A H ⟨i, g1, g2, rfl, rfl⟩;exact SDD
  · refine ⟨_, 0, by omega, rfl, ?_, ?_⟩
    · exact DVR
    · exact DVR
  rintro q A H ⟨i, g1, g2, rfl, rfl⟩;by_cases hi : i < l.length
  · have hi3 : (i : Int) < (l.length : Int) := by omega
    have c5 := fun m => rholds_f (l.getD i default) IX m (ruleOk_at hl hi)
    rw [hho _ (kn_at hk hi)] at c5;have hfl := firedK_len n lv l i;have hfs : firedK n lv l (i + 1) = if holdB n lv (l.getD i default) = true then firedK n lv l i ++ [(i : Int)] else firedK n lv l i := rfl
    generalize hX : firedK n lv l i = X at *
    (have:=NeI hi);(have:=NeI hi3);clear hho;cases hh : holdB n lv (l.getD i default) <;> simp only [hh] at c5 hfs
    · (repeat' first|refine stW [0,1,2,6,7,8,9,10,11,12,15,24,26,27,28,29,35] ?_|refine fctI fun hf=>?_|refine twI (fun hc=>?_) fun hc=>?_);(refine lN [160] ?_);exact ⟨_, by omega, i + 1, by omega, rfl, rfl, by rw [hfs]; rfl⟩
    · (repeat' first|refine stW [0,1,2,6,7,8,9,10,11,12,15,24,26,27,28,29,35] ?_|refine fctI fun hf=>?_|refine twI (fun hc=>?_) fun hc=>?_);(refine lN [160] ?_);exact ⟨_, by omega, i + 1, by omega, rfl, rfl, by rw [hfs]; rfl⟩
  obtain rfl : i = l.length := by omega
  have hi3 : ¬ ((l.length : Int) < (l.length : Int)) := by omega
  (have:=NeI hi3);clear hho;generalize firedK n lv l l.length = X at *
  (repeat' first|refine stW [0,1,2,6,7,8,9,10,11,12,15,24,26,27,28,29,35] ?_|refine fctI fun hf=>?_|refine twI (fun hc=>?_) fun hc=>?_);exact DVR

end Go.Proofs.YtefkhfkapnmikaaGreat
