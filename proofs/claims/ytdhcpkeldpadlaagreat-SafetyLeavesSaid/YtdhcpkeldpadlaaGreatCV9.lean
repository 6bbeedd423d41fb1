/-
  Contracts of functions of the program, over the engine.
  No condition.
-/
import Derived.Test.YtdhcpkeldpadlaaGreatCA3
import Derived.Test.YtdhcpkeldpadlaaGreatCV0
import Derived.Test.YtdhcpkeldpadlaaGreatCA2
import Derived.Test.YtdhcpkeldpadlaaGreatCT5T6T6bT7T7bT7c
namespace Go.Proofs.YtdhcpkeldpadlaaGreat
open Go.Eng
set_option linter.all false
attribute [local irreducible] DCallsG SWp Fct CallQ XCallQ LCallQ XLCallQ drun xrun
set_option maxHeartbeats 64000000
set_option maxRecDepth 20000

theorem stepFail_f (e : Int) (m : Nat) : Pu 62 [li e] m (.tup [staD zeroS, ledgD zeroL, li e]) := by
  refine pcN 8 [.cell 2 56,.cell 3 61,.tmp 4] [56,61,32] Tryz.func62 rfl [] ?_;(repeat' first|refine stW [0,2,3,4] ?_|refine fctI fun hf=>?_|refine twI (fun hc=>?_) fun hc=>?_);exact DVR
theorem rvalid_f (n : Net) (l : List Sect) (s : Sta) (m : Nat) (no : netOk n) (co : catOk l) (so : staOk s) : Pu 63 [netD n, sectL l, staD s] m (lb (netB n && staB n s && catB l)) := by
  have c1 := fun m => staValid_f n s m no so
  have c2 := fun m => cat_f l m co
  generalize catB l = y at *
  cases hx : (netB n && staB n s) <;> simp only [hx] at c1
  · refine pcN 14 [.tmp 6] [4] Tryz.func63 rfl [] ?_;(repeat' first|refine stW [0,1,2,3,5,6] ?_|refine fctI fun hf=>?_|refine twI (fun hc=>?_) fun hc=>?_);exact DVR
  · refine pcN 14 [.tmp 6] [4] Tryz.func63 rfl [] ?_;(repeat' first|refine stW [0,1,2,3,5,6] ?_|refine fctI fun hf=>?_|refine twI (fun hc=>?_) fun hc=>?_);exact DVR
theorem step2_f (v : Int) (m : Nat) : Pu 64 [li v] m (lb (!btwB v 0 1125899906842624)) := by
  refine pcN 6 [.tmp 2] [4] Tryz.func64 rfl [] ?_;(repeat' first|refine stW [0,2] ?_|(show CallQ ..;first|refine cQ (fun hcc=>(rwithin_f _ _ _)) ?_|(refine lP ?_;refine lQ (fun hcc m=>(rwithin_f _ _ _)) ?_))|refine fctI fun hf=>?_|refine twI (fun hc=>?_) fun hc=>?_);exact DVR
class PairAt (l : List (Int × Int)) (j : Nat) (a b : outParam Int) : Prop where
  out : l.getD j default = (a, b)
theorem pair_at1 {l : List (Int × Int)} {j : Nat} {a b : Int} [h : PairAt l j a b] : (l.getD j default).1 = a := by rw [h.out]
theorem pair_at2 {l : List (Int × Int)} {j : Nat} {a b : Int} [h : PairAt l j a b] : (l.getD j default).2 = b := by rw [h.out]
attribute [push_cast] pair_at1 pair_at2
def stepR (n : Net) (l : List Sect) (s : Sta) (inf : List Int) (sec : Int) : Sta × Ledg × Int := if stepE n l s inf sec = 0 then (stepS n l s inf sec, stepL n l s inf sec, 0) else (zeroS, zeroL, stepE n l s inf sec)
theorem stepR_bad {n : Net} {l : List Sect} {s : Sta} {inf : List Int} {sec e : Int} (h : stepE n l s inf sec = e) (he : ¬ e = 0) : stepR n l s inf sec = (zeroS, zeroL, e) := by
  unfold stepR; rw [h, if_neg he]
theorem stepBad_f (n : Net) (l : List Sect) (s : Sta) (inf : List Int) (sec : Int) (m : Nat) (no : netOk n) (co : catOk l) (so : staOk s) (hil : inf.length <= 281474976710656)
    (hbad : ¬ ((netB n && staB n s && catB l) = true /\ inf.length = n.nodes.length /\ (rangB inf 1125899906842624 = true /\ 1 <= sec /\ sec <= 86400) /\ (n.links.any fun x => !knownB l x) = false)) :
    Pu 22 [netD n, sectL l, staD s, ints inf, li sec] m (.tup [staD (stepR n l s inf sec).1, ledgD (stepR n l s inf sec).2.1, li (stepR n l s inf sec).2.2]) := by
  have cv := fun m => rvalid_f n l s m no co so
  have hnl := no.1.1;cases hv : (netB n && staB n s && catB l) <;> simp only [hv] at cv
  · rw [stepR_bad (e := 1) (by unfold stepE; rw [if_pos hv]) (by decide)];refine pcN 205 [.cell 10 56,.cell 11 61,.tmp 12] [56,61,32] Tryz.func22 rfl [] ?_;(repeat' first|refine stW [0,1,2,3,4,5,7,10,11,12,13,14,15,16,17,18,19,20,21,23,24,25,26,27,38,50,66,80,81,82,83,98,115,131,151,152,153,154,180,197] ?_|(show CallQ ..;first|refine cQ (fun hcc=>(by exact stepFail_f _ _)) ?_|(refine lP ?_;refine lQ (fun hcc m=>(by exact stepFail_f _ _)) ?_))|refine fctI fun hf=>?_|refine twI (fun hc=>?_) fun hc=>?_);exact DVR
  by_cases hs : inf.length = n.nodes.length
  case neg =>
    rw [stepR_bad (e := 3) (by unfold stepE; rw [if_neg (by rw [hv]; decide), if_pos hs]) (by decide)];have hs3 : ¬ (inf.length : Int) = (n.nodes.length : Int) := by omega
    (have:=NeI hs3);refine pcN 205 [.cell 10 56,.cell 11 61,.tmp 12] [56,61,32] Tryz.func22 rfl [] ?_;(repeat' first|refine stW [0,1,2,3,4,5,7,10,11,12,13,14,15,16,17,18,19,20,21,23,24,25,26,27,38,50,66,80,81,82,83,98,115,131,151,152,153,154,180,197] ?_|(show CallQ ..;first|refine cQ (fun hcc=>(by exact stepFail_f _ _)) ?_|(refine lP ?_;refine lQ (fun hcc m=>(by exact stepFail_f _ _)) ?_))|refine fctI fun hf=>?_|refine twI (fun hc=>?_) fun hc=>?_);exact DVR
  have hs3 : (inf.length : Int) = (n.nodes.length : Int) := by omega
  (have:=NeI hs3);have cr := fun m => conInt_f 64 (fun n => !btwB n 0 1125899906842624) inf m hil (fun x _ m => step2_f x m)
  simp only [any_rang] at cr;by_cases hr : rangB inf 1125899906842624 = true /\ 1 <= sec /\ sec <= 86400
  case neg =>
    rw [stepR_bad (e := 2) (by
      unfold stepE;rw [if_neg (by rw [hv]; decide), if_neg (fun q => q hs), if_pos];by_cases h1 : rangB inf 1125899906842624 = true
      · right; by_cases h2 : sec < 1
        · exact .inl h2
        · exact .inr (by have : ¬ (1 <= sec /\ sec <= 86400) := fun q => hr ⟨h1, q⟩; omega)
      · exact .inl (by simpa using h1)) (by decide)]
    cases h1 : rangB inf 1125899906842624 <;> simp only [h1] at cr
    · refine pcN 205 [.cell 10 56,.cell 11 61,.tmp 12] [56,61,32] Tryz.func22 rfl [] ?_;(repeat' first|refine stW [0,1,2,3,4,5,7,10,11,12,13,14,15,16,17,18,19,20,21,23,24,25,26,27,38,50,66,80,81,82,83,98,115,131,151,152,153,154,180,197] ?_|(show CallQ ..;first|refine cQ (fun hcc=>(by exact stepFail_f _ _)) ?_|(refine lP ?_;refine lQ (fun hcc m=>(by exact stepFail_f _ _)) ?_))|refine fctI fun hf=>?_|refine twI (fun hc=>?_) fun hc=>?_);exact DVR
    · by_cases h2 : sec < 1
      · (have:=NeI h2);refine pcN 205 [.cell 10 56,.cell 11 61,.tmp 12] [56,61,32] Tryz.func22 rfl [] ?_;(repeat' first|refine stW [0,1,2,3,4,5,7,10,11,12,13,14,15,16,17,18,19,20,21,23,24,25,26,27,38,50,66,80,81,82,83,98,115,131,151,152,153,154,180,197] ?_|(show CallQ ..;first|refine cQ (fun hcc=>(by exact stepFail_f _ _)) ?_|(refine lP ?_;refine lQ (fun hcc m=>(by exact stepFail_f _ _)) ?_))|refine fctI fun hf=>?_|refine twI (fun hc=>?_) fun hc=>?_);exact DVR
      · have h3 : 86400 < sec := by
          have : ¬ (1 <= sec /\ sec <= 86400) := fun q => hr ⟨h1, q⟩
          omega
        (have:=NeI h2);(have:=NeI h3);refine pcN 205 [.cell 10 56,.cell 11 61,.tmp 12] [56,61,32] Tryz.func22 rfl [] ?_;(repeat' first|refine stW [0,1,2,3,4,5,7,10,11,12,13,14,15,16,17,18,19,20,21,23,24,25,26,27,38,50,66,80,81,82,83,98,115,131,151,152,153,154,180,197] ?_|(show CallQ ..;first|refine cQ (fun hcc=>(by exact stepFail_f _ _)) ?_|(refine lP ?_;refine lQ (fun hcc m=>(by exact stepFail_f _ _)) ?_))|refine fctI fun hf=>?_|refine twI (fun hc=>?_) fun hc=>?_);exact DVR
  obtain ⟨h1, h2, h3⟩ := hr;simp only [h1] at cr;have h4 : ¬ sec < 1 := by omega
  have h5 : ¬ 86400 < sec := by omega
  (have:=NeI h4);(have:=NeI h5);have hcb : catB l = true := by
    cases h : catB l
    · rw [h, Bool.and_false] at hv; cases hv
    · rfl
  have cn := fun m => rnamed_f n l m no co hcb
  have hk : (n.links.any fun x => !knownB l x) = true := by
    cases h : n.links.any fun x => !knownB l x
    · exact absurd ⟨hv, hs, ⟨h1, h2, h3⟩, h⟩ hbad
    · rfl
  rw [hk] at cn;rw [stepR_bad (e := 9) (by
    unfold stepE;rw [if_neg (by rw [hv]; decide), if_neg (fun q => q hs), if_neg (by rw [h1]; simp; omega), if_pos hk]) (by decide)]
  refine pcN 205 [.cell 10 56,.cell 11 61,.tmp 12] [56,61,32] Tryz.func22 rfl [] ?_;(repeat' first|refine stW [0,1,2,3,4,5,7,10,11,12,13,14,15,16,17,18,19,20,21,23,24,25,26,27,38,50,66,80,81,82,83,98,115,131,151,152,153,154,180,197] ?_|(show CallQ ..;first|refine cQ (fun hcc=>(by exact stepFail_f _ _)) ?_|(refine lP ?_;refine lQ (fun hcc m=>(by exact stepFail_f _ _)) ?_))|refine fctI fun hf=>?_|refine twI (fun hc=>?_) fun hc=>?_);exact DVR
section
open Go.Eng
theorem swp_nilC {D : Dfr} {P : Program} {N pin nx nx' : Nat} {c : Code} {Q : Exit -> LE -> LH -> Nat -> Prop} {A : LE} {H : LH} (b : Nat) (t te : TypeId) (n : Nat) (cs1 cs2 : List DV) (hn : nx + 8 = nx')
    (h : @SWp D P N pin c Q A ((b, .blk t (cs1 ++ .gl nx :: cs2)) :: (nx, .lst te n []) :: H) nx') : @SWp D P N pin c Q A ((b, .blk t (cs1 ++ .p (.lit (.slice none 0 0)) :: cs2)) :: H) nx := by
  subst hn;unfold SWp at h ⊢;intro hp B hB a w hS;obtain ⟨ρ, S, HS, ES⟩ := hS;have h0 : hget ((b, HV.blk t (cs1 ++ .p (.lit (.slice none 0 0)) :: cs2)) :: H) b = some (.blk t (cs1 ++ .p (.lit (.slice none 0 0)) :: cs2)) := by simp [hget]
  have hbU := (HS.heapU b _ h0).1;have hbn : b ≠ nx := by omega
  obtain ⟨ρ', hρ'⟩ : ∃ ρ' : Nat -> Hd, ρ' = upd ρ nx { a := none, len := 0, cap := 0 } := ⟨_, rfl⟩;have hlt : ∀ i, i < nx -> ρ' i = ρ i := fun i hi => by subst hρ'; exact upd_ne _ _ (by omega)
  have hnx : ρ' nx = { a := none, len := 0, cap := 0 } := by subst hρ'; exact upd_same ..
  have key : ∀ (l : List DV) (vs : List Value), RelL ρ' S w (l ++ .p (.lit (.slice none 0 0)) :: cs2) vs -> RelL ρ' S w (l ++ .gl nx :: cs2) vs := fun l => by
    induction l with
    | nil =>
      intro vs k;cases vs with
      | nil => exact k.elim
      | cons v vs =>
        refine ⟨?_, k.2⟩;have := rel_lit k.1;simp only [Rel];rw [hnx]; exact this
    | cons d l ih =>
      intro vs k;cases vs with
      | nil => exact k.elim
      | cons v vs => exact ⟨k.1, ih vs k.2⟩
  refine h (by omega) B hB a w ⟨ρ', S, ?_, ?_⟩
  · refine HS.seen (fun i hi => hlt i (by have := hB i hi; omega)) fun i v hi => ?_
    simp only [hget] at hi;split at hi
    · next e1 =>
      subst e1;obtain rfl := Option.some.inj hi;have hU := HS.heapU i _ h0;have hO := HRel.mono (U := fun i => i < nx) (fun i hi => hlt i hi) (fun _ k => k) (fun _ _ => rfl) hU.1 hU.2 (fun _ _ => rfl) (HS.heap i _ h0);refine ⟨?_, by omega, ?_, fun c hc => ⟨_, h0, ?_⟩⟩
      · simp only [HRel] at hO ⊢;obtain ⟨bb, vs, fz, k1, k2, k3, k4⟩ := hO;exact ⟨bb, vs, fz, k1, k2, key _ _ k3, k4⟩
      · refine usesL_iff.2 fun d hd => ?_
        have hu := usesL_iff.1 (show DV.usesL _ (cs1 ++ .p (.lit (.slice none 0 0)) :: cs2) from hU.2);rcases List.mem_append.1 hd with hd | hd
        · exact uses_mono (fun i k => by omega) _ (hu d (List.mem_append.2 (.inl hd)))
        · rcases List.mem_cons.1 hd with rfl | hd
          · show nx < nx + 8; omega
          · exact uses_mono (fun i k => by omega) _ (hu d (List.mem_append.2 (.inr (List.mem_cons_of_mem _ hd))))
      · simp only [hblk] at hc ⊢;rw [hlt i hbU] at hc; exact hc
    · next e1 =>
      split at hi
      · next e2 =>
        subst e2;obtain rfl := Option.some.inj hi;refine ⟨?_, by omega, trivial, fun c hc => ?_⟩
        · simp only [HRel];rw [hnx];exact ⟨rfl, by simp [BL], by simp, by simp, .inl rfl⟩
        · simp only [hblk] at hc;rw [hnx] at hc;simp at hc
      · next e2 =>
        have hh : hget ((b, HV.blk t (cs1 ++ .p (.lit (.slice none 0 0)) :: cs2)) :: H) i = some v := by simp only [hget, if_neg e1]; exact hi
        have hU := HS.heapU i v hh;refine ⟨HRel.mono (U := fun i => i < nx) (fun i hi => hlt i hi) (fun _ k => k) (fun _ _ => rfl) hU.1 hU.2 (fun _ _ => rfl) (HS.heap i v hh), by have : i < nx := hU.1; omega, HV.uses_mono (fun i k => by omega) v hU.2, fun c hc => ⟨v, hh, ?_⟩⟩;rw [hlt i hU.1] at hc; exact hc
  · exact ES.mono (fun i hi => hlt i hi) (fun _ k => k) (fun _ _ => rfl) fun i k => by omega
end
theorem rep_in (k : Nat) : List.replicate k [DV.p (.lit (.int .i64 0))] = rows inRow (List.replicate k 0) := by
  unfold rows; rw [List.map_replicate]; rfl
theorem rep_bo (k : Nat) : List.replicate k [DV.p (.lit (.bool false))] = rows boRow (List.replicate k false) := by
  unfold rows; rw [List.map_replicate]; rfl
attribute [push_cast] rep_in rep_bo
end Go.Proofs.YtdhcpkeldpadlaaGreat
