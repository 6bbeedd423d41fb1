/-
  A part of the engine that reckons calls at the level of data.
  No condition.
-/

import Derived.Test.YtgpllheklfbfhaaGreatEngN
namespace Go.Eng
set_option linter.all false
open Go.RowKit
def effB : Op -> Bool
  | .move _ | .assign _ | .pick .. | .box .. | .alloc _ | .build .. | .buildSlice .. | .makeSlice .. | .load .. | .nilCheck _ | .binOp .. | .unOp .. | .convert .. | .makeFunc .. | .slice .. | .fieldAddr .. | .field .. | .indexAddr .. | .index .. | .extract .. | .makeMap .. | .lookup .. => false
  | .call { callee := .builtin .len, .. } => false
  | .call { callee := .builtin .min, .. } => false
  | .call { callee := .builtin .max, .. } => false
  | _ => true
def mids : DV -> List Nat
  | .ptr id _ => [id]
  | .eptr id _ _ _ => [id]
  | .gl id => [id]
  | .mref id => [id]
  | _ => []
def opIds (o : Op) (ρ : Operand -> DV) : List Nat :=
  match o with
  | .move _ | .assign _ | .pick .. | .box .. | .alloc _ | .build .. | .buildSlice .. | .makeSlice .. | .nilCheck _ | .binOp .. | .unOp .. | .convert .. | .makeFunc .. | .fieldAddr .. | .field .. | .index .. | .extract .. | .makeMap .. => []
  | .load _ x => mids (ρ x).un
  | .store _ x _ => mids (ρ x).un
  | .indexAddr _ x _ => mids (ρ x).un
  | o => o.operands.toList.flatMap fun x => mids (ρ x).un
abbrev Pat := Nat -> Option (Option HV)
def papp (p : Pat) (h : Nat -> Option HV) : Nat -> Option HV := fun i => (p i).getD (h i)
def effPat (nid : Nat) : Eff -> Pat
  | .no => fun _ => none
  | .add id v => fun i => if i = id then some (some v) else none
  | .set id v => fun i => if i = id then some (some v) else none
  | .app old v => fun i => if i = nid then some (some v) else if i = old then some none else none
def dx (nid : Nat) : Eff -> DV -> DV
  | .app _ _, _ => .gl nid
  | _, d => d
def effIds : Eff -> List Nat
  | .no => []
  | .add id _ => [id]
  | .set id _ => [id]
  | .app old _ => [old]
def hdel (o : Nat) : LH -> LH
  | [] => []
  | (i, v) :: r => if i = o then hdel o r else (i, v) :: hdel o r
def effHX (nid : Nat) (H : LH) : Eff -> LH
  | .no => H
  | .add id v => (id, v) :: H
  | .set id v => hset H id v
  | .app old v => (nid, v) :: hdel old H
theorem hget_del (o : Nat) : ∀ (H : LH) (i : Nat), hget (hdel o H) i = if i = o then none else hget H i
  | [], i => by simp [hdel, hget]
  | (s, v) :: r, i => by
    simp only [hdel];split
    · next e => rw [hget_del o r i]; simp only [hget]; split
                · rfl
                · next k => rw [if_neg (fun k2 => k (k2.trans e))]
    · next e =>
      simp only [hget, hget_del o r i];by_cases k : i = s
      · subst k; simp [e]
      · simp [k]
theorem effHX_eq (nid : Nat) (H : LH) (e : Eff) : hget (effHX nid H e) = papp (effPat nid e) (hget H) := by
  funext i
  cases e with
  | no => rfl
  | add id v => simp only [effHX, effPat, papp, hget]; split <;> rfl
  | set id v => simp only [effHX, effPat, papp, hget_set, upd]; split <;> rfl
  | app old v =>
    simp only [effHX, effPat, papp, hget, hget_del];split
    · rfl
    · split <;> rfl
def maskOf (M : List Nat) (o : Oper) : Nat := o.after.toList.foldl (fun m e => if Region.binds .any e then m ||| (1 <<< e.on) ||| M.getD e.on 0 else m) 0
def masksGo : List Oper -> List Nat -> List Nat
  | [], M => M
  | o :: os, M => masksGo os (M ++ [maskOf M o])
def masks (ops : Array Oper) : List Nat := masksGo ops.toList []
def bef (M : List Nat) (i j : Nat) : Bool := (M.getD j 0).testBit i
def eff (ops : Array Oper) (j : Nat) : Bool := match ops[j]? with
  | some o => effB o.op
  | none => false
def effT (ops : Array Oper) (V : List Nat) (j : Nat) : Bool := eff ops j && !V.contains (1000000 + j)
theorem effT_eff {ops : Array Oper} {V : List Nat} {j : Nat} (h : effT ops V j = true) : eff ops j = true := by
  unfold effT at h; rw [Bool.and_eq_true] at h; exact h.1
def lexR (ops : Array Oper) : Nat -> Nat -> Array Bool -> Bool
  | 0, _, listed => (Region.ready .any ops listed).isEmpty
  | fuel + 1, k, listed => (Region.ready .any ops listed).contains k && lexR ops fuel (k + 1) (listed.setIfInBounds k true)
def xB (ops : Array Oper) (M : List Nat) : Bool :=
  ((List.range ops.size).all fun j => match ops[j]? with
    | some o => M.getD j 0 == maskOf M o && o.after.toList.all fun e => !Region.binds .any e || decide (e.on < j)
    | none => true) &&
  ((List.range ops.size).all fun i => (List.range ops.size).all fun j => !decide (i < j) || bef M i j || (match ops[i]?, ops[j]? with
    | some a, some b => a.apart ops b && !(effB a.op && effB b.op)
    | _, _ => true)) &&
  lexR ops ops.size 0 (Array.replicate ops.size false)
theorem testBit_fold (M : List Nat) (i : Nat) : ∀ (l : List Edge) (m : Nat), (l.foldl (fun m e => if Region.binds .any e then m ||| (1 <<< e.on) ||| M.getD e.on 0 else m) m).testBit i = true ->
    m.testBit i = true ∨ ∃ e ∈ l, Region.binds .any e = true /\ (e.on = i ∨ bef M i e.on = true)
  | [], m, h => .inl h
  | e :: l, m, h => by
    simp only [List.foldl_cons] at h;rcases testBit_fold M i l _ h with k | ⟨e', k1, k2⟩
    · by_cases hb : Region.binds .any e = true
      · rw [if_pos hb] at k;rw [Nat.testBit_or, Nat.testBit_or, Bool.or_eq_true, Bool.or_eq_true] at k;rcases k with (k | k) | k
        · exact .inl k
        · refine .inr ⟨e, by simp, hb, .inl ?_⟩;rw [Nat.one_shiftLeft] at k;simpa using (Nat.testBit_two_pow.symm.trans k)
        · exact .inr ⟨e, by simp, hb, .inr k⟩
      · rw [if_neg hb] at k; exact .inl k
    · exact .inr ⟨e', by simp [k1], k2⟩
end Go.Eng
