/-
  Contracts of functions of the program, over the engine.
  No condition.
-/
import Derived.Test.YtkhddlhhbanebaaCa16
namespace Go.Proofs.Ytkhddlhhbanebaa
open Go.Eng
set_option linter.all false

attribute [push_cast] rd
def gN (l : List UInt8) (p n : Nat) : Int := IntKind.i64.wrap (numU ((l.drop p).take n))
theorem nuOk (l : List UInt8) (p n : Nat) (h : p + n ≤ l.length) : tkE (l.drop p) false n = false ∧ nuV (l.drop p) false n = gN l p n ∧ tkL (l.drop p) false n = l.drop (p + n) := by
  obtain ⟨h1, h2, h3⟩ := tkOkN l p n h
  exact ⟨h1, by unfold nuV gN; rw [h2], h3⟩
theorem nuNo (l : List UInt8) (p n : Nat) (h : ¬ p + n ≤ l.length) (hp : p ≤ l.length) : tkE (l.drop p) false n = true ∧ nuV (l.drop p) false n = 0 ∧ tkL (l.drop p) false n = l.drop p := by
  obtain ⟨h1, h2, h3⟩ := tkNoN l p n h hp
  exact ⟨h1, by unfold nuV; rw [h2]; rfl, h3⟩
theorem numU_le (l : List UInt8) (k : Nat) (hk : k ≤ 4) (hl : l.length ≤ k) : (numU l : Int) < 4294967296 ∧ IntKind.i64.wrap (numU l) = numU l := by
  have h := numU_lt l 4 (by omega) (by omega)
  have h2 : (256 : Nat) ^ 4 = 4294967296 := by decide
  rw [h2] at h
  exact ⟨by omega, i64w (by omega)⟩
theorem nuV_bd (l : List UInt8) (e : Bool) (k : Nat) (hk : k ≤ 4) : 0 ≤ nuV l e k ∧ nuV l e k < 4294967296 := by
  have hl : (tkV l e k).length ≤ k := by unfold tkV; split <;> simp; omega
  obtain ⟨h1, h2⟩ := numU_le _ k hk hl
  unfold nuV
  rw [h2]; omega
theorem tkV_len (l : List UInt8) (e : Bool) (k : Nat) : (tkV l e k).length ≤ l.length := by unfold tkV; split <;> simp; omega
theorem tkL_len (l : List UInt8) (e : Bool) (k : Nat) : (tkL l e k).length ≤ l.length := by unfold tkL; split <;> simp
theorem tkL_8 (l : List UInt8) (e : Bool) (h : tkE l e 8 = false) : 8 + (tkL l e 8).length ≤ l.length := by
  have h2 := h
  unfold tkE at h
  simp only [Bool.or_eq_false_iff, decide_eq_false_iff_not] at h
  unfold tkL
  rw [if_neg (by rw [h2]; decide)]
  simp; omega
def loopI : Nat → List UInt8 → Bool → List Int × List UInt8 × Bool
  | 0, l, e => ([], l, e)
  | k + 1, l, e => if tkE l e 8 = true then ([nuV l e 8], tkL l e 8, true) else (nuV l e 8 :: (loopI k (tkL l e 8) (tkE l e 8)).1, (loopI k (tkL l e 8) (tkE l e 8)).2)
abbrev str (l : List UInt8) : ByteArray := ⟨l.toArray⟩
def fin (l : List UInt8) (e : Bool) (r : Rec) : Option Rec := if (e || decide (0 < l.length)) = true then none else some r
def decF (b : List UInt8) : Option Rec :=
  let k := nuV b false 1; let l := tkL b false 1; let e := tkE b false 1
  if k = 1 then
    let s := nuV l e 4; let l2 := tkL l e 4; let e2 := tkE l e 4
    let n := nuV l2 e2 2; let l3 := tkL l2 e2 2; let e3 := tkE l2 e2 2
    let r := loopI n.toNat l3 e3
    fin r.2.1 r.2.2 { zRec with kind := k, seconds := s, inflows := r.1 }
  else if k = 2 then
    let n := (nuV l e 1).toNat; let l2 := tkL l e 1; let e2 := tkE l e 1
    let l3 := tkL l2 e2 n; let e3 := tkE l2 e2 n
    fin (tkL l3 e3 2) (tkE l3 e3 2) { zRec with kind := k, link := str (tkV l2 e2 n), setting := nuV l3 e3 2 }
  else if k = 3 then
    let n := (nuV l e 1).toNat; let l2 := tkL l e 1; let e2 := tkE l e 1
    let l3 := tkL l2 e2 n; let e3 := tkE l2 e2 n
    let l4 := tkL l3 e3 4; let e4 := tkE l3 e3 4
    let l5 := tkL l4 e4 8; let e5 := tkE l4 e4 8
    let l6 := tkL l5 e5 8; let e6 := tkE l5 e5 8
    fin (tkL l6 e6 8) (tkE l6 e6 8) { zRec with kind := k, msg := ⟨str (tkV l2 e2 n), nuV l3 e3 4, nuV l4 e4 8, nuV l5 e5 8, nuV l6 e6 8⟩ }
  else if k = 4 then
    let n := (nuV l e 2).toNat; let l2 := tkL l e 2; let e2 := tkE l e 2
    fin (tkL l2 e2 n) (tkE l2 e2 n) { zRec with kind := k, text := str (tkV l2 e2 n) }
  else none
def decD (b : List UInt8) : Rec × Int := match decF b with
  | none => (zRec, 7)
  | some r => if recB r = true then (r, 0) else (zRec, 1)
theorem decD_bad {b : List UInt8} (h : decF b = none) : decD b = (zRec, 7) := by unfold decD; rw [h]
theorem decD_ok {b : List UInt8} {r : Rec} (h : decF b = some r) : decD b = if recB r = true then (r, 0) else (zRec, 1) := by unfold decD; rw [h]
theorem nu_nat (l : List UInt8) (e : Bool) (k : Nat) (hk : k ≤ 4) : ∃ n : Nat, nuV l e k = n ∧ n < 4294967296 := by
  have := nuV_bd l e k hk
  exact ⟨(nuV l e k).toNat, by omega, by omega⟩
theorem str_size (l : List UInt8) : (⟨l.toArray⟩ : ByteArray).size = l.length := by show l.toArray.size = _; simp
abbrev recZ (k s : Int) (d : DV) : List DV := [li k, li s, d, ls .empty, li 0, ls .empty, li 0, li 0, li 0, li 0, ls .empty]
theorem decD_end {b : List UInt8} {l : List UInt8} {e : Bool} {r : Rec} (h : decF b = fin l e r) (hc : e = true ∨ (0 : Int) < l.length) : decD b = (zRec, 7) := by
  refine decD_bad ?_
  rw [h]; unfold fin
  rw [if_pos]
  rcases hc with h | h
  · simp [h]
  · have : 0 < l.length := by omega
    simp [this]
theorem decD_fin {b : List UInt8} {l : List UInt8} {e : Bool} {r : Rec} (h : decF b = fin l e r) (hc : e = false ∧ (l.length : Int) ≤ 0) : decD b = if recB r = true then (r, 0) else (zRec, 1) := by
  refine decD_ok ?_
  rw [h]; unfold fin
  rw [if_neg]
  have : ¬ 0 < l.length := by omega
  simp [hc.1, this]
set_option maxHeartbeats 8000000 in
theorem decode_f (b : List UInt8) (m : Nat) (hb : b.length ≤ 1048576) : DCalls Try.prog 10 [bys b] (hget []) m (.tup [recD (decD b).1, li (decD b).2]) (hget []) := by
  refine pureC (n := 100) (rs := [.cell 2 26, .tmp 3]) (ts := [26, 30]) Try.func10 rfl (by decide) [176] (by (exact SD)) ?_
  (repeat' (first | refine swp_seq [0, 2, 3, 4, 5, 13, 15, 21, 22, 23, 34, 36, 47, 72, 80, 94] ?_ | (first | refine rF (fun hf => ?_) | refine tN ?_ | refine swp_skip ?_ | refine swp_ret ?_ | refine swp_exit ?_ | refine swp_block ?_ | refine swp_scope ?_ | refine thenK_ret ?_ | refine thenK_exit ?_ | refine blockK_normal ?_ | refine blockK_ret ?_ | refine blockK_here ?_ | refine bX ?_ | refine scopeK_normal ?_ | refine scopeK_ret ?_ | refine scopeK_exit ?_ | refine loopK_ret ?_ | refine loopK_exit ?_ | refine dF mixed ?_ | (refine cB (fun hc => ?_) (fun hc => ?_) <;> first | exact False.elim hc | exact absurd hc Bool.false_ne_true | exact absurd hc.symm Bool.false_ne_true | skip) | refine cU ?_ ?_)))
  (refine rC (fun hf => ?_))
  (refine cT [32] (number_f b false 1 1 (by omega)) (fun hf => ?_))
  (refine drun_end ?_)
  have w1 := tkL_len b false 1
  obtain ⟨D, hD⟩ : ∃ D, decF b = D := ⟨_, rfl⟩
  have hd := hD
  unfold decF at hd
  dsimp only at hd
  (repeat' (first | refine swp_seq [0, 2, 3, 4, 5, 13, 15, 21, 22, 23, 34, 36, 47, 72, 80, 94] ?_ | (first | refine rF (fun hf => ?_) | refine tN ?_ | refine swp_skip ?_ | refine swp_ret ?_ | refine swp_exit ?_ | refine swp_block ?_ | refine swp_scope ?_ | refine thenK_ret ?_ | refine thenK_exit ?_ | refine blockK_normal ?_ | refine blockK_ret ?_ | refine blockK_here ?_ | refine bX ?_ | refine scopeK_normal ?_ | refine scopeK_ret ?_ | refine scopeK_exit ?_ | refine loopK_ret ?_ | refine loopK_exit ?_ | refine dF mixed ?_ | (refine cB (fun hc => ?_) (fun hc => ?_) <;> first | exact False.elim hc | exact absurd hc Bool.false_ne_true | exact absurd hc.symm Bool.false_ne_true | skip) | refine cU ?_ ?_)))
  · rw [if_pos (by assumption)] at hd
    replace hd := hD.trans hd.symm
    simp only [zRec] at hd
    generalize nuV b false 1 = k at *
    generalize tkL b false 1 = l1 at *
    generalize tkE b false 1 = e1 at *
    (refine rC (fun hf => ?_))
    (refine cT [32] (number_f l1 e1 4 1 (by omega)) (fun hf => ?_))
    (refine drun_end ?_)
    have w_l2 := tkL_len l1 e1 4
    generalize tkL l1 e1 4 = l2 at *
    generalize tkE l1 e1 4 = e2 at *
    generalize nuV l1 e1 4 = x2 at *
    (repeat' (first | refine swp_seq [0, 2, 3, 4, 5, 13, 15, 21, 22, 23, 34, 36, 47, 72, 80, 94] ?_ | (first | refine rF (fun hf => ?_) | refine tN ?_ | refine swp_skip ?_ | refine swp_ret ?_ | refine swp_exit ?_ | refine swp_block ?_ | refine swp_scope ?_ | refine thenK_ret ?_ | refine thenK_exit ?_ | refine blockK_normal ?_ | refine blockK_ret ?_ | refine blockK_here ?_ | refine bX ?_ | refine scopeK_normal ?_ | refine scopeK_ret ?_ | refine scopeK_exit ?_ | refine loopK_ret ?_ | refine loopK_exit ?_ | refine dF mixed ?_ | (refine cB (fun hc => ?_) (fun hc => ?_) <;> first | exact False.elim hc | exact absurd hc Bool.false_ne_true | exact absurd hc.symm Bool.false_ne_true | skip) | refine cU ?_ ?_)))
    obtain ⟨n, hn, hn2⟩ := nu_nat l2 e2 2 (by omega)
    rw [hn, Int.toNat_natCast] at hd
    have w3 := tkL_len l2 e2 2
    (refine rC (fun hf => ?_))
    (refine cT [32] (number_f l2 e2 2 1 (by omega)) (fun hf => ?_))
    rw [hn]
    generalize tkL l2 e2 2 = l3 at *
    generalize tkE l2 e2 2 = e3 at *
    (refine drun_end ?_)
    (repeat' (first | refine swp_seq [0, 2, 3, 4, 5, 13, 15, 21, 22, 23, 34, 36, 47, 72, 80, 94] ?_ | (first | refine rF (fun hf => ?_) | refine tN ?_ | refine swp_skip ?_ | refine swp_ret ?_ | refine swp_exit ?_ | refine swp_block ?_ | refine swp_scope ?_ | refine thenK_ret ?_ | refine thenK_exit ?_ | refine blockK_normal ?_ | refine blockK_ret ?_ | refine blockK_here ?_ | refine bX ?_ | refine scopeK_normal ?_ | refine scopeK_ret ?_ | refine scopeK_exit ?_ | refine loopK_ret ?_ | refine loopK_exit ?_ | refine dF mixed ?_ | (refine cB (fun hc => ?_) (fun hc => ?_) <;> first | exact False.elim hc | exact absurd hc Bool.false_ne_true | exact absurd hc.symm Bool.false_ne_true | skip) | refine cU ?_ ?_)))
    refine loop_swp [2, 3, 4, 5, 21, 22] [0, 32, 72, 200] 201 (fun q A H => ∃ (acc : List Int) (j : Nat) (l : List UInt8) (e : Bool) (d : DV), j ≤ n ∧ q = j ∧ l.length ≤ b.length ∧ acc.length + j = n ∧ 8 * acc.length + l.length ≤ b.length ∧ acc ++ (loopI j l e).1 = (loopI n l3 e3).1 ∧ (loopI j l e).2 = (loopI n l3 e3).2 ∧
      ((acc = [] ∧ d = nilS ∧ H = [(0, .blk 26 (recZ 0 0 nilS)), (32, rd l e), (72, .blk 26 (recZ k x2 nilS))]) ∨ (d = .gl 200 ∧ H = [(0, .blk 26 (recZ 0 0 nilS)), (32, rd l e), (72, .blk 26 (recZ k x2 (.gl 200))), (200, inL acc)])) ∧
      A = [(2, .ptr 0 0), (3, li 0), (4, .ptr 32 0), (5, .ptr 72 0), (21, li n), (22, li (n - j))]) (by omega) ?_ ?_ ?_
    · rintro q A H ⟨acc, j, l, e, d, g1, g2, g3, g4, g5, g6, g7, g8, rfl⟩
      rcases g8 with ⟨_, _, rfl⟩ | ⟨_, rfl⟩
      · exact ⟨by (exact SD), by simp only [rd]; (exact SD)⟩
      · exact ⟨by (exact SD), by simp only [rd]; (exact SD)⟩
    · refine ⟨_, [], n, l3, e3, nilS, by omega, rfl, by omega, by simp, by simp; omega, rfl, rfl, .inl ⟨rfl, rfl, ?_⟩, ?_⟩
      · (((simp only [push_cast, reduceIte, reduceDIte, reduceCtorEq, Nat.reduceLT, Nat.reduceLeDiff, Nat.reduceEqDiff, Nat.reduceAdd, Nat.reduceMul, Nat.reduceBEq, Nat.reducePow, Int.zero_add, Int.reduceAdd, Int.reduceSub, Int.reduceLT, Int.reduceLE, Int.reduceToNat, Int.reduceNeg, Nat.reduceSub]); repeat (simp (disch := omega) only [idx_map, idx_nat, i64w]; try (simp only [push_cast, reduceIte, reduceDIte, reduceCtorEq, Nat.reduceLT, Nat.reduceLeDiff, Nat.reduceEqDiff, Nat.reduceAdd, Nat.reduceMul, Nat.reduceBEq, Nat.reducePow, Int.zero_add, Int.reduceAdd, Int.reduceSub, Int.reduceLT, Int.reduceLE, Int.reduceToNat, Int.reduceNeg, Nat.reduceSub])))); rfl
      · (((simp only [push_cast, reduceIte, reduceDIte, reduceCtorEq, Nat.reduceLT, Nat.reduceLeDiff, Nat.reduceEqDiff, Nat.reduceAdd, Nat.reduceMul, Nat.reduceBEq, Nat.reducePow, Int.zero_add, Int.reduceAdd, Int.reduceSub, Int.reduceLT, Int.reduceLE, Int.reduceToNat, Int.reduceNeg, Nat.reduceSub]); repeat (simp (disch := omega) only [idx_map, idx_nat, i64w]; try (simp only [push_cast, reduceIte, reduceDIte, reduceCtorEq, Nat.reduceLT, Nat.reduceLeDiff, Nat.reduceEqDiff, Nat.reduceAdd, Nat.reduceMul, Nat.reduceBEq, Nat.reducePow, Int.zero_add, Int.reduceAdd, Int.reduceSub, Int.reduceLT, Int.reduceLE, Int.reduceToNat, Int.reduceNeg, Nat.reduceSub])))); simp
    · rintro q A H ⟨acc, j, l, e, d, g1, g2, g3, g4, g5, g6, g7, g8, rfl⟩
      generalize loopI n l3 e3 = T at *
      obtain ⟨tv, tl, te⟩ := T
      simp only at hd g6 g7
      rcases g8 with ⟨rfl, rfl, rfl⟩ | ⟨rfl, rfl⟩
      · simp only [rd]
        (repeat' (first | refine swp_seq [0, 2, 3, 4, 5, 13, 15, 21, 22, 23, 34, 36, 47, 72, 80, 94] ?_ | (first | refine rF (fun hf => ?_) | refine tN ?_ | refine swp_skip ?_ | refine swp_ret ?_ | refine swp_exit ?_ | refine swp_block ?_ | refine swp_scope ?_ | refine thenK_ret ?_ | refine thenK_exit ?_ | refine blockK_normal ?_ | refine blockK_ret ?_ | refine blockK_here ?_ | refine bX ?_ | refine scopeK_normal ?_ | refine scopeK_ret ?_ | refine scopeK_exit ?_ | refine loopK_ret ?_ | refine loopK_exit ?_ | refine dF mixed ?_ | (refine cB (fun hc => ?_) (fun hc => ?_) <;> first | exact False.elim hc | exact absurd hc Bool.false_ne_true | exact absurd hc.symm Bool.false_ne_true | skip) | refine cU ?_ ?_)))
        · (refine xC mixed [32, 72, 5000072] ?_)
          (refine yT [32] (number_f l e 8 1 (by omega)) ?_)
          (refine xrun_end ?_)
          have wl := tkL_len l e 8
          obtain ⟨j', rfl⟩ : ∃ j', j = j' + 1 := ⟨j - 1, by omega⟩
          simp only [loopI] at g6 g7
          (repeat' (first | refine swp_seq [0, 2, 3, 4, 5, 13, 15, 21, 22, 23, 34, 36, 47, 72, 80, 94] ?_ | (first | refine rF (fun hf => ?_) | refine tN ?_ | refine swp_skip ?_ | refine swp_ret ?_ | refine swp_exit ?_ | refine swp_block ?_ | refine swp_scope ?_ | refine thenK_ret ?_ | refine thenK_exit ?_ | refine blockK_normal ?_ | refine blockK_ret ?_ | refine blockK_here ?_ | refine bX ?_ | refine scopeK_normal ?_ | refine scopeK_ret ?_ | refine scopeK_exit ?_ | refine loopK_ret ?_ | refine loopK_exit ?_ | refine dF mixed ?_ | (refine cB (fun hc => ?_) (fun hc => ?_) <;> first | exact False.elim hc | exact absurd hc Bool.false_ne_true | exact absurd hc.symm Bool.false_ne_true | skip) | refine cU ?_ ?_)))
          · rw [if_pos (by assumption)] at g7
            simp only [Prod.mk.injEq] at g7
            obtain ⟨rfl, rfl⟩ := g7
            rw [decD_end hd (.inl rfl)]
            (((simp only [push_cast, reduceIte, reduceDIte, reduceCtorEq, Nat.reduceLT, Nat.reduceLeDiff, Nat.reduceEqDiff, Nat.reduceAdd, Nat.reduceMul, Nat.reduceBEq, Nat.reducePow, Int.zero_add, Int.reduceAdd, Int.reduceSub, Int.reduceLT, Int.reduceLE, Int.reduceToNat, Int.reduceNeg, Nat.reduceSub]); repeat (simp (disch := omega) only [idx_map, idx_nat, i64w]; try (simp only [push_cast, reduceIte, reduceDIte, reduceCtorEq, Nat.reduceLT, Nat.reduceLeDiff, Nat.reduceEqDiff, Nat.reduceAdd, Nat.reduceMul, Nat.reduceBEq, Nat.reducePow, Int.zero_add, Int.reduceAdd, Int.reduceSub, Int.reduceLT, Int.reduceLE, Int.reduceToNat, Int.reduceNeg, Nat.reduceSub])))); rfl
          · exact absurd (show tkE l e 8 = true by assumption) (by rw [hc.1]; decide)
          · rw [if_neg (Bool.eq_false_iff.1 (by assumption))] at g6 g7
            (refine lR 249 200 [0, 32, 72, 249] ?_)
            have e1 : (n : Int) - ((j' : Int) + 1) + 1 = n - j' := by omega
            rw [e1]
            have w8 : 8 + (tkL l e 8).length ≤ l.length := tkL_8 l e (by assumption)
            refine ⟨_, by omega, [nuV l e 8], j', tkL l e 8, tkE l e 8, .gl 200, by omega, rfl, by omega, by clear g5; simp only [List.length_append, List.length_cons, List.length_nil] at *; omega, by clear g4; simp only [List.length_append, List.length_cons, List.length_nil] at *; omega, by rw [← g6]; simp, g7, .inr ⟨rfl, ?_⟩, rfl⟩
            simp [rows, inRow, rd, li, lb, ls, lv]
        · have hz := hc
          obtain rfl : j = 0 := by omega
          simp only [loopI, List.append_nil, Prod.mk.injEq] at g6 g7
          obtain ⟨rfl, rfl⟩ := g7
          rw [decD_end hd hz]
          (((simp only [push_cast, reduceIte, reduceDIte, reduceCtorEq, Nat.reduceLT, Nat.reduceLeDiff, Nat.reduceEqDiff, Nat.reduceAdd, Nat.reduceMul, Nat.reduceBEq, Nat.reducePow, Int.zero_add, Int.reduceAdd, Int.reduceSub, Int.reduceLT, Int.reduceLE, Int.reduceToNat, Int.reduceNeg, Nat.reduceSub]); repeat (simp (disch := omega) only [idx_map, idx_nat, i64w]; try (simp only [push_cast, reduceIte, reduceDIte, reduceCtorEq, Nat.reduceLT, Nat.reduceLeDiff, Nat.reduceEqDiff, Nat.reduceAdd, Nat.reduceMul, Nat.reduceBEq, Nat.reducePow, Int.zero_add, Int.reduceAdd, Int.reduceSub, Int.reduceLT, Int.reduceLE, Int.reduceToNat, Int.reduceNeg, Nat.reduceSub])))); rfl
        · have hz := hc
          obtain rfl : j = 0 := by omega
          simp only [loopI, List.append_nil, Prod.mk.injEq] at g6 g7
          obtain ⟨rfl, rfl⟩ := g7
          subst g6
          rw [decD_fin hd hz]
          (refine rC (fun hf => ?_))
          (refine cA (valid_f ⟨k, x2, [], .empty, 0, zMsg, .empty⟩ _ ⟨by first | (first | exact Nat.zero_le _ | (show ByteArray.size _ ≤ _; rw [str_size]; omega) | (simp only [List.length_nil]; omega) | omega) | omega, by (first | exact Nat.zero_le _ | (show ByteArray.size _ ≤ _; rw [str_size]; omega) | (simp only [List.length_nil]; omega) | omega), by (first | exact Nat.zero_le _ | (show ByteArray.size _ ≤ _; rw [str_size]; omega) | (simp only [List.length_nil]; omega) | omega), by (first | exact Nat.zero_le _ | (show ByteArray.size _ ≤ _; rw [str_size]; omega) | (simp only [List.length_nil]; omega) | omega)⟩) (fun hf => ?_))
          (refine drun_end ?_)
          (repeat' (first | refine swp_seq [0, 2, 3, 4, 5, 13, 15, 21, 22, 23, 34, 36, 47, 72, 80, 94] ?_ | (first | refine rF (fun hf => ?_) | refine tN ?_ | refine swp_skip ?_ | refine swp_ret ?_ | refine swp_exit ?_ | refine swp_block ?_ | refine swp_scope ?_ | refine thenK_ret ?_ | refine thenK_exit ?_ | refine blockK_normal ?_ | refine blockK_ret ?_ | refine blockK_here ?_ | refine bX ?_ | refine scopeK_normal ?_ | refine scopeK_ret ?_ | refine scopeK_exit ?_ | refine loopK_ret ?_ | refine loopK_exit ?_ | refine dF mixed ?_ | (refine cB (fun hc => ?_) (fun hc => ?_) <;> first | exact False.elim hc | exact absurd hc Bool.false_ne_true | exact absurd hc.symm Bool.false_ne_true | skip) | refine cU ?_ ?_)))
          · rw [if_neg (Bool.eq_false_iff.1 hc)]
            (((simp only [push_cast, reduceIte, reduceDIte, reduceCtorEq, Nat.reduceLT, Nat.reduceLeDiff, Nat.reduceEqDiff, Nat.reduceAdd, Nat.reduceMul, Nat.reduceBEq, Nat.reducePow, Int.zero_add, Int.reduceAdd, Int.reduceSub, Int.reduceLT, Int.reduceLE, Int.reduceToNat, Int.reduceNeg, Nat.reduceSub]); repeat (simp (disch := omega) only [idx_map, idx_nat, i64w]; try (simp only [push_cast, reduceIte, reduceDIte, reduceCtorEq, Nat.reduceLT, Nat.reduceLeDiff, Nat.reduceEqDiff, Nat.reduceAdd, Nat.reduceMul, Nat.reduceBEq, Nat.reducePow, Int.zero_add, Int.reduceAdd, Int.reduceSub, Int.reduceLT, Int.reduceLE, Int.reduceToNat, Int.reduceNeg, Nat.reduceSub])))); rfl
          · rw [if_pos hc]
            (((simp only [push_cast, reduceIte, reduceDIte, reduceCtorEq, Nat.reduceLT, Nat.reduceLeDiff, Nat.reduceEqDiff, Nat.reduceAdd, Nat.reduceMul, Nat.reduceBEq, Nat.reducePow, Int.zero_add, Int.reduceAdd, Int.reduceSub, Int.reduceLT, Int.reduceLE, Int.reduceToNat, Int.reduceNeg, Nat.reduceSub]); repeat (simp (disch := omega) only [idx_map, idx_nat, i64w]; try (simp only [push_cast, reduceIte, reduceDIte, reduceCtorEq, Nat.reduceLT, Nat.reduceLeDiff, Nat.reduceEqDiff, Nat.reduceAdd, Nat.reduceMul, Nat.reduceBEq, Nat.reducePow, Int.zero_add, Int.reduceAdd, Int.reduceSub, Int.reduceLT, Int.reduceLE, Int.reduceToNat, Int.reduceNeg, Nat.reduceSub])))); rfl
      · simp only [rd]
        (repeat' (first | refine swp_seq [0, 2, 3, 4, 5, 13, 15, 21, 22, 23, 34, 36, 47, 72, 80, 94] ?_ | (first | refine rF (fun hf => ?_) | refine tN ?_ | refine swp_skip ?_ | refine swp_ret ?_ | refine swp_exit ?_ | refine swp_block ?_ | refine swp_scope ?_ | refine thenK_ret ?_ | refine thenK_exit ?_ | refine blockK_normal ?_ | refine blockK_ret ?_ | refine blockK_here ?_ | refine bX ?_ | refine scopeK_normal ?_ | refine scopeK_ret ?_ | refine scopeK_exit ?_ | refine loopK_ret ?_ | refine loopK_exit ?_ | refine dF mixed ?_ | (refine cB (fun hc => ?_) (fun hc => ?_) <;> first | exact False.elim hc | exact absurd hc Bool.false_ne_true | exact absurd hc.symm Bool.false_ne_true | skip) | refine cU ?_ ?_)))
        · (refine xC mixed [32, 72, 200, 5000072, 5000200] ?_)
          (refine yT [32] (number_f l e 8 1 (by omega)) ?_)
          (refine xrun_end ?_)
          have wl := tkL_len l e 8
          obtain ⟨j', rfl⟩ : ∃ j', j = j' + 1 := ⟨j - 1, by omega⟩
          simp only [loopI] at g6 g7
          (repeat' (first | refine swp_seq [0, 2, 3, 4, 5, 13, 15, 21, 22, 23, 34, 36, 47, 72, 80, 94] ?_ | (first | refine rF (fun hf => ?_) | refine tN ?_ | refine swp_skip ?_ | refine swp_ret ?_ | refine swp_exit ?_ | refine swp_block ?_ | refine swp_scope ?_ | refine thenK_ret ?_ | refine thenK_exit ?_ | refine blockK_normal ?_ | refine blockK_ret ?_ | refine blockK_here ?_ | refine bX ?_ | refine scopeK_normal ?_ | refine scopeK_ret ?_ | refine scopeK_exit ?_ | refine loopK_ret ?_ | refine loopK_exit ?_ | refine dF mixed ?_ | (refine cB (fun hc => ?_) (fun hc => ?_) <;> first | exact False.elim hc | exact absurd hc Bool.false_ne_true | exact absurd hc.symm Bool.false_ne_true | skip) | refine cU ?_ ?_)))
          · rw [if_pos (by assumption)] at g7
            simp only [Prod.mk.injEq] at g7
            obtain ⟨rfl, rfl⟩ := g7
            rw [decD_end hd (.inl rfl)]
            (((simp only [push_cast, reduceIte, reduceDIte, reduceCtorEq, Nat.reduceLT, Nat.reduceLeDiff, Nat.reduceEqDiff, Nat.reduceAdd, Nat.reduceMul, Nat.reduceBEq, Nat.reducePow, Int.zero_add, Int.reduceAdd, Int.reduceSub, Int.reduceLT, Int.reduceLE, Int.reduceToNat, Int.reduceNeg, Nat.reduceSub]); repeat (simp (disch := omega) only [idx_map, idx_nat, i64w]; try (simp only [push_cast, reduceIte, reduceDIte, reduceCtorEq, Nat.reduceLT, Nat.reduceLeDiff, Nat.reduceEqDiff, Nat.reduceAdd, Nat.reduceMul, Nat.reduceBEq, Nat.reducePow, Int.zero_add, Int.reduceAdd, Int.reduceSub, Int.reduceLT, Int.reduceLE, Int.reduceToNat, Int.reduceNeg, Nat.reduceSub])))); rfl
          · exact absurd (show tkE l e 8 = true by assumption) (by rw [hc.1]; decide)
          · rw [if_neg (Bool.eq_false_iff.1 (by assumption))] at g6 g7
            (refine lR 249 200 [0, 32, 72, 249] ?_)
            have e1 : (n : Int) - ((j' : Int) + 1) + 1 = n - j' := by omega
            rw [e1]
            have w8 : 8 + (tkL l e 8).length ≤ l.length := tkL_8 l e (by assumption)
            refine ⟨_, by omega, acc ++ [nuV l e 8], j', tkL l e 8, tkE l e 8, .gl 200, by omega, rfl, by omega, by clear g5; simp only [List.length_append, List.length_cons, List.length_nil] at *; omega, by clear g4; simp only [List.length_append, List.length_cons, List.length_nil] at *; omega, by rw [← g6]; simp, g7, .inr ⟨rfl, ?_⟩, rfl⟩
            simp [rows, inRow, rd, li, lb, ls, lv]
        · have hz := hc
          obtain rfl : j = 0 := by omega
          simp only [loopI, List.append_nil, Prod.mk.injEq] at g6 g7
          obtain ⟨rfl, rfl⟩ := g7
          rw [decD_end hd hz]
          (((simp only [push_cast, reduceIte, reduceDIte, reduceCtorEq, Nat.reduceLT, Nat.reduceLeDiff, Nat.reduceEqDiff, Nat.reduceAdd, Nat.reduceMul, Nat.reduceBEq, Nat.reducePow, Int.zero_add, Int.reduceAdd, Int.reduceSub, Int.reduceLT, Int.reduceLE, Int.reduceToNat, Int.reduceNeg, Nat.reduceSub]); repeat (simp (disch := omega) only [idx_map, idx_nat, i64w]; try (simp only [push_cast, reduceIte, reduceDIte, reduceCtorEq, Nat.reduceLT, Nat.reduceLeDiff, Nat.reduceEqDiff, Nat.reduceAdd, Nat.reduceMul, Nat.reduceBEq, Nat.reducePow, Int.zero_add, Int.reduceAdd, Int.reduceSub, Int.reduceLT, Int.reduceLE, Int.reduceToNat, Int.reduceNeg, Nat.reduceSub])))); rfl
        · have hz := hc
          obtain rfl : j = 0 := by omega
          simp only [loopI, List.append_nil, Prod.mk.injEq] at g6 g7
          obtain ⟨rfl, rfl⟩ := g7
          subst g6
          rw [decD_fin hd hz]
          (refine sF 200 ?_)
          (refine rC (fun hf => ?_))
          (refine cA (valid_f ⟨k, x2, acc, .empty, 0, zMsg, .empty⟩ _ ⟨by first | (first | exact Nat.zero_le _ | (show ByteArray.size _ ≤ _; rw [str_size]; omega) | (simp only [List.length_nil]; omega) | omega) | omega, by (first | exact Nat.zero_le _ | (show ByteArray.size _ ≤ _; rw [str_size]; omega) | (simp only [List.length_nil]; omega) | omega), by (first | exact Nat.zero_le _ | (show ByteArray.size _ ≤ _; rw [str_size]; omega) | (simp only [List.length_nil]; omega) | omega), by (first | exact Nat.zero_le _ | (show ByteArray.size _ ≤ _; rw [str_size]; omega) | (simp only [List.length_nil]; omega) | omega)⟩) (fun hf => ?_))
          (refine drun_end ?_)
          (repeat' (first | refine swp_seq [0, 2, 3, 4, 5, 13, 15, 21, 22, 23, 34, 36, 47, 72, 80, 94] ?_ | (first | refine rF (fun hf => ?_) | refine tN ?_ | refine swp_skip ?_ | refine swp_ret ?_ | refine swp_exit ?_ | refine swp_block ?_ | refine swp_scope ?_ | refine thenK_ret ?_ | refine thenK_exit ?_ | refine blockK_normal ?_ | refine blockK_ret ?_ | refine blockK_here ?_ | refine bX ?_ | refine scopeK_normal ?_ | refine scopeK_ret ?_ | refine scopeK_exit ?_ | refine loopK_ret ?_ | refine loopK_exit ?_ | refine dF mixed ?_ | (refine cB (fun hc => ?_) (fun hc => ?_) <;> first | exact False.elim hc | exact absurd hc Bool.false_ne_true | exact absurd hc.symm Bool.false_ne_true | skip) | refine cU ?_ ?_)))
          · rw [if_neg (Bool.eq_false_iff.1 hc)]
            (((simp only [push_cast, reduceIte, reduceDIte, reduceCtorEq, Nat.reduceLT, Nat.reduceLeDiff, Nat.reduceEqDiff, Nat.reduceAdd, Nat.reduceMul, Nat.reduceBEq, Nat.reducePow, Int.zero_add, Int.reduceAdd, Int.reduceSub, Int.reduceLT, Int.reduceLE, Int.reduceToNat, Int.reduceNeg, Nat.reduceSub]); repeat (simp (disch := omega) only [idx_map, idx_nat, i64w]; try (simp only [push_cast, reduceIte, reduceDIte, reduceCtorEq, Nat.reduceLT, Nat.reduceLeDiff, Nat.reduceEqDiff, Nat.reduceAdd, Nat.reduceMul, Nat.reduceBEq, Nat.reducePow, Int.zero_add, Int.reduceAdd, Int.reduceSub, Int.reduceLT, Int.reduceLE, Int.reduceToNat, Int.reduceNeg, Nat.reduceSub])))); rfl
          · rw [if_pos hc]
            (((simp only [push_cast, reduceIte, reduceDIte, reduceCtorEq, Nat.reduceLT, Nat.reduceLeDiff, Nat.reduceEqDiff, Nat.reduceAdd, Nat.reduceMul, Nat.reduceBEq, Nat.reducePow, Int.zero_add, Int.reduceAdd, Int.reduceSub, Int.reduceLT, Int.reduceLE, Int.reduceToNat, Int.reduceNeg, Nat.reduceSub]); repeat (simp (disch := omega) only [idx_map, idx_nat, i64w]; try (simp only [push_cast, reduceIte, reduceDIte, reduceCtorEq, Nat.reduceLT, Nat.reduceLeDiff, Nat.reduceEqDiff, Nat.reduceAdd, Nat.reduceMul, Nat.reduceBEq, Nat.reducePow, Int.zero_add, Int.reduceAdd, Int.reduceSub, Int.reduceLT, Int.reduceLE, Int.reduceToNat, Int.reduceNeg, Nat.reduceSub])))); rfl
  · rw [if_neg (by assumption), if_pos (by assumption)] at hd
    replace hd := hD.trans hd.symm
    simp only [zRec] at hd
    generalize nuV b false 1 = k at *
    generalize tkL b false 1 = l1 at *
    generalize tkE b false 1 = e1 at *
    obtain ⟨n, hn, hn2⟩ := nu_nat l1 e1 1 (by omega)
    rw [hn, Int.toNat_natCast] at hd
    have w2 := tkL_len l1 e1 1
    (refine rC (fun hf => ?_))
    (refine cT [32] (number_f l1 e1 1 1 (by omega)) (fun hf => ?_))
    rw [hn]
    generalize tkL l1 e1 1 = l2 at *
    generalize tkE l1 e1 1 = e2 at *
    (refine cT [32] (take_f l2 e2 n 1 (by omega)) (fun hf => ?_))
    (refine drun_end ?_)
    have w3 := tkL_len l2 e2 n
    have w3v := tkV_len l2 e2 n
    generalize tkL l2 e2 n = l3 at *
    generalize tkE l2 e2 n = e3 at *
    generalize tkV l2 e2 n = v3 at *
    (repeat' (first | refine swp_seq [0, 2, 3, 4, 5, 13, 15, 21, 22, 23, 34, 36, 47, 72, 80, 94] ?_ | (first | refine rF (fun hf => ?_) | refine tN ?_ | refine swp_skip ?_ | refine swp_ret ?_ | refine swp_exit ?_ | refine swp_block ?_ | refine swp_scope ?_ | refine thenK_ret ?_ | refine thenK_exit ?_ | refine blockK_normal ?_ | refine blockK_ret ?_ | refine blockK_here ?_ | refine bX ?_ | refine scopeK_normal ?_ | refine scopeK_ret ?_ | refine scopeK_exit ?_ | refine loopK_ret ?_ | refine loopK_exit ?_ | refine dF mixed ?_ | (refine cB (fun hc => ?_) (fun hc => ?_) <;> first | exact False.elim hc | exact absurd hc Bool.false_ne_true | exact absurd hc.symm Bool.false_ne_true | skip) | refine cU ?_ ?_)))
    (refine rC (fun hf => ?_))
    (refine cT [32] (number_f l3 e3 2 1 (by omega)) (fun hf => ?_))
    (refine drun_end ?_)
    have w_l4 := tkL_len l3 e3 2
    generalize tkL l3 e3 2 = l4 at *
    generalize tkE l3 e3 2 = e4 at *
    generalize nuV l3 e3 2 = x4 at *
    (repeat' (first | refine swp_seq [0, 2, 3, 4, 5, 13, 15, 21, 22, 23, 34, 36, 47, 72, 80, 94] ?_ | (first | refine rF (fun hf => ?_) | refine tN ?_ | refine swp_skip ?_ | refine swp_ret ?_ | refine swp_exit ?_ | refine swp_block ?_ | refine swp_scope ?_ | refine thenK_ret ?_ | refine thenK_exit ?_ | refine blockK_normal ?_ | refine blockK_ret ?_ | refine blockK_here ?_ | refine bX ?_ | refine scopeK_normal ?_ | refine scopeK_ret ?_ | refine scopeK_exit ?_ | refine loopK_ret ?_ | refine loopK_exit ?_ | refine dF mixed ?_ | (refine cB (fun hc => ?_) (fun hc => ?_) <;> first | exact False.elim hc | exact absurd hc Bool.false_ne_true | exact absurd hc.symm Bool.false_ne_true | skip) | refine cU ?_ ?_)))
    · rw [decD_end hd hc]
      (((simp only [push_cast, reduceIte, reduceDIte, reduceCtorEq, Nat.reduceLT, Nat.reduceLeDiff, Nat.reduceEqDiff, Nat.reduceAdd, Nat.reduceMul, Nat.reduceBEq, Nat.reducePow, Int.zero_add, Int.reduceAdd, Int.reduceSub, Int.reduceLT, Int.reduceLE, Int.reduceToNat, Int.reduceNeg, Nat.reduceSub]); repeat (simp (disch := omega) only [idx_map, idx_nat, i64w]; try (simp only [push_cast, reduceIte, reduceDIte, reduceCtorEq, Nat.reduceLT, Nat.reduceLeDiff, Nat.reduceEqDiff, Nat.reduceAdd, Nat.reduceMul, Nat.reduceBEq, Nat.reducePow, Int.zero_add, Int.reduceAdd, Int.reduceSub, Int.reduceLT, Int.reduceLE, Int.reduceToNat, Int.reduceNeg, Nat.reduceSub])))); rfl
    · rw [decD_fin hd hc]
      (refine rC (fun hf => ?_))
      (refine cA (valid_f ⟨k, 0, [], str v3, x4, zMsg, .empty⟩ _ ⟨by (first | exact Nat.zero_le _ | (show ByteArray.size _ ≤ _; rw [str_size]; omega) | (simp only [List.length_nil]; omega) | omega), by (first | exact Nat.zero_le _ | (show ByteArray.size _ ≤ _; rw [str_size]; omega) | (simp only [List.length_nil]; omega) | omega), by (first | exact Nat.zero_le _ | (show ByteArray.size _ ≤ _; rw [str_size]; omega) | (simp only [List.length_nil]; omega) | omega), by (first | exact Nat.zero_le _ | (show ByteArray.size _ ≤ _; rw [str_size]; omega) | (simp only [List.length_nil]; omega) | omega)⟩) (fun hf => ?_))
      (refine drun_end ?_)
      (repeat' (first | refine swp_seq [0, 2, 3, 4, 5, 13, 15, 21, 22, 23, 34, 36, 47, 72, 80, 94] ?_ | (first | refine rF (fun hf => ?_) | refine tN ?_ | refine swp_skip ?_ | refine swp_ret ?_ | refine swp_exit ?_ | refine swp_block ?_ | refine swp_scope ?_ | refine thenK_ret ?_ | refine thenK_exit ?_ | refine blockK_normal ?_ | refine blockK_ret ?_ | refine blockK_here ?_ | refine bX ?_ | refine scopeK_normal ?_ | refine scopeK_ret ?_ | refine scopeK_exit ?_ | refine loopK_ret ?_ | refine loopK_exit ?_ | refine dF mixed ?_ | (refine cB (fun hc => ?_) (fun hc => ?_) <;> first | exact False.elim hc | exact absurd hc Bool.false_ne_true | exact absurd hc.symm Bool.false_ne_true | skip) | refine cU ?_ ?_)))
      · rw [if_neg (Bool.eq_false_iff.1 hc)]
        (((simp only [push_cast, reduceIte, reduceDIte, reduceCtorEq, Nat.reduceLT, Nat.reduceLeDiff, Nat.reduceEqDiff, Nat.reduceAdd, Nat.reduceMul, Nat.reduceBEq, Nat.reducePow, Int.zero_add, Int.reduceAdd, Int.reduceSub, Int.reduceLT, Int.reduceLE, Int.reduceToNat, Int.reduceNeg, Nat.reduceSub]); repeat (simp (disch := omega) only [idx_map, idx_nat, i64w]; try (simp only [push_cast, reduceIte, reduceDIte, reduceCtorEq, Nat.reduceLT, Nat.reduceLeDiff, Nat.reduceEqDiff, Nat.reduceAdd, Nat.reduceMul, Nat.reduceBEq, Nat.reducePow, Int.zero_add, Int.reduceAdd, Int.reduceSub, Int.reduceLT, Int.reduceLE, Int.reduceToNat, Int.reduceNeg, Nat.reduceSub])))); rfl
      · rw [if_pos hc]
        (((simp only [push_cast, reduceIte, reduceDIte, reduceCtorEq, Nat.reduceLT, Nat.reduceLeDiff, Nat.reduceEqDiff, Nat.reduceAdd, Nat.reduceMul, Nat.reduceBEq, Nat.reducePow, Int.zero_add, Int.reduceAdd, Int.reduceSub, Int.reduceLT, Int.reduceLE, Int.reduceToNat, Int.reduceNeg, Nat.reduceSub]); repeat (simp (disch := omega) only [idx_map, idx_nat, i64w]; try (simp only [push_cast, reduceIte, reduceDIte, reduceCtorEq, Nat.reduceLT, Nat.reduceLeDiff, Nat.reduceEqDiff, Nat.reduceAdd, Nat.reduceMul, Nat.reduceBEq, Nat.reducePow, Int.zero_add, Int.reduceAdd, Int.reduceSub, Int.reduceLT, Int.reduceLE, Int.reduceToNat, Int.reduceNeg, Nat.reduceSub])))); rfl
  · rw [if_neg (by assumption), if_neg (by assumption), if_pos (by assumption)] at hd
    replace hd := hD.trans hd.symm
    simp only [zRec] at hd
    generalize nuV b false 1 = k at *
    generalize tkL b false 1 = l1 at *
    generalize tkE b false 1 = e1 at *
    obtain ⟨n, hn, hn2⟩ := nu_nat l1 e1 1 (by omega)
    rw [hn, Int.toNat_natCast] at hd
    have w2 := tkL_len l1 e1 1
    (refine rC (fun hf => ?_))
    (refine cT [32] (number_f l1 e1 1 1 (by omega)) (fun hf => ?_))
    rw [hn]
    generalize tkL l1 e1 1 = l2 at *
    generalize tkE l1 e1 1 = e2 at *
    (refine cT [32] (take_f l2 e2 n 1 (by omega)) (fun hf => ?_))
    (refine drun_end ?_)
    have w3 := tkL_len l2 e2 n
    have w3v := tkV_len l2 e2 n
    generalize tkL l2 e2 n = l3 at *
    generalize tkE l2 e2 n = e3 at *
    generalize tkV l2 e2 n = v3 at *
    (repeat' (first | refine swp_seq [0, 2, 3, 4, 5, 13, 15, 21, 22, 23, 34, 36, 47, 72, 80, 94] ?_ | (first | refine rF (fun hf => ?_) | refine tN ?_ | refine swp_skip ?_ | refine swp_ret ?_ | refine swp_exit ?_ | refine swp_block ?_ | refine swp_scope ?_ | refine thenK_ret ?_ | refine thenK_exit ?_ | refine blockK_normal ?_ | refine blockK_ret ?_ | refine blockK_here ?_ | refine bX ?_ | refine scopeK_normal ?_ | refine scopeK_ret ?_ | refine scopeK_exit ?_ | refine loopK_ret ?_ | refine loopK_exit ?_ | refine dF mixed ?_ | (refine cB (fun hc => ?_) (fun hc => ?_) <;> first | exact False.elim hc | exact absurd hc Bool.false_ne_true | exact absurd hc.symm Bool.false_ne_true | skip) | refine cU ?_ ?_)))
    (refine rC (fun hf => ?_))
    (refine cT [32] (number_f l3 e3 4 1 (by omega)) (fun hf => ?_))
    (refine drun_end ?_)
    have w_l4 := tkL_len l3 e3 4
    generalize tkL l3 e3 4 = l4 at *
    generalize tkE l3 e3 4 = e4 at *
    generalize nuV l3 e3 4 = x4 at *
    (repeat' (first | refine swp_seq [0, 2, 3, 4, 5, 13, 15, 21, 22, 23, 34, 36, 47, 72, 80, 94] ?_ | (first | refine rF (fun hf => ?_) | refine tN ?_ | refine swp_skip ?_ | refine swp_ret ?_ | refine swp_exit ?_ | refine swp_block ?_ | refine swp_scope ?_ | refine thenK_ret ?_ | refine thenK_exit ?_ | refine blockK_normal ?_ | refine blockK_ret ?_ | refine blockK_here ?_ | refine bX ?_ | refine scopeK_normal ?_ | refine scopeK_ret ?_ | refine scopeK_exit ?_ | refine loopK_ret ?_ | refine loopK_exit ?_ | refine dF mixed ?_ | (refine cB (fun hc => ?_) (fun hc => ?_) <;> first | exact False.elim hc | exact absurd hc Bool.false_ne_true | exact absurd hc.symm Bool.false_ne_true | skip) | refine cU ?_ ?_)))
    (refine rC (fun hf => ?_))
    (refine cT [32] (number_f l4 e4 8 1 (by omega)) (fun hf => ?_))
    have w_l5 := tkL_len l4 e4 8
    generalize tkL l4 e4 8 = l5 at *
    generalize tkE l4 e4 8 = e5 at *
    generalize nuV l4 e4 8 = x5 at *
    (refine cT [32] (number_f l5 e5 8 1 (by omega)) (fun hf => ?_))
    have w_l6 := tkL_len l5 e5 8
    generalize tkL l5 e5 8 = l6 at *
    generalize tkE l5 e5 8 = e6 at *
    generalize nuV l5 e5 8 = x6 at *
    (refine cT [32] (number_f l6 e6 8 1 (by omega)) (fun hf => ?_))
    have w_l7 := tkL_len l6 e6 8
    generalize tkL l6 e6 8 = l7 at *
    generalize tkE l6 e6 8 = e7 at *
    generalize nuV l6 e6 8 = x7 at *
    (refine drun_end ?_)
    (repeat' (first | refine swp_seq [0, 2, 3, 4, 5, 13, 15, 21, 22, 23, 34, 36, 47, 72, 80, 94] ?_ | (first | refine rF (fun hf => ?_) | refine tN ?_ | refine swp_skip ?_ | refine swp_ret ?_ | refine swp_exit ?_ | refine swp_block ?_ | refine swp_scope ?_ | refine thenK_ret ?_ | refine thenK_exit ?_ | refine blockK_normal ?_ | refine blockK_ret ?_ | refine blockK_here ?_ | refine bX ?_ | refine scopeK_normal ?_ | refine scopeK_ret ?_ | refine scopeK_exit ?_ | refine loopK_ret ?_ | refine loopK_exit ?_ | refine dF mixed ?_ | (refine cB (fun hc => ?_) (fun hc => ?_) <;> first | exact False.elim hc | exact absurd hc Bool.false_ne_true | exact absurd hc.symm Bool.false_ne_true | skip) | refine cU ?_ ?_)))
    · rw [decD_end hd hc]
      (((simp only [push_cast, reduceIte, reduceDIte, reduceCtorEq, Nat.reduceLT, Nat.reduceLeDiff, Nat.reduceEqDiff, Nat.reduceAdd, Nat.reduceMul, Nat.reduceBEq, Nat.reducePow, Int.zero_add, Int.reduceAdd, Int.reduceSub, Int.reduceLT, Int.reduceLE, Int.reduceToNat, Int.reduceNeg, Nat.reduceSub]); repeat (simp (disch := omega) only [idx_map, idx_nat, i64w]; try (simp only [push_cast, reduceIte, reduceDIte, reduceCtorEq, Nat.reduceLT, Nat.reduceLeDiff, Nat.reduceEqDiff, Nat.reduceAdd, Nat.reduceMul, Nat.reduceBEq, Nat.reducePow, Int.zero_add, Int.reduceAdd, Int.reduceSub, Int.reduceLT, Int.reduceLE, Int.reduceToNat, Int.reduceNeg, Nat.reduceSub])))); rfl
    · rw [decD_fin hd hc]
      (refine rC (fun hf => ?_))
      (refine cA (valid_f ⟨k, 0, [], .empty, 0, ⟨str v3, x4, x5, x6, x7⟩, .empty⟩ _ ⟨by (first | exact Nat.zero_le _ | (show ByteArray.size _ ≤ _; rw [str_size]; omega) | (simp only [List.length_nil]; omega) | omega), by (first | exact Nat.zero_le _ | (show ByteArray.size _ ≤ _; rw [str_size]; omega) | (simp only [List.length_nil]; omega) | omega), by (first | exact Nat.zero_le _ | (show ByteArray.size _ ≤ _; rw [str_size]; omega) | (simp only [List.length_nil]; omega) | omega), by (first | exact Nat.zero_le _ | (show ByteArray.size _ ≤ _; rw [str_size]; omega) | (simp only [List.length_nil]; omega) | omega)⟩) (fun hf => ?_))
      (refine drun_end ?_)
      (repeat' (first | refine swp_seq [0, 2, 3, 4, 5, 13, 15, 21, 22, 23, 34, 36, 47, 72, 80, 94] ?_ | (first | refine rF (fun hf => ?_) | refine tN ?_ | refine swp_skip ?_ | refine swp_ret ?_ | refine swp_exit ?_ | refine swp_block ?_ | refine swp_scope ?_ | refine thenK_ret ?_ | refine thenK_exit ?_ | refine blockK_normal ?_ | refine blockK_ret ?_ | refine blockK_here ?_ | refine bX ?_ | refine scopeK_normal ?_ | refine scopeK_ret ?_ | refine scopeK_exit ?_ | refine loopK_ret ?_ | refine loopK_exit ?_ | refine dF mixed ?_ | (refine cB (fun hc => ?_) (fun hc => ?_) <;> first | exact False.elim hc | exact absurd hc Bool.false_ne_true | exact absurd hc.symm Bool.false_ne_true | skip) | refine cU ?_ ?_)))
      · rw [if_neg (Bool.eq_false_iff.1 hc)]
        (((simp only [push_cast, reduceIte, reduceDIte, reduceCtorEq, Nat.reduceLT, Nat.reduceLeDiff, Nat.reduceEqDiff, Nat.reduceAdd, Nat.reduceMul, Nat.reduceBEq, Nat.reducePow, Int.zero_add, Int.reduceAdd, Int.reduceSub, Int.reduceLT, Int.reduceLE, Int.reduceToNat, Int.reduceNeg, Nat.reduceSub]); repeat (simp (disch := omega) only [idx_map, idx_nat, i64w]; try (simp only [push_cast, reduceIte, reduceDIte, reduceCtorEq, Nat.reduceLT, Nat.reduceLeDiff, Nat.reduceEqDiff, Nat.reduceAdd, Nat.reduceMul, Nat.reduceBEq, Nat.reducePow, Int.zero_add, Int.reduceAdd, Int.reduceSub, Int.reduceLT, Int.reduceLE, Int.reduceToNat, Int.reduceNeg, Nat.reduceSub])))); rfl
      · rw [if_pos hc]
        (((simp only [push_cast, reduceIte, reduceDIte, reduceCtorEq, Nat.reduceLT, Nat.reduceLeDiff, Nat.reduceEqDiff, Nat.reduceAdd, Nat.reduceMul, Nat.reduceBEq, Nat.reducePow, Int.zero_add, Int.reduceAdd, Int.reduceSub, Int.reduceLT, Int.reduceLE, Int.reduceToNat, Int.reduceNeg, Nat.reduceSub]); repeat (simp (disch := omega) only [idx_map, idx_nat, i64w]; try (simp only [push_cast, reduceIte, reduceDIte, reduceCtorEq, Nat.reduceLT, Nat.reduceLeDiff, Nat.reduceEqDiff, Nat.reduceAdd, Nat.reduceMul, Nat.reduceBEq, Nat.reducePow, Int.zero_add, Int.reduceAdd, Int.reduceSub, Int.reduceLT, Int.reduceLE, Int.reduceToNat, Int.reduceNeg, Nat.reduceSub])))); rfl
  · rw [if_neg (by assumption), if_neg (by assumption), if_neg (by assumption), if_pos (by assumption)] at hd
    replace hd := hD.trans hd.symm
    simp only [zRec] at hd
    generalize nuV b false 1 = k at *
    generalize tkL b false 1 = l1 at *
    generalize tkE b false 1 = e1 at *
    obtain ⟨n, hn, hn2⟩ := nu_nat l1 e1 2 (by omega)
    rw [hn, Int.toNat_natCast] at hd
    have w2 := tkL_len l1 e1 2
    (refine rC (fun hf => ?_))
    (refine cT [32] (number_f l1 e1 2 1 (by omega)) (fun hf => ?_))
    rw [hn]
    generalize tkL l1 e1 2 = l2 at *
    generalize tkE l1 e1 2 = e2 at *
    (refine cT [32] (take_f l2 e2 n 1 (by omega)) (fun hf => ?_))
    (refine drun_end ?_)
    have w3 := tkL_len l2 e2 n
    have w3v := tkV_len l2 e2 n
    generalize tkL l2 e2 n = l3 at *
    generalize tkE l2 e2 n = e3 at *
    generalize tkV l2 e2 n = v3 at *
    (repeat' (first | refine swp_seq [0, 2, 3, 4, 5, 13, 15, 21, 22, 23, 34, 36, 47, 72, 80, 94] ?_ | (first | refine rF (fun hf => ?_) | refine tN ?_ | refine swp_skip ?_ | refine swp_ret ?_ | refine swp_exit ?_ | refine swp_block ?_ | refine swp_scope ?_ | refine thenK_ret ?_ | refine thenK_exit ?_ | refine blockK_normal ?_ | refine blockK_ret ?_ | refine blockK_here ?_ | refine bX ?_ | refine scopeK_normal ?_ | refine scopeK_ret ?_ | refine scopeK_exit ?_ | refine loopK_ret ?_ | refine loopK_exit ?_ | refine dF mixed ?_ | (refine cB (fun hc => ?_) (fun hc => ?_) <;> first | exact False.elim hc | exact absurd hc Bool.false_ne_true | exact absurd hc.symm Bool.false_ne_true | skip) | refine cU ?_ ?_)))
    · rw [decD_end hd hc]
      (((simp only [push_cast, reduceIte, reduceDIte, reduceCtorEq, Nat.reduceLT, Nat.reduceLeDiff, Nat.reduceEqDiff, Nat.reduceAdd, Nat.reduceMul, Nat.reduceBEq, Nat.reducePow, Int.zero_add, Int.reduceAdd, Int.reduceSub, Int.reduceLT, Int.reduceLE, Int.reduceToNat, Int.reduceNeg, Nat.reduceSub]); repeat (simp (disch := omega) only [idx_map, idx_nat, i64w]; try (simp only [push_cast, reduceIte, reduceDIte, reduceCtorEq, Nat.reduceLT, Nat.reduceLeDiff, Nat.reduceEqDiff, Nat.reduceAdd, Nat.reduceMul, Nat.reduceBEq, Nat.reducePow, Int.zero_add, Int.reduceAdd, Int.reduceSub, Int.reduceLT, Int.reduceLE, Int.reduceToNat, Int.reduceNeg, Nat.reduceSub])))); rfl
    · rw [decD_fin hd hc]
      (refine rC (fun hf => ?_))
      (refine cA (valid_f ⟨k, 0, [], .empty, 0, zMsg, str v3⟩ _ ⟨by (first | exact Nat.zero_le _ | (show ByteArray.size _ ≤ _; rw [str_size]; omega) | (simp only [List.length_nil]; omega) | omega), by (first | exact Nat.zero_le _ | (show ByteArray.size _ ≤ _; rw [str_size]; omega) | (simp only [List.length_nil]; omega) | omega), by (first | exact Nat.zero_le _ | (show ByteArray.size _ ≤ _; rw [str_size]; omega) | (simp only [List.length_nil]; omega) | omega), by (first | exact Nat.zero_le _ | (show ByteArray.size _ ≤ _; rw [str_size]; omega) | (simp only [List.length_nil]; omega) | omega)⟩) (fun hf => ?_))
      (refine drun_end ?_)
      (repeat' (first | refine swp_seq [0, 2, 3, 4, 5, 13, 15, 21, 22, 23, 34, 36, 47, 72, 80, 94] ?_ | (first | refine rF (fun hf => ?_) | refine tN ?_ | refine swp_skip ?_ | refine swp_ret ?_ | refine swp_exit ?_ | refine swp_block ?_ | refine swp_scope ?_ | refine thenK_ret ?_ | refine thenK_exit ?_ | refine blockK_normal ?_ | refine blockK_ret ?_ | refine blockK_here ?_ | refine bX ?_ | refine scopeK_normal ?_ | refine scopeK_ret ?_ | refine scopeK_exit ?_ | refine loopK_ret ?_ | refine loopK_exit ?_ | refine dF mixed ?_ | (refine cB (fun hc => ?_) (fun hc => ?_) <;> first | exact False.elim hc | exact absurd hc Bool.false_ne_true | exact absurd hc.symm Bool.false_ne_true | skip) | refine cU ?_ ?_)))
      · rw [if_neg (Bool.eq_false_iff.1 hc)]
        (((simp only [push_cast, reduceIte, reduceDIte, reduceCtorEq, Nat.reduceLT, Nat.reduceLeDiff, Nat.reduceEqDiff, Nat.reduceAdd, Nat.reduceMul, Nat.reduceBEq, Nat.reducePow, Int.zero_add, Int.reduceAdd, Int.reduceSub, Int.reduceLT, Int.reduceLE, Int.reduceToNat, Int.reduceNeg, Nat.reduceSub]); repeat (simp (disch := omega) only [idx_map, idx_nat, i64w]; try (simp only [push_cast, reduceIte, reduceDIte, reduceCtorEq, Nat.reduceLT, Nat.reduceLeDiff, Nat.reduceEqDiff, Nat.reduceAdd, Nat.reduceMul, Nat.reduceBEq, Nat.reducePow, Int.zero_add, Int.reduceAdd, Int.reduceSub, Int.reduceLT, Int.reduceLE, Int.reduceToNat, Int.reduceNeg, Nat.reduceSub])))); rfl
      · rw [if_pos hc]
        (((simp only [push_cast, reduceIte, reduceDIte, reduceCtorEq, Nat.reduceLT, Nat.reduceLeDiff, Nat.reduceEqDiff, Nat.reduceAdd, Nat.reduceMul, Nat.reduceBEq, Nat.reducePow, Int.zero_add, Int.reduceAdd, Int.reduceSub, Int.reduceLT, Int.reduceLE, Int.reduceToNat, Int.reduceNeg, Nat.reduceSub]); repeat (simp (disch := omega) only [idx_map, idx_nat, i64w]; try (simp only [push_cast, reduceIte, reduceDIte, reduceCtorEq, Nat.reduceLT, Nat.reduceLeDiff, Nat.reduceEqDiff, Nat.reduceAdd, Nat.reduceMul, Nat.reduceBEq, Nat.reducePow, Int.zero_add, Int.reduceAdd, Int.reduceSub, Int.reduceLT, Int.reduceLE, Int.reduceToNat, Int.reduceNeg, Nat.reduceSub])))); rfl
  · rw [if_neg (by assumption), if_neg (by assumption), if_neg (by assumption), if_neg (by assumption)] at hd
    rw [decD_bad (hD.trans hd.symm)]
    (((simp only [push_cast, reduceIte, reduceDIte, reduceCtorEq, Nat.reduceLT, Nat.reduceLeDiff, Nat.reduceEqDiff, Nat.reduceAdd, Nat.reduceMul, Nat.reduceBEq, Nat.reducePow, Int.zero_add, Int.reduceAdd, Int.reduceSub, Int.reduceLT, Int.reduceLE, Int.reduceToNat, Int.reduceNeg, Nat.reduceSub]); repeat (simp (disch := omega) only [idx_map, idx_nat, i64w]; try (simp only [push_cast, reduceIte, reduceDIte, reduceCtorEq, Nat.reduceLT, Nat.reduceLeDiff, Nat.reduceEqDiff, Nat.reduceAdd, Nat.reduceMul, Nat.reduceBEq, Nat.reducePow, Int.zero_add, Int.reduceAdd, Int.reduceSub, Int.reduceLT, Int.reduceLE, Int.reduceToNat, Int.reduceNeg, Nat.reduceSub])))); rfl

end Go.Proofs.Ytkhddlhhbanebaa
