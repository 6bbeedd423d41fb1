/-
  Contracts of functions of the program, over the engine.
  No condition.
-/
import Derived.Test.YtkhddlhhbanebaaCa17
namespace Go.Proofs.Ytkhddlhhbanebaa
open Go.Eng
set_option linter.all false

theorem gN_nat (b : List UInt8) (p n : Nat) (hn : n ≤ 4) : ∃ m : Nat, gN b p n = m ∧ m < 4294967296 := by
  obtain ⟨h1, h2⟩ := numU_le ((b.drop p).take n) n hn (by simp; omega)
  exact ⟨_, by unfold gN; exact h2, by omega⟩
theorem tnG (b : List UInt8) (a : Int) (p n : Nat) (ha : a = p) (h : p + n ≤ b.length) : tnV b a n = gN b p n ∧ tnOk b a n = true := by
  subst ha
  have h1 : tnOk b p n = true := by unfold tnOk; simp; omega
  refine ⟨?_, h1⟩
  unfold tnV gN
  rw [h1, if_pos rfl, Int.toNat_natCast]
theorem tnB (b : List UInt8) (a : Int) (p n : Nat) (ha : a = p) (h : ¬ p + n ≤ b.length) : tnV b a n = 0 ∧ tnOk b a n = false := by
  subst ha
  have h1 : tnOk b p n = false := by unfold tnOk; simp; omega
  exact ⟨by unfold tnV; rw [h1]; rfl, h1⟩
theorem gN_one (b : List UInt8) (h : 1 ≤ b.length) : gN b 0 1 = ((b.getD 0 default).toNat : Int) := by
  cases b with
  | nil => simp at h
  | cons c t =>
    have := u8lt c
    unfold gN numU
    have e : List.foldl numStep 0 (List.take 1 (List.drop 0 (c :: t))) = c.toNat := by simp [numStep]
    rw [e]
    exact i64w (by omega)
def decI (b : List UInt8) : Option Rec :=
  if gN b 0 1 = 1 then
    if 7 ≤ b.length ∧ (b.length : Int) = 7 + 8 * gN b 5 2 then some { zRec with kind := gN b 0 1, seconds := gN b 1 4, inflows := (List.range (gN b 5 2).toNat).map fun i => gN b (7 + 8 * i) 8 } else none
  else if gN b 0 1 = 2 then
    if 2 ≤ b.length ∧ (b.length : Int) = 4 + gN b 1 1 then some { zRec with kind := gN b 0 1, link := str ((b.drop 2).take (gN b 1 1).toNat), setting := gN b (2 + (gN b 1 1).toNat) 2 } else none
  else if gN b 0 1 = 3 then
    if 2 ≤ b.length ∧ (b.length : Int) = 30 + gN b 1 1 then some { zRec with kind := gN b 0 1, msg := ⟨str ((b.drop 2).take (gN b 1 1).toNat), gN b (2 + (gN b 1 1).toNat) 4, gN b (2 + (gN b 1 1).toNat + 4) 8, gN b (2 + (gN b 1 1).toNat + 12) 8, gN b (2 + (gN b 1 1).toNat + 20) 8⟩ } else none
  else if gN b 0 1 = 4 then
    if 3 ≤ b.length ∧ (b.length : Int) = 3 + gN b 1 2 then some { zRec with kind := gN b 0 1, text := str (b.drop 3) } else none
  else none
theorem fin_end (l : List UInt8) (r : Rec) : fin l true r = none := by unfold fin; simp
theorem fin_ne {l : List UInt8} {e : Bool} (r : Rec) (h : 0 < l.length) : fin l e r = none := by unfold fin; simp [h]
theorem fin_ok {l : List UInt8} (r : Rec) (h : l.length = 0) : fin l false r = some r := by unfold fin; simp [h]
theorem loopI_ok (b : List UInt8) : ∀ (j p : Nat), p + 8 * j ≤ b.length → loopI j (b.drop p) false = ((List.range j).map fun i => gN b (p + 8 * i) 8, b.drop (p + 8 * j), false) := by
  intro j
  induction j with
  | zero => intro p _; rfl
  | succ j ih =>
    intro p h
    obtain ⟨h1, h2, h3⟩ := nuOk b p 8 (by omega)
    rw [loopI, if_neg (by rw [h1]; decide), h1, h2, h3, ih (p + 8) (by omega), List.range_succ_eq_map]
    simp only [List.map_cons, List.map_map, Nat.mul_zero, Nat.add_zero]
    refine Prod.ext ?_ (Prod.ext ?_ rfl)
    · simp only [List.cons.injEq, true_and]
      refine List.map_congr_left fun i _ => ?_
      simp only [Function.comp]
      rw [show p + 8 * Nat.succ i = p + 8 + 8 * i by omega]
    · simp only
      rw [show p + 8 * (j + 1) = p + 8 + 8 * j by omega]
theorem loopI_no (b : List UInt8) : ∀ (j p : Nat), p ≤ b.length → ¬ p + 8 * j ≤ b.length → (loopI j (b.drop p) false).2.2 = true := by
  intro j
  induction j with
  | zero => intro p h1 h2; omega
  | succ j ih =>
    intro p hp h
    by_cases h8 : p + 8 ≤ b.length
    · obtain ⟨h1, h2, h3⟩ := nuOk b p 8 h8
      rw [loopI, if_neg (by rw [h1]; decide), h1, h3]
      exact ih (p + 8) h8 (by omega)
    · obtain ⟨h1, _, _⟩ := nuNo b p 8 h8 hp
      rw [loopI, if_pos h1]
theorem tkEnd (l : List UInt8) (n : Nat) : tkE l true n = true := rfl
theorem decF_I (b : List UInt8) (h : 1 ≤ b.length) : decF b = decI b := by
  obtain ⟨a1, a2, a3⟩ := nuOk b 0 1 (by omega)
  simp only [List.drop_zero, Nat.zero_add] at a1 a2 a3
  unfold decF decI
  dsimp only
  rw [a1, a2, a3]
  split
  · by_cases h5 : 5 ≤ b.length
    · obtain ⟨b1, b2, b3⟩ := nuOk b 1 4 (by omega)
      rw [b1, b2, b3]
      by_cases h7 : 7 ≤ b.length
      · obtain ⟨c1, c2, c3⟩ := nuOk b 5 2 (by omega)
        obtain ⟨n, hn, _⟩ := gN_nat b 5 2 (by omega)
        rw [c1, c2, c3, hn, Int.toNat_natCast]
        by_cases hl : 7 + 8 * n ≤ b.length
        · rw [loopI_ok b n 7 (by omega)]
          by_cases he : (b.length : Int) = 7 + 8 * n
          · rw [if_pos ⟨h7, he⟩]
            exact fin_ok _ (by simp; omega)
          · rw [if_neg (fun k => he k.2)]
            exact fin_ne _ (by simp; omega)
        · rw [loopI_no b n 7 (by omega) hl, if_neg (by omega)]
          exact fin_end _ _
      · obtain ⟨c1, c2, c3⟩ := nuNo b 5 2 (by omega) (by omega)
        rw [c1, c2, if_neg (fun k => h7 k.1)]
        exact fin_end _ _
    · obtain ⟨b1, b2, b3⟩ := nuNo b 1 4 (by omega) (by omega)
      rw [b1, b3, if_neg (fun k => by omega)]
      rw [(rdEnd _ 2).1, (rdEnd _ 2).2.1]
      exact fin_end _ _
  · split
    · by_cases h2 : 2 ≤ b.length
      · obtain ⟨b1, b2, b3⟩ := nuOk b 1 1 (by omega)
        obtain ⟨n, hn, _⟩ := gN_nat b 1 1 (by omega)
        rw [b1, b2, b3, hn, Int.toNat_natCast]
        by_cases h3 : 2 + n ≤ b.length
        · obtain ⟨c1, c2, c3⟩ := tkOkN b 2 n h3
          rw [c1, c2, c3]
          by_cases h4 : 2 + n + 2 ≤ b.length
          · obtain ⟨d1, d2, d3⟩ := nuOk b (2 + n) 2 h4
            rw [d1, d2, d3]
            by_cases he : (b.length : Int) = 4 + n
            · rw [if_pos ⟨h2, he⟩]
              exact fin_ok _ (by simp; omega)
            · rw [if_neg (fun k => he k.2)]
              exact fin_ne _ (by simp; omega)
          · obtain ⟨d1, _, _⟩ := nuNo b (2 + n) 2 h4 h3
            rw [d1, if_neg (by omega)]
            exact fin_end _ _
        · obtain ⟨c1, _, _⟩ := tkNoN b 2 n h3 h2
          rw [c1, if_neg (by omega)]
          exact fin_end _ _
      · obtain ⟨b1, _, _⟩ := nuNo b 1 1 (by omega) (by omega)
        rw [b1, if_neg (fun k => h2 k.1)]
        exact fin_end _ _
    · split
      · by_cases h2 : 2 ≤ b.length
        · obtain ⟨b1, b2, b3⟩ := nuOk b 1 1 (by omega)
          obtain ⟨n, hn, _⟩ := gN_nat b 1 1 (by omega)
          rw [b1, b2, b3, hn, Int.toNat_natCast]
          by_cases h3 : 2 + n ≤ b.length
          · obtain ⟨c1, c2, c3⟩ := tkOkN b 2 n h3
            rw [c1, c2, c3]
            by_cases h4 : 2 + n + 4 ≤ b.length
            · obtain ⟨d1, d2, d3⟩ := nuOk b (2 + n) 4 h4
              rw [d1, d2, d3]
              by_cases h5 : 2 + n + 12 ≤ b.length
              · obtain ⟨e1, e2, e3⟩ := nuOk b (2 + n + 4) 8 (by omega)
                rw [e1, e2, e3]
                by_cases h6 : 2 + n + 20 ≤ b.length
                · obtain ⟨f1, f2, f3⟩ := nuOk b (2 + n + 4 + 8) 8 (by omega)
                  rw [f1, f2, f3]
                  by_cases h7 : 2 + n + 28 ≤ b.length
                  · obtain ⟨g1, g2, g3⟩ := nuOk b (2 + n + 4 + 8 + 8) 8 (by omega)
                    rw [g1, g2, g3]
                    by_cases he : (b.length : Int) = 30 + n
                    · rw [if_pos ⟨h2, he⟩]
                      exact fin_ok _ (by simp; omega)
                    · rw [if_neg (fun k => he k.2)]
                      exact fin_ne _ (by simp; omega)
                  · obtain ⟨d1, _, _⟩ := nuNo b (2 + n + 4 + 8 + 8) 8 (by omega) (by omega)
                    rw [d1, if_neg (by omega)]
                    exact fin_end _ _
                · obtain ⟨d1, _, _⟩ := nuNo b (2 + n + 4 + 8) 8 (by omega) (by omega)
                  rw [d1, if_neg (by omega)]
                  exact fin_end _ _
              · obtain ⟨d1, _, _⟩ := nuNo b (2 + n + 4) 8 (by omega) (by omega)
                rw [d1, if_neg (by omega)]
                exact fin_end _ _
            · obtain ⟨d1, _, _⟩ := nuNo b (2 + n) 4 h4 h3
              rw [d1, if_neg (by omega)]
              exact fin_end _ _
          · obtain ⟨c1, _, _⟩ := tkNoN b 2 n h3 h2
            rw [c1, if_neg (by omega)]
            exact fin_end _ _
        · obtain ⟨b1, _, _⟩ := nuNo b 1 1 (by omega) (by omega)
          rw [b1, if_neg (fun k => h2 k.1)]
          exact fin_end _ _
      · split
        · by_cases h3 : 3 ≤ b.length
          · obtain ⟨b1, b2, b3⟩ := nuOk b 1 2 (by omega)
            obtain ⟨n, hn, _⟩ := gN_nat b 1 2 (by omega)
            rw [b1, b2, b3, hn, Int.toNat_natCast]
            by_cases h4 : 3 + n ≤ b.length
            · obtain ⟨c1, c2, c3⟩ := tkOkN b 3 n h4
              rw [c1, c2, c3]
              by_cases he : (b.length : Int) = 3 + n
              · rw [if_pos ⟨h3, he⟩, List.take_of_length_le (by simp; omega)]
                exact fin_ok _ (by simp; omega)
              · rw [if_neg (fun k => he k.2)]
                exact fin_ne _ (by simp; omega)
            · obtain ⟨c1, _, _⟩ := tkNoN b 3 n h4 h3
              rw [c1, if_neg (by omega)]
              exact fin_end _ _
          · obtain ⟨b1, _, _⟩ := nuNo b 1 2 (by omega) (by omega)
            rw [b1, if_neg (fun k => h3 k.1)]
            exact fin_end _ _
        · rfl
theorem decF_nil : decF [] = none := by
  have h := rdEnd
  unfold decF
  have e1 : nuV [] false 1 = 0 := by unfold nuV; rfl
  dsimp only
  rw [e1]; rfl
theorem tnV_nat (b : List UInt8) (a : Int) (p n : Nat) (ha : a = p) (hn : n ≤ 4) : ∃ m : Nat, tnV b a n = m ∧ m < 4294967296 := by
  by_cases h : p + n ≤ b.length
  · rw [(tnG b a p n ha h).1]; exact gN_nat b p n hn
  · rw [(tnB b a p n ha h).1]; exact ⟨0, rfl, by omega⟩
set_option maxHeartbeats 8000000 in
theorem rdecode_f (b : List UInt8) (m : Nat) (hb : b.length ≤ 1048576) : DCalls Try.prog 11 [bys b] (hget []) m (.tup [recD (decD b).1, li (decD b).2]) (hget []) := by
  have hd := decF_I b
  unfold decI at hd
  simp only [zRec] at hd
  refine pureC (n := 196) (rs := [.cell 2 26, .tmp 3]) (ts := [26, 3]) Try.func11 rfl (by decide) [] (by (exact SD)) ?_
  (repeat' (first | refine swp_seq [0, 2, 3, 4, 5, 6, 7, 8, 9, 10, 11, 12, 14, 15, 16, 17, 18, 19, 22, 30, 31, 62, 79, 94, 109, 124, 168, 183, 189, 193] ?_ | (first | refine rF (fun hf => ?_) | refine tN ?_ | refine swp_skip ?_ | refine swp_ret ?_ | refine swp_exit ?_ | refine swp_block ?_ | refine swp_scope ?_ | refine thenK_ret ?_ | refine thenK_exit ?_ | refine blockK_normal ?_ | refine blockK_ret ?_ | refine blockK_here ?_ | refine bX ?_ | refine scopeK_normal ?_ | refine scopeK_ret ?_ | refine scopeK_exit ?_ | refine loopK_ret ?_ | refine loopK_exit ?_ | refine dF mixed ?_ | (refine cB (fun hc => ?_) (fun hc => ?_) <;> first | exact False.elim hc | exact absurd hc Bool.false_ne_true | exact absurd hc.symm Bool.false_ne_true | skip) | refine cU ?_ ?_)))
  · have : b = [] := List.eq_nil_of_length_eq_zero (by omega)
    subst this
    rw [decD_bad decF_nil]
    (((simp only [push_cast, reduceIte, reduceDIte, reduceCtorEq, Nat.reduceLT, Nat.reduceLeDiff, Nat.reduceEqDiff, Nat.reduceAdd, Nat.reduceMul, Nat.reduceBEq, Nat.reducePow, Int.zero_add, Int.reduceAdd, Int.reduceSub, Int.reduceLT, Int.reduceLE, Int.reduceToNat, Int.reduceNeg, Nat.reduceSub]); repeat (simp (disch := omega) only [idx_map, idx_nat, i64w]; try (simp only [push_cast, reduceIte, reduceDIte, reduceCtorEq, Nat.reduceLT, Nat.reduceLeDiff, Nat.reduceEqDiff, Nat.reduceAdd, Nat.reduceMul, Nat.reduceBEq, Nat.reducePow, Int.zero_add, Int.reduceAdd, Int.reduceSub, Int.reduceLT, Int.reduceLE, Int.reduceToNat, Int.reduceNeg, Nat.reduceSub])))); rfl
  · have h1 : 1 ≤ b.length := by omega
    replace hd := hd h1
    rw [gN_one b h1, if_pos (by assumption)] at hd
    (refine rC (fun hf => ?_))
    (refine cA (rtake_f b 1 4 _ (by omega) (by omega) (by omega)) (fun hf => ?_))
    (refine drun_end ?_)
    (repeat' (first | refine swp_seq [0, 2, 3, 4, 5, 6, 7, 8, 9, 10, 11, 12, 14, 15, 16, 17, 18, 19, 22, 30, 31, 62, 79, 94, 109, 124, 168, 183, 189, 193] ?_ | (first | refine rF (fun hf => ?_) | refine tN ?_ | refine swp_skip ?_ | refine swp_ret ?_ | refine swp_exit ?_ | refine swp_block ?_ | refine swp_scope ?_ | refine thenK_ret ?_ | refine thenK_exit ?_ | refine blockK_normal ?_ | refine blockK_ret ?_ | refine blockK_here ?_ | refine bX ?_ | refine scopeK_normal ?_ | refine scopeK_ret ?_ | refine scopeK_exit ?_ | refine loopK_ret ?_ | refine loopK_exit ?_ | refine dF mixed ?_ | (refine cB (fun hc => ?_) (fun hc => ?_) <;> first | exact False.elim hc | exact absurd hc Bool.false_ne_true | exact absurd hc.symm Bool.false_ne_true | skip) | refine cU ?_ ?_)))
    (refine rC (fun hf => ?_))
    (refine cA (rtake_f b 5 2 _ (by omega) (by omega) (by omega)) (fun hf => ?_))
    (refine drun_end ?_)
    obtain ⟨n, hn, hn2⟩ := tnV_nat b 5 5 2 rfl (by omega)
    have hn0 := hn
    rw [hn]
    (repeat' (first | refine swp_seq [0, 2, 3, 4, 5, 6, 7, 8, 9, 10, 11, 12, 14, 15, 16, 17, 18, 19, 22, 30, 31, 62, 79, 94, 109, 124, 168, 183, 189, 193] ?_ | (first | refine rF (fun hf => ?_) | refine tN ?_ | refine swp_skip ?_ | refine swp_ret ?_ | refine swp_exit ?_ | refine swp_block ?_ | refine swp_scope ?_ | refine thenK_ret ?_ | refine thenK_exit ?_ | refine blockK_normal ?_ | refine blockK_ret ?_ | refine blockK_here ?_ | refine bX ?_ | refine scopeK_normal ?_ | refine scopeK_ret ?_ | refine scopeK_exit ?_ | refine loopK_ret ?_ | refine loopK_exit ?_ | refine dF mixed ?_ | (refine cB (fun hc => ?_) (fun hc => ?_) <;> first | exact False.elim hc | exact absurd hc Bool.false_ne_true | exact absurd hc.symm Bool.false_ne_true | skip) | refine cU ?_ ?_)))
    have key : (tnOk b 1 4 && tnOk b 5 2 && ((b.length : Int) == 7 + 8 * (n : Int))) = true ↔ 7 ≤ b.length ∧ (b.length : Int) = 7 + 8 * gN b 5 2 := by
      by_cases h7 : 7 ≤ b.length
      · rw [(tnG b 1 1 4 rfl (by omega)).2, (tnG b 5 5 2 rfl (by omega)).2, ← (tnG b 5 5 2 rfl (by omega)).1, hn]
        simp [h7]
      · rw [(tnB b 5 5 2 rfl (by omega)).2]
        simp [h7]
    generalize (tnOk b 1 4 && tnOk b 5 2 && ((b.length : Int) == 7 + 8 * (n : Int))) = ok at *
    have kl : ok = true → 7 + 8 * n = b.length ∧ gN b 5 2 = n ∧ tnV b 1 4 = gN b 1 4 := fun h => by
      obtain ⟨q1, q2⟩ := key.1 h
      have q3 := (tnG b 5 5 2 rfl (by omega)).1
      rw [hn] at q3
      exact ⟨by omega, q3.symm, (tnG b 1 1 4 rfl (by omega)).1⟩
    generalize tnV b 1 4 = x2 at *
    generalize hk : ((b.getD 0 default).toNat : Int) = k at *
    generalize hg : (fun i : Nat => gN b (7 + 8 * i) 8) = g at *
    refine loop_swp [0, 2, 3, 4, 5, 9, 11] [0, 80, 200] 201 (fun q A H => ∃ (i : Nat) (d : DV), i ≤ n ∧ q = n - i ∧ (ok = false → i = 0) ∧
      ((i = 0 ∧ d = nilS ∧ H = [(0, .blk 26 (recZ 0 0 nilS)), (80, .blk 26 (recZ k x2 nilS))]) ∨ (d = .gl 200 ∧ H = [(0, .blk 26 (recZ 0 0 nilS)), (80, .blk 26 (recZ k x2 (.gl 200))), (200, inL ((List.range i).map g))])) ∧
      A = [(0, bys b), (2, .ptr 0 0), (3, li 0), (4, .ptr 80 0), (5, lb ok), (9, li n), (11, li i)]) (by omega) ?_ ?_ ?_
    · rintro q A H ⟨i, d, g1, g2, g3, g8, rfl⟩
      rcases g8 with ⟨_, _, rfl⟩ | ⟨_, rfl⟩
      · exact ⟨by (exact SD), by (exact SD)⟩
      · exact ⟨by (exact SD), by (exact SD)⟩
    · refine ⟨_, 0, nilS, by omega, rfl, fun _ => rfl, .inl ⟨rfl, rfl, ?_⟩, ?_⟩
      · (((simp only [push_cast, reduceIte, reduceDIte, reduceCtorEq, Nat.reduceLT, Nat.reduceLeDiff, Nat.reduceEqDiff, Nat.reduceAdd, Nat.reduceMul, Nat.reduceBEq, Nat.reducePow, Int.zero_add, Int.reduceAdd, Int.reduceSub, Int.reduceLT, Int.reduceLE, Int.reduceToNat, Int.reduceNeg, Nat.reduceSub]); repeat (simp (disch := omega) only [idx_map, idx_nat, i64w]; try (simp only [push_cast, reduceIte, reduceDIte, reduceCtorEq, Nat.reduceLT, Nat.reduceLeDiff, Nat.reduceEqDiff, Nat.reduceAdd, Nat.reduceMul, Nat.reduceBEq, Nat.reducePow, Int.zero_add, Int.reduceAdd, Int.reduceSub, Int.reduceLT, Int.reduceLE, Int.reduceToNat, Int.reduceNeg, Nat.reduceSub])))); rfl
      · (((simp only [push_cast, reduceIte, reduceDIte, reduceCtorEq, Nat.reduceLT, Nat.reduceLeDiff, Nat.reduceEqDiff, Nat.reduceAdd, Nat.reduceMul, Nat.reduceBEq, Nat.reducePow, Int.zero_add, Int.reduceAdd, Int.reduceSub, Int.reduceLT, Int.reduceLE, Int.reduceToNat, Int.reduceNeg, Nat.reduceSub]); repeat (simp (disch := omega) only [idx_map, idx_nat, i64w]; try (simp only [push_cast, reduceIte, reduceDIte, reduceCtorEq, Nat.reduceLT, Nat.reduceLeDiff, Nat.reduceEqDiff, Nat.reduceAdd, Nat.reduceMul, Nat.reduceBEq, Nat.reducePow, Int.zero_add, Int.reduceAdd, Int.reduceSub, Int.reduceLT, Int.reduceLE, Int.reduceToNat, Int.reduceNeg, Nat.reduceSub]))))
    · rintro q A H ⟨i, d, g1, g2, g3, g8, rfl⟩
      rcases g8 with ⟨hi0, rfl, rfl⟩ | ⟨rfl, rfl⟩
      · (repeat' (first | refine swp_seq [0, 2, 3, 4, 5, 6, 7, 8, 9, 10, 11, 12, 14, 15, 16, 17, 18, 19, 22, 30, 31, 62, 79, 94, 109, 124, 168, 183, 189, 193] ?_ | (first | refine rF (fun hf => ?_) | refine tN ?_ | refine swp_skip ?_ | refine swp_ret ?_ | refine swp_exit ?_ | refine swp_block ?_ | refine swp_scope ?_ | refine thenK_ret ?_ | refine thenK_exit ?_ | refine blockK_normal ?_ | refine blockK_ret ?_ | refine blockK_here ?_ | refine bX ?_ | refine scopeK_normal ?_ | refine scopeK_ret ?_ | refine scopeK_exit ?_ | refine loopK_ret ?_ | refine loopK_exit ?_ | refine dF mixed ?_ | (refine cB (fun hc => ?_) (fun hc => ?_) <;> first | exact False.elim hc | exact absurd hc Bool.false_ne_true | exact absurd hc.symm Bool.false_ne_true | skip) | refine cU ?_ ?_)))
        · have hok : ok = true := hc.1
          obtain ⟨q1, q2, q3⟩ := kl hok
          (refine rC (fun hf => ?_))
          (refine cA (rtake_f b (7 + 8 * i) 8 _ (by omega) (by omega) (by omega)) (fun hf => ?_))
          (refine drun_end ?_)
          rw [(tnG b (7 + 8 * i) (7 + 8 * i) 8 (by omega) (by omega)).1]
          (repeat' (first | refine swp_seq [0, 2, 3, 4, 5, 6, 7, 8, 9, 10, 11, 12, 14, 15, 16, 17, 18, 19, 22, 30, 31, 62, 79, 94, 109, 124, 168, 183, 189, 193] ?_ | (first | refine rF (fun hf => ?_) | refine tN ?_ | refine swp_skip ?_ | refine swp_ret ?_ | refine swp_exit ?_ | refine swp_block ?_ | refine swp_scope ?_ | refine thenK_ret ?_ | refine thenK_exit ?_ | refine blockK_normal ?_ | refine blockK_ret ?_ | refine blockK_here ?_ | refine bX ?_ | refine scopeK_normal ?_ | refine scopeK_ret ?_ | refine scopeK_exit ?_ | refine loopK_ret ?_ | refine loopK_exit ?_ | refine dF mixed ?_ | (refine cB (fun hc => ?_) (fun hc => ?_) <;> first | exact False.elim hc | exact absurd hc Bool.false_ne_true | exact absurd hc.symm Bool.false_ne_true | skip) | refine cU ?_ ?_)))
          have hgi : gN b (7 + 8 * i) 8 = g i := by rw [← hg]
          rw [hgi]
          (refine lR 361 200 [0, 80, 361] ?_)
          refine ⟨_, by omega, i + 1, .gl 200, by omega, rfl, fun h => (by rw [hok] at h; cases h), .inr ⟨rfl, ?_⟩, rfl⟩
          rw [List.range_succ]
          simp [rows, inRow, rd, li, lb, ls, lv, *]
        · have hok : ok = false := hc
          rw [if_neg (fun h => by rw [key.2 h] at hok; cases hok)] at hd
          rw [decD_bad hd]
          (((simp only [push_cast, reduceIte, reduceDIte, reduceCtorEq, Nat.reduceLT, Nat.reduceLeDiff, Nat.reduceEqDiff, Nat.reduceAdd, Nat.reduceMul, Nat.reduceBEq, Nat.reducePow, Int.zero_add, Int.reduceAdd, Int.reduceSub, Int.reduceLT, Int.reduceLE, Int.reduceToNat, Int.reduceNeg, Nat.reduceSub]); repeat (simp (disch := omega) only [idx_map, idx_nat, i64w]; try (simp only [push_cast, reduceIte, reduceDIte, reduceCtorEq, Nat.reduceLT, Nat.reduceLeDiff, Nat.reduceEqDiff, Nat.reduceAdd, Nat.reduceMul, Nat.reduceBEq, Nat.reducePow, Int.zero_add, Int.reduceAdd, Int.reduceSub, Int.reduceLT, Int.reduceLE, Int.reduceToNat, Int.reduceNeg, Nat.reduceSub])))); rfl
        · have hok : ok = true := hc
          obtain ⟨q1, q2, q3⟩ := kl hok
          have : i = n := by grind
          rw [if_pos (key.1 hok), q2, Int.toNat_natCast, ← q3] at hd
          subst this
          subst hi0
          (refine rC (fun hf => ?_))
          (refine cA (rRight_f ⟨k, x2, (List.range 0).map g, .empty, 0, zMsg, .empty⟩ _ ⟨by first | (first | exact Nat.zero_le _ | (dsimp only; rw [str_size]; simp only [List.length_take, List.length_drop]; omega) | (first | exact Nat.zero_le _ | (show ByteArray.size _ ≤ _; rw [str_size]; omega) | (simp only [List.length_nil]; omega) | omega) | (simp; omega)) | (simp; omega), by (first | exact Nat.zero_le _ | (dsimp only; rw [str_size]; simp only [List.length_take, List.length_drop]; omega) | (first | exact Nat.zero_le _ | (show ByteArray.size _ ≤ _; rw [str_size]; omega) | (simp only [List.length_nil]; omega) | omega) | (simp; omega)), by (first | exact Nat.zero_le _ | (dsimp only; rw [str_size]; simp only [List.length_take, List.length_drop]; omega) | (first | exact Nat.zero_le _ | (show ByteArray.size _ ≤ _; rw [str_size]; omega) | (simp only [List.length_nil]; omega) | omega) | (simp; omega)), by (first | exact Nat.zero_le _ | (dsimp only; rw [str_size]; simp only [List.length_take, List.length_drop]; omega) | (first | exact Nat.zero_le _ | (show ByteArray.size _ ≤ _; rw [str_size]; omega) | (simp only [List.length_nil]; omega) | omega) | (simp; omega))⟩) (fun hf => ?_))
          (refine drun_end ?_)
          (repeat' (first | refine swp_seq [0, 2, 3, 4, 5, 6, 7, 8, 9, 10, 11, 12, 14, 15, 16, 17, 18, 19, 22, 30, 31, 62, 79, 94, 109, 124, 168, 183, 189, 193] ?_ | (first | refine rF (fun hf => ?_) | refine tN ?_ | refine swp_skip ?_ | refine swp_ret ?_ | refine swp_exit ?_ | refine swp_block ?_ | refine swp_scope ?_ | refine thenK_ret ?_ | refine thenK_exit ?_ | refine blockK_normal ?_ | refine blockK_ret ?_ | refine blockK_here ?_ | refine bX ?_ | refine scopeK_normal ?_ | refine scopeK_ret ?_ | refine scopeK_exit ?_ | refine loopK_ret ?_ | refine loopK_exit ?_ | refine dF mixed ?_ | (refine cB (fun hc => ?_) (fun hc => ?_) <;> first | exact False.elim hc | exact absurd hc Bool.false_ne_true | exact absurd hc.symm Bool.false_ne_true | skip) | refine cU ?_ ?_)))
          · rw [decD_ok hd, if_neg (Bool.eq_false_iff.1 hc)]
            (((simp only [push_cast, reduceIte, reduceDIte, reduceCtorEq, Nat.reduceLT, Nat.reduceLeDiff, Nat.reduceEqDiff, Nat.reduceAdd, Nat.reduceMul, Nat.reduceBEq, Nat.reducePow, Int.zero_add, Int.reduceAdd, Int.reduceSub, Int.reduceLT, Int.reduceLE, Int.reduceToNat, Int.reduceNeg, Nat.reduceSub]); repeat (simp (disch := omega) only [idx_map, idx_nat, i64w]; try (simp only [push_cast, reduceIte, reduceDIte, reduceCtorEq, Nat.reduceLT, Nat.reduceLeDiff, Nat.reduceEqDiff, Nat.reduceAdd, Nat.reduceMul, Nat.reduceBEq, Nat.reducePow, Int.zero_add, Int.reduceAdd, Int.reduceSub, Int.reduceLT, Int.reduceLE, Int.reduceToNat, Int.reduceNeg, Nat.reduceSub])))); rfl
          · rw [decD_ok hd, if_pos hc]
            (((simp only [push_cast, reduceIte, reduceDIte, reduceCtorEq, Nat.reduceLT, Nat.reduceLeDiff, Nat.reduceEqDiff, Nat.reduceAdd, Nat.reduceMul, Nat.reduceBEq, Nat.reducePow, Int.zero_add, Int.reduceAdd, Int.reduceSub, Int.reduceLT, Int.reduceLE, Int.reduceToNat, Int.reduceNeg, Nat.reduceSub]); repeat (simp (disch := omega) only [idx_map, idx_nat, i64w]; try (simp only [push_cast, reduceIte, reduceDIte, reduceCtorEq, Nat.reduceLT, Nat.reduceLeDiff, Nat.reduceEqDiff, Nat.reduceAdd, Nat.reduceMul, Nat.reduceBEq, Nat.reducePow, Int.zero_add, Int.reduceAdd, Int.reduceSub, Int.reduceLT, Int.reduceLE, Int.reduceToNat, Int.reduceNeg, Nat.reduceSub])))); rfl
      · (repeat' (first | refine swp_seq [0, 2, 3, 4, 5, 6, 7, 8, 9, 10, 11, 12, 14, 15, 16, 17, 18, 19, 22, 30, 31, 62, 79, 94, 109, 124, 168, 183, 189, 193] ?_ | (first | refine rF (fun hf => ?_) | refine tN ?_ | refine swp_skip ?_ | refine swp_ret ?_ | refine swp_exit ?_ | refine swp_block ?_ | refine swp_scope ?_ | refine thenK_ret ?_ | refine thenK_exit ?_ | refine blockK_normal ?_ | refine blockK_ret ?_ | refine blockK_here ?_ | refine bX ?_ | refine scopeK_normal ?_ | refine scopeK_ret ?_ | refine scopeK_exit ?_ | refine loopK_ret ?_ | refine loopK_exit ?_ | refine dF mixed ?_ | (refine cB (fun hc => ?_) (fun hc => ?_) <;> first | exact False.elim hc | exact absurd hc Bool.false_ne_true | exact absurd hc.symm Bool.false_ne_true | skip) | refine cU ?_ ?_)))
        · have hok : ok = true := hc.1
          obtain ⟨q1, q2, q3⟩ := kl hok
          (refine rC (fun hf => ?_))
          (refine cA (rtake_f b (7 + 8 * i) 8 _ (by omega) (by omega) (by omega)) (fun hf => ?_))
          (refine drun_end ?_)
          rw [(tnG b (7 + 8 * i) (7 + 8 * i) 8 (by omega) (by omega)).1]
          (repeat' (first | refine swp_seq [0, 2, 3, 4, 5, 6, 7, 8, 9, 10, 11, 12, 14, 15, 16, 17, 18, 19, 22, 30, 31, 62, 79, 94, 109, 124, 168, 183, 189, 193] ?_ | (first | refine rF (fun hf => ?_) | refine tN ?_ | refine swp_skip ?_ | refine swp_ret ?_ | refine swp_exit ?_ | refine swp_block ?_ | refine swp_scope ?_ | refine thenK_ret ?_ | refine thenK_exit ?_ | refine blockK_normal ?_ | refine blockK_ret ?_ | refine blockK_here ?_ | refine bX ?_ | refine scopeK_normal ?_ | refine scopeK_ret ?_ | refine scopeK_exit ?_ | refine loopK_ret ?_ | refine loopK_exit ?_ | refine dF mixed ?_ | (refine cB (fun hc => ?_) (fun hc => ?_) <;> first | exact False.elim hc | exact absurd hc Bool.false_ne_true | exact absurd hc.symm Bool.false_ne_true | skip) | refine cU ?_ ?_)))
          have hgi : gN b (7 + 8 * i) 8 = g i := by rw [← hg]
          rw [hgi]
          (refine lN [0, 80, 200] ?_)
          refine ⟨_, by omega, i + 1, .gl 200, by omega, rfl, fun h => (by rw [hok] at h; cases h), .inr ⟨rfl, ?_⟩, rfl⟩
          rw [List.range_succ]
          simp [rows, inRow, rd, li, lb, ls, lv, *]
        · have hok : ok = false := hc
          rw [if_neg (fun h => by rw [key.2 h] at hok; cases hok)] at hd
          rw [decD_bad hd]
          (((simp only [push_cast, reduceIte, reduceDIte, reduceCtorEq, Nat.reduceLT, Nat.reduceLeDiff, Nat.reduceEqDiff, Nat.reduceAdd, Nat.reduceMul, Nat.reduceBEq, Nat.reducePow, Int.zero_add, Int.reduceAdd, Int.reduceSub, Int.reduceLT, Int.reduceLE, Int.reduceToNat, Int.reduceNeg, Nat.reduceSub]); repeat (simp (disch := omega) only [idx_map, idx_nat, i64w]; try (simp only [push_cast, reduceIte, reduceDIte, reduceCtorEq, Nat.reduceLT, Nat.reduceLeDiff, Nat.reduceEqDiff, Nat.reduceAdd, Nat.reduceMul, Nat.reduceBEq, Nat.reducePow, Int.zero_add, Int.reduceAdd, Int.reduceSub, Int.reduceLT, Int.reduceLE, Int.reduceToNat, Int.reduceNeg, Nat.reduceSub])))); rfl
        · have hok : ok = true := hc
          obtain ⟨q1, q2, q3⟩ := kl hok
          have : i = n := by grind
          rw [if_pos (key.1 hok), q2, Int.toNat_natCast, ← q3] at hd
          subst this
          (refine sF 200 ?_)
          (refine rC (fun hf => ?_))
          (refine cA (rRight_f ⟨k, x2, (List.range i).map g, .empty, 0, zMsg, .empty⟩ _ ⟨by first | (first | exact Nat.zero_le _ | (dsimp only; rw [str_size]; simp only [List.length_take, List.length_drop]; omega) | (first | exact Nat.zero_le _ | (show ByteArray.size _ ≤ _; rw [str_size]; omega) | (simp only [List.length_nil]; omega) | omega) | (simp; omega)) | (simp; omega), by (first | exact Nat.zero_le _ | (dsimp only; rw [str_size]; simp only [List.length_take, List.length_drop]; omega) | (first | exact Nat.zero_le _ | (show ByteArray.size _ ≤ _; rw [str_size]; omega) | (simp only [List.length_nil]; omega) | omega) | (simp; omega)), by (first | exact Nat.zero_le _ | (dsimp only; rw [str_size]; simp only [List.length_take, List.length_drop]; omega) | (first | exact Nat.zero_le _ | (show ByteArray.size _ ≤ _; rw [str_size]; omega) | (simp only [List.length_nil]; omega) | omega) | (simp; omega)), by (first | exact Nat.zero_le _ | (dsimp only; rw [str_size]; simp only [List.length_take, List.length_drop]; omega) | (first | exact Nat.zero_le _ | (show ByteArray.size _ ≤ _; rw [str_size]; omega) | (simp only [List.length_nil]; omega) | omega) | (simp; omega))⟩) (fun hf => ?_))
          (refine drun_end ?_)
          (repeat' (first | refine swp_seq [0, 2, 3, 4, 5, 6, 7, 8, 9, 10, 11, 12, 14, 15, 16, 17, 18, 19, 22, 30, 31, 62, 79, 94, 109, 124, 168, 183, 189, 193] ?_ | (first | refine rF (fun hf => ?_) | refine tN ?_ | refine swp_skip ?_ | refine swp_ret ?_ | refine swp_exit ?_ | refine swp_block ?_ | refine swp_scope ?_ | refine thenK_ret ?_ | refine thenK_exit ?_ | refine blockK_normal ?_ | refine blockK_ret ?_ | refine blockK_here ?_ | refine bX ?_ | refine scopeK_normal ?_ | refine scopeK_ret ?_ | refine scopeK_exit ?_ | refine loopK_ret ?_ | refine loopK_exit ?_ | refine dF mixed ?_ | (refine cB (fun hc => ?_) (fun hc => ?_) <;> first | exact False.elim hc | exact absurd hc Bool.false_ne_true | exact absurd hc.symm Bool.false_ne_true | skip) | refine cU ?_ ?_)))
          · rw [decD_ok hd, if_neg (Bool.eq_false_iff.1 hc)]
            (((simp only [push_cast, reduceIte, reduceDIte, reduceCtorEq, Nat.reduceLT, Nat.reduceLeDiff, Nat.reduceEqDiff, Nat.reduceAdd, Nat.reduceMul, Nat.reduceBEq, Nat.reducePow, Int.zero_add, Int.reduceAdd, Int.reduceSub, Int.reduceLT, Int.reduceLE, Int.reduceToNat, Int.reduceNeg, Nat.reduceSub]); repeat (simp (disch := omega) only [idx_map, idx_nat, i64w]; try (simp only [push_cast, reduceIte, reduceDIte, reduceCtorEq, Nat.reduceLT, Nat.reduceLeDiff, Nat.reduceEqDiff, Nat.reduceAdd, Nat.reduceMul, Nat.reduceBEq, Nat.reducePow, Int.zero_add, Int.reduceAdd, Int.reduceSub, Int.reduceLT, Int.reduceLE, Int.reduceToNat, Int.reduceNeg, Nat.reduceSub])))); rfl
          · rw [decD_ok hd, if_pos hc]
            (((simp only [push_cast, reduceIte, reduceDIte, reduceCtorEq, Nat.reduceLT, Nat.reduceLeDiff, Nat.reduceEqDiff, Nat.reduceAdd, Nat.reduceMul, Nat.reduceBEq, Nat.reducePow, Int.zero_add, Int.reduceAdd, Int.reduceSub, Int.reduceLT, Int.reduceLE, Int.reduceToNat, Int.reduceNeg, Nat.reduceSub]); repeat (simp (disch := omega) only [idx_map, idx_nat, i64w]; try (simp only [push_cast, reduceIte, reduceDIte, reduceCtorEq, Nat.reduceLT, Nat.reduceLeDiff, Nat.reduceEqDiff, Nat.reduceAdd, Nat.reduceMul, Nat.reduceBEq, Nat.reducePow, Int.zero_add, Int.reduceAdd, Int.reduceSub, Int.reduceLT, Int.reduceLE, Int.reduceToNat, Int.reduceNeg, Nat.reduceSub])))); rfl
  · have h1 : 1 ≤ b.length := by omega
    replace hd := hd h1
    rw [gN_one b h1, if_neg (by assumption), if_pos (by assumption)] at hd
    (refine rC (fun hf => ?_))
    (refine cA (rtake_f b 1 1 _ (by omega) (by omega) (by omega)) (fun hf => ?_))
    (refine drun_end ?_)
    by_cases h2 : 2 ≤ b.length
    · obtain ⟨e1, e2⟩ := tnG b 1 1 1 rfl (by omega)
      obtain ⟨n, hn, hn2⟩ := gN_nat b 1 1 (by omega)
      rw [e1, e2, hn]
      rw [hn] at hd
      (repeat' (first | refine swp_seq [0, 2, 3, 4, 5, 6, 7, 8, 9, 10, 11, 12, 14, 15, 16, 17, 18, 19, 22, 30, 31, 62, 79, 94, 109, 124, 168, 183, 189, 193] ?_ | (first | refine rF (fun hf => ?_) | refine tN ?_ | refine swp_skip ?_ | refine swp_ret ?_ | refine swp_exit ?_ | refine swp_block ?_ | refine swp_scope ?_ | refine thenK_ret ?_ | refine thenK_exit ?_ | refine blockK_normal ?_ | refine blockK_ret ?_ | refine blockK_here ?_ | refine bX ?_ | refine scopeK_normal ?_ | refine scopeK_ret ?_ | refine scopeK_exit ?_ | refine loopK_ret ?_ | refine loopK_exit ?_ | refine dF mixed ?_ | (refine cB (fun hc => ?_) (fun hc => ?_) <;> first | exact False.elim hc | exact absurd hc Bool.false_ne_true | exact absurd hc.symm Bool.false_ne_true | skip) | refine cU ?_ ?_)))
      · rw [if_pos ⟨h2, by assumption⟩] at hd
        try rw [Int.toNat_natCast] at hd
        have e3 : ((2 : Int) + n).toNat - 2 = n := by omega
        rw [e3]
        (refine rC (fun hf => ?_))
        (refine cA (rtake_f b (2 + n) 2 _ (by omega) (by omega) (by omega)) (fun hf => ?_))
        (refine drun_end ?_)
        rw [(tnG b (2 + n) (2 + n) 2 (by omega) (by omega)).1]
        (repeat' (first | refine swp_seq [0, 2, 3, 4, 5, 6, 7, 8, 9, 10, 11, 12, 14, 15, 16, 17, 18, 19, 22, 30, 31, 62, 79, 94, 109, 124, 168, 183, 189, 193] ?_ | (first | refine rF (fun hf => ?_) | refine tN ?_ | refine swp_skip ?_ | refine swp_ret ?_ | refine swp_exit ?_ | refine swp_block ?_ | refine swp_scope ?_ | refine thenK_ret ?_ | refine thenK_exit ?_ | refine blockK_normal ?_ | refine blockK_ret ?_ | refine blockK_here ?_ | refine bX ?_ | refine scopeK_normal ?_ | refine scopeK_ret ?_ | refine scopeK_exit ?_ | refine loopK_ret ?_ | refine loopK_exit ?_ | refine dF mixed ?_ | (refine cB (fun hc => ?_) (fun hc => ?_) <;> first | exact False.elim hc | exact absurd hc Bool.false_ne_true | exact absurd hc.symm Bool.false_ne_true | skip) | refine cU ?_ ?_)))
        · exfalso; omega
        · (refine rC (fun hf => ?_))
          (refine cA (rRight_f ⟨((b.getD 0 default).toNat : Int), 0, [], str ((b.drop 2).take n), gN b (2 + n) 2, zMsg, .empty⟩ _ ⟨by (first | exact Nat.zero_le _ | (dsimp only; rw [str_size]; simp only [List.length_take, List.length_drop]; omega) | (first | exact Nat.zero_le _ | (show ByteArray.size _ ≤ _; rw [str_size]; omega) | (simp only [List.length_nil]; omega) | omega) | (simp; omega)), by (first | exact Nat.zero_le _ | (dsimp only; rw [str_size]; simp only [List.length_take, List.length_drop]; omega) | (first | exact Nat.zero_le _ | (show ByteArray.size _ ≤ _; rw [str_size]; omega) | (simp only [List.length_nil]; omega) | omega) | (simp; omega)), by (first | exact Nat.zero_le _ | (dsimp only; rw [str_size]; simp only [List.length_take, List.length_drop]; omega) | (first | exact Nat.zero_le _ | (show ByteArray.size _ ≤ _; rw [str_size]; omega) | (simp only [List.length_nil]; omega) | omega) | (simp; omega)), by (first | exact Nat.zero_le _ | (dsimp only; rw [str_size]; simp only [List.length_take, List.length_drop]; omega) | (first | exact Nat.zero_le _ | (show ByteArray.size _ ≤ _; rw [str_size]; omega) | (simp only [List.length_nil]; omega) | omega) | (simp; omega))⟩) (fun hf => ?_))
          (refine drun_end ?_)
          (repeat' (first | refine swp_seq [0, 2, 3, 4, 5, 6, 7, 8, 9, 10, 11, 12, 14, 15, 16, 17, 18, 19, 22, 30, 31, 62, 79, 94, 109, 124, 168, 183, 189, 193] ?_ | (first | refine rF (fun hf => ?_) | refine tN ?_ | refine swp_skip ?_ | refine swp_ret ?_ | refine swp_exit ?_ | refine swp_block ?_ | refine swp_scope ?_ | refine thenK_ret ?_ | refine thenK_exit ?_ | refine blockK_normal ?_ | refine blockK_ret ?_ | refine blockK_here ?_ | refine bX ?_ | refine scopeK_normal ?_ | refine scopeK_ret ?_ | refine scopeK_exit ?_ | refine loopK_ret ?_ | refine loopK_exit ?_ | refine dF mixed ?_ | (refine cB (fun hc => ?_) (fun hc => ?_) <;> first | exact False.elim hc | exact absurd hc Bool.false_ne_true | exact absurd hc.symm Bool.false_ne_true | skip) | refine cU ?_ ?_)))
          · rw [decD_ok hd, if_neg (Bool.eq_false_iff.1 hc)]
            (((simp only [push_cast, reduceIte, reduceDIte, reduceCtorEq, Nat.reduceLT, Nat.reduceLeDiff, Nat.reduceEqDiff, Nat.reduceAdd, Nat.reduceMul, Nat.reduceBEq, Nat.reducePow, Int.zero_add, Int.reduceAdd, Int.reduceSub, Int.reduceLT, Int.reduceLE, Int.reduceToNat, Int.reduceNeg, Nat.reduceSub]); repeat (simp (disch := omega) only [idx_map, idx_nat, i64w]; try (simp only [push_cast, reduceIte, reduceDIte, reduceCtorEq, Nat.reduceLT, Nat.reduceLeDiff, Nat.reduceEqDiff, Nat.reduceAdd, Nat.reduceMul, Nat.reduceBEq, Nat.reducePow, Int.zero_add, Int.reduceAdd, Int.reduceSub, Int.reduceLT, Int.reduceLE, Int.reduceToNat, Int.reduceNeg, Nat.reduceSub])))); rfl
          · rw [decD_ok hd, if_pos hc]
            (((simp only [push_cast, reduceIte, reduceDIte, reduceCtorEq, Nat.reduceLT, Nat.reduceLeDiff, Nat.reduceEqDiff, Nat.reduceAdd, Nat.reduceMul, Nat.reduceBEq, Nat.reducePow, Int.zero_add, Int.reduceAdd, Int.reduceSub, Int.reduceLT, Int.reduceLE, Int.reduceToNat, Int.reduceNeg, Nat.reduceSub]); repeat (simp (disch := omega) only [idx_map, idx_nat, i64w]; try (simp only [push_cast, reduceIte, reduceDIte, reduceCtorEq, Nat.reduceLT, Nat.reduceLeDiff, Nat.reduceEqDiff, Nat.reduceAdd, Nat.reduceMul, Nat.reduceBEq, Nat.reducePow, Int.zero_add, Int.reduceAdd, Int.reduceSub, Int.reduceLT, Int.reduceLE, Int.reduceToNat, Int.reduceNeg, Nat.reduceSub])))); rfl
      · rw [if_neg (fun k => absurd k.2 (by assumption))] at hd
        rw [decD_bad hd]
        (((simp only [push_cast, reduceIte, reduceDIte, reduceCtorEq, Nat.reduceLT, Nat.reduceLeDiff, Nat.reduceEqDiff, Nat.reduceAdd, Nat.reduceMul, Nat.reduceBEq, Nat.reducePow, Int.zero_add, Int.reduceAdd, Int.reduceSub, Int.reduceLT, Int.reduceLE, Int.reduceToNat, Int.reduceNeg, Nat.reduceSub]); repeat (simp (disch := omega) only [idx_map, idx_nat, i64w]; try (simp only [push_cast, reduceIte, reduceDIte, reduceCtorEq, Nat.reduceLT, Nat.reduceLeDiff, Nat.reduceEqDiff, Nat.reduceAdd, Nat.reduceMul, Nat.reduceBEq, Nat.reducePow, Int.zero_add, Int.reduceAdd, Int.reduceSub, Int.reduceLT, Int.reduceLE, Int.reduceToNat, Int.reduceNeg, Nat.reduceSub])))); rfl
      · exfalso; omega
    · obtain ⟨e1, e2⟩ := tnB b 1 1 1 rfl (by omega)
      rw [e1, e2]
      rw [if_neg (fun k => h2 k.1)] at hd
      (repeat' (first | refine swp_seq [0, 2, 3, 4, 5, 6, 7, 8, 9, 10, 11, 12, 14, 15, 16, 17, 18, 19, 22, 30, 31, 62, 79, 94, 109, 124, 168, 183, 189, 193] ?_ | (first | refine rF (fun hf => ?_) | refine tN ?_ | refine swp_skip ?_ | refine swp_ret ?_ | refine swp_exit ?_ | refine swp_block ?_ | refine swp_scope ?_ | refine thenK_ret ?_ | refine thenK_exit ?_ | refine blockK_normal ?_ | refine blockK_ret ?_ | refine blockK_here ?_ | refine bX ?_ | refine scopeK_normal ?_ | refine scopeK_ret ?_ | refine scopeK_exit ?_ | refine loopK_ret ?_ | refine loopK_exit ?_ | refine dF mixed ?_ | (refine cB (fun hc => ?_) (fun hc => ?_) <;> first | exact False.elim hc | exact absurd hc Bool.false_ne_true | exact absurd hc.symm Bool.false_ne_true | skip) | refine cU ?_ ?_)))
      rw [decD_bad hd]
      (((simp only [push_cast, reduceIte, reduceDIte, reduceCtorEq, Nat.reduceLT, Nat.reduceLeDiff, Nat.reduceEqDiff, Nat.reduceAdd, Nat.reduceMul, Nat.reduceBEq, Nat.reducePow, Int.zero_add, Int.reduceAdd, Int.reduceSub, Int.reduceLT, Int.reduceLE, Int.reduceToNat, Int.reduceNeg, Nat.reduceSub]); repeat (simp (disch := omega) only [idx_map, idx_nat, i64w]; try (simp only [push_cast, reduceIte, reduceDIte, reduceCtorEq, Nat.reduceLT, Nat.reduceLeDiff, Nat.reduceEqDiff, Nat.reduceAdd, Nat.reduceMul, Nat.reduceBEq, Nat.reducePow, Int.zero_add, Int.reduceAdd, Int.reduceSub, Int.reduceLT, Int.reduceLE, Int.reduceToNat, Int.reduceNeg, Nat.reduceSub])))); rfl
  · have h1 : 1 ≤ b.length := by omega
    replace hd := hd h1
    rw [gN_one b h1, if_neg (by assumption), if_neg (by assumption), if_pos (by assumption)] at hd
    (refine rC (fun hf => ?_))
    (refine cA (rtake_f b 1 1 _ (by omega) (by omega) (by omega)) (fun hf => ?_))
    (refine drun_end ?_)
    by_cases h2 : 2 ≤ b.length
    · obtain ⟨e1, e2⟩ := tnG b 1 1 1 rfl (by omega)
      obtain ⟨n, hn, hn2⟩ := gN_nat b 1 1 (by omega)
      rw [e1, e2, hn]
      rw [hn] at hd
      (repeat' (first | refine swp_seq [0, 2, 3, 4, 5, 6, 7, 8, 9, 10, 11, 12, 14, 15, 16, 17, 18, 19, 22, 30, 31, 62, 79, 94, 109, 124, 168, 183, 189, 193] ?_ | (first | refine rF (fun hf => ?_) | refine tN ?_ | refine swp_skip ?_ | refine swp_ret ?_ | refine swp_exit ?_ | refine swp_block ?_ | refine swp_scope ?_ | refine thenK_ret ?_ | refine thenK_exit ?_ | refine blockK_normal ?_ | refine blockK_ret ?_ | refine blockK_here ?_ | refine bX ?_ | refine scopeK_normal ?_ | refine scopeK_ret ?_ | refine scopeK_exit ?_ | refine loopK_ret ?_ | refine loopK_exit ?_ | refine dF mixed ?_ | (refine cB (fun hc => ?_) (fun hc => ?_) <;> first | exact False.elim hc | exact absurd hc Bool.false_ne_true | exact absurd hc.symm Bool.false_ne_true | skip) | refine cU ?_ ?_)))
      · rw [if_pos ⟨h2, by assumption⟩] at hd
        try rw [Int.toNat_natCast] at hd
        have e3 : ((2 : Int) + n).toNat - 2 = n := by omega
        rw [e3]
        (refine rC (fun hf => ?_))
        (refine cA (rtake_f b (2 + n) 4 _ (by omega) (by omega) (by omega)) (fun hf => ?_))
        (refine drun_end ?_)
        rw [(tnG b (2 + n) (2 + n) 4 (by omega) (by omega)).1]
        (repeat' (first | refine swp_seq [0, 2, 3, 4, 5, 6, 7, 8, 9, 10, 11, 12, 14, 15, 16, 17, 18, 19, 22, 30, 31, 62, 79, 94, 109, 124, 168, 183, 189, 193] ?_ | (first | refine rF (fun hf => ?_) | refine tN ?_ | refine swp_skip ?_ | refine swp_ret ?_ | refine swp_exit ?_ | refine swp_block ?_ | refine swp_scope ?_ | refine thenK_ret ?_ | refine thenK_exit ?_ | refine blockK_normal ?_ | refine blockK_ret ?_ | refine blockK_here ?_ | refine bX ?_ | refine scopeK_normal ?_ | refine scopeK_ret ?_ | refine scopeK_exit ?_ | refine loopK_ret ?_ | refine loopK_exit ?_ | refine dF mixed ?_ | (refine cB (fun hc => ?_) (fun hc => ?_) <;> first | exact False.elim hc | exact absurd hc Bool.false_ne_true | exact absurd hc.symm Bool.false_ne_true | skip) | refine cU ?_ ?_)))
        (refine rC (fun hf => ?_))
        (refine cA (rtake_f b (2 + n + 4) 8 _ (by omega) (by omega) (by omega)) (fun hf => ?_))
        (refine drun_end ?_)
        rw [(tnG b (2 + n + 4) (2 + n + 4) 8 (by omega) (by omega)).1]
        (repeat' (first | refine swp_seq [0, 2, 3, 4, 5, 6, 7, 8, 9, 10, 11, 12, 14, 15, 16, 17, 18, 19, 22, 30, 31, 62, 79, 94, 109, 124, 168, 183, 189, 193] ?_ | (first | refine rF (fun hf => ?_) | refine tN ?_ | refine swp_skip ?_ | refine swp_ret ?_ | refine swp_exit ?_ | refine swp_block ?_ | refine swp_scope ?_ | refine thenK_ret ?_ | refine thenK_exit ?_ | refine blockK_normal ?_ | refine blockK_ret ?_ | refine blockK_here ?_ | refine bX ?_ | refine scopeK_normal ?_ | refine scopeK_ret ?_ | refine scopeK_exit ?_ | refine loopK_ret ?_ | refine loopK_exit ?_ | refine dF mixed ?_ | (refine cB (fun hc => ?_) (fun hc => ?_) <;> first | exact False.elim hc | exact absurd hc Bool.false_ne_true | exact absurd hc.symm Bool.false_ne_true | skip) | refine cU ?_ ?_)))
        (refine rC (fun hf => ?_))
        (refine cA (rtake_f b (2 + n + 12) 8 _ (by omega) (by omega) (by omega)) (fun hf => ?_))
        (refine drun_end ?_)
        rw [(tnG b (2 + n + 12) (2 + n + 12) 8 (by omega) (by omega)).1]
        (repeat' (first | refine swp_seq [0, 2, 3, 4, 5, 6, 7, 8, 9, 10, 11, 12, 14, 15, 16, 17, 18, 19, 22, 30, 31, 62, 79, 94, 109, 124, 168, 183, 189, 193] ?_ | (first | refine rF (fun hf => ?_) | refine tN ?_ | refine swp_skip ?_ | refine swp_ret ?_ | refine swp_exit ?_ | refine swp_block ?_ | refine swp_scope ?_ | refine thenK_ret ?_ | refine thenK_exit ?_ | refine blockK_normal ?_ | refine blockK_ret ?_ | refine blockK_here ?_ | refine bX ?_ | refine scopeK_normal ?_ | refine scopeK_ret ?_ | refine scopeK_exit ?_ | refine loopK_ret ?_ | refine loopK_exit ?_ | refine dF mixed ?_ | (refine cB (fun hc => ?_) (fun hc => ?_) <;> first | exact False.elim hc | exact absurd hc Bool.false_ne_true | exact absurd hc.symm Bool.false_ne_true | skip) | refine cU ?_ ?_)))
        (refine rC (fun hf => ?_))
        (refine cA (rtake_f b (2 + n + 20) 8 _ (by omega) (by omega) (by omega)) (fun hf => ?_))
        (refine drun_end ?_)
        rw [(tnG b (2 + n + 20) (2 + n + 20) 8 (by omega) (by omega)).1]
        (repeat' (first | refine swp_seq [0, 2, 3, 4, 5, 6, 7, 8, 9, 10, 11, 12, 14, 15, 16, 17, 18, 19, 22, 30, 31, 62, 79, 94, 109, 124, 168, 183, 189, 193] ?_ | (first | refine rF (fun hf => ?_) | refine tN ?_ | refine swp_skip ?_ | refine swp_ret ?_ | refine swp_exit ?_ | refine swp_block ?_ | refine swp_scope ?_ | refine thenK_ret ?_ | refine thenK_exit ?_ | refine blockK_normal ?_ | refine blockK_ret ?_ | refine blockK_here ?_ | refine bX ?_ | refine scopeK_normal ?_ | refine scopeK_ret ?_ | refine scopeK_exit ?_ | refine loopK_ret ?_ | refine loopK_exit ?_ | refine dF mixed ?_ | (refine cB (fun hc => ?_) (fun hc => ?_) <;> first | exact False.elim hc | exact absurd hc Bool.false_ne_true | exact absurd hc.symm Bool.false_ne_true | skip) | refine cU ?_ ?_)))
        · exfalso; omega
        · (refine rC (fun hf => ?_))
          (refine cA (rRight_f ⟨((b.getD 0 default).toNat : Int), 0, [], .empty, 0, ⟨str ((b.drop 2).take n), gN b (2 + n) 4, gN b (2 + n + 4) 8, gN b (2 + n + 12) 8, gN b (2 + n + 20) 8⟩, .empty⟩ _ ⟨by (first | exact Nat.zero_le _ | (dsimp only; rw [str_size]; simp only [List.length_take, List.length_drop]; omega) | (first | exact Nat.zero_le _ | (show ByteArray.size _ ≤ _; rw [str_size]; omega) | (simp only [List.length_nil]; omega) | omega) | (simp; omega)), by (first | exact Nat.zero_le _ | (dsimp only; rw [str_size]; simp only [List.length_take, List.length_drop]; omega) | (first | exact Nat.zero_le _ | (show ByteArray.size _ ≤ _; rw [str_size]; omega) | (simp only [List.length_nil]; omega) | omega) | (simp; omega)), by (first | exact Nat.zero_le _ | (dsimp only; rw [str_size]; simp only [List.length_take, List.length_drop]; omega) | (first | exact Nat.zero_le _ | (show ByteArray.size _ ≤ _; rw [str_size]; omega) | (simp only [List.length_nil]; omega) | omega) | (simp; omega)), by (first | exact Nat.zero_le _ | (dsimp only; rw [str_size]; simp only [List.length_take, List.length_drop]; omega) | (first | exact Nat.zero_le _ | (show ByteArray.size _ ≤ _; rw [str_size]; omega) | (simp only [List.length_nil]; omega) | omega) | (simp; omega))⟩) (fun hf => ?_))
          (refine drun_end ?_)
          (repeat' (first | refine swp_seq [0, 2, 3, 4, 5, 6, 7, 8, 9, 10, 11, 12, 14, 15, 16, 17, 18, 19, 22, 30, 31, 62, 79, 94, 109, 124, 168, 183, 189, 193] ?_ | (first | refine rF (fun hf => ?_) | refine tN ?_ | refine swp_skip ?_ | refine swp_ret ?_ | refine swp_exit ?_ | refine swp_block ?_ | refine swp_scope ?_ | refine thenK_ret ?_ | refine thenK_exit ?_ | refine blockK_normal ?_ | refine blockK_ret ?_ | refine blockK_here ?_ | refine bX ?_ | refine scopeK_normal ?_ | refine scopeK_ret ?_ | refine scopeK_exit ?_ | refine loopK_ret ?_ | refine loopK_exit ?_ | refine dF mixed ?_ | (refine cB (fun hc => ?_) (fun hc => ?_) <;> first | exact False.elim hc | exact absurd hc Bool.false_ne_true | exact absurd hc.symm Bool.false_ne_true | skip) | refine cU ?_ ?_)))
          · rw [decD_ok hd, if_neg (Bool.eq_false_iff.1 hc)]
            (((simp only [push_cast, reduceIte, reduceDIte, reduceCtorEq, Nat.reduceLT, Nat.reduceLeDiff, Nat.reduceEqDiff, Nat.reduceAdd, Nat.reduceMul, Nat.reduceBEq, Nat.reducePow, Int.zero_add, Int.reduceAdd, Int.reduceSub, Int.reduceLT, Int.reduceLE, Int.reduceToNat, Int.reduceNeg, Nat.reduceSub]); repeat (simp (disch := omega) only [idx_map, idx_nat, i64w]; try (simp only [push_cast, reduceIte, reduceDIte, reduceCtorEq, Nat.reduceLT, Nat.reduceLeDiff, Nat.reduceEqDiff, Nat.reduceAdd, Nat.reduceMul, Nat.reduceBEq, Nat.reducePow, Int.zero_add, Int.reduceAdd, Int.reduceSub, Int.reduceLT, Int.reduceLE, Int.reduceToNat, Int.reduceNeg, Nat.reduceSub])))); rfl
          · rw [decD_ok hd, if_pos hc]
            (((simp only [push_cast, reduceIte, reduceDIte, reduceCtorEq, Nat.reduceLT, Nat.reduceLeDiff, Nat.reduceEqDiff, Nat.reduceAdd, Nat.reduceMul, Nat.reduceBEq, Nat.reducePow, Int.zero_add, Int.reduceAdd, Int.reduceSub, Int.reduceLT, Int.reduceLE, Int.reduceToNat, Int.reduceNeg, Nat.reduceSub]); repeat (simp (disch := omega) only [idx_map, idx_nat, i64w]; try (simp only [push_cast, reduceIte, reduceDIte, reduceCtorEq, Nat.reduceLT, Nat.reduceLeDiff, Nat.reduceEqDiff, Nat.reduceAdd, Nat.reduceMul, Nat.reduceBEq, Nat.reducePow, Int.zero_add, Int.reduceAdd, Int.reduceSub, Int.reduceLT, Int.reduceLE, Int.reduceToNat, Int.reduceNeg, Nat.reduceSub])))); rfl
      · rw [if_neg (fun k => absurd k.2 (by assumption))] at hd
        rw [decD_bad hd]
        (((simp only [push_cast, reduceIte, reduceDIte, reduceCtorEq, Nat.reduceLT, Nat.reduceLeDiff, Nat.reduceEqDiff, Nat.reduceAdd, Nat.reduceMul, Nat.reduceBEq, Nat.reducePow, Int.zero_add, Int.reduceAdd, Int.reduceSub, Int.reduceLT, Int.reduceLE, Int.reduceToNat, Int.reduceNeg, Nat.reduceSub]); repeat (simp (disch := omega) only [idx_map, idx_nat, i64w]; try (simp only [push_cast, reduceIte, reduceDIte, reduceCtorEq, Nat.reduceLT, Nat.reduceLeDiff, Nat.reduceEqDiff, Nat.reduceAdd, Nat.reduceMul, Nat.reduceBEq, Nat.reducePow, Int.zero_add, Int.reduceAdd, Int.reduceSub, Int.reduceLT, Int.reduceLE, Int.reduceToNat, Int.reduceNeg, Nat.reduceSub])))); rfl
      · exfalso; omega
    · obtain ⟨e1, e2⟩ := tnB b 1 1 1 rfl (by omega)
      rw [e1, e2]
      rw [if_neg (fun k => h2 k.1)] at hd
      (repeat' (first | refine swp_seq [0, 2, 3, 4, 5, 6, 7, 8, 9, 10, 11, 12, 14, 15, 16, 17, 18, 19, 22, 30, 31, 62, 79, 94, 109, 124, 168, 183, 189, 193] ?_ | (first | refine rF (fun hf => ?_) | refine tN ?_ | refine swp_skip ?_ | refine swp_ret ?_ | refine swp_exit ?_ | refine swp_block ?_ | refine swp_scope ?_ | refine thenK_ret ?_ | refine thenK_exit ?_ | refine blockK_normal ?_ | refine blockK_ret ?_ | refine blockK_here ?_ | refine bX ?_ | refine scopeK_normal ?_ | refine scopeK_ret ?_ | refine scopeK_exit ?_ | refine loopK_ret ?_ | refine loopK_exit ?_ | refine dF mixed ?_ | (refine cB (fun hc => ?_) (fun hc => ?_) <;> first | exact False.elim hc | exact absurd hc Bool.false_ne_true | exact absurd hc.symm Bool.false_ne_true | skip) | refine cU ?_ ?_)))
      rw [decD_bad hd]
      (((simp only [push_cast, reduceIte, reduceDIte, reduceCtorEq, Nat.reduceLT, Nat.reduceLeDiff, Nat.reduceEqDiff, Nat.reduceAdd, Nat.reduceMul, Nat.reduceBEq, Nat.reducePow, Int.zero_add, Int.reduceAdd, Int.reduceSub, Int.reduceLT, Int.reduceLE, Int.reduceToNat, Int.reduceNeg, Nat.reduceSub]); repeat (simp (disch := omega) only [idx_map, idx_nat, i64w]; try (simp only [push_cast, reduceIte, reduceDIte, reduceCtorEq, Nat.reduceLT, Nat.reduceLeDiff, Nat.reduceEqDiff, Nat.reduceAdd, Nat.reduceMul, Nat.reduceBEq, Nat.reducePow, Int.zero_add, Int.reduceAdd, Int.reduceSub, Int.reduceLT, Int.reduceLE, Int.reduceToNat, Int.reduceNeg, Nat.reduceSub])))); rfl
  · have h1 : 1 ≤ b.length := by omega
    replace hd := hd h1
    rw [gN_one b h1, if_neg (by assumption), if_neg (by assumption), if_neg (by assumption), if_pos (by assumption)] at hd
    (refine rC (fun hf => ?_))
    (refine cA (rtake_f b 1 2 _ (by omega) (by omega) (by omega)) (fun hf => ?_))
    (refine drun_end ?_)
    by_cases h2 : 3 ≤ b.length
    · obtain ⟨e1, e2⟩ := tnG b 1 1 2 rfl (by omega)
      obtain ⟨n, hn, hn2⟩ := gN_nat b 1 2 (by omega)
      rw [e1, e2, hn]
      rw [hn] at hd
      (repeat' (first | refine swp_seq [0, 2, 3, 4, 5, 6, 7, 8, 9, 10, 11, 12, 14, 15, 16, 17, 18, 19, 22, 30, 31, 62, 79, 94, 109, 124, 168, 183, 189, 193] ?_ | (first | refine rF (fun hf => ?_) | refine tN ?_ | refine swp_skip ?_ | refine swp_ret ?_ | refine swp_exit ?_ | refine swp_block ?_ | refine swp_scope ?_ | refine thenK_ret ?_ | refine thenK_exit ?_ | refine blockK_normal ?_ | refine blockK_ret ?_ | refine blockK_here ?_ | refine bX ?_ | refine scopeK_normal ?_ | refine scopeK_ret ?_ | refine scopeK_exit ?_ | refine loopK_ret ?_ | refine loopK_exit ?_ | refine dF mixed ?_ | (refine cB (fun hc => ?_) (fun hc => ?_) <;> first | exact False.elim hc | exact absurd hc Bool.false_ne_true | exact absurd hc.symm Bool.false_ne_true | skip) | refine cU ?_ ?_)))
      · exfalso; omega
      · rw [if_pos ⟨h2, by assumption⟩] at hd
        rw [List.take_of_length_le (by simp)]
        (refine rC (fun hf => ?_))
        (refine cA (rRight_f ⟨((b.getD 0 default).toNat : Int), 0, [], .empty, 0, zMsg, str (b.drop 3)⟩ _ ⟨by (first | exact Nat.zero_le _ | (dsimp only; rw [str_size]; simp only [List.length_take, List.length_drop]; omega) | (first | exact Nat.zero_le _ | (show ByteArray.size _ ≤ _; rw [str_size]; omega) | (simp only [List.length_nil]; omega) | omega) | (simp; omega)), by (first | exact Nat.zero_le _ | (dsimp only; rw [str_size]; simp only [List.length_take, List.length_drop]; omega) | (first | exact Nat.zero_le _ | (show ByteArray.size _ ≤ _; rw [str_size]; omega) | (simp only [List.length_nil]; omega) | omega) | (simp; omega)), by (first | exact Nat.zero_le _ | (dsimp only; rw [str_size]; simp only [List.length_take, List.length_drop]; omega) | (first | exact Nat.zero_le _ | (show ByteArray.size _ ≤ _; rw [str_size]; omega) | (simp only [List.length_nil]; omega) | omega) | (simp; omega)), by (first | exact Nat.zero_le _ | (dsimp only; rw [str_size]; simp only [List.length_take, List.length_drop]; omega) | (first | exact Nat.zero_le _ | (show ByteArray.size _ ≤ _; rw [str_size]; omega) | (simp only [List.length_nil]; omega) | omega) | (simp; omega))⟩) (fun hf => ?_))
        (refine drun_end ?_)
        (repeat' (first | refine swp_seq [0, 2, 3, 4, 5, 6, 7, 8, 9, 10, 11, 12, 14, 15, 16, 17, 18, 19, 22, 30, 31, 62, 79, 94, 109, 124, 168, 183, 189, 193] ?_ | (first | refine rF (fun hf => ?_) | refine tN ?_ | refine swp_skip ?_ | refine swp_ret ?_ | refine swp_exit ?_ | refine swp_block ?_ | refine swp_scope ?_ | refine thenK_ret ?_ | refine thenK_exit ?_ | refine blockK_normal ?_ | refine blockK_ret ?_ | refine blockK_here ?_ | refine bX ?_ | refine scopeK_normal ?_ | refine scopeK_ret ?_ | refine scopeK_exit ?_ | refine loopK_ret ?_ | refine loopK_exit ?_ | refine dF mixed ?_ | (refine cB (fun hc => ?_) (fun hc => ?_) <;> first | exact False.elim hc | exact absurd hc Bool.false_ne_true | exact absurd hc.symm Bool.false_ne_true | skip) | refine cU ?_ ?_)))
        · rw [decD_ok hd, if_neg (Bool.eq_false_iff.1 hc)]
          (((simp only [push_cast, reduceIte, reduceDIte, reduceCtorEq, Nat.reduceLT, Nat.reduceLeDiff, Nat.reduceEqDiff, Nat.reduceAdd, Nat.reduceMul, Nat.reduceBEq, Nat.reducePow, Int.zero_add, Int.reduceAdd, Int.reduceSub, Int.reduceLT, Int.reduceLE, Int.reduceToNat, Int.reduceNeg, Nat.reduceSub]); repeat (simp (disch := omega) only [idx_map, idx_nat, i64w]; try (simp only [push_cast, reduceIte, reduceDIte, reduceCtorEq, Nat.reduceLT, Nat.reduceLeDiff, Nat.reduceEqDiff, Nat.reduceAdd, Nat.reduceMul, Nat.reduceBEq, Nat.reducePow, Int.zero_add, Int.reduceAdd, Int.reduceSub, Int.reduceLT, Int.reduceLE, Int.reduceToNat, Int.reduceNeg, Nat.reduceSub])))); rfl
        · rw [decD_ok hd, if_pos hc]
          (((simp only [push_cast, reduceIte, reduceDIte, reduceCtorEq, Nat.reduceLT, Nat.reduceLeDiff, Nat.reduceEqDiff, Nat.reduceAdd, Nat.reduceMul, Nat.reduceBEq, Nat.reducePow, Int.zero_add, Int.reduceAdd, Int.reduceSub, Int.reduceLT, Int.reduceLE, Int.reduceToNat, Int.reduceNeg, Nat.reduceSub]); repeat (simp (disch := omega) only [idx_map, idx_nat, i64w]; try (simp only [push_cast, reduceIte, reduceDIte, reduceCtorEq, Nat.reduceLT, Nat.reduceLeDiff, Nat.reduceEqDiff, Nat.reduceAdd, Nat.reduceMul, Nat.reduceBEq, Nat.reducePow, Int.zero_add, Int.reduceAdd, Int.reduceSub, Int.reduceLT, Int.reduceLE, Int.reduceToNat, Int.reduceNeg, Nat.reduceSub])))); rfl
      · rw [if_neg (fun k => absurd k.2 (by assumption))] at hd
        rw [decD_bad hd]
        (((simp only [push_cast, reduceIte, reduceDIte, reduceCtorEq, Nat.reduceLT, Nat.reduceLeDiff, Nat.reduceEqDiff, Nat.reduceAdd, Nat.reduceMul, Nat.reduceBEq, Nat.reducePow, Int.zero_add, Int.reduceAdd, Int.reduceSub, Int.reduceLT, Int.reduceLE, Int.reduceToNat, Int.reduceNeg, Nat.reduceSub]); repeat (simp (disch := omega) only [idx_map, idx_nat, i64w]; try (simp only [push_cast, reduceIte, reduceDIte, reduceCtorEq, Nat.reduceLT, Nat.reduceLeDiff, Nat.reduceEqDiff, Nat.reduceAdd, Nat.reduceMul, Nat.reduceBEq, Nat.reducePow, Int.zero_add, Int.reduceAdd, Int.reduceSub, Int.reduceLT, Int.reduceLE, Int.reduceToNat, Int.reduceNeg, Nat.reduceSub])))); rfl
      · exfalso; omega
    · obtain ⟨e1, e2⟩ := tnB b 1 1 2 rfl (by omega)
      rw [e1, e2]
      rw [if_neg (fun k => h2 k.1)] at hd
      (repeat' (first | refine swp_seq [0, 2, 3, 4, 5, 6, 7, 8, 9, 10, 11, 12, 14, 15, 16, 17, 18, 19, 22, 30, 31, 62, 79, 94, 109, 124, 168, 183, 189, 193] ?_ | (first | refine rF (fun hf => ?_) | refine tN ?_ | refine swp_skip ?_ | refine swp_ret ?_ | refine swp_exit ?_ | refine swp_block ?_ | refine swp_scope ?_ | refine thenK_ret ?_ | refine thenK_exit ?_ | refine blockK_normal ?_ | refine blockK_ret ?_ | refine blockK_here ?_ | refine bX ?_ | refine scopeK_normal ?_ | refine scopeK_ret ?_ | refine scopeK_exit ?_ | refine loopK_ret ?_ | refine loopK_exit ?_ | refine dF mixed ?_ | (refine cB (fun hc => ?_) (fun hc => ?_) <;> first | exact False.elim hc | exact absurd hc Bool.false_ne_true | exact absurd hc.symm Bool.false_ne_true | skip) | refine cU ?_ ?_)))
      rw [decD_bad hd]
      (((simp only [push_cast, reduceIte, reduceDIte, reduceCtorEq, Nat.reduceLT, Nat.reduceLeDiff, Nat.reduceEqDiff, Nat.reduceAdd, Nat.reduceMul, Nat.reduceBEq, Nat.reducePow, Int.zero_add, Int.reduceAdd, Int.reduceSub, Int.reduceLT, Int.reduceLE, Int.reduceToNat, Int.reduceNeg, Nat.reduceSub]); repeat (simp (disch := omega) only [idx_map, idx_nat, i64w]; try (simp only [push_cast, reduceIte, reduceDIte, reduceCtorEq, Nat.reduceLT, Nat.reduceLeDiff, Nat.reduceEqDiff, Nat.reduceAdd, Nat.reduceMul, Nat.reduceBEq, Nat.reducePow, Int.zero_add, Int.reduceAdd, Int.reduceSub, Int.reduceLT, Int.reduceLE, Int.reduceToNat, Int.reduceNeg, Nat.reduceSub])))); rfl
  · have h1 : 1 ≤ b.length := by omega
    replace hd := hd h1
    rw [gN_one b h1, if_neg (by assumption), if_neg (by assumption), if_neg (by assumption), if_neg (by assumption)] at hd
    rw [decD_bad hd]
    (((simp only [push_cast, reduceIte, reduceDIte, reduceCtorEq, Nat.reduceLT, Nat.reduceLeDiff, Nat.reduceEqDiff, Nat.reduceAdd, Nat.reduceMul, Nat.reduceBEq, Nat.reducePow, Int.zero_add, Int.reduceAdd, Int.reduceSub, Int.reduceLT, Int.reduceLE, Int.reduceToNat, Int.reduceNeg, Nat.reduceSub]); repeat (simp (disch := omega) only [idx_map, idx_nat, i64w]; try (simp only [push_cast, reduceIte, reduceDIte, reduceCtorEq, Nat.reduceLT, Nat.reduceLeDiff, Nat.reduceEqDiff, Nat.reduceAdd, Nat.reduceMul, Nat.reduceBEq, Nat.reducePow, Int.zero_add, Int.reduceAdd, Int.reduceSub, Int.reduceLT, Int.reduceLE, Int.reduceToNat, Int.reduceNeg, Nat.reduceSub])))); rfl

end Go.Proofs.Ytkhddlhhbanebaa
