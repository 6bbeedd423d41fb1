/-
  Contracts of functions of the program, over the engine.
  No condition.
-/
import Derived.Test.YtagalkckebffhaaCC21
namespace Go.Proofs.Ytagalkckebffhaa
open Go.Eng
set_option linter.all false
attribute [local irreducible] DCallsG SWp Fct CallQ XCallQ LCallQ XLCallQ drun xrun

theorem foldl_be (n : Nat) : ∀ (u acc : Nat), (beBytes n u).foldl numStep acc = (acc * 256 ^ n + u % 256 ^ n) % 18446744073709551616 ∨ n = 0 := by
  induction n with
  | zero => intro u acc; exact .inr rfl
  | succ n ih =>
    intro u acc
    refine .inl ?_
    have hc : (UInt8.ofNat (u / 256 ^ n)).toNat = u / 256 ^ n % 256 := by simp
    have e1 : u % 256 ^ (n + 1) = u % 256 ^ n + 256 ^ n * (u / 256 ^ n % 256) := Nat.mod_pow_succ
    simp only [beBytes, List.foldl_cons]
    have e2 : numStep acc (UInt8.ofNat (u / 256 ^ n)) = (acc * 256 + u / 256 ^ n % 256) % 18446744073709551616 := by unfold numStep; rw [hc]
    rcases ih u (numStep acc (UInt8.ofNat (u / 256 ^ n))) with h | h
    · rw [h, e1, e2]
      generalize u / 256 ^ n % 256 = c
      generalize u % 256 ^ n = v
      rw [Nat.pow_succ]
      generalize 256 ^ n = k
      rw [Nat.add_mod, Nat.mod_mul_mod, ← Nat.add_mod]
      congr 1
      rw [Nat.add_mul, Nat.mul_assoc, Nat.mul_comm 256 k, Nat.mul_comm c k]; omega
    · subst h
      have hv : u % 256 ^ 0 = 0 := by simp [Nat.mod_one]
      rw [e1, e2, hv]
      simp [beBytes]
theorem numU_be (n u : Nat) (hn : 1 ≤ n) (hn2 : n ≤ 8) : numU (beBytes n u) = u % 256 ^ n := by
  unfold numU
  rcases foldl_be n u 0 with h | h
  · rw [h, Nat.zero_mul, Nat.zero_add]
    refine Nat.mod_eq_of_lt ?_
    have h1 : u % 256 ^ n < 256 ^ n := Nat.mod_lt _ (Nat.pow_pos (by decide))
    have h2 : 256 ^ n ≤ 256 ^ 8 := Nat.pow_le_pow_right (by decide) hn2
    have h3 : (256 : Nat) ^ 8 = 18446744073709551616 := by decide
    omega
  · omega
theorem wrap64_mod {x : Int} (h0 : -9223372036854775808 ≤ x) (hx : x ≤ 9223372036854775807) : IntKind.i64.wrap (x % 18446744073709551616) = x := by
  rw [IntKind.wrap_i64]; omega
theorem sumStep_inj {n m : Nat} {c : UInt8} (hn : n < 4294967296) (hm : m < 4294967296) (h : sumStep n c = sumStep m c) : n = m := by unfold sumStep at h; omega
theorem sumStep_lt (n : Nat) (c : UInt8) : sumStep n c < 4294967296 := Nat.mod_lt _ (by decide)
theorem sum_inj : ∀ (l : List UInt8) (n m : Nat), n < 4294967296 → m < 4294967296 → l.foldl sumStep n = l.foldl sumStep m → n = m
  | [], _, _, _, _, h => h
  | c :: l, n, m, hn, hm, h => sumStep_inj hn hm (sum_inj l _ _ (sumStep_lt _ _) (sumStep_lt _ _) h)
theorem sumN_ne {a b : List UInt8} {c c' : UInt8} (h : c ≠ c') : sumN (a ++ c :: b) ≠ sumN (a ++ c' :: b) := by
  unfold sumN
  rw [List.foldl_append, List.foldl_append, List.foldl_cons, List.foldl_cons]
  intro k
  have := sum_inj b _ _ (sumStep_lt _ _) (sumStep_lt _ _) k
  have h1 := u8lt c
  have h2 := u8lt c'
  have h3 : c.toNat ≠ c'.toNat := fun e => h (UInt8.toNat_inj.1 e)
  unfold sumStep at this
  omega
theorem num4_inj {a b : List UInt8} (ha : a.length = 4) (hb : b.length = 4) (h : numU a = numU b) : a = b := by
  match a, b, ha, hb with
  | [a1, a2, a3, a4], [b1, b2, b3, b4], _, _ =>
    have p1 := u8lt a1; have p2 := u8lt a2; have p3 := u8lt a3; have p4 := u8lt a4
    have q1 := u8lt b1; have q2 := u8lt b2; have q3 := u8lt b3; have q4 := u8lt b4
    simp only [numU, List.foldl_cons, List.foldl_nil, numStep] at h
    have e1 : a1.toNat = b1.toNat := by omega
    have e2 : a2.toNat = b2.toNat := by omega
    have e3 : a3.toNat = b3.toNat := by omega
    have e4 : a4.toNat = b4.toNat := by omega
    rw [UInt8.toNat_inj.1 e1, UInt8.toNat_inj.1 e2, UInt8.toNat_inj.1 e3, UInt8.toNat_inj.1 e4]
theorem num8_back {x : Int} (h : i64ok x) : IntKind.i64.wrap (numU (beBytes 8 (un64 x))) = x := by
  have h3 : (256 : Nat) ^ 8 = 18446744073709551616 := by decide
  rw [numU_be 8 _ (by omega) (by omega), h3]
  have h4 : ((un64 x % 18446744073709551616 : Nat) : Int) = x % 18446744073709551616 := by unfold un64; omega
  rw [h4]
  exact wrap64_mod h.1 h.2
theorem tkV_at {X pre post : List UInt8} {x : Int} {k : Nat} (hX : X = pre ++ (beBytes 8 (un64 x) ++ post)) (hp : pre.length = k) (hx : i64ok x) : tkV X k 8 = x := by
  unfold tkV
  have h1 : X.drop k = beBytes 8 (un64 x) ++ post := by rw [hX, ← hp, List.drop_left]
  have h2 : (X.drop k).take 8 = beBytes 8 (un64 x) := by
    rw [h1]
    have := List.take_left (l₁ := beBytes 8 (un64 x)) (l₂ := post)
    rwa [beBytes_length] at this
  rw [h2, num8_back hx]
theorem nums_split (r : List Int) {i : Nat} (h : i < r.length) : nums r = nums (r.take i) ++ (beBytes 8 (un64 r[i]) ++ nums (r.drop (i + 1))) := by
  have e : r = r.take i ++ r[i] :: r.drop (i + 1) := by
    rw [List.getElem_cons_drop h, List.take_append_drop]
  have h2 : nums (r.take i ++ r[i] :: r.drop (i + 1)) = nums (r.take i) ++ (beBytes 8 (un64 r[i]) ++ nums (r.drop (i + 1))) := by
    unfold nums; rw [List.flatMap_append, List.flatMap_cons]
  rw [← h2, ← e]
theorem rowN_nums (r : List Int) (post : List UInt8) (h : ∀ z, z ∈ r → i64ok z) : rowN (nums r ++ post) r.length = r := by
  refine List.ext_getElem (by simp [rowN_len]) fun i hi hj => ?_
  simp only [rowN, List.getElem_map, List.getElem_range]
  refine tkV_at (pre := nums (r.take i)) (post := nums (r.drop (i + 1)) ++ post) ?_ (by rw [nums_len, List.length_take]; omega) (h _ (List.getElem_mem hj))
  have := nums_split r hj
  rw [this]; simp only [List.append_assoc]
theorem be2_num (n : Nat) (h : n < 65536) (rest : List UInt8) : numU ((beBytes 2 (un64 (n : Int)) ++ rest).take 2) = n := by
  have h2 : (beBytes 2 (un64 (n : Int)) ++ rest).take 2 = beBytes 2 (un64 (n : Int)) := by
    have := List.take_left (l₁ := beBytes 2 (un64 (n : Int))) (l₂ := rest)
    rwa [beBytes_length] at this
  have h3 : (256 : Nat) ^ 2 = 65536 := by decide
  have h4 : un64 (n : Int) = n := by unfold un64; omega
  rw [h2, numU_be 2 _ (by omega) (by omega), h3, h4]
  exact Nat.mod_eq_of_lt h
theorem be2_drop (n : Nat) (rest : List UInt8) : (beBytes 2 (un64 (n : Int)) ++ rest).drop 2 = rest := by
  have := List.drop_left (l₁ := beBytes 2 (un64 (n : Int))) (l₂ := rest)
  rwa [beBytes_length] at this
theorem pI_enc {l : List (List Int)} (post : List UInt8) (hl : rowsOk l) (hb : ∀ i, i < l.length → (l.getD i default).length ≤ 8000 ∧ (l.getD i default).length % 2 = 0) : ∀ i, i ≤ l.length → pI (l.flatMap encRow ++ post) i = some (l.take i, (l.drop i).flatMap encRow ++ post)
  | 0, _ => rfl
  | i + 1, hi => by
    have ih := pI_enc post hl hb i (by omega)
    have hr := hb i (by omega)
    have hz := (hl.2 _ (getD_mem (by omega : i < l.length))).2
    have hd : l.drop i = l.getD i default :: l.drop (i + 1) := by
      rw [← List.getElem_cons_drop (by omega : i < l.length)]
      simp [List.getD_eq_getElem?_getD, List.getElem?_eq_getElem (by omega : i < l.length)]
    have ht := take_snoc (l := l) (i := i) (by omega)
    generalize l.getD i default = r at *
    have hq : (r.length : Int) / 2 = ((r.length / 2 : Nat) : Int) := by omega
    have e : (l.drop i).flatMap encRow ++ post = beBytes 2 (un64 ((r.length / 2 : Nat) : Int)) ++ (nums r ++ ((l.drop (i + 1)).flatMap encRow ++ post)) := by
      rw [hd, List.flatMap_cons]; unfold encRow; rw [hq]; simp only [List.append_assoc]
    rw [e] at ih
    have hn := be2_num (r.length / 2) (by omega) (nums r ++ ((l.drop (i + 1)).flatMap encRow ++ post))
    have hdr := be2_drop (r.length / 2) (nums r ++ ((l.drop (i + 1)).flatMap encRow ++ post))
    have hm : 2 * (r.length / 2) = r.length := by omega
    have hnl := nums_len r
    have := pI_next ih (by rw [List.length_append, beBytes_length]; omega) (by rw [hdr, hn, hm, List.length_append, hnl]; omega)
    rw [this, hdr, hn, hm, rowN_nums r _ hz, ht]
    congr 2
    have := List.drop_left (l₁ := nums r) (l₂ := (l.drop (i + 1)).flatMap encRow ++ post)
    rwa [hnl] at this
theorem right_in {l : List (List Int)} (h : rightE l = 0) : l.length ≤ 201 ∧ ∀ i, i < l.length → (l.getD i default).length ≤ 8000 ∧ (l.getD i default).length % 2 = 0 := by
  have hfu : fullB l 201 = false := by
    unfold rightE at h
    split at h
    · exact absurd h (by decide)
    · simpa using ‹¬ fullB l 201 = true›
  have hev : l.any badB = false := by
    unfold rightE at h
    rw [if_neg (by rw [hfu]; simp)] at h
    split at h
    · exact absurd h (by decide)
    · simpa using ‹¬ l.any badB = true›
  refine ⟨by unfold fullB at hfu; simp at hfu; omega, fun i hi => ⟨(full_row hfu hi).2, ?_⟩⟩
  have := List.any_eq_false.1 hev _ (getD_mem hi)
  unfold badB oddB at this
  have h8 : ¬ (l.getD i default).length % 2 = 1 := fun q => this (by rw [decide_eq_true q]; rfl)
  omega
theorem un64_nat (n : Nat) (h : n < 18446744073709551616) : un64 (n : Int) = n := by unfold un64; omega
theorem decR_enc {l : List (List Int)} (hl : rowsOk l) (h0 : rightE l = 0) (hs : sizeI l l.length ≤ 1048576) : decR (encAll l) = (l, 0) := by
  obtain ⟨h201, hb⟩ := right_in h0
  have hlen := encAll_len l
  have hbl := encBody_len l
  have e : encAll l = [82, 67, 1] ++ (beBytes 2 (un64 (l.length : Int)) ++ (l.flatMap encRow ++ beBytes 4 (un64 (sumN (encBody l) : Nat)))) := by
    unfold encAll encBody encHead; simp only [List.append_assoc]
  have h9 : 9 ≤ sizeI l l.length := by unfold sizeI; omega
  have hp := pI_enc (beBytes 4 (un64 (sumN (encBody l) : Nat))) hl hb l.length (Nat.le_refl _)
  rw [List.take_length, List.drop_length, List.flatMap_nil, List.nil_append] at hp
  have d3 : (encAll l).drop 3 = beBytes 2 (un64 (l.length : Int)) ++ (l.flatMap encRow ++ beBytes 4 (un64 (sumN (encBody l) : Nat))) := by rw [e]; rfl
  have d5 : (encAll l).drop 5 = l.flatMap encRow ++ beBytes 4 (un64 (sumN (encBody l) : Nat)) := by
    rw [show (encAll l).drop 5 = ((encAll l).drop 3).drop 2 by rw [List.drop_drop], d3, be2_drop]
  have hsl := sumN_lt (encBody l)
  have h3 : (256 : Nat) ^ 4 = 4294967296 := by decide
  unfold decR
  rw [if_neg (by omega), if_neg (fun q => q (by rw [e]; rfl)), if_neg (by omega), d5, d3, be2_num _ (by omega), hp]
  unfold decT
  dsimp only
  rw [if_neg (by rw [beBytes_length]; omega), if_neg (by rw [beBytes_length]; omega), if_neg, if_neg (fun q => q h0)]
  intro q
  refine q ?_
  have t1 : (beBytes 4 (un64 (sumN (encBody l) : Nat))).take 4 = beBytes 4 (un64 (sumN (encBody l) : Nat)) := List.take_of_length_le (by rw [beBytes_length]; omega)
  have t2 : (encAll l).take ((encAll l).length - (beBytes 4 (un64 (sumN (encBody l) : Nat))).length) = encBody l := by
    rw [beBytes_length]
    have := List.take_left (l₁ := encBody l) (l₂ := beBytes 4 (un64 (sumN (encBody l) : Nat)))
    rw [show (encAll l).length - 4 = (encBody l).length by omega]
    exact this
  rw [t1, t2, numU_be 4 _ (by omega) (by omega), h3, un64_nat _ (by omega), Nat.mod_eq_of_lt hsl]
  exact i64w (by omega)

theorem pI_suffix {L : List UInt8} : ∀ {i : Nat} {rs : List (List Int)} {l : List UInt8}, pI L i = some (rs, l) → ∃ k, k ≤ L.length ∧ l = L.drop k
  | 0, rs, l, h => by
    simp only [pI, Option.some.injEq, Prod.mk.injEq] at h
    exact ⟨0, by omega, by rw [← h.2]; rfl⟩
  | i + 1, rs, l, h => by
    cases hp : pI L i with
    | none => rw [pI_none hp] at h; cases h
    | some x =>
      obtain ⟨ps, q⟩ := x
      obtain ⟨k, hk, rfl⟩ := pI_suffix hp
      by_cases h1 : (L.drop k).length < 2
      · rw [pI_short hp h1] at h; cases h
      · by_cases h2 : ((L.drop k).drop 2).length < 8 * (2 * numU ((L.drop k).take 2))
        · rw [pI_cut hp h2] at h; cases h
        · rw [pI_next hp h1 h2] at h
          simp only [Option.some.injEq, Prod.mk.injEq] at h
          rw [List.drop_drop, List.drop_drop] at h
          rw [List.length_drop, List.length_drop] at h2
          rw [List.length_drop] at h1
          exact ⟨_, by omega, h.2.symm⟩
theorem decR_sum {b : List UInt8} (h : (decR b).2 = 0) : 9 ≤ b.length ∧ IntKind.i64.wrap (numU (b.drop (b.length - 4))) = (sumN (b.take (b.length - 4)) : Nat) := by
  unfold decR at h
  split at h
  · exact absurd h (by decide)
  split at h
  · exact absurd h (by decide)
  split at h
  · exact absurd h (by decide)
  · next h5 =>
    cases hp : pI (b.drop 5) (numU ((b.drop 3).take 2)) with
    | none => rw [hp] at h; exact absurd h (by show ¬ ((8 : Int) = 0); decide)
    | some x =>
      obtain ⟨rs, l⟩ := x
      obtain ⟨k, hk, rfl⟩ := pI_suffix hp
      rw [hp] at h
      rw [List.length_drop] at hk
      unfold decT at h
      dsimp only at h
      have hd : ((b.drop 5).drop k).length = b.length - 5 - k := by rw [List.length_drop, List.length_drop]
      by_cases h6 : ((b.drop 5).drop k).length < 4
      · rw [if_pos h6] at h; exact absurd h (by decide)
      rw [if_neg h6] at h
      by_cases h7 : 4 < ((b.drop 5).drop k).length
      · rw [if_pos h7] at h; exact absurd h (by decide)
      rw [if_neg h7] at h
      have e4 : (b.drop 5).drop k = b.drop (b.length - 4) := by rw [List.drop_drop]; congr 1; omega
      have hl : (b.drop (b.length - 4)).length = 4 := by rw [List.length_drop]; omega
      rw [e4, List.take_of_length_le (by omega), hl] at h
      by_cases h8 : IntKind.i64.wrap (numU (b.drop (b.length - 4))) = (sumN (b.take (b.length - 4)) : Nat)
      · exact ⟨by omega, h8⟩
      · rw [if_pos h8] at h; exact absurd h (by decide)
theorem decR_torn {l : List (List Int)} {p : Nat} {c : UInt8} (hp : p < (encAll l).length) (hc : (encAll l).getD p default ≠ c) : (decR ((encAll l).set p c)).2 ≠ 0 := by
  intro h
  obtain ⟨h9, hS⟩ := decR_sum h
  rw [List.length_set] at hS
  have hbl := encBody_len l
  have hal := encAll_len l
  have hsl := sumN_lt (encBody l)
  have h3 : (256 : Nat) ^ 4 = 4294967296 := by decide
  have h4 : (encAll l).length - 4 = (encBody l).length := by omega
  have hbe : (beBytes 4 (un64 (sumN (encBody l) : Nat))).length = 4 := beBytes_length _ _
  have hnum : numU (beBytes 4 (un64 (sumN (encBody l) : Nat))) = sumN (encBody l) := by
    rw [numU_be 4 _ (by omega) (by omega), h3, un64_nat _ (by omega), Nat.mod_eq_of_lt hsl]
  rw [h4] at hS
  by_cases hq : p < (encBody l).length
  · have e : (encAll l).set p c = (encBody l).set p c ++ beBytes 4 (un64 (sumN (encBody l) : Nat)) := by
      unfold encAll; rw [List.set_append_left _ _ hq]
    have t1 : ((encAll l).set p c).take (encBody l).length = (encBody l).set p c := by
      rw [e]
      have := List.take_left (l₁ := (encBody l).set p c) (l₂ := beBytes 4 (un64 (sumN (encBody l) : Nat)))
      rwa [List.length_set] at this
    have t2 : ((encAll l).set p c).drop (encBody l).length = beBytes 4 (un64 (sumN (encBody l) : Nat)) := by
      rw [e]
      have := List.drop_left (l₁ := (encBody l).set p c) (l₂ := beBytes 4 (un64 (sumN (encBody l) : Nat)))
      rwa [List.length_set] at this
    rw [t1, t2, hnum, i64w (by omega)] at hS
    have hc2 : (encBody l)[p] ≠ c := by
      intro q
      refine hc ?_
      have : (encAll l).getD p default = (encBody l)[p] := by
        unfold encAll
        rw [List.getD_eq_getElem?_getD, List.getElem?_append_left hq, List.getElem?_eq_getElem hq]; rfl
      rw [this, q]
    have e1 : encBody l = (encBody l).take p ++ (encBody l)[p] :: (encBody l).drop (p + 1) := by
      rw [List.getElem_cons_drop hq, List.take_append_drop]
    have e2 : (encBody l).set p c = (encBody l).take p ++ c :: (encBody l).drop (p + 1) := List.set_eq_take_append_cons_drop .. |>.trans (if_pos hq)
    have hne := sumN_ne (a := (encBody l).take p) (b := (encBody l).drop (p + 1)) hc2
    rw [← e1, ← e2] at hne
    omega
  · have e : (encAll l).set p c = encBody l ++ (beBytes 4 (un64 (sumN (encBody l) : Nat))).set (p - (encBody l).length) c := by
      unfold encAll; rw [List.set_append_right _ _ (by omega)]
    rw [e, List.take_left, List.drop_left] at hS
    have hse : ((beBytes 4 (un64 (sumN (encBody l) : Nat))).set (p - (encBody l).length) c).length = 4 := by rw [List.length_set, hbe]
    have hlt := (numU_lt ((beBytes 4 (un64 (sumN (encBody l) : Nat))).set (p - (encBody l).length) c)).1
    rw [hse, h3] at hlt
    rw [i64w (by omega)] at hS
    have hi := num4_inj hse hbe (by rw [hnum]; omega)
    refine hc ?_
    have hq2 : p - (encBody l).length < (beBytes 4 (un64 (sumN (encBody l) : Nat))).length := by omega
    have h6 : (encAll l).getD p default = (beBytes 4 (un64 (sumN (encBody l) : Nat)))[p - (encBody l).length] := by
      unfold encAll
      rw [List.getD_eq_getElem?_getD, List.getElem?_append_right (by omega), List.getElem?_eq_getElem hq2]; rfl
    have h7 : ((beBytes 4 (un64 (sumN (encBody l) : Nat))).set (p - (encBody l).length) c)[p - (encBody l).length]'(by omega) = c := List.getElem_set_self _
    have h8 : ((beBytes 4 (un64 (sumN (encBody l) : Nat))).set (p - (encBody l).length) c)[p - (encBody l).length]'(by omega) = (beBytes 4 (un64 (sumN (encBody l) : Nat)))[p - (encBody l).length] := by
      simp only [hi]
    rw [h6, ← h8, h7]

end Go.Proofs.Ytagalkckebffhaa
