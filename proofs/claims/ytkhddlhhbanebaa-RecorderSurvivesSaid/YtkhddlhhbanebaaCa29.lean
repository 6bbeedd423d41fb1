/-
  Contracts of functions of the program, over the engine.
  No condition.
-/
import Derived.Test.YtkhddlhhbanebaaCa28
namespace Go.Proofs.Ytkhddlhhbanebaa
open Go.Eng
set_option linter.all false

theorem prefix_bad {l pre b : List UInt8} {p t : Nat} (hb : b.length ≤ 65535) (ht : t < (frameB b).length) (hl : l = pre ++ (frameB b).take t) (hp : pre.length = p) : ¬ okF l p = true := by
  have hfl := frameB_len b
  have hu : un64 (b.length : Int) = b.length := un64_nat _ (by omega)
  have hll : l.length = p + t := by rw [hl, List.length_append, List.length_take, hp]; omega
  intro hk
  have h4 : p + 4 ≤ l.length := by unfold okF at hk; grind
  have hn : nAt l p = b.length := by
    have hs := frame_split b
    have : (frameB b).take t = beBytes 4 (un64 b.length) ++ (b ++ beBytes 4 (un64 (sumN (beBytes 4 (un64 b.length) ++ b)))).take (t - 4) := by
      rw [hs, List.take_append, beBytes_length, List.take_of_length_le (by rw [beBytes_length]; omega)]
    rw [this] at hl
    rw [nAt_at hl hp, hu]; omega
  have h8 : p + nAt l p + 8 ≤ l.length := by unfold okF at hk; grind
  omega
def tornAt (rs : List Rec) (part : List UInt8) : Prop := ¬ okF (encR rs ++ part) (encR rs).length = true
theorem torn_nil (rs : List Rec) : tornAt rs [] := by unfold tornAt; exact okF_end _ _ (by simp)
theorem torn_pre (rs : List Rec) {b : List UInt8} {t : Nat} (hb : b.length ≤ 65535) (ht : t < (frameB b).length) : tornAt rs ((frameB b).take t) := prefix_bad hb ht rfl rfl
theorem encR_take_le (rs : List Rec) (j : Nat) : (encR (rs.take j)).length ≤ (encR rs).length := by
  have := congrArg List.length (encR_app (rs.take j) (rs.drop j))
  rw [List.take_append_drop, List.length_append] at this; omega
theorem endsOf_take : ∀ (rs : List Rec) (p j : Nat), 1 ≤ j → j ≤ rs.length → ((p + (encR (rs.take j)).length : Nat) : Int) ∈ endsOf p rs
  | [], _, j, h1, h2 => by simp at h2; omega
  | r :: rs, p, j, h1, h2 => by
    obtain ⟨i, rfl⟩ : ∃ i, j = i + 1 := ⟨j - 1, by omega⟩
    rw [List.take_succ_cons, encR_cons, List.length_append, ← Nat.add_assoc, endsOf]
    by_cases h0 : i = 0
    · subst h0; simp [encR]
    · exact List.mem_cons_of_mem _ (endsOf_take rs _ i (by omega) (by simpa using h2))
theorem diskB_torn {rs : List Rec} {part : List UInt8} {j : Nat} {af : Int} (h : ∀ r ∈ rs, recB r = true) (hk : tornAt rs part) (hj : j ≤ rs.length) (hn : (encR rs ++ part).length ≤ 1048576) (ha : -1 ≤ af) (ha2 : af ≤ 1048576) :
    diskB ⟨encR rs ++ part, (encR (rs.take j)).length, af⟩ = true := by
  have he := (frames_of (l := encR rs ++ part) rfl h hk).2.1
  unfold diskB
  rw [he]
  simp only [Bool.and_eq_true, Bool.or_eq_true, decide_eq_true_eq]
  refine ⟨⟨⟨hn, ha⟩, ha2⟩, ?_⟩
  by_cases h0 : j = 0
  · subst h0; left; simp [encR]
  · right
    rw [List.any_eq_true]
    have := endsOf_take rs 0 j (by omega) hj
    rw [Nat.zero_add] at this
    exact ⟨_, this, by simp⟩
theorem whole_torn {rs : List Rec} {part : List UInt8} (h : ∀ r ∈ rs, recB r = true) (hk : tornAt rs part) : wholeV (encR rs ++ part) = (encR rs).length := (frames_of (l := encR rs ++ part) rfl h hk).2.2
theorem diskB_full {rs : List Rec} {j : Nat} {af : Int} (h : ∀ r ∈ rs, recB r = true) (hj : j ≤ rs.length) (hn : (encR rs).length ≤ 1048576) (ha : -1 ≤ af) (ha2 : af ≤ 1048576) :
    diskB ⟨encR rs, (encR (rs.take j)).length, af⟩ = true := by
  have := diskB_torn (part := []) h (torn_nil rs) hj (by simpa using hn) ha ha2
  simpa using this
theorem app_full {rs : List Rec} {r : Rec} {j : Nat} {af : Int} (h : ∀ r ∈ rs, recB r = true) (hr : recB r = true) (hl : rs.length ≤ 300) (hj : j ≤ rs.length) (ha : -1 ≤ af) (ha2 : af ≤ 1048576) :
    appD ⟨encR rs, (encR (rs.take j)).length, af⟩ r =
      if af = 0 then (⟨encR rs, (encR (rs.take j)).length, 0⟩, 19)
      else if 0 ≤ af ∧ af < (frameB (recBytes r)).length then (⟨encR rs ++ (frameB (recBytes r)).take af.toNat, (encR (rs.take j)).length, 0⟩, 19)
      else (⟨encR (rs ++ [r]), (encR (rs.take j)).length, if 0 < af then af - (frameB (recBytes r)).length else af⟩, 0) := by
  have h1 := encR_len rs h
  have h2 := recBytes_len hr
  have h3 := frameB_len (recBytes r)
  have hD := diskB_full (j := j) (af := af) h hj (by omega) ha ha2
  unfold appD
  rw [if_pos ⟨hD, hr⟩]
  by_cases h0 : af = 0
  · subst h0; simp
  · simp only
    rw [if_neg h0, if_neg h0, if_pos (whole_enc h), if_neg (by omega)]
    have : encR (rs ++ [r]) = encR rs ++ frameB (recBytes r) := by rw [encR_app]; simp [encR]
    rw [this]
theorem sync_full {rs : List Rec} {j : Nat} {af : Int} (h : ∀ r ∈ rs, recB r = true) (hl : rs.length ≤ 300) (hj : j ≤ rs.length) (ha : -1 ≤ af) (ha2 : af ≤ 1048576) :
    syncD ⟨encR rs, (encR (rs.take j)).length, af⟩ = if af = 0 then (⟨encR rs, (encR (rs.take j)).length, 0⟩, 19) else (⟨encR rs, (encR (rs.take rs.length)).length, af⟩, 0) := by
  have h1 := encR_len rs h
  have hD := diskB_full (j := j) (af := af) h hj (by omega) ha ha2
  unfold syncD
  rw [if_pos hD]
  by_cases h0 : af = 0
  · subst h0; simp
  · simp only
    rw [if_neg h0, if_neg h0, if_pos (whole_enc h), List.take_of_length_le (Nat.le_refl _)]
theorem take_enc : ∀ (rs : List Rec) (part : List UInt8) (j L : Nat), (∀ r ∈ rs, recB r = true) → (∀ t, ∀ qs, tornAt qs (part.take t)) → j ≤ rs.length → (encR (rs.take j)).length ≤ L →
    ∃ m part2, j ≤ m ∧ m ≤ rs.length ∧ (encR rs ++ part).take L = encR (rs.take m) ++ part2 ∧ ∀ qs, tornAt qs part2
  | [], part, j, L, _, hp, hj, _ => ⟨0, part.take L, by simpa using hj, Nat.zero_le _, by simp [encR], hp L⟩
  | r :: rs, part, j, L, h, hp, hj, hL => by
    have hb := recBytes_len (h r (by simp))
    by_cases hlt : L < (frameB (recBytes r)).length
    · have hj0 : j = 0 := by
        rcases Nat.eq_zero_or_pos j with h0 | h0
        · exact h0
        · exfalso
          obtain ⟨i, rfl⟩ : ∃ i, j = i + 1 := ⟨j - 1, by omega⟩
          rw [List.take_succ_cons, encR_cons, List.length_append] at hL; omega
      refine ⟨0, (frameB (recBytes r)).take L, by omega, Nat.zero_le _, ?_, fun qs => torn_pre qs (by omega) hlt⟩
      rw [encR_cons, List.append_assoc, List.take_append_of_le_length (by omega)]
      simp [encR]
    · have hstep : (encR (r :: rs) ++ part).take L = frameB (recBytes r) ++ (encR rs ++ part).take (L - (frameB (recBytes r)).length) := by
        rw [encR_cons, List.append_assoc, List.take_append, List.take_of_length_le (by omega)]
      obtain ⟨m, part2, k1, k2, k3, k4⟩ := take_enc rs part (j - 1) (L - (frameB (recBytes r)).length) (fun x hx => h x (by simp [hx])) hp (by simp at hj; omega) (by
        rcases Nat.eq_zero_or_pos j with h0 | h0
        · subst h0; simp [encR]
        · obtain ⟨i, rfl⟩ : ∃ i, j = i + 1 := ⟨j - 1, by omega⟩
          rw [List.take_succ_cons, encR_cons, List.length_append] at hL
          simp only [Nat.add_sub_cancel]; omega)
      refine ⟨m + 1, part2, by omega, by simp; omega, ?_, k4⟩
      rw [hstep, k3, List.take_succ_cons, encR_cons, List.append_assoc]
theorem torn_take (qs : List Rec) {b : List UInt8} {t u : Nat} (hb : b.length ≤ 65535) (ht : t < (frameB b).length) : tornAt qs (((frameB b).take t).take u) := by
  rw [List.take_take]; exact torn_pre qs hb (by omega)
theorem open_full {rs : List Rec} {part : List UInt8} {j : Nat} (h : ∀ r ∈ rs, recB r = true) (hk : tornAt rs part) (hj : j ≤ rs.length) (hn : (encR rs ++ part).length ≤ 1048576) :
    openD ⟨encR rs ++ part, (encR (rs.take j)).length, -1⟩ = (⟨encR rs, (encR rs).length, -1⟩, 0) := by
  have hD := diskB_torn (af := -1) h hk hj hn (by omega) (by omega)
  unfold openD
  rw [if_pos hD, if_neg (by simp)]
  simp only [whole_torn h hk, Int.toNat_natCast, List.take_left]
theorem recs_full {rs : List Rec} {j : Nat} {af : Int} (h : ∀ r ∈ rs, recB r = true) (hl : rs.length ≤ 300) (hj : j ≤ rs.length) (ha : -1 ≤ af) (ha2 : af ≤ 1048576) : recsD ⟨encR rs, (encR (rs.take j)).length, af⟩ = (rs, 0) := by
  have h1 := encR_len rs h
  unfold recsD
  rw [if_pos (diskB_full h hj (by omega) ha ha2), bods_enc h, recsGo_back _ _ h]; rfl

end Go.Proofs.Ytkhddlhhbanebaa
