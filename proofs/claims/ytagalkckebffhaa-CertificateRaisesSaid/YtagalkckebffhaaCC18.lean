/-
  Contracts of functions of the program, over the engine.
  No condition.
-/
import Derived.Test.YtagalkckebffhaaCC2C3C24
import Derived.Test.YtagalkckebffhaaEngV
import Derived.Test.YtagalkckebffhaaRows
namespace Go.Proofs.Ytagalkckebffhaa
open Go.Eng
set_option linter.all false
attribute [local irreducible] DCallsG SWp Fct CallQ XCallQ LCallQ XLCallQ drun xrun
theorem own54 : ownKnob Try.prog.godebug = none := by kernel_rfl
theorem laid54 : laidOutB Try.prog = true := by kernel_rfl
theorem exMap {α : Type} (f : α → List PV) (p : α → Prop) : ∀ (l : List (List PV)), (∀ r, r ∈ l → ∃ x, r = f x ∧ p x) → ∃ xs : List α, l = xs.map f ∧ ∀ x, x ∈ xs → p x
  | [], _ => ⟨[], rfl, by simp⟩
  | r :: l, h => by
    obtain ⟨x, hx, hp⟩ := h r (by simp)
    obtain ⟨xs, hxs, hq⟩ := exMap f p l fun r hr => h r (by simp [hr])
    refine ⟨x :: xs, by simp [hx, hxs], fun y hy => ?_⟩
    rcases List.mem_cons.1 hy with rfl | hy
    · exact hp
    · exact hq y hy
theorem PT_slice {P : Program} {n : Nat} {t e : TypeId} {xs : List PV} (hu : P.underlying t = some (.slice e)) (h : PT P (n + 1) t xs) : ∃ l, xs = [.dat (P.cellsOf e) l] ∧ l.length * P.bytesOf e ≤ reachBytes ∧ ∀ r, r ∈ l → PT P n e r := by
  unfold PT at h; rw [hu] at h; exact h
theorem PT_struct {P : Program} {n : Nat} {t : TypeId} {fs : Array Field} {xs : List PV} (hu : P.underlying t = some (.struct fs)) (h : PT P (n + 1) t xs) : PTf P (PT P n) fs.toList xs := by
  unfold PT at h; rw [hu] at h; exact h
theorem PT_int {P : Program} {n : Nat} {t : TypeId} {k : IntKind} {xs : List PV} (hu : P.underlying t = some (.int k)) (h : PT P (n + 1) t xs) : ∃ z, xs = [.lit (.int k z)] ∧ (Lit.int k z).wf = true := by
  unfold PT at h; rw [hu] at h; exact h
theorem PT_str {P : Program} {n : Nat} {t : TypeId} {xs : List PV} (hu : P.underlying t = some .string) (h : PT P (n + 1) t xs) : ∃ s : ByteArray, xs = [.lit (.string s)] ∧ s.size ≤ reachBytes := by
  unfold PT at h; rw [hu] at h; exact h
theorem PT_bool {P : Program} {n : Nat} {t : TypeId} {xs : List PV} (hu : P.underlying t = some .bool) (h : PT P (n + 1) t xs) : ∃ b : Bool, xs = [.lit (.bool b)] := by
  unfold PT at h; rw [hu] at h; exact h
attribute [local irreducible] PT
theorem reachB : reachBytes ≤ 281474976710656 := by decide
theorem len_le {l k : Nat} (hk : 0 < k) (h : l * k ≤ reachBytes) : l ≤ 281474976710656 := Nat.le_trans (Nat.le_mul_of_pos_right l hk) (Nat.le_trans h reachB)
theorem pt_int {n : Nat} {xs : List PV} (h : PT Try.prog (n + 1) 3 xs) : ∃ z : Int, xs = [.lit (.int .i64 z)] ∧ i64ok z := by
  obtain ⟨z, rfl, hz⟩ := PT_int (P := Try.prog) (t := 3) Try.underlying3 h
  refine ⟨z, rfl, ?_⟩
  unfold i64ok
  simpa [Lit.wf, IntKind.min, IntKind.max, IntKind.signed, IntKind.bits] using hz
theorem pt_bool {n : Nat} {xs : List PV} (h : PT Try.prog (n + 1) 4 xs) : ∃ b : Bool, xs = [.lit (.bool b)] := PT_bool (P := Try.prog) (t := 4) Try.underlying4 h
theorem pt_str {n : Nat} {xs : List PV} (h : PT Try.prog (n + 1) 9 xs) : ∃ s : ByteArray, xs = [.lit (.string s)] ∧ s.size ≤ 281474976710656 := by
  obtain ⟨z, rfl, hz⟩ := PT_str (P := Try.prog) (t := 9) Try.underlying9 h
  exact ⟨z, rfl, Nat.le_trans hz reachB⟩
theorem cells_ints : Try.prog.cellsOf 3 = 1 := by kernel_rfl
theorem bytes_ints : 0 < Try.prog.bytesOf 3 := by rw [show Try.prog.bytesOf 3 = 8 from by kernel_rfl]; decide
theorem pt_ints {n : Nat} {xs : List PV} (h : PT Try.prog (n + 2) 22 xs) : ∃ l : List Int, xs = [.dat 1 (l.map inRow)] ∧ intsOk l := by
  obtain ⟨l, rfl, hl, hr⟩ := PT_slice (P := Try.prog) (t := 22) Try.underlying22 h
  obtain ⟨zs, rfl, hz⟩ := exMap inRow i64ok l fun r hr2 => by
    obtain ⟨z, rfl, hz⟩ := pt_int (hr r hr2)
    exact ⟨z, rfl, hz⟩
  rw [cells_ints]
  have := len_le bytes_ints hl
  rw [List.length_map] at this
  exact ⟨zs, rfl, this, hz⟩
theorem cells_rows : Try.prog.cellsOf 22 = 1 := by kernel_rfl
theorem bytes_rows : 0 < Try.prog.bytesOf 22 := by rw [show Try.prog.bytesOf 22 = 24 from by kernel_rfl]; decide
theorem pt_rows {n : Nat} {xs : List PV} (h : PT Try.prog (n + 3) 27 xs) : ∃ l : List (List Int), xs = [.dat 1 (l.map ilRow)] ∧ rowsOk l := by
  obtain ⟨l, rfl, hl, hr⟩ := PT_slice (P := Try.prog) (t := 27) Try.underlying27 h
  obtain ⟨zs, rfl, hz⟩ := exMap ilRow intsOk l fun r hr2 => by
    obtain ⟨z, rfl, hz⟩ := pt_ints (hr r hr2)
    exact ⟨z, rfl, hz⟩
  rw [cells_rows]
  have := len_le bytes_rows hl
  rw [List.length_map] at this
  exact ⟨zs, rfl, this, hz⟩
theorem pt_knot {n : Nat} {xs : List PV} (h : PT Try.prog (n + 2) 110 xs) : ∃ x : Knot, xs = knotP x ∧ knotOk x := by
  replace h := PT_struct (P := Try.prog) (t := 110) Try.underlying110 h
  obtain ⟨_, _, rfl, h0, _, _, rfl, h1, rfl⟩ := h
  obtain ⟨a0, rfl, k0⟩ := pt_int h0
  obtain ⟨a1, rfl, k1⟩ := pt_int h1
  exact ⟨⟨a0, a1⟩, rfl, ⟨k0, k1⟩⟩
theorem cells_knots : Try.prog.cellsOf 110 = 2 := by kernel_rfl
theorem bytes_knots : 0 < Try.prog.bytesOf 110 := by rw [show Try.prog.bytesOf 110 = 16 from by kernel_rfl]; decide
theorem pt_knots {n : Nat} {xs : List PV} (h : PT Try.prog (n + 3) 24 xs) : ∃ l : List Knot, xs = [.dat 2 (l.map knotP)] ∧ l.length ≤ 281474976710656 ∧ ∀ x, x ∈ l → knotOk x := by
  obtain ⟨l, rfl, hl, hr⟩ := PT_slice (P := Try.prog) (t := 24) Try.underlying24 h
  obtain ⟨zs, rfl, hz⟩ := exMap knotP knotOk l fun r hr2 => by
    obtain ⟨z, rfl, hz⟩ := pt_knot (hr r hr2)
    exact ⟨z, rfl, hz⟩
  rw [cells_knots]
  have := len_le bytes_knots hl
  rw [List.length_map] at this
  exact ⟨zs, rfl, this, hz⟩
theorem pt_plan {n : Nat} {xs : List PV} (h : PT Try.prog (n + 4) 26 xs) : ∃ x : Plan, xs = planP x ∧ planOk x := by
  replace h := PT_struct (P := Try.prog) (t := 26) Try.underlying26 h
  obtain ⟨_, _, rfl, h0, _, _, rfl, h1, _, _, rfl, h2, _, _, rfl, h3, _, _, rfl, h4, _, _, rfl, h5, _, _, rfl, h6, rfl⟩ := h
  obtain ⟨a0, rfl, k0⟩ := pt_int h0
  obtain ⟨a1, rfl, k1⟩ := pt_int h1
  obtain ⟨a2, rfl, k2⟩ := pt_int h2
  obtain ⟨a3, rfl, k3⟩ := pt_ints h3
  obtain ⟨a4, rfl, k4⟩ := pt_ints h4
  obtain ⟨a5, rfl, k5⟩ := pt_knots h5
  obtain ⟨a6, rfl, k6⟩ := pt_int h6
  exact ⟨⟨a0, a1, a2, a3, a4, a5, a6⟩, rfl, ⟨k0, k1, k2, k3, k4, k5, k6⟩⟩
theorem pt_u8 {n : Nat} {xs : List PV} (h : PT Try.prog (n + 1) 5 xs) : ∃ z : UInt8, xs = byRow z := by
  obtain ⟨z, rfl, hz⟩ := PT_int (P := Try.prog) (t := 5) Try.underlying5 h
  have hz2 : 0 ≤ z ∧ z ≤ 255 := by simpa [Lit.wf, IntKind.min, IntKind.max, IntKind.signed, IntKind.bits] using hz
  refine ⟨UInt8.ofNat z.toNat, ?_⟩
  have e : ((UInt8.ofNat z.toNat).toNat : Int) = z := by
    have : (UInt8.ofNat z.toNat).toNat = z.toNat % 256 := by simp
    rw [this]; omega
  unfold byRow
  rw [e]
theorem pt_bytes {n : Nat} {xs : List PV} (h : PT Try.prog (n + 2) 28 xs) : ∃ l : List UInt8, xs = [.dat 1 (l.map byRow)] ∧ l.length ≤ 281474976710656 := by
  obtain ⟨l, rfl, hl, hr⟩ := PT_slice (P := Try.prog) (t := 28) Try.underlying28 h
  obtain ⟨zs, rfl, hz⟩ := exMap byRow (fun _ => True) l fun r hr2 => by
    obtain ⟨z, rfl⟩ := pt_u8 (hr r hr2)
    exact ⟨z, rfl, trivial⟩
  rw [show Try.prog.cellsOf 5 = 1 from by kernel_rfl]
  rw [show Try.prog.bytesOf 5 = 1 from by kernel_rfl] at hl
  have := len_le (by decide : 0 < 1) hl
  rw [List.length_map] at this
  exact ⟨zs, rfl, this⟩
theorem dv_rows (l : List (List Int)) : dvT Try.prog 27 [.dat 1 (l.map ilRow)] = intss l := by unfold dvT; rw [Try.underlying27]; rfl
theorem dv_ints (l : List Int) : dvT Try.prog 22 [.dat 1 (l.map inRow)] = ints l := by unfold dvT; rw [Try.underlying22]; rfl
theorem dv_plan (x : Plan) : dvT Try.prog 26 (planP x) = planD x := by unfold dvT; rw [Try.underlying26]; rfl
theorem dv_bytes (l : List UInt8) : dvT Try.prog 28 [.dat 1 (l.map byRow)] = bys l := by unfold dvT; rw [Try.underlying28]; rfl

end Go.Proofs.Ytagalkckebffhaa
