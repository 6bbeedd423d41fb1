/-
  Contracts of functions of the program, over the engine.
  No condition.
-/
import Derived.Test.YtkhddlhhbanebaaCa22
namespace Go.Proofs.Ytkhddlhhbanebaa
open Go.Eng
set_option linter.all false
theorem own54 : ownKnob Try.prog.godebug = none := by kernel_rfl
theorem laid54 : laidOutB Try.prog = true := by kernel_rfl
theorem cells1 : Try.prog.cellsOf 3 = 1 := by kernel_rfl
theorem cells5 : Try.prog.cellsOf 5 = 1 := by kernel_rfl
theorem cells26 : Try.prog.cellsOf 26 = 11 := by kernel_rfl
theorem bytes3 : Try.prog.bytesOf 3 = 8 := by kernel_rfl
theorem bytes5 : Try.prog.bytesOf 5 = 1 := by kernel_rfl
theorem bytes26 : Try.prog.bytesOf 26 = 128 := by kernel_rfl
theorem exMap {α : Type} (f : α → List PV) : ∀ (l : List (List PV)), (∀ r, r ∈ l → ∃ x, r = f x) → ∃ xs : List α, l = xs.map f
  | [], _ => ⟨[], rfl⟩
  | r :: l, h => by
    obtain ⟨x, hx⟩ := h r (by simp)
    obtain ⟨xs, hxs⟩ := exMap f l fun r hr => h r (by simp [hr])
    exact ⟨x :: xs, by simp [hx, hxs]⟩
theorem PT_slice {P : Program} {n : Nat} {t e : TypeId} {xs : List PV} (hu : P.underlying t = some (.slice e)) (h : PT P (n + 1) t xs) : ∃ l, xs = [.dat (P.cellsOf e) l] ∧ l.length * P.bytesOf e ≤ reachBytes ∧ ∀ r, r ∈ l → PT P n e r := by
  unfold PT at h; rw [hu] at h; exact h
theorem PT_struct {P : Program} {n : Nat} {t : TypeId} {fs : Array Field} {xs : List PV} (hu : P.underlying t = some (.struct fs)) (h : PT P (n + 1) t xs) : PTf P (PT P n) fs.toList xs := by
  unfold PT at h; rw [hu] at h; exact h
theorem PT_int {P : Program} {n : Nat} {t : TypeId} {k : IntKind} {xs : List PV} (hu : P.underlying t = some (.int k)) (h : PT P (n + 1) t xs) : ∃ z, xs = [.lit (.int k z)] ∧ (Lit.int k z).wf = true := by
  unfold PT at h; rw [hu] at h; exact h
theorem PT_str {P : Program} {n : Nat} {t : TypeId} {xs : List PV} (hu : P.underlying t = some .string) (h : PT P (n + 1) t xs) : ∃ s : ByteArray, xs = [.lit (.string s)] ∧ s.size ≤ reachBytes := by
  unfold PT at h; rw [hu] at h; exact h
attribute [local irreducible] PT
theorem reachB : reachBytes ≤ 281474976710656 := by decide
theorem pt_int {n : Nat} {xs : List PV} (h : PT Try.prog (n + 1) 3 xs) : ∃ z : Int, xs = [.lit (.int .i64 z)] ∧ -9223372036854775808 ≤ z ∧ z ≤ 9223372036854775807 := by
  obtain ⟨z, rfl, hz⟩ := PT_int (P := Try.prog) (t := 3) Try.underlying3 h
  refine ⟨z, rfl, ?_⟩
  simpa [Lit.wf, IntKind.min, IntKind.max, IntKind.signed, IntKind.bits] using hz
theorem pt_u8 {n : Nat} {xs : List PV} (h : PT Try.prog (n + 1) 5 xs) : ∃ z : UInt8, xs = byRow z := by
  obtain ⟨z, rfl, hz⟩ := PT_int (P := Try.prog) (t := 5) Try.underlying5 h
  have hz2 : 0 ≤ z ∧ z ≤ 255 := by simpa [Lit.wf, IntKind.min, IntKind.max, IntKind.signed, IntKind.bits] using hz
  refine ⟨UInt8.ofNat z.toNat, ?_⟩
  have e : ((UInt8.ofNat z.toNat).toNat : Int) = z := by
    have : (UInt8.ofNat z.toNat).toNat = z.toNat % 256 := by simp
    rw [this]; omega
  unfold byRow
  rw [e]
theorem pt_ints {n : Nat} {xs : List PV} (h : PT Try.prog (n + 2) 22 xs) : ∃ l : List Int, xs = [.dat 1 (l.map inRow)] ∧ l.length ≤ 281474976710656 := by
  obtain ⟨l, rfl, hl, hr⟩ := PT_slice (P := Try.prog) (t := 22) Try.underlying22 h
  rw [bytes3] at hl
  obtain ⟨zs, rfl⟩ := exMap inRow l fun r hr2 => by
    obtain ⟨z, hz, _⟩ := pt_int (hr r hr2)
    exact ⟨z, hz⟩
  rw [cells1]
  refine ⟨zs, rfl, ?_⟩
  have := reachB
  simp at hl; omega
theorem pt_bytes {n : Nat} {xs : List PV} (h : PT Try.prog (n + 2) 27 xs) : ∃ l : List UInt8, xs = [.dat 1 (l.map byRow)] ∧ l.length ≤ 281474976710656 := by
  obtain ⟨l, rfl, hl, hr⟩ := PT_slice (P := Try.prog) (t := 27) Try.underlying27 h
  rw [bytes5] at hl
  obtain ⟨zs, rfl⟩ := exMap byRow l fun r hr2 => pt_u8 (hr r hr2)
  rw [cells5]
  refine ⟨zs, rfl, ?_⟩
  have := reachB
  simp at hl; omega
theorem pt_str {n : Nat} {xs : List PV} (h : PT Try.prog (n + 1) 9 xs) : ∃ s : ByteArray, xs = [.lit (.string s)] ∧ s.size ≤ 281474976710656 := by
  obtain ⟨z, rfl, hz⟩ := PT_str (P := Try.prog) (t := 9) Try.underlying9 h
  exact ⟨z, rfl, Nat.le_trans hz reachB⟩
theorem pt_msg {n : Nat} {xs : List PV} (h : PT Try.prog (n + 3) 24 xs) : ∃ m : Msg, xs = [.lit (.string m.node), .lit (.int .i64 m.number), .lit (.int .i64 m.att), .lit (.int .i64 m.arrived), .lit (.int .i64 m.level)] ∧ m.node.size ≤ 281474976710656 := by
  replace h := PT_struct (P := Try.prog) (t := 24) Try.underlying24 h
  obtain ⟨_, _, rfl, h1, _, _, rfl, h2, _, _, rfl, h3, _, _, rfl, h4, _, _, rfl, h5, rfl⟩ := h
  obtain ⟨s, rfl, hs⟩ := pt_str h1
  obtain ⟨a, rfl, _⟩ := pt_int h2
  obtain ⟨b, rfl, _⟩ := pt_int h3
  obtain ⟨c, rfl, _⟩ := pt_int h4
  obtain ⟨d, rfl, _⟩ := pt_int h5
  exact ⟨⟨s, a, b, c, d⟩, rfl, hs⟩
theorem pt_rec {n : Nat} {xs : List PV} (h : PT Try.prog (n + 4) 26 xs) : ∃ r : Rec, xs = recP r ∧ recOk r := by
  replace h := PT_struct (P := Try.prog) (t := 26) Try.underlying26 h
  obtain ⟨_, _, rfl, h1, _, _, rfl, h2, _, _, rfl, h3, _, _, rfl, h4, _, _, rfl, h5, _, _, rfl, h6, _, _, rfl, h7, rfl⟩ := h
  obtain ⟨a, rfl, _⟩ := pt_int h1
  obtain ⟨b, rfl, _⟩ := pt_int h2
  obtain ⟨c, rfl, hc⟩ := pt_ints h3
  obtain ⟨d, rfl, hd⟩ := pt_str h4
  obtain ⟨e, rfl, _⟩ := pt_int h5
  obtain ⟨f, rfl, hf⟩ := pt_msg h6
  obtain ⟨g, rfl, hg⟩ := pt_str h7
  exact ⟨⟨a, b, c, d, e, f, g⟩, rfl, hc, hd, hf, hg⟩
theorem pt_disk {n : Nat} {xs : List PV} (h : PT Try.prog (n + 3) 42 xs) : ∃ d : Disk, xs = [.dat 1 (d.data.map byRow), .lit (.int .i64 d.synced), .lit (.int .i64 d.after)] ∧ d.data.length ≤ 281474976710656 ∧ (-9223372036854775808 ≤ d.synced ∧ d.synced ≤ 9223372036854775807) ∧ -9223372036854775808 ≤ d.after ∧ d.after ≤ 9223372036854775807 := by
  replace h := PT_struct (P := Try.prog) (t := 42) Try.underlying42 h
  obtain ⟨_, _, rfl, h1, _, _, rfl, h2, _, _, rfl, h3, rfl⟩ := h
  obtain ⟨a, rfl, ha⟩ := pt_bytes h1
  obtain ⟨b, rfl, hb⟩ := pt_int h2
  obtain ⟨c, rfl, hc⟩ := pt_int h3
  exact ⟨⟨a, b, c⟩, rfl, ha, hb, hc⟩
theorem dv_rec (r : Rec) : dvT Try.prog 26 (recP r) = recD r := by unfold dvT; rw [Try.underlying26]; rfl
theorem dv_disk (d : Disk) : dvT Try.prog 42 [.dat 1 (d.data.map byRow), .lit (.int .i64 d.synced), .lit (.int .i64 d.after)] = dskD d := by unfold dvT; rw [Try.underlying42]; rfl
theorem dv_bytes (l : List UInt8) : dvT Try.prog 27 [.dat 1 (l.map byRow)] = bys l := by unfold dvT; rw [Try.underlying27]; rfl
theorem dv_int (n : Int) : dvT Try.prog 3 [.lit (.int .i64 n)] = li n := by unfold dvT; rw [Try.underlying3]; rfl

end Go.Proofs.Ytkhddlhhbanebaa
