/-
  CertificateKeeps: for every input the statement of the program returns true, and its arguments read as before.
  No condition.
-/
import Derived.Test.YtagalkckebffhaaCC37
import Derived.Test.YtagalkckebffhaaCC18
import Derived.Test.YtagalkckebffhaaEngV
import Derived.Test.YtagalkckebffhaaRows
namespace Go.Proofs.Ytagalkckebffhaa
open Go.Eng
set_option linter.all false

attribute [local irreducible] PT
theorem pt_u16 {n : Nat} {xs : List PV} (h : PT Try.prog (n + 1) 63 xs) : ∃ z : Int, xs = [.lit (.int .u16 z)] ∧ 0 ≤ z ∧ z ≤ 65535 := by
  obtain ⟨z, rfl, hz⟩ := PT_int (P := Try.prog) (t := 63) Try.underlying63 h
  exact ⟨z, rfl, by simpa [Lit.wf, IntKind.min, IntKind.max, IntKind.signed, IntKind.bits] using hz⟩
theorem dv_u8 (z : UInt8) : dvT Try.prog 5 (byRow z) = lv (.int .u8 (z.toNat : Int)) := by unfold dvT; rw [Try.underlying5]; rfl
theorem dv_u16 (z : Int) : dvT Try.prog 63 [.lit (.int .u16 z)] = lv (.int .u16 z) := by unfold dvT; rw [Try.underlying63]; rfl
theorem keeps_law (xss : List (List PV)) (h : PTs Try.prog 8 Try.f7.params.toList xss) : DCalls Try.prog 7 (dvTs Try.prog Try.f7.params.toList xss) (hget []) 0 (lb true) (hget []) := by
  rw [Try.params7] at h ⊢
  obtain ⟨a, _, rfl, ha, b, _, rfl, hb, c, _, rfl, hc, rfl⟩ := h
  obtain ⟨x, rfl, hx⟩ := pt_rows (n := 5) ha
  obtain ⟨y, rfl, hy⟩ := pt_u16 (n := 7) hb
  obtain ⟨z, rfl⟩ := pt_u8 (n := 7) hc
  show DCalls Try.prog 7 [dvT Try.prog 27 [.dat 1 (x.map ilRow)], dvT Try.prog 63 [.lit (.int .u16 y)], dvT Try.prog 5 (byRow z)] (hget []) 0 (lb true) (hget [])
  rw [dv_rows, dv_u16, dv_u8]
  exact keeps_f x y z 0 hx hy
set_option maxRecDepth 100000 in
theorem keeps_lifted (os : Os) (started : os.Started) (H : Type) (enc : TypeId × Value → H) :
    ReturnsInHanded {} Try.checked os 7 .any (Rows.certificateKeepsSpec.pre6 enc Try.prog Try.f7 Rows.certificateKeepsRow.domain false) (Rows.certificateKeepsSpec.post enc Try.prog Try.f7 false true false false) :=
  law_returns (C := Try.checked) (n := 8) (tb := 4) own54 started (by kernel_rfl) Try.func7 laid54 rfl Try.underlying4 rfl (by kernel_rfl)
    (fun ds h => by match ds, h with | [_, _, _], _ => exact ⟨rfl, rfl, rfl⟩) keeps_law
    (ChangeSpec.witness6 (enc := enc) (C := Try.checked) false ⟨#[], #[.slice none 0 0, .int .u16 0, .int .u8 0], []⟩ 8 (by kernel_rfl) (by kernel_rfl) (by kernel_rfl) (by kernel_rfl))
theorem keeps_holds : Rows.CertificateKeepsSaid :=
  OpenClaim.holds_of_wide 7 Try.f7 rfl rfl rfl rfl rfl rfl rfl ⟨rfl, rfl, rfl, rfl, rfl⟩ rfl rfl rfl rfl rfl (by kernel_rfl) Try.func7 (by kernel_rfl)
    (of_decide_eq_true (by kernel_rfl)) (by unfold Func.isWrapper; first | (rw [if_pos (by decide +kernel)]; kernel_rfl) | (rw [if_neg (by decide +kernel)]; exact ⟨rfl, rfl⟩))
    (fun os started H enc _ => keeps_lifted os started H enc)

end Go.Proofs.Ytagalkckebffhaa
