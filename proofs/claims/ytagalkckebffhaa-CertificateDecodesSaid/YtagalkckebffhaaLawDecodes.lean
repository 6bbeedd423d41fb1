/-
  CertificateDecodes: for every input the statement of the program returns true, and its arguments read as before.
  No condition.
-/
import Derived.Test.YtagalkckebffhaaCC26
import Derived.Test.YtagalkckebffhaaCC18
import Derived.Test.YtagalkckebffhaaEngV
import Derived.Test.YtagalkckebffhaaRows
namespace Go.Proofs.Ytagalkckebffhaa
open Go.Eng
set_option linter.all false

attribute [local irreducible] PT
theorem decodes_law (xss : List (List PV)) (h : PTs Try.prog 8 Try.f4.params.toList xss) : DCalls Try.prog 4 (dvTs Try.prog Try.f4.params.toList xss) (hget []) 0 (lb true) (hget []) := by
  rw [Try.params4] at h ⊢
  obtain ⟨a, _, rfl, ha, rfl⟩ := h
  obtain ⟨x, rfl, hx⟩ := pt_bytes (n := 6) ha
  show DCalls Try.prog 4 [dvT Try.prog 28 [.dat 1 (x.map byRow)]] (hget []) 0 (lb true) (hget [])
  rw [dv_bytes]
  exact decodes_f x 0 hx
set_option maxRecDepth 100000 in
theorem decodes_lifted (os : Os) (started : os.Started) (H : Type) (enc : TypeId × Value → H) :
    ReturnsInHanded {} Try.checked os 4 .any (Rows.certificateDecodesSpec.pre6 enc Try.prog Try.f4 Rows.certificateDecodesRow.domain false) (Rows.certificateDecodesSpec.post enc Try.prog Try.f4 false true false false) :=
  law_returns (C := Try.checked) (n := 8) (tb := 4) own54 started (by kernel_rfl) Try.func4 laid54 rfl Try.underlying4 rfl (by kernel_rfl)
    (fun ds h => by match ds, h with | [_], _ => exact ⟨rfl, rfl, rfl⟩) decodes_law
    (ChangeSpec.witness6 (enc := enc) (C := Try.checked) false ⟨#[], #[.slice none 0 0], []⟩ 8 (by kernel_rfl) (by kernel_rfl) (by kernel_rfl) (by kernel_rfl))
theorem decodes_holds : Rows.CertificateDecodesSaid :=
  OpenClaim.holds_of_wide 4 Try.f4 rfl rfl rfl rfl rfl rfl rfl ⟨rfl, rfl, rfl, rfl, rfl⟩ rfl rfl rfl rfl rfl (by kernel_rfl) Try.func4 (by kernel_rfl)
    (of_decide_eq_true (by kernel_rfl)) (by unfold Func.isWrapper; first | (rw [if_pos (by decide +kernel)]; kernel_rfl) | (rw [if_neg (by decide +kernel)]; exact ⟨rfl, rfl⟩))
    (fun os started H enc _ => decodes_lifted os started H enc)

end Go.Proofs.Ytagalkckebffhaa
