/-
  CertificateForms: for every input the statement of the program returns true, and its arguments read as before.
  No condition.
-/
import Derived.Test.YtagalkckebffhaaCC17
import Derived.Test.YtagalkckebffhaaCC18
import Derived.Test.YtagalkckebffhaaEngV
import Derived.Test.YtagalkckebffhaaRows
namespace Go.Proofs.Ytagalkckebffhaa
open Go.Eng
set_option linter.all false

attribute [local irreducible] PT
theorem forms_law (xss : List (List PV)) (h : PTs Try.prog 8 Try.f5.params.toList xss) : DCalls Try.prog 5 (dvTs Try.prog Try.f5.params.toList xss) (hget []) 0 (lb true) (hget []) := by
  rw [Try.params5] at h ⊢
  obtain ⟨a, _, rfl, ha, b, _, rfl, hb, rfl⟩ := h
  obtain ⟨x, rfl, hx⟩ := pt_rows (n := 5) ha
  obtain ⟨y, rfl, hy⟩ := pt_rows (n := 5) hb
  show DCalls Try.prog 5 [dvT Try.prog 27 [.dat 1 (x.map ilRow)], dvT Try.prog 27 [.dat 1 (y.map ilRow)]] (hget []) 0 (lb true) (hget [])
  rw [dv_rows, dv_rows]
  exact forms_f x y 0 hx hy
set_option maxRecDepth 100000 in
theorem forms_lifted (os : Os) (started : os.Started) (H : Type) (enc : TypeId × Value → H) :
    ReturnsInHanded {} Try.checked os 5 .any (Rows.certificateFormsSpec.pre6 enc Try.prog Try.f5 Rows.certificateFormsRow.domain false) (Rows.certificateFormsSpec.post enc Try.prog Try.f5 false true false false) :=
  law_returns (C := Try.checked) (n := 8) (tb := 4) own54 started (by kernel_rfl) Try.func5 laid54 rfl Try.underlying4 rfl (by kernel_rfl)
    (fun ds h => by match ds, h with | [_, _], _ => exact ⟨rfl, rfl, rfl⟩) forms_law
    (ChangeSpec.witness6 (enc := enc) (C := Try.checked) false ⟨#[], #[.slice none 0 0, .slice none 0 0], []⟩ 8 (by kernel_rfl) (by kernel_rfl) (by kernel_rfl) (by kernel_rfl))
theorem forms_holds : Rows.CertificateFormsSaid :=
  OpenClaim.holds_of_wide 5 Try.f5 rfl rfl rfl rfl rfl rfl rfl ⟨rfl, rfl, rfl, rfl, rfl⟩ rfl rfl rfl rfl rfl (by kernel_rfl) Try.func5 (by kernel_rfl)
    (of_decide_eq_true (by kernel_rfl)) (by unfold Func.isWrapper; first | (rw [if_pos (by decide +kernel)]; kernel_rfl) | (rw [if_neg (by decide +kernel)]; exact ⟨rfl, rfl⟩))
    (fun os started H enc _ => forms_lifted os started H enc)

end Go.Proofs.Ytagalkckebffhaa
