/-
  CertificateTightSaid: for every input the statement of the program returns true, and its arguments read as before.
  No condition.
-/
import Derived.Test.YtlailhdmgehniaaCV8V9
import Derived.Test.YtlailhdmgehniaaCP14T2ELU1C18U4
import Derived.Test.YtlailhdmgehniaaEngV
import Derived.Test.YtlailhdmgehniaaRows
namespace Go.Proofs.Ytlailhdmgehniaa
open Go.Eng
set_option linter.all false

attribute [local irreducible] PT
theorem tight_law (xss : List (List PV)) (h : PTs Try.prog 8 Try.f3.params.toList xss) : DCalls Try.prog 3 (dvTs Try.prog Try.f3.params.toList xss) (hget []) 0 (lb true) (hget []) := by
  rw [Try.params3] at h ⊢
  obtain ⟨a0, _, rfl, h0, rfl⟩ := h
  obtain ⟨x0, rfl, k0⟩ := pt_plan (n := 4) h0
  show DCalls Try.prog 3 [dvT Try.prog 26 (planP x0)] (hget []) 0 (lb true) (hget [])
  rw [dv_plan]
  exact tight_f x0 0 k0
set_option maxRecDepth 100000 in
theorem tight_lifted (os : Os) (started : os.Started) (H : Type) (enc : TypeId × Value → H) :
    ReturnsInHanded {} Try.checked os 3 .any (Rows.certificateTightSpec.pre6 enc Try.prog Try.f3 Rows.certificateTightRow.domain false) (Rows.certificateTightSpec.post enc Try.prog Try.f3 false true false false) :=
  law_returns (C := Try.checked) (n := 8) (tb := 4) own54 started (by kernel_rfl) Try.func3 laid54 rfl Try.underlying4 rfl (by kernel_rfl)
    (fun ds h => by match ds, h with | [_], _ => exact ⟨rfl, rfl, rfl⟩) tight_law
    (ChangeSpec.witness6 (enc := enc) (C := Try.checked) false ⟨#[], #[.agg #[.int .i64 0, .int .i64 0, .int .i64 0, .slice none 0 0, .slice none 0 0, .slice none 0 0, .int .i64 0]], []⟩ 8 (by kernel_rfl) (by kernel_rfl) (by kernel_rfl) (by kernel_rfl))
theorem tight_holds : Rows.CertificateTightSaid :=
  OpenClaim.holds_of_wide 3 Try.f3 rfl rfl rfl rfl rfl rfl rfl ⟨rfl, rfl, rfl, rfl, rfl⟩ rfl rfl rfl rfl rfl (by kernel_rfl) Try.func3 (by kernel_rfl)
    (of_decide_eq_true (by kernel_rfl)) (by unfold Func.isWrapper; first | (rw [if_pos (by decide +kernel)]; kernel_rfl) | (rw [if_neg (by decide +kernel)]; exact ⟨rfl, rfl⟩))
    (fun os started H enc _ => tight_lifted os started H enc)

end Go.Proofs.Ytlailhdmgehniaa
