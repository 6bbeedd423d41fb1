/-
  CertificateChecksSaid: for every input the statement of the program returns true, and its arguments read as before.
  No condition.
-/
import Derived.Test.YtlailhdmgehniaaGreatCU15
import Derived.Test.YtlailhdmgehniaaGreatCQ5T2ELU1C18
import Derived.Test.YtlailhdmgehniaaGreatEngV
import Derived.Test.YtlailhdmgehniaaGreatRows
namespace Go.Proofs.YtlailhdmgehniaaGreat
open Go.Eng
set_option linter.all false

attribute [local irreducible] PT
theorem checks_law (xss : List (List PV)) (h : PTs Tryz.prog 8 Tryz.f4.params.toList xss) : DCalls Tryz.prog 4 (dvTs Tryz.prog Tryz.f4.params.toList xss) (hget []) 0 (lb true) (hget []) := by
  rw [Tryz.params4] at h ⊢
  obtain ⟨a0, _, rfl, h0, a1, _, rfl, h1, rfl⟩ := h
  obtain ⟨x0, rfl, k0⟩ := pt_plan (n := 4) h0
  obtain ⟨x1, rfl, k1⟩ := pt_rows (n := 5) h1
  show DCalls Tryz.prog 4 [dvT Tryz.prog 26 (planP x0), dvT Tryz.prog 29 [.dat 1 (x1.map ilRow)]] (hget []) 0 (lb true) (hget [])
  rw [dv_plan, dv_rows]
  exact checks_f x0 x1 0 k0 k1
set_option maxRecDepth 100000 in
theorem checks_lifted (os : Os) (started : os.Started) (H : Type) (enc : TypeId × Value → H) :
    ReturnsInHanded {} Tryz.checked os 4 .any (Rows.certificateChecksSpec.pre6 enc Tryz.prog Tryz.f4 Rows.certificateChecksRow.domain false) (Rows.certificateChecksSpec.post enc Tryz.prog Tryz.f4 false true false false) :=
  law_returns (C := Tryz.checked) (n := 8) (tb := 4) own54 started (by kernel_rfl) Tryz.func4 laid54 rfl Tryz.underlying4 rfl (by kernel_rfl)
    (fun ds h => by match ds, h with | [_, _], _ => exact ⟨rfl, rfl, rfl⟩) checks_law
    (ChangeSpec.witness6 (enc := enc) (C := Tryz.checked) false ⟨#[], #[.agg #[.int .i64 0, .int .i64 0, .int .i64 0, .slice none 0 0, .slice none 0 0, .slice none 0 0, .int .i64 0], .slice none 0 0], []⟩ 8 (by kernel_rfl) (by kernel_rfl) (by kernel_rfl) (by kernel_rfl))
theorem checks_holds : Rows.CertificateChecksSaid :=
  OpenClaim.holds_of_wide 4 Tryz.f4 rfl rfl rfl rfl rfl rfl rfl ⟨rfl, rfl, rfl, rfl, rfl⟩ rfl rfl rfl rfl rfl (by kernel_rfl) Tryz.func4 (by kernel_rfl)
    (of_decide_eq_true (by kernel_rfl)) (by unfold Func.isWrapper; first | (rw [if_pos (by decide +kernel)]; kernel_rfl) | (rw [if_neg (by decide +kernel)]; exact ⟨rfl, rfl⟩))
    (fun os started H enc _ => checks_lifted os started H enc)

end Go.Proofs.YtlailhdmgehniaaGreat
