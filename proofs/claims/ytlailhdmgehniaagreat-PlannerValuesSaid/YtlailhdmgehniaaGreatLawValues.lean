/-
  PlannerValuesSaid: for every input the statement of the program returns true, and its arguments read as before.
  No condition.
-/
import Derived.Test.YtlailhdmgehniaaGreatCP15Q6U14
import Derived.Test.YtlailhdmgehniaaGreatCC18U
import Derived.Test.YtlailhdmgehniaaGreatEngV
import Derived.Test.YtlailhdmgehniaaGreatRows
namespace Go.Proofs.YtlailhdmgehniaaGreat
open Go.Eng
set_option linter.all false

attribute [local irreducible] PT
theorem values_law (xss : List (List PV)) (h : PTs Tryz.prog 8 Tryz.f3.params.toList xss) : DCalls Tryz.prog 3 (dvTs Tryz.prog Tryz.f3.params.toList xss) (hget []) 0 (lb true) (hget []) := by
  rw [Tryz.params3] at h ⊢
  obtain ⟨a0, _, rfl, h0, a1, _, rfl, h1, a2, _, rfl, h2, rfl⟩ := h
  obtain ⟨x0, rfl, k0⟩ := pt_plan (n := 4) h0
  obtain ⟨x1, rfl, k1⟩ := pt_int (n := 7) h1
  obtain ⟨x2, rfl, k2⟩ := pt_int (n := 7) h2
  show DCalls Tryz.prog 3 [dvT Tryz.prog 26 (planP x0), dvT Tryz.prog 3 [.lit (.int .i64 x1)], dvT Tryz.prog 3 [.lit (.int .i64 x2)]] (hget []) 0 (lb true) (hget [])
  simp only [dv_plan, dv_int]
  exact valaw_f x0 x1 x2 0 k0
set_option maxRecDepth 100000 in
theorem values_lifted (os : Os) (started : os.Started) (H : Type) (enc : TypeId × Value → H) :
    ReturnsInHanded {} Tryz.checked os 3 .any (Rows.plannerValuesSpec.pre6 enc Tryz.prog Tryz.f3 Rows.plannerValuesRow.domain false) (Rows.plannerValuesSpec.post enc Tryz.prog Tryz.f3 false true false false) :=
  law_returns (C := Tryz.checked) (n := 8) (tb := 4) own54 started (by kernel_rfl) Tryz.func3 laid54 rfl Tryz.underlying4 rfl (by kernel_rfl)
    (fun ds h => by match ds, h with | [_, _, _], _ => exact ⟨rfl, rfl, rfl⟩) values_law
    (ChangeSpec.witness6 (enc := enc) (C := Tryz.checked) false ⟨#[], #[.agg #[.int .i64 0, .int .i64 0, .int .i64 0, .slice none 0 0, .slice none 0 0, .slice none 0 0, .int .i64 0], .int .i64 0, .int .i64 0], []⟩ 8 (by kernel_rfl) (by kernel_rfl) (by kernel_rfl) (by kernel_rfl))
theorem values_holds : Rows.PlannerValuesSaid :=
  OpenClaim.holds_of_wide 3 Tryz.f3 rfl rfl rfl rfl rfl rfl rfl ⟨rfl, rfl, rfl, rfl, rfl⟩ rfl rfl rfl rfl rfl (by kernel_rfl) Tryz.func3 (by kernel_rfl)
    (of_decide_eq_true (by kernel_rfl)) (by unfold Func.isWrapper; first | (rw [if_pos (by decide +kernel)]; kernel_rfl) | (rw [if_neg (by decide +kernel)]; exact ⟨rfl, rfl⟩))
    (fun os started H enc _ => values_lifted os started H enc)

end Go.Proofs.YtlailhdmgehniaaGreat
