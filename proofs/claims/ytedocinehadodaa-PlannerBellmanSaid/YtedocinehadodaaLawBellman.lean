/-
  PlannerBellmanSaid: for every input the statement of the program returns true, and its arguments read as before.
  No condition.
-/
import Derived.Test.YtedocinehadodaaCU13
import Derived.Test.YtedocinehadodaaCT2ELU1C18C18U
import Derived.Test.YtedocinehadodaaEngV
import Derived.Test.YtedocinehadodaaRows
namespace Go.Proofs.Ytedocinehadodaa
open Go.Eng
set_option linter.all false

attribute [local irreducible] PT
theorem bellman_law (xss : List (List PV)) (h : PTs Try.prog 8 Try.f6.params.toList xss) : DCalls Try.prog 6 (dvTs Try.prog Try.f6.params.toList xss) (hget []) 0 (lb true) (hget []) := by
  rw [Try.params6] at h ⊢
  obtain ⟨a0, _, rfl, h0, rfl⟩ := h
  obtain ⟨x0, rfl, k0⟩ := pt_plan (n := 4) h0
  show DCalls Try.prog 6 [dvT Try.prog 26 (planP x0)] (hget []) 0 (lb true) (hget [])
  rw [dv_plan]
  exact bellman_f x0 0 k0
set_option maxRecDepth 100000 in
theorem bellman_lifted (os : Os) (started : os.Started) (H : Type) (enc : TypeId × Value → H) :
    ReturnsInHanded {} Try.checked os 6 .any (Rows.plannerBellmanSpec.pre6 enc Try.prog Try.f6 Rows.plannerBellmanRow.domain false) (Rows.plannerBellmanSpec.post enc Try.prog Try.f6 false true false false) :=
  law_returns (C := Try.checked) (n := 8) (tb := 4) own54 started (by kernel_rfl) Try.func6 laid54 rfl Try.underlying4 rfl (by kernel_rfl)
    (fun ds h => by match ds, h with | [_], _ => exact ⟨rfl, rfl, rfl⟩) bellman_law
    (ChangeSpec.witness6 (enc := enc) (C := Try.checked) false ⟨#[], #[.agg #[.int .i64 0, .int .i64 0, .int .i64 0, .slice none 0 0, .slice none 0 0, .slice none 0 0, .int .i64 0]], []⟩ 8 (by kernel_rfl) (by kernel_rfl) (by kernel_rfl) (by kernel_rfl))
theorem bellman_holds : Rows.PlannerBellmanSaid :=
  OpenClaim.holds_of_wide 6 Try.f6 rfl rfl rfl rfl rfl rfl rfl ⟨rfl, rfl, rfl, rfl, rfl⟩ rfl rfl rfl rfl rfl (by kernel_rfl) Try.func6 (by kernel_rfl)
    (of_decide_eq_true (by kernel_rfl)) (by unfold Func.isWrapper; first | (rw [if_pos (by decide +kernel)]; kernel_rfl) | (rw [if_neg (by decide +kernel)]; exact ⟨rfl, rfl⟩))
    (fun os started H enc _ => bellman_lifted os started H enc)

end Go.Proofs.Ytedocinehadodaa
