/-
  PlannerBoundsSaid: for every input the statement of the program returns true, and its arguments read as before.
  No condition.
-/
import Derived.Test.YtedocinehadodaaCU4U5
import Derived.Test.YtedocinehadodaaCT2ELU1C18C18U
import Derived.Test.YtedocinehadodaaEngV
import Derived.Test.YtedocinehadodaaRows
namespace Go.Proofs.Ytedocinehadodaa
open Go.Eng
set_option linter.all false

attribute [local irreducible] PT
theorem pbounds_law (xss : List (List PV)) (h : PTs Try.prog 8 Try.f9.params.toList xss) : DCalls Try.prog 9 (dvTs Try.prog Try.f9.params.toList xss) (hget []) 0 (lb true) (hget []) := by
  rw [Try.params9] at h ⊢
  obtain ⟨a0, _, rfl, h0, a1, _, rfl, h1, a2, _, rfl, h2, rfl⟩ := h
  obtain ⟨x0, rfl, k0⟩ := pt_plan (n := 4) h0
  obtain ⟨x1, rfl, k1⟩ := pt_u16 (n := 7) h1
  obtain ⟨x2, rfl, k2⟩ := pt_u16 (n := 7) h2
  show DCalls Try.prog 9 [dvT Try.prog 26 (planP x0), dvT Try.prog 52 [.lit (.int .u16 x1)], dvT Try.prog 52 [.lit (.int .u16 x2)]] (hget []) 0 (lb true) (hget [])
  simp only [dv_plan, dv_u16]
  exact pbounds_f x0 x1 x2 0 k0 k1 k2
set_option maxRecDepth 100000 in
theorem pbounds_lifted (os : Os) (started : os.Started) (H : Type) (enc : TypeId × Value → H) :
    ReturnsInHanded {} Try.checked os 9 .any (Rows.plannerBoundsSpec.pre6 enc Try.prog Try.f9 Rows.plannerBoundsRow.domain false) (Rows.plannerBoundsSpec.post enc Try.prog Try.f9 false true false false) :=
  law_returns (C := Try.checked) (n := 8) (tb := 4) own54 started (by kernel_rfl) Try.func9 laid54 rfl Try.underlying4 rfl (by kernel_rfl)
    (fun ds h => by match ds, h with | [_, _, _], _ => exact ⟨rfl, rfl, rfl⟩) pbounds_law
    (ChangeSpec.witness6 (enc := enc) (C := Try.checked) false ⟨#[], #[.agg #[.int .i64 0, .int .i64 0, .int .i64 0, .slice none 0 0, .slice none 0 0, .slice none 0 0, .int .i64 0], .int .u16 0, .int .u16 0], []⟩ 8 (by kernel_rfl) (by kernel_rfl) (by kernel_rfl) (by kernel_rfl))
theorem pbounds_holds : Rows.PlannerBoundsSaid :=
  OpenClaim.holds_of_wide 9 Try.f9 rfl rfl rfl rfl rfl rfl rfl ⟨rfl, rfl, rfl, rfl, rfl⟩ rfl rfl rfl rfl rfl (by kernel_rfl) Try.func9 (by kernel_rfl)
    (of_decide_eq_true (by kernel_rfl)) (by unfold Func.isWrapper; first | (rw [if_pos (by decide +kernel)]; kernel_rfl) | (rw [if_neg (by decide +kernel)]; exact ⟨rfl, rfl⟩))
    (fun os started H enc _ => pbounds_lifted os started H enc)

end Go.Proofs.Ytedocinehadodaa
