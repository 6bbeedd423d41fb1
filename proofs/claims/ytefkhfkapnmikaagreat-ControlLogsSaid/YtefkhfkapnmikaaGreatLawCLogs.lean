/-
  ControlLogsSaid holds.
  No condition.
-/
import Derived.Test.YtefkhfkapnmikaaGreatCXB
import Derived.Test.YtefkhfkapnmikaaGreatEngV
import Derived.Test.YtefkhfkapnmikaaGreatRows
namespace Go.Proofs.YtefkhfkapnmikaaGreat
open Go.Eng
set_option linter.all false

attribute [local irreducible] PT
abbrev zz : Value := .slice none 0 0
theorem cw (xss : List (List PV)) (h : PTs Tryz.prog 8 Tryz.f6.params.toList xss) : DCalls Tryz.prog 6 (dvTs Tryz.prog Tryz.f6.params.toList xss) (hget []) 0 (lb true) (hget []) := by
  rw [Tryz.params6] at h ⊢
  obtain ⟨a0, _, rfl, h0, a1, _, rfl, h1, a2, _, rfl, h2, rfl⟩ := h
  obtain ⟨x0, rfl, k0⟩ := pt_cas (n := 1) h0
  obtain ⟨x1, rfl, k1⟩ := pt_stas (n := 4) h1
  obtain ⟨x2, rfl, k2⟩ := pt_str (n := 7) h2
  show DCalls _ _ [dvT _ _ _, dvT _ _ _, dvT _ _ _] _ _ _ _
  rw [dv_cas, dv_stas, dv_str]
  exact clogs_f x0 x1 x2 0 k0 k1 k2
set_option maxRecDepth 100000 in
theorem cf (os : Os) (started : os.Started) (H : Type) (enc : TypeId × Value → H) :
    ReturnsInHanded {} Tryz.checked os 6 .any (Rows.controlLogsSpec.pre6 enc Tryz.prog Tryz.f6 Rows.controlLogsRow.domain false) (Rows.controlLogsSpec.post enc Tryz.prog Tryz.f6 false true false false) :=
  law_returns (C := Tryz.checked) (n := 8) (tb := 4) own54 started (by kernel_rfl) Tryz.func6 laid54 rfl Tryz.underlying4 rfl (by kernel_rfl)
    (fun ds h => by match ds, h with | [_, _, _], _ => exact ⟨rfl, rfl, rfl⟩) cw
    (ChangeSpec.witness6 (enc := enc) (C := Tryz.checked) false ⟨#[], #[.agg #[zz, zz, zz, zz, zz, zz, zz, zz, .int .i64 0], zz, .string ⟨#[]⟩], []⟩ 8 (by kernel_rfl) (by kernel_rfl) (by kernel_rfl) (by kernel_rfl))
theorem cl : joinedFacts Tryz.pinned.checked.prog 6 Tryz.f6 Rows.controlLogsSpec Rows.controlLogsRow = true := by kernel_rfl
theorem clogs_holds : Rows.ControlLogsSaid :=
  OpenClaim.holds_of_wide 6 Tryz.f6 rfl rfl rfl rfl rfl rfl rfl ⟨rfl, rfl, rfl, rfl, rfl⟩ rfl rfl rfl rfl rfl (by kernel_rfl) Tryz.func6 cl
    (of_decide_eq_true (by kernel_rfl)) (by unfold Func.isWrapper; first | (rw [if_pos (by decide +kernel)]; kernel_rfl) | (rw [if_neg (by decide +kernel)]; exact ⟨rfl, rfl⟩))
    (fun os started H enc _ => cf os started H enc)

end Go.Proofs.YtefkhfkapnmikaaGreat
