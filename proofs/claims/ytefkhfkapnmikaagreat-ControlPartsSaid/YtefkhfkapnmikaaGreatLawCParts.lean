/-
  ControlPartsSaid: for every input the statement of the program returns true, and its arguments read as before.
  No condition.
-/
import Derived.Test.YtefkhfkapnmikaaGreatCXE
import Derived.Test.YtefkhfkapnmikaaGreatCX0
import Derived.Test.YtefkhfkapnmikaaGreatCY6T21L14Y7Y11Y9Y10Y12Y8Y14
import Derived.Test.YtefkhfkapnmikaaGreatEngV
import Derived.Test.YtefkhfkapnmikaaGreatRows
namespace Go.Proofs.YtefkhfkapnmikaaGreat
open Go.Eng
set_option linter.all false

attribute [local irreducible] PT
theorem cparts_law (xss : List (List PV)) (h : PTs Tryz.prog 8 Tryz.f5.params.toList xss) : DCalls Tryz.prog 5 (dvTs Tryz.prog Tryz.f5.params.toList xss) (hget []) 0 (lb true) (hget []) := by
  rw [Tryz.params5] at h ⊢
  obtain ⟨a0, _, rfl, h0, a1, _, rfl, h1, a2, _, rfl, h2, a3, _, rfl, h3, rfl⟩ := h
  obtain ⟨x0, rfl, k0⟩ := pt_cas (n := 1) h0
  obtain ⟨x1, rfl, k1⟩ := pt_infls (n := 4) h1
  obtain ⟨x2, rfl, k2⟩ := pt_int (n := 7) h2
  obtain ⟨x3, rfl, k3⟩ := pt_int (n := 7) h3
  show DCalls Tryz.prog 5 [dvT Tryz.prog 33 (casP x0), dvT Tryz.prog 59 [.dat 2 (x1.map inflP)], dvT Tryz.prog 3 [.lit (.int .i64 x2)], dvT Tryz.prog 3 [.lit (.int .i64 x3)]] (hget []) 0 (lb true) (hget [])
  simp only [dv_cas, dv_infls, dv_int]
  exact cparts_f x0 x1 x2 x3 0 k0 k1
set_option maxRecDepth 100000 in
theorem cparts_lifted (os : Os) (started : os.Started) (H : Type) (enc : TypeId × Value → H) :
    ReturnsInHanded {} Tryz.checked os 5 .any (Rows.controlPartsSpec.pre6 enc Tryz.prog Tryz.f5 Rows.controlPartsRow.domain false) (Rows.controlPartsSpec.post enc Tryz.prog Tryz.f5 false true false false) :=
  law_returns (C := Tryz.checked) (n := 8) (tb := 4) own54 started (by kernel_rfl) Tryz.func5 laid54 rfl Tryz.underlying4 rfl (by kernel_rfl)
    (fun ds h => by match ds, h with | [_, _, _, _], _ => exact ⟨rfl, rfl, rfl⟩) cparts_law
    (ChangeSpec.witness6 (enc := enc) (C := Tryz.checked) false ⟨#[], #[.agg #[.slice none 0 0, .slice none 0 0, .slice none 0 0, .slice none 0 0, .slice none 0 0, .slice none 0 0, .slice none 0 0, .slice none 0 0, .int .i64 0], .slice none 0 0, .int .i64 0, .int .i64 0], []⟩ 8 (by kernel_rfl) (by kernel_rfl) (by kernel_rfl) (by kernel_rfl))
theorem cparts_closed : joinedFacts Tryz.pinned.checked.prog 5 Tryz.f5 Rows.controlPartsSpec Rows.controlPartsRow = true := by kernel_rfl
theorem cparts_holds : Rows.ControlPartsSaid :=
  OpenClaim.holds_of_wide 5 Tryz.f5 rfl rfl rfl rfl rfl rfl rfl ⟨rfl, rfl, rfl, rfl, rfl⟩ rfl rfl rfl rfl rfl (by kernel_rfl) Tryz.func5 cparts_closed
    (of_decide_eq_true (by kernel_rfl)) (by unfold Func.isWrapper; first | (rw [if_pos (by decide +kernel)]; kernel_rfl) | (rw [if_neg (by decide +kernel)]; exact ⟨rfl, rfl⟩))
    (fun os started H enc _ => cparts_lifted os started H enc)

end Go.Proofs.YtefkhfkapnmikaaGreat
