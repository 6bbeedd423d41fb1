/-
  RecorderPartsSaid: for every input the statement of the program returns true, and its arguments read as before.
  No condition.
-/
import Derived.Test.YtgpllheklfbfhaaGreatCQ5
import Derived.Test.YtgpllheklfbfhaaGreatCQ4
import Derived.Test.YtgpllheklfbfhaaGreatCY6T21L14Y7Y11Y9Y10Y12Y8Y14
import Derived.Test.YtgpllheklfbfhaaGreatEngV
import Derived.Test.YtgpllheklfbfhaaGreatRows
namespace Go.Proofs.YtgpllheklfbfhaaGreat
open Go.Eng
set_option linter.all false

attribute [local irreducible] PT
theorem recparts_law (xss : List (List PV)) (h : PTs Tryz.prog 8 Tryz.f3.params.toList xss) : DCalls Tryz.prog 3 (dvTs Tryz.prog Tryz.f3.params.toList xss) (hget []) 0 (lb true) (hget []) := by
  rw [Tryz.params3] at h ⊢
  obtain ⟨a0, _, rfl, h0, a1, _, rfl, h1, a2, _, rfl, h2, rfl⟩ := h
  obtain ⟨x0, rfl, k0⟩ := pt_cas (n := 1) h0
  obtain ⟨x1, rfl, k1⟩ := pt_recs (n := 3) h1
  obtain ⟨x2, rfl, k2⟩ := pt_u8 (n := 7) h2
  show DCalls Tryz.prog 3 [dvT Tryz.prog 33 (casP x0), dvT Tryz.prog 34 [.dat 11 (x1.map recP)], dvT Tryz.prog 5 [.lit (.int .u8 x2)]] (hget []) 0 (lb true) (hget [])
  rw [dv_cas, dv_recs, dv_u8]
  exact recparts_f x0 x1 x2 0 k0 k1.1 k1.2 k2
set_option maxRecDepth 100000 in
theorem recparts_lifted (os : Os) (started : os.Started) (H : Type) (enc : TypeId × Value → H) :
    ReturnsInHanded {} Tryz.checked os 3 .any (Rows.recorderPartsSpec.pre6 enc Tryz.prog Tryz.f3 Rows.recorderPartsRow.domain false) (Rows.recorderPartsSpec.post enc Tryz.prog Tryz.f3 false true false false) :=
  law_returns (C := Tryz.checked) (n := 8) (tb := 4) own54 started (by kernel_rfl) Tryz.func3 laid54 rfl Tryz.underlying4 rfl (by kernel_rfl)
    (fun ds h => by match ds, h with | [_, _, _], _ => exact ⟨rfl, rfl, rfl⟩) recparts_law
    (ChangeSpec.witness6 (enc := enc) (C := Tryz.checked) false ⟨#[], #[.agg #[.slice none 0 0, .slice none 0 0, .slice none 0 0, .slice none 0 0, .slice none 0 0, .slice none 0 0, .slice none 0 0, .slice none 0 0], .slice none 0 0, .int .u8 0], []⟩ 8 (by kernel_rfl) (by kernel_rfl) (by kernel_rfl) (by kernel_rfl))
theorem recparts_closed : joinedFacts Tryz.pinned.checked.prog 3 Tryz.f3 Rows.recorderPartsSpec Rows.recorderPartsRow = true := by kernel_rfl
theorem recparts_holds : Rows.RecorderPartsSaid :=
  OpenClaim.holds_of_wide 3 Tryz.f3 rfl rfl rfl rfl rfl rfl rfl ⟨rfl, rfl, rfl, rfl, rfl⟩ rfl rfl rfl rfl rfl (by kernel_rfl) Tryz.func3 recparts_closed
    (of_decide_eq_true (by kernel_rfl)) (by unfold Func.isWrapper; first | (rw [if_pos (by decide +kernel)]; kernel_rfl) | (rw [if_neg (by decide +kernel)]; exact ⟨rfl, rfl⟩))
    (fun os started H enc _ => recparts_lifted os started H enc)

end Go.Proofs.YtgpllheklfbfhaaGreat
