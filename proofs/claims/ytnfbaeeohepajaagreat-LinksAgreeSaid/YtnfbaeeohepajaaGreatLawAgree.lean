/-
  LinksAgreeSaid: for every input the statement of the program returns true, and its arguments read as before.
  No condition.
-/
import Derived.Test.YtnfbaeeohepajaaGreatCT21L14T7cL25L26L27L28
import Derived.Test.YtnfbaeeohepajaaGreatEngV
import Derived.Test.YtnfbaeeohepajaaGreatRows
namespace Go.Proofs.YtnfbaeeohepajaaGreat
open Go.Eng
set_option linter.all false

attribute [local irreducible] PT
theorem agree_law (xss : List (List PV)) (h : PTs Tryz.prog 8 Tryz.f10.params.toList xss) : DCalls Tryz.prog 10 (dvTs Tryz.prog Tryz.f10.params.toList xss) (hget []) 0 (lb true) (hget []) := by
  rw [Tryz.params10] at h ⊢
  obtain ⟨a0, _, rfl, h0, a1, _, rfl, h1, a2, _, rfl, h2, rfl⟩ := h
  obtain ⟨x0, rfl, k0⟩ := pt_net (n := 2) h0
  obtain ⟨x1, rfl, k1⟩ := pt_sects (n := 3) h1
  obtain ⟨x2, rfl, k2⟩ := pt_sta (n := 5) h2
  show DCalls Tryz.prog 10 [dvT Tryz.prog 25 (netP x0), dvT Tryz.prog 26 [.dat 5 (x1.map sectP)], dvT Tryz.prog 75 (staP x2)] (hget []) 0 (lb true) (hget [])
  rw [dv_net, dv_sects, dv_sta]
  exact lawAgree_f x0 x1 x2 0 k0 k1 k2
set_option maxRecDepth 100000 in
theorem agree_lifted (os : Os) (started : os.Started) (H : Type) (enc : TypeId × Value → H) :
    ReturnsInHanded {} Tryz.checked os 10 .any (Rows.linksAgreeSpec.pre6 enc Tryz.prog Tryz.f10 Rows.linksAgreeRow.domain false) (Rows.linksAgreeSpec.post enc Tryz.prog Tryz.f10 false true false false) :=
  law_returns (C := Tryz.checked) (n := 8) (tb := 4) own54 started (by kernel_rfl) Tryz.func10 laid54 rfl Tryz.underlying4 rfl (by kernel_rfl)
    (fun ds h => by match ds, h with | [_, _, _], _ => exact ⟨rfl, rfl, rfl⟩) agree_law
    (ChangeSpec.witness6 (enc := enc) (C := Tryz.checked) false ⟨#[], #[.agg #[.slice none 0 0, .slice none 0 0], .slice none 0 0, .agg #[.slice none 0 0, .slice none 0 0, .slice none 0 0, .slice none 0 0]], []⟩ 8 (by kernel_rfl) (by kernel_rfl) (by kernel_rfl) (by kernel_rfl))
theorem agree_holds : Rows.LinksAgreeSaid :=
  OpenClaim.holds_of_wide 10 Tryz.f10 rfl rfl rfl rfl rfl rfl rfl ⟨rfl, rfl, rfl, rfl, rfl⟩ rfl rfl rfl rfl rfl (by kernel_rfl) Tryz.func10 (by kernel_rfl)
    (of_decide_eq_true (by kernel_rfl)) (by unfold Func.isWrapper; first | (rw [if_pos (by decide +kernel)]; kernel_rfl) | (rw [if_neg (by decide +kernel)]; exact ⟨rfl, rfl⟩))
    (fun os started H enc _ => agree_lifted os started H enc)

end Go.Proofs.YtnfbaeeohepajaaGreat
