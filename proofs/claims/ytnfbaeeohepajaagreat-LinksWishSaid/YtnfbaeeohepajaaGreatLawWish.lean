/-
  LinksWishSaid: for every input the statement of the program returns true, and its arguments read as before.
  No condition.
-/
import Derived.Test.YtnfbaeeohepajaaGreatCL12L13L15
import Derived.Test.YtnfbaeeohepajaaGreatCT21L14
import Derived.Test.YtnfbaeeohepajaaGreatEngV
import Derived.Test.YtnfbaeeohepajaaGreatRows
namespace Go.Proofs.YtnfbaeeohepajaaGreat
open Go.Eng
set_option linter.all false

attribute [local irreducible] PT
theorem wish_law (xss : List (List PV)) (h : PTs Tryz.prog 8 Tryz.f4.params.toList xss) : DCalls Tryz.prog 4 (dvTs Tryz.prog Tryz.f4.params.toList xss) (hget []) 0 (lb true) (hget []) := by
  rw [Tryz.params4] at h ⊢
  obtain ⟨a0, _, rfl, h0, a1, _, rfl, h1, a2, _, rfl, h2, rfl⟩ := h
  obtain ⟨x0, rfl, k0⟩ := pt_int (n := 7) h0
  obtain ⟨x1, rfl, k1⟩ := pt_int (n := 7) h1
  obtain ⟨x2, rfl, k2⟩ := pt_link (n := 4) h2
  show DCalls Tryz.prog 4 [dvT Tryz.prog 3 [.lit (.int .i64 x0)], dvT Tryz.prog 3 [.lit (.int .i64 x1)], dvT Tryz.prog 39 (linkP x2)] (hget []) 0 (lb true) (hget [])
  simp only [dv_int, dv_link]
  exact lawWish_f x0 x1 x2 0 k2
set_option maxRecDepth 100000 in
theorem wish_lifted (os : Os) (started : os.Started) (H : Type) (enc : TypeId × Value → H) :
    ReturnsInHanded {} Tryz.checked os 4 .any (Rows.linksWishSpec.pre6 enc Tryz.prog Tryz.f4 Rows.linksWishRow.domain false) (Rows.linksWishSpec.post enc Tryz.prog Tryz.f4 false true false false) :=
  law_returns (C := Tryz.checked) (n := 8) (tb := 4) own54 started (by kernel_rfl) Tryz.func4 laid54 rfl Tryz.underlying4 rfl (by kernel_rfl)
    (fun ds h => by match ds, h with | [_, _, _], _ => exact ⟨rfl, rfl, rfl⟩) wish_law
    (ChangeSpec.witness6 (enc := enc) (C := Tryz.checked) false ⟨#[], #[.int .i64 0, .int .i64 0, .agg #[.string ⟨#[]⟩, .string ⟨#[]⟩, .string ⟨#[]⟩, .int .i64 0, .int .i64 0, .int .i64 0, .int .i64 0, .string ⟨#[]⟩, .int .i64 0, .int .i64 0, .slice none 0 0]], []⟩ 8 (by kernel_rfl) (by kernel_rfl) (by kernel_rfl) (by kernel_rfl))
theorem wish_holds : Rows.LinksWishSaid :=
  OpenClaim.holds_of_wide 4 Tryz.f4 rfl rfl rfl rfl rfl rfl rfl ⟨rfl, rfl, rfl, rfl, rfl⟩ rfl rfl rfl rfl rfl (by kernel_rfl) Tryz.func4 (by kernel_rfl)
    (of_decide_eq_true (by kernel_rfl)) (by unfold Func.isWrapper; first | (rw [if_pos (by decide +kernel)]; kernel_rfl) | (rw [if_neg (by decide +kernel)]; exact ⟨rfl, rfl⟩))
    (fun os started H enc _ => wish_lifted os started H enc)

end Go.Proofs.YtnfbaeeohepajaaGreat
