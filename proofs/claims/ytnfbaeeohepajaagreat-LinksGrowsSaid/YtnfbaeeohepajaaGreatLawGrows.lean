/-
  LinksGrowsSaid: for every input the statement of the program returns true, and its arguments read as before.
  No condition.
-/
import Derived.Test.YtnfbaeeohepajaaGreatCT21L14L23
import Derived.Test.YtnfbaeeohepajaaGreatEngV
import Derived.Test.YtnfbaeeohepajaaGreatRows
namespace Go.Proofs.YtnfbaeeohepajaaGreat
open Go.Eng
set_option linter.all false

attribute [local irreducible] PT
theorem grows_law (xss : List (List PV)) (h : PTs Tryz.prog 8 Tryz.f6.params.toList xss) : DCalls Tryz.prog 6 (dvTs Tryz.prog Tryz.f6.params.toList xss) (hget []) 0 (lb true) (hget []) := by
  rw [Tryz.params6] at h ⊢
  obtain ⟨a0, _, rfl, h0, a1, _, rfl, h1, a2, _, rfl, h2, a3, _, rfl, h3, a4, _, rfl, h4, a5, _, rfl, h5, a6, _, rfl, h6, a7, _, rfl, h7, a8, _, rfl, h8, rfl⟩ := h
  obtain ⟨x0, rfl, k0⟩ := pt_net (n := 2) h0
  obtain ⟨x1, rfl, k1⟩ := pt_sects (n := 3) h1
  obtain ⟨x2, rfl, k2⟩ := pt_u8 (n := 7) h2
  obtain ⟨x3, rfl, k3⟩ := pt_u32 (n := 7) h3
  obtain ⟨x4, rfl, k4⟩ := pt_u32 (n := 7) h4
  obtain ⟨x5, rfl, k5⟩ := pt_u32 (n := 7) h5
  obtain ⟨x6, rfl, k6⟩ := pt_u32 (n := 7) h6
  obtain ⟨x7, rfl, k7⟩ := pt_u16 (n := 7) h7
  obtain ⟨x8, rfl, k8⟩ := pt_u16 (n := 7) h8
  show DCalls Tryz.prog 6 [dvT Tryz.prog 25 (netP x0), dvT Tryz.prog 26 [.dat 5 (x1.map sectP)], dvT Tryz.prog 5 [.lit (.int .u8 x2)], dvT Tryz.prog 49 [.lit (.int .u32 x3)], dvT Tryz.prog 49 [.lit (.int .u32 x4)], dvT Tryz.prog 49 [.lit (.int .u32 x5)], dvT Tryz.prog 49 [.lit (.int .u32 x6)], dvT Tryz.prog 50 [.lit (.int .u16 x7)], dvT Tryz.prog 50 [.lit (.int .u16 x8)]] (hget []) 0 (lb true) (hget [])
  simp only [dv_net, dv_sects, dv_u8, dv_u32, dv_u16]
  exact lawGrows_f x0 x1 x2 x3 x4 x5 x6 x7 x8 0 k0 k1 k2 k3 k4 k5 k6 k7 k8
set_option maxRecDepth 100000 in
theorem grows_lifted (os : Os) (started : os.Started) (H : Type) (enc : TypeId × Value → H) :
    ReturnsInHanded {} Tryz.checked os 6 .any (Rows.linksGrowsSpec.pre6 enc Tryz.prog Tryz.f6 Rows.linksGrowsRow.domain false) (Rows.linksGrowsSpec.post enc Tryz.prog Tryz.f6 false true false false) :=
  law_returns (C := Tryz.checked) (n := 8) (tb := 4) own54 started (by kernel_rfl) Tryz.func6 laid54 rfl Tryz.underlying4 rfl (by kernel_rfl)
    (fun ds h => by match ds, h with | [_, _, _, _, _, _, _, _, _], _ => exact ⟨rfl, rfl, rfl⟩) grows_law
    (ChangeSpec.witness6 (enc := enc) (C := Tryz.checked) false ⟨#[], #[.agg #[.slice none 0 0, .slice none 0 0], .slice none 0 0, .int .u8 0, .int .u32 0, .int .u32 0, .int .u32 0, .int .u32 0, .int .u16 0, .int .u16 0], []⟩ 8 (by kernel_rfl) (by kernel_rfl) (by kernel_rfl) (by kernel_rfl))
theorem grows_holds : Rows.LinksGrowsSaid :=
  OpenClaim.holds_of_wide 6 Tryz.f6 rfl rfl rfl rfl rfl rfl rfl ⟨rfl, rfl, rfl, rfl, rfl⟩ rfl rfl rfl rfl rfl (by kernel_rfl) Tryz.func6 (by kernel_rfl)
    (of_decide_eq_true (by kernel_rfl)) (by unfold Func.isWrapper; first | (rw [if_pos (by decide +kernel)]; kernel_rfl) | (rw [if_neg (by decide +kernel)]; exact ⟨rfl, rfl⟩))
    (fun os started H enc _ => grows_lifted os started H enc)

end Go.Proofs.YtnfbaeeohepajaaGreat
