/-
  LinksMostSaid: for every input the statement of the program returns true, and its arguments read as before.
  No condition.
-/
import Derived.Test.YtnfbaeeohepajaaGreatCT21L14L19
import Derived.Test.YtnfbaeeohepajaaGreatEngV
import Derived.Test.YtnfbaeeohepajaaGreatRows
namespace Go.Proofs.YtnfbaeeohepajaaGreat
open Go.Eng
set_option linter.all false

attribute [local irreducible] PT
theorem most_law (xss : List (List PV)) (h : PTs Tryz.prog 8 Tryz.f8.params.toList xss) : DCalls Tryz.prog 8 (dvTs Tryz.prog Tryz.f8.params.toList xss) (hget []) 0 (lb true) (hget []) := by
  rw [Tryz.params8] at h ⊢
  obtain ⟨a0, _, rfl, h0, a1, _, rfl, h1, a2, _, rfl, h2, a3, _, rfl, h3, a4, _, rfl, h4, a5, _, rfl, h5, rfl⟩ := h
  obtain ⟨x0, rfl, k0⟩ := pt_net (n := 2) h0
  obtain ⟨x1, rfl, k1⟩ := pt_sects (n := 3) h1
  obtain ⟨x2, rfl, k2⟩ := pt_int (n := 7) h2
  obtain ⟨x3, rfl, k3⟩ := pt_span (n := 6) h3
  obtain ⟨x4, rfl, k4⟩ := pt_span (n := 6) h4
  obtain ⟨x5, rfl, k5⟩ := pt_int (n := 7) h5
  show DCalls Tryz.prog 8 [dvT Tryz.prog 25 (netP x0), dvT Tryz.prog 26 [.dat 5 (x1.map sectP)], dvT Tryz.prog 3 [.lit (.int .i64 x2)], dvT Tryz.prog 62 (spanP x3), dvT Tryz.prog 62 (spanP x4), dvT Tryz.prog 3 [.lit (.int .i64 x5)]] (hget []) 0 (lb true) (hget [])
  simp only [dv_net, dv_sects, dv_int, dv_span]
  exact lawMost_f x0 x1 x2 x3 x4 x5 0 k0 k1
set_option maxRecDepth 100000 in
theorem most_lifted (os : Os) (started : os.Started) (H : Type) (enc : TypeId × Value → H) :
    ReturnsInHanded {} Tryz.checked os 8 .any (Rows.linksMostSpec.pre6 enc Tryz.prog Tryz.f8 Rows.linksMostRow.domain false) (Rows.linksMostSpec.post enc Tryz.prog Tryz.f8 false true false false) :=
  law_returns (C := Tryz.checked) (n := 8) (tb := 4) own54 started (by kernel_rfl) Tryz.func8 laid54 rfl Tryz.underlying4 rfl (by kernel_rfl)
    (fun ds h => by match ds, h with | [_, _, _, _, _, _], _ => exact ⟨rfl, rfl, rfl⟩) most_law
    (ChangeSpec.witness6 (enc := enc) (C := Tryz.checked) false ⟨#[], #[.agg #[.slice none 0 0, .slice none 0 0], .slice none 0 0, .int .i64 0, .agg #[.int .i64 0, .int .i64 0], .agg #[.int .i64 0, .int .i64 0], .int .i64 0], []⟩ 8 (by kernel_rfl) (by kernel_rfl) (by kernel_rfl) (by kernel_rfl))
theorem most_holds : Rows.LinksMostSaid :=
  OpenClaim.holds_of_wide 8 Tryz.f8 rfl rfl rfl rfl rfl rfl rfl ⟨rfl, rfl, rfl, rfl, rfl⟩ rfl rfl rfl rfl rfl (by kernel_rfl) Tryz.func8 (by kernel_rfl)
    (of_decide_eq_true (by kernel_rfl)) (by unfold Func.isWrapper; first | (rw [if_pos (by decide +kernel)]; kernel_rfl) | (rw [if_neg (by decide +kernel)]; exact ⟨rfl, rfl⟩))
    (fun os started H enc _ => most_lifted os started H enc)

end Go.Proofs.YtnfbaeeohepajaaGreat
