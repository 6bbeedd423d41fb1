/-
  RoutingSettles: for every input the statement of the program returns true, and its arguments read as before.
  No condition.
-/
import Derived.Test.YtlbadfjonhgppaaCT19
import Derived.Test.YtlbadfjonhgppaaCT5T8T9T15T21
import Derived.Test.YtlbadfjonhgppaaEngV
import Derived.Test.YtlbadfjonhgppaaRows
namespace Go.Proofs.Ytlbadfjonhgppaa
open Go.Eng
set_option linter.all false

attribute [local irreducible] PT
theorem settles_law (xss : List (List PV)) (h : PTs Try.prog 8 Try.f3.params.toList xss) : DCalls Try.prog 3 (dvTs Try.prog Try.f3.params.toList xss) (hget []) 0 (lb true) (hget []) := by
  rw [Try.params3] at h ⊢
  obtain ⟨a, _, rfl, ha, b, _, rfl, hb, c, _, rfl, hc, d, _, rfl, hd, rfl⟩ := h
  obtain ⟨x, rfl, hx⟩ := pt_net (n := 2) ha
  obtain ⟨y, rfl, hy⟩ := pt_sta (n := 5) hb
  obtain ⟨z, rfl, hz⟩ := pt_int (n := 7) hc
  obtain ⟨l, rfl, hl⟩ := pt_ints (n := 6) hd
  show DCalls Try.prog 3 [dvT Try.prog 25 (netP x), dvT Try.prog 29 (staP y), dvT Try.prog 3 [.lit (.int .i64 z)], dvT Try.prog 26 [.dat 1 (l.map inRow)]] (hget []) 0 (lb true) (hget [])
  rw [dv_net, dv_sta, dv_int, dv_ints]
  exact settles_f x y z l 0 hx hy hl.1
set_option maxRecDepth 100000 in
theorem settles_lifted (os : Os) (started : os.Started) (H : Type) (enc : TypeId × Value → H) :
    ReturnsInHanded {} Try.checked os 3 .any (Rows.routingSettlesSpec.pre6 enc Try.prog Try.f3 Rows.routingSettlesRow.domain false) (Rows.routingSettlesSpec.post enc Try.prog Try.f3 false true false false) :=
  law_returns (C := Try.checked) (n := 8) (tb := 4) own54 started (by kernel_rfl) Try.func3 laid54 rfl Try.underlying4 rfl (by kernel_rfl)
    (fun ds h => by match ds, h with | [_, _, _, _], _ => exact ⟨rfl, rfl, rfl⟩) settles_law
    (ChangeSpec.witness6 (enc := enc) (C := Try.checked) false ⟨#[], #[.agg #[.slice none 0 0, .slice none 0 0], .agg #[.slice none 0 0, .slice none 0 0, .slice none 0 0, .slice none 0 0], .int .i64 0, .slice none 0 0], []⟩ 8 (by kernel_rfl) (by kernel_rfl) (by kernel_rfl) (by kernel_rfl))
theorem settles_holds : Rows.RoutingSettlesSaid :=
  OpenClaim.holds_of_wide 3 Try.f3 rfl rfl rfl rfl rfl rfl rfl ⟨rfl, rfl, rfl, rfl, rfl⟩ rfl rfl rfl rfl rfl (by kernel_rfl) Try.func3 (by kernel_rfl)
    (of_decide_eq_true (by kernel_rfl)) (by unfold Func.isWrapper; first | (rw [if_pos (by decide +kernel)]; kernel_rfl) | (rw [if_neg (by decide +kernel)]; exact ⟨rfl, rfl⟩))
    (fun os started H enc _ => settles_lifted os started H enc)

end Go.Proofs.Ytlbadfjonhgppaa
