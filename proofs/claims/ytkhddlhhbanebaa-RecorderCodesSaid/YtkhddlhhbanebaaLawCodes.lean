/-
  RecorderCodes: for every input the statement of the program returns true, and its arguments read as before.
  No condition.
-/
import Derived.Test.YtkhddlhhbanebaaCl54
import Derived.Test.YtkhddlhhbanebaaEngV
import Derived.Test.YtkhddlhhbanebaaRows
namespace Go.Proofs.Ytkhddlhhbanebaa
open Go.Eng
set_option linter.all false

attribute [local irreducible] PT
theorem codes_law (xss : List (List PV)) (h : PTs Try.prog 8 Try.f3.params.toList xss) : DCalls Try.prog 3 (dvTs Try.prog Try.f3.params.toList xss) (hget []) 0 (lb true) (hget []) := by
  rw [Try.params3] at h ⊢
  obtain ⟨a, _, rfl, ha, b, _, rfl, hb, rfl⟩ := h
  obtain ⟨r, rfl, hr⟩ := pt_rec (n := 4) ha
  obtain ⟨l, rfl, hl⟩ := pt_bytes (n := 6) hb
  show DCalls Try.prog 3 [dvT Try.prog 26 (recP r), dvT Try.prog 27 [.dat 1 (l.map byRow)]] (hget []) 0 (lb true) (hget [])
  rw [dv_rec, dv_bytes]
  exact codes_f r l 0 hr hl
set_option maxRecDepth 100000 in
theorem codes_lifted (os : Os) (started : os.Started) (H : Type) (enc : TypeId × Value → H) :
    ReturnsInHanded {} Try.checked os 3 .any (Rows.recorderCodesSpec.pre6 enc Try.prog Try.f3 Rows.recorderCodesRow.domain false) (Rows.recorderCodesSpec.post enc Try.prog Try.f3 false true false false) :=
  law_returns (C := Try.checked) (n := 8) (tb := 4) own54 started (by kernel_rfl) Try.func3 laid54 rfl Try.underlying4 rfl (by kernel_rfl)
    (fun ds h => by match ds, h with | [_, _], _ => exact ⟨rfl, rfl, rfl⟩) codes_law
    (ChangeSpec.witness6 (enc := enc) (C := Try.checked) false ⟨#[], #[.agg #[.int .i64 0, .int .i64 0, .slice none 0 0, .string .empty, .int .i64 0, .string .empty, .int .i64 0, .int .i64 0, .int .i64 0, .int .i64 0, .string .empty], .slice none 0 0], []⟩ 8 (by kernel_rfl) (by kernel_rfl) (by kernel_rfl) (by kernel_rfl))
theorem codes_holds : Rows.RecorderCodesSaid :=
  OpenClaim.holds_of_wide 3 Try.f3 rfl rfl rfl rfl rfl rfl rfl ⟨rfl, rfl, rfl, rfl, rfl⟩ rfl rfl rfl rfl rfl (by kernel_rfl) Try.func3 (by kernel_rfl)
    (of_decide_eq_true (by kernel_rfl)) (by unfold Func.isWrapper; first | (rw [if_pos (by decide +kernel)]; kernel_rfl) | (rw [if_neg (by decide +kernel)]; exact ⟨rfl, rfl⟩))
    (fun os started H enc _ => codes_lifted os started H enc)

end Go.Proofs.Ytkhddlhhbanebaa
