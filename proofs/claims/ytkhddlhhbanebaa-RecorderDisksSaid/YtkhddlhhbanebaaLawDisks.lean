/-
  RecorderDisks: for every input the statement of the program returns true, and its arguments read as before.
  No condition.
-/
import Derived.Test.YtkhddlhhbanebaaCa24
import Derived.Test.YtkhddlhhbanebaaEngV
import Derived.Test.YtkhddlhhbanebaaRows
namespace Go.Proofs.Ytkhddlhhbanebaa
open Go.Eng
set_option linter.all false

attribute [local irreducible] PT
theorem disks_law (xss : List (List PV)) (h : PTs Try.prog 8 Try.f4.params.toList xss) : DCalls Try.prog 4 (dvTs Try.prog Try.f4.params.toList xss) (hget []) 0 (lb true) (hget []) := by
  rw [Try.params4] at h ⊢
  obtain ⟨a, _, rfl, ha, b, _, rfl, hb, c, _, rfl, hc, rfl⟩ := h
  obtain ⟨d, rfl, hd, _⟩ := pt_disk (n := 5) ha
  obtain ⟨x, rfl, _⟩ := pt_int (n := 7) hb
  obtain ⟨y, rfl, _⟩ := pt_int (n := 7) hc
  show DCalls Try.prog 4 [dvT Try.prog 42 [.dat 1 (d.data.map byRow), .lit (.int .i64 d.synced), .lit (.int .i64 d.after)], dvT Try.prog 3 [.lit (.int .i64 x)], dvT Try.prog 3 [.lit (.int .i64 y)]] (hget []) 0 (lb true) (hget [])
  rw [dv_disk, dv_int, dv_int]
  exact disks_f d x y 0 hd
set_option maxRecDepth 100000 in
theorem disks_lifted (os : Os) (started : os.Started) (H : Type) (enc : TypeId × Value → H) :
    ReturnsInHanded {} Try.checked os 4 .any (Rows.recorderDisksSpec.pre6 enc Try.prog Try.f4 Rows.recorderDisksRow.domain false) (Rows.recorderDisksSpec.post enc Try.prog Try.f4 false true false false) :=
  law_returns (C := Try.checked) (n := 8) (tb := 4) own54 started (by kernel_rfl) Try.func4 laid54 rfl Try.underlying4 rfl (by kernel_rfl)
    (fun ds h => by match ds, h with | [_, _, _], _ => exact ⟨rfl, rfl, rfl⟩) disks_law
    (ChangeSpec.witness6 (enc := enc) (C := Try.checked) false ⟨#[], #[.agg #[.slice none 0 0, .int .i64 0, .int .i64 0], .int .i64 0, .int .i64 0], []⟩ 8 (by kernel_rfl) (by kernel_rfl) (by kernel_rfl) (by kernel_rfl))
theorem disks_holds : Rows.RecorderDisksSaid :=
  OpenClaim.holds_of_wide 4 Try.f4 rfl rfl rfl rfl rfl rfl rfl ⟨rfl, rfl, rfl, rfl, rfl⟩ rfl rfl rfl rfl rfl (by kernel_rfl) Try.func4 (by kernel_rfl)
    (of_decide_eq_true (by kernel_rfl)) (by unfold Func.isWrapper; first | (rw [if_pos (by decide +kernel)]; kernel_rfl) | (rw [if_neg (by decide +kernel)]; exact ⟨rfl, rfl⟩))
    (fun os started H enc _ => disks_lifted os started H enc)

end Go.Proofs.Ytkhddlhhbanebaa
