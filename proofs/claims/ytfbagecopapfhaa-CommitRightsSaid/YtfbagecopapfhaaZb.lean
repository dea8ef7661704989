/- For whatever operations and whatever number, CommitRights returns true, and nothing that was there is turned. No condition. -/
import Derived.Test.YtfbagecopapfhaaRows
import Derived.Test.YtfbagecopapfhaaOb
import Derived.Test.YtfbagecopapfhaaLa
set_option linter.unusedSimpArgs false
set_option linter.unusedVariables false
namespace Go.Proofs.Ytfbagecopapfhaa
open Go.RowKit Go.Fw Go.WideShapes Go.ChangeShapes Go.ChangeAt
set_option maxRecDepth 100000 in
theorem commitRights_lifted (os : Os) (started : os.Started) (H : Type) (enc : TypeId × Value → H) :
    ReturnsInHanded {} Try.checked os 4 .any (Rows.commitRightsSpec.pre6 enc Try.prog Try.f4 Rows.commitRightsRow.domain false) (Rows.commitRightsSpec.post enc Try.prog Try.f4 false true false false) := by
  refine law_lifted (C := Try.checked) (tb := 4) own0 started (by kernel_rfl) Try.func4
    (ChangeSpec.witness6 (enc := enc) (C := Try.checked) false ⟨#[], #[.slice none 0 0, .int .i64 0], []⟩ 8 (by kernel_rfl) (by kernel_rfl) (by kernel_rfl) (by kernel_rfl)) laidOut0 (by kernel_rfl) rfl Try.underlying4 rfl
    (fun ds hd => by match ds, hd with | [_, _], _ => rfl) fun W base args ds ps hval hA hlt hsz hfz => ?_
  rw [Try.params4] at hA hval hsz
  obtain ⟨v0, v1, d0, d1, p0, p1, rfl, rfl, rfl, h0, h1⟩ := trodAll_two hA
  obtain ⟨l, hl, hn, _⟩ := arg_ops (hval 0 _ _ rfl rfl) h0 (weights1 hsz (j := 0) rfl rfl)
  obtain ⟨i, rfl, hi⟩ := arg_int (hval 1 _ _ rfl rfl) h1 (weights1 hsz (j := 1) rfl rfl)
  have hb : reachBytes ≤ 140737488355328 := by decide
  exact rights_any v0 l i W hl hi (by omega)
/-- ████ THE STATEMENT ████ -/
theorem commitRights_holds : Rows.CommitRightsSaid :=
  OpenClaim.holds_of_wide 4 Try.f4 rfl rfl rfl rfl rfl rfl rfl ⟨rfl, rfl, rfl, rfl, rfl⟩ rfl rfl rfl rfl rfl (by kernel_rfl) Try.func4 (by kernel_rfl)
    (of_decide_eq_true (by kernel_rfl)) (by unfold Func.isWrapper; first | (rw [if_pos (by decide +kernel)]; kernel_rfl) | (rw [if_neg (by decide +kernel)]; exact ⟨rfl, rfl⟩))
    (fun os started H enc _ => commitRights_lifted os started H enc)
#print axioms commitRights_holds
end Go.Proofs.Ytfbagecopapfhaa
