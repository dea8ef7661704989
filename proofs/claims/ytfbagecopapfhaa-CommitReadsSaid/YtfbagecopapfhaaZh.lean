/- For whatever bytes, CommitReads returns true, and nothing that was there is turned. No condition. -/
import Derived.Test.YtfbagecopapfhaaRows
import Derived.Test.YtfbagecopapfhaaOb
import Derived.Test.YtfbagecopapfhaaOc
import Derived.Test.YtfbagecopapfhaaRl
set_option linter.unusedSimpArgs false
set_option linter.unusedVariables false
namespace Go.Proofs.Ytfbagecopapfhaa
open Go.RowKit Go.Fw Go.WideShapes Go.ChangeShapes Go.ChangeAt
set_option maxRecDepth 100000 in
theorem commitReads_lifted (os : Os) (started : os.Started) (H : Type) (enc : TypeId × Value → H) :
    ReturnsInHanded {} Try.checked os 6 .any (Rows.commitReadsSpec.pre6 enc Try.prog Try.f6 Rows.commitReadsRow.domain false) (Rows.commitReadsSpec.post enc Try.prog Try.f6 false true false false) := by
  refine law_lifted (C := Try.checked) (tb := 4) own0 started (by kernel_rfl) Try.func6
    (ChangeSpec.witness6 (enc := enc) (C := Try.checked) false ⟨#[], #[.slice none 0 0], []⟩ 8 (by kernel_rfl) (by kernel_rfl) (by kernel_rfl) (by kernel_rfl)) laidOut0 (by kernel_rfl) rfl Try.underlying4 rfl
    (fun ds hd => by match ds, hd with | [_], _ => rfl) fun W base args ds ps hval hA hlt hsz hfz => ?_
  rw [Try.params6] at hA hval hsz
  obtain ⟨v0, d0, rfl, rfl, h0⟩ := trodAll_one hA
  obtain ⟨b, hb, hl⟩ := arg_bytes (hval 0 _ _ rfl rfl) h0 (weights1 hsz (j := 0) rfl rfl)
  have hr := reach_is
  exact reads_any v0 b W hb (by omega)
/-- ████ THE STATEMENT ████ -/
theorem commitReads_holds : Rows.CommitReadsSaid :=
  OpenClaim.holds_of_wide 6 Try.f6 rfl rfl rfl rfl rfl rfl rfl ⟨rfl, rfl, rfl, rfl, rfl⟩ rfl rfl rfl rfl rfl (by kernel_rfl) Try.func6 (by kernel_rfl)
    (of_decide_eq_true (by kernel_rfl)) (by unfold Func.isWrapper; first | (rw [if_pos (by decide +kernel)]; kernel_rfl) | (rw [if_neg (by decide +kernel)]; exact ⟨rfl, rfl⟩))
    (fun os started H enc _ => commitReads_lifted os started H enc)
#print axioms commitReads_holds
end Go.Proofs.Ytfbagecopapfhaa
