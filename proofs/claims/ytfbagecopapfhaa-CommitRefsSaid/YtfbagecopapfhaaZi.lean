/- For whatever commit, CommitRefs returns true, and nothing that was there is turned. No condition. -/
import Derived.Test.YtfbagecopapfhaaRows
import Derived.Test.YtfbagecopapfhaaOb
import Derived.Test.YtfbagecopapfhaaOc
import Derived.Test.YtfbagecopapfhaaSk
set_option linter.unusedSimpArgs false
set_option linter.unusedVariables false
namespace Go.Proofs.Ytfbagecopapfhaa
open Go.RowKit Go.Fw Go.WideShapes Go.ChangeShapes Go.ChangeAt
set_option maxRecDepth 100000 in
theorem commitRefs_lifted (os : Os) (started : os.Started) (H : Type) (enc : TypeId × Value → H) :
    ReturnsInHanded {} Try.checked os 11 .any (Rows.commitRefsSpec.pre6 enc Try.prog Try.f11 Rows.commitRefsRow.domain false) (Rows.commitRefsSpec.post enc Try.prog Try.f11 false true false false) := by
  refine law_lifted (C := Try.checked) (tb := 4) own0 started (by kernel_rfl) Try.func11
    (ChangeSpec.witness6 (enc := enc) (C := Try.checked) false ⟨#[], #[.agg #[.slice none 0 0, .string ByteArray.empty, .string ByteArray.empty, .slice none 0 0]], []⟩ 8 (by kernel_rfl) (by kernel_rfl) (by kernel_rfl) (by kernel_rfl)) laidOut0 (by kernel_rfl) rfl Try.underlying4 rfl
    (fun ds hd => by match ds, hd with | [_], _ => rfl) fun W base args ds ps hval hA hlt hsz hfz => ?_
  rw [Try.params11] at hA hval hsz
  obtain ⟨v0, d0, rfl, rfl, h0⟩ := trodAll_one hA
  obtain ⟨c, hc⟩ := arg_com (hval 0 _ _ rfl rfl) h0 (weights1 hsz (j := 0) rfl rfl)
  have hr := reach_is
  have h2 := hc.ops
  exact commitRefs_any v0 c W hc.com (by omega)
/-- ████ THE STATEMENT ████ -/
theorem commitRefs_holds : Rows.CommitRefsSaid :=
  OpenClaim.holds_of_wide 11 Try.f11 rfl rfl rfl rfl rfl rfl rfl ⟨rfl, rfl, rfl, rfl, rfl⟩ rfl rfl rfl rfl rfl (by kernel_rfl) Try.func11 (by kernel_rfl)
    (of_decide_eq_true (by kernel_rfl)) (by unfold Func.isWrapper; first | (rw [if_pos (by decide +kernel)]; kernel_rfl) | (rw [if_neg (by decide +kernel)]; exact ⟨rfl, rfl⟩))
    (fun os started H enc _ => commitRefs_lifted os started H enc)
#print axioms commitRefs_holds
end Go.Proofs.Ytfbagecopapfhaa
