/- For whatever commits, EditWhole returns true, and nothing that was there is turned. No condition. -/
import Derived.Test.YtmndofgagngcgaaRows
import Derived.Test.YtmndofgagngcgaaGB
import Derived.Test.YtmndofgagngcgaaOg
import Derived.Test.YtmndofgagngcgaaJt
set_option linter.unusedSimpArgs false
set_option linter.unusedVariables false
namespace Go.Proofs.Ytmndofgagngcgaa
open Go.RowKit Go.Fw Go.WideShapes Go.ChangeShapes Go.ChangeAt
set_option maxRecDepth 100000 in
theorem editWhole_lifted (os : Os) (started : os.Started) (H : Type) (enc : TypeId × Value → H) :
    ReturnsInHanded {} Try.checked os 8 .any (Rows.editWholeSpec.pre6 enc Try.prog Try.f8 Rows.editWholeRow.domain false) (Rows.editWholeSpec.post enc Try.prog Try.f8 false true false false) := by
  refine law_lifted (C := Try.checked) (tb := 4) own0 started (by kernel_rfl) Try.func8
    (ChangeSpec.witness6 (enc := enc) (C := Try.checked) false ⟨#[], #[.slice none 0 0], []⟩ 8 (by kernel_rfl) (by kernel_rfl) (by kernel_rfl) (by kernel_rfl)) laidOut0 (by kernel_rfl) rfl Try.underlying4 rfl
    (fun ds hd => by match ds, hd with | [_], _ => rfl) fun W base args ds ps hval hA hlt hsz hfz => ?_
  rw [Try.params8] at hA hval hsz
  obtain ⟨v0, d0, rfl, rfl, h0⟩ := trodAll_one hA
  obtain ⟨l, hl⟩ := arg_cms (hval 0 _ _ rfl rfl) h0 (weights1 hsz (j := 0) rfl rfl)
  exact whole_any v0 l W hl
/-- ████ THE STATEMENT ████ -/
theorem editWhole_holds : Rows.EditWholeSaid :=
  OpenClaim.holds_of_wide 8 Try.f8 rfl rfl rfl rfl rfl rfl rfl ⟨rfl, rfl, rfl, rfl, rfl⟩ rfl rfl rfl rfl rfl (by kernel_rfl) Try.func8 (by kernel_rfl)
    (of_decide_eq_true (by kernel_rfl)) (by unfold Func.isWrapper; first | (rw [if_pos (by decide +kernel)]; kernel_rfl) | (rw [if_neg (by decide +kernel)]; exact ⟨rfl, rfl⟩))
    (fun os started H enc _ => editWhole_lifted os started H enc)
#print axioms editWhole_holds
end Go.Proofs.Ytmndofgagngcgaa
