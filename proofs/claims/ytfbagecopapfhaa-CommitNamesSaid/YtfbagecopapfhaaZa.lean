/- For whatever text, CommitNames returns true, and nothing that was there is turned. No condition. -/
import Derived.Test.YtfbagecopapfhaaRows
import Derived.Test.YtfbagecopapfhaaOb
import Derived.Test.YtfbagecopapfhaaLa
set_option linter.unusedSimpArgs false
set_option linter.unusedVariables false
namespace Go.Proofs.Ytfbagecopapfhaa
open Go.RowKit Go.Fw Go.WideShapes Go.ChangeShapes Go.ChangeAt
set_option maxRecDepth 100000 in
theorem commitNames_lifted (os : Os) (started : os.Started) (H : Type) (enc : TypeId × Value → H) :
    ReturnsInHanded {} Try.checked os 3 .any (Rows.commitNamesSpec.pre6 enc Try.prog Try.f3 Rows.commitNamesRow.domain false) (Rows.commitNamesSpec.post enc Try.prog Try.f3 false true false false) := by
  refine law_lifted (C := Try.checked) (tb := 4) own0 started (by kernel_rfl) Try.func3
    (ChangeSpec.witness6 (enc := enc) (C := Try.checked) false ⟨#[], #[.string ByteArray.empty], []⟩ 8 (by kernel_rfl) (by kernel_rfl) (by kernel_rfl) (by kernel_rfl)) laidOut0 (by kernel_rfl) rfl Try.underlying4 rfl
    (fun ds hd => by match ds, hd with | [_], _ => rfl) fun W base args ds ps hval hA hlt hsz hfz => ?_
  rw [Try.params3] at hA hval hsz
  obtain ⟨v0, d0, rfl, rfl, h0⟩ := trodAll_one hA
  obtain ⟨s, rfl, hb⟩ := arg_string (hval 0 _ _ rfl rfl) h0 (weights1 hsz (j := 0) rfl rfl)
  exact names_any s W (reach_max hb)
/-- ████ THE STATEMENT ████ -/
theorem commitNames_holds : Rows.CommitNamesSaid :=
  OpenClaim.holds_of_wide 3 Try.f3 rfl rfl rfl rfl rfl rfl rfl ⟨rfl, rfl, rfl, rfl, rfl⟩ rfl rfl rfl rfl rfl (by kernel_rfl) Try.func3 (by kernel_rfl)
    (of_decide_eq_true (by kernel_rfl)) (by unfold Func.isWrapper; first | (rw [if_pos (by decide +kernel)]; kernel_rfl) | (rw [if_neg (by decide +kernel)]; exact ⟨rfl, rfl⟩))
    (fun os started H enc _ => commitNames_lifted os started H enc)
#print axioms commitNames_holds
end Go.Proofs.Ytfbagecopapfhaa
