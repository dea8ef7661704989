/- For whatever text, EditNobody returns true, and nothing that was there is turned. No condition. -/
import Derived.Test.YtmndofgagngcgaaRows
import Derived.Test.YtmndofgagngcgaaGB
import Derived.Test.YtmndofgagngcgaaOg
import Derived.Test.YtmndofgagngcgaaJr
set_option linter.unusedSimpArgs false
set_option linter.unusedVariables false
namespace Go.Proofs.Ytmndofgagngcgaa
open Go.RowKit Go.Fw Go.WideShapes Go.ChangeShapes Go.ChangeAt
set_option maxRecDepth 100000 in
theorem editNobody_lifted (os : Os) (started : os.Started) (H : Type) (enc : TypeId × Value → H) :
    ReturnsInHanded {} Try.checked os 5 .any (Rows.editNobodySpec.pre6 enc Try.prog Try.f5 Rows.editNobodyRow.domain false) (Rows.editNobodySpec.post enc Try.prog Try.f5 false true false false) := by
  refine law_lifted (C := Try.checked) (tb := 4) own0 started (by kernel_rfl) Try.func5
    (ChangeSpec.witness6 (enc := enc) (C := Try.checked) false ⟨#[], #[.string ByteArray.empty], []⟩ 8 (by kernel_rfl) (by kernel_rfl) (by kernel_rfl) (by kernel_rfl)) laidOut0 (by kernel_rfl) rfl Try.underlying4 rfl
    (fun ds hd => by match ds, hd with | [_], _ => rfl) fun W base args ds ps hval hA hlt hsz hfz => ?_
  rw [Try.params5] at hA hval hsz
  obtain ⟨v0, d0, rfl, rfl, h0⟩ := trodAll_one hA
  obtain ⟨s, rfl, hb⟩ := arg_string (hval 0 _ _ rfl rfl) h0 (weights1 hsz (j := 0) rfl rfl)
  obtain ⟨b, rfl⟩ : ∃ b, s = Go.Fw.bs b := ⟨s.data.toList, by cases s; simp [bs]⟩
  have hr := reach_is
  have hs := bs_size b
  exact nobody_any b W
/-- ████ THE STATEMENT ████ -/
theorem editNobody_holds : Rows.EditNobodySaid :=
  OpenClaim.holds_of_wide 5 Try.f5 rfl rfl rfl rfl rfl rfl rfl ⟨rfl, rfl, rfl, rfl, rfl⟩ rfl rfl rfl rfl rfl (by kernel_rfl) Try.func5 (by kernel_rfl)
    (of_decide_eq_true (by kernel_rfl)) (by unfold Func.isWrapper; first | (rw [if_pos (by decide +kernel)]; kernel_rfl) | (rw [if_neg (by decide +kernel)]; exact ⟨rfl, rfl⟩))
    (fun os started H enc _ => editNobody_lifted os started H enc)
#print axioms editNobody_holds
end Go.Proofs.Ytmndofgagngcgaa
