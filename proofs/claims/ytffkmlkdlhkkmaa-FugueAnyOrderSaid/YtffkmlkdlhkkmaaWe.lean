/- For whatever commits and whatever number, FugueAnyOrder returns true, and nothing that was there is turned. No condition. -/
import Derived.Test.YtffkmlkdlhkkmaaRows
import Derived.Test.YtffkmlkdlhkkmaaOb
import Derived.Test.YtffkmlkdlhkkmaaOg
import Derived.Test.YtffkmlkdlhkkmaaEe
set_option linter.unusedSimpArgs false
set_option linter.unusedVariables false
namespace Go.Proofs.Ytffkmlkdlhkkmaa
open Go.RowKit Go.Fw Go.WideShapes Go.ChangeShapes Go.ChangeAt
set_option maxRecDepth 100000 in
theorem fugueAnyOrder_lifted (os : Os) (started : os.Started) (H : Type) (enc : TypeId × Value → H) :
    ReturnsInHanded {} Try.checked os 6 .any (Rows.fugueAnyOrderSpec.pre6 enc Try.prog Try.f6 Rows.fugueAnyOrderRow.domain false) (Rows.fugueAnyOrderSpec.post enc Try.prog Try.f6 false true false false) := by
  refine law_lifted (C := Try.checked) (tb := 4) own0 started (by kernel_rfl) Try.func6
    (ChangeSpec.witness6 (enc := enc) (C := Try.checked) false ⟨#[], #[.slice none 0 0, .int .i64 0], []⟩ 8 (by kernel_rfl) (by kernel_rfl) (by kernel_rfl) (by kernel_rfl)) laidOut0 (by kernel_rfl) rfl Try.underlying4 rfl
    (fun ds hd => by match ds, hd with | [_, _], _ => rfl) fun W base args ds ps hval hA hlt hsz hfz => ?_
  rw [Try.params6] at hA hval hsz
  obtain ⟨v0, v1, d0, d1, p0, p1, rfl, rfl, rfl, h0, h1⟩ := trodAll_two hA
  obtain ⟨l, hl⟩ := arg_cms (hval 0 _ _ rfl rfl) h0 (weights1 hsz (j := 0) rfl rfl)
  obtain ⟨n, rfl, hn⟩ := arg_int (hval 1 _ _ rfl rfl) h1 (weights1 hsz (j := 1) rfl rfl)
  exact anyOrder_any v0 l n W hl
/-- ████ THE STATEMENT ████ -/
theorem fugueAnyOrder_holds : Rows.FugueAnyOrderSaid :=
  OpenClaim.holds_of_wide 6 Try.f6 rfl rfl rfl rfl rfl rfl rfl ⟨rfl, rfl, rfl, rfl, rfl⟩ rfl rfl rfl rfl rfl (by kernel_rfl) Try.func6 (by kernel_rfl)
    (of_decide_eq_true (by kernel_rfl)) (by unfold Func.isWrapper; first | (rw [if_pos (by decide +kernel)]; kernel_rfl) | (rw [if_neg (by decide +kernel)]; exact ⟨rfl, rfl⟩))
    (fun os started H enc _ => fugueAnyOrder_lifted os started H enc)
#print axioms fugueAnyOrder_holds
end Go.Proofs.Ytffkmlkdlhkkmaa
