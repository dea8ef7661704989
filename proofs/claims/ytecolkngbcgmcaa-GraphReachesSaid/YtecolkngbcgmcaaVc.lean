/- For whatever list of nodes and whatever IDs, GraphReaches returns true, and nothing that was there is turned. No condition. -/
import Derived.Test.YtecolkngbcgmcaaRows
import Derived.Test.YtecolkngbcgmcaaOb
import Derived.Test.YtecolkngbcgmcaaOd
import Derived.Test.YtecolkngbcgmcaaHc
set_option linter.unusedSimpArgs false
set_option linter.unusedVariables false
namespace Go.Proofs.Ytecolkngbcgmcaa
open Go.RowKit Go.Fw Go.WideShapes Go.ChangeShapes Go.ChangeAt
set_option maxRecDepth 100000 in
theorem graphReaches_lifted (os : Os) (started : os.Started) (H : Type) (enc : TypeId × Value → H) :
    ReturnsInHanded {} Try.checked os 13 .any (Rows.graphReachesSpec.pre6 enc Try.prog Try.f13 Rows.graphReachesRow.domain false) (Rows.graphReachesSpec.post enc Try.prog Try.f13 false true false false) := by
  refine law_lifted (C := Try.checked) (tb := 4) own0 started (by kernel_rfl) Try.func13
    (ChangeSpec.witness6 (enc := enc) (C := Try.checked) false ⟨#[], #[.slice none 0 0, .slice none 0 0], []⟩ 8 (by kernel_rfl) (by kernel_rfl) (by kernel_rfl) (by kernel_rfl)) laidOut0 (by kernel_rfl) rfl Try.underlying4 rfl
    (fun ds hd => by match ds, hd with | [_, _], _ => rfl) fun W base args ds ps hval hA hlt hsz hfz => ?_
  rw [Try.params13] at hA hval hsz
  obtain ⟨v0, v1, d0, d1, p0, p1, rfl, rfl, rfl, h0, h1⟩ := trodAll_two hA
  obtain ⟨l, hl, _⟩ := arg_nds (hval 0 _ _ rfl rfl) h0 (weights1 hsz (j := 0) rfl rfl)
  obtain ⟨ids, hd, hn⟩ := arg_digs (hval 1 _ _ rfl rfl) h1 (weights1 hsz (j := 1) rfl rfl)
  have hr := reach_is
  exact graphReaches_any v0 v1 l ids W hl hd (by omega)
/-- ████ THE STATEMENT ████ -/
theorem graphReaches_holds : Rows.GraphReachesSaid :=
  OpenClaim.holds_of_wide 13 Try.f13 rfl rfl rfl rfl rfl rfl rfl ⟨rfl, rfl, rfl, rfl, rfl⟩ rfl rfl rfl rfl rfl (by kernel_rfl) Try.func13 (by kernel_rfl)
    (of_decide_eq_true (by kernel_rfl)) (by unfold Func.isWrapper; first | (rw [if_pos (by decide +kernel)]; kernel_rfl) | (rw [if_neg (by decide +kernel)]; exact ⟨rfl, rfl⟩))
    (fun os started H enc _ => graphReaches_lifted os started H enc)
#print axioms graphReaches_holds
end Go.Proofs.Ytecolkngbcgmcaa
