/- For whatever list of nodes and whatever two lists of IDs, GraphAnyOrder returns true, and nothing that was there is turned. No condition. -/
import Derived.Test.YtecolkngbcgmcaaRows
import Derived.Test.YtecolkngbcgmcaaOb
import Derived.Test.YtecolkngbcgmcaaOd
import Derived.Test.YtecolkngbcgmcaaHk
set_option linter.unusedSimpArgs false
set_option linter.unusedVariables false
namespace Go.Proofs.Ytecolkngbcgmcaa
open Go.RowKit Go.Fw Go.WideShapes Go.ChangeShapes Go.ChangeAt
set_option maxRecDepth 100000 in
theorem graphAnyOrder_lifted (os : Os) (started : os.Started) (H : Type) (enc : TypeId × Value → H) :
    ReturnsInHanded {} Try.checked os 11 .any (Rows.graphAnyOrderSpec.pre6 enc Try.prog Try.f11 Rows.graphAnyOrderRow.domain false) (Rows.graphAnyOrderSpec.post enc Try.prog Try.f11 false true false false) := by
  refine law_lifted (C := Try.checked) (tb := 4) own0 started (by kernel_rfl) Try.func11
    (ChangeSpec.witness6 (enc := enc) (C := Try.checked) false ⟨#[], #[.slice none 0 0, .slice none 0 0, .slice none 0 0], []⟩ 8 (by kernel_rfl) (by kernel_rfl) (by kernel_rfl) (by kernel_rfl)) laidOut0 (by kernel_rfl) rfl Try.underlying4 rfl
    (fun ds hd => by match ds, hd with | [_, _, _], _ => rfl) fun W base args ds ps hval hA hlt hsz hfz => ?_
  rw [Try.params11] at hA hval hsz
  obtain ⟨v0, v1, v2, d0, d1, d2, p0, p1, p2, rfl, rfl, rfl, h0, h1, h2⟩ := trodAll_three hA
  obtain ⟨l, hl, hnl⟩ := arg_nds (hval 0 _ _ rfl rfl) h0 (weights1 hsz (j := 0) rfl rfl)
  obtain ⟨a, ha, hna⟩ := arg_digs (hval 1 _ _ rfl rfl) h1 (weights1 hsz (j := 1) rfl rfl)
  obtain ⟨b, hb, hnb⟩ := arg_digs (hval 2 _ _ rfl rfl) h2 (weights1 hsz (j := 2) rfl rfl)
  exact graphAnyOrder_any v0 v1 v2 l a b W hl ha hb
/-- ████ THE STATEMENT ████ -/
theorem graphAnyOrder_holds : Rows.GraphAnyOrderSaid :=
  OpenClaim.holds_of_wide 11 Try.f11 rfl rfl rfl rfl rfl rfl rfl ⟨rfl, rfl, rfl, rfl, rfl⟩ rfl rfl rfl rfl rfl (by kernel_rfl) Try.func11 (by kernel_rfl)
    (of_decide_eq_true (by kernel_rfl)) (by unfold Func.isWrapper; first | (rw [if_pos (by decide +kernel)]; kernel_rfl) | (rw [if_neg (by decide +kernel)]; exact ⟨rfl, rfl⟩))
    (fun os started H enc _ => graphAnyOrder_lifted os started H enc)
#print axioms graphAnyOrder_holds
end Go.Proofs.Ytecolkngbcgmcaa
