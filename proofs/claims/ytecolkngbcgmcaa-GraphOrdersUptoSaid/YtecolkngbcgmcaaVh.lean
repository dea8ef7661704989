/- For whatever list of nodes and whatever two lists of IDs of bulk at most 1048576 together, GraphOrders returns true, and nothing that was there is turned. Condition: that bulk. -/
import Derived.Test.YtecolkngbcgmcaaRows
import Derived.Test.YtecolkngbcgmcaaCu
import Derived.Test.YtecolkngbcgmcaaOd
import Derived.Test.YtecolkngbcgmcaaHi
set_option linter.unusedSimpArgs false
set_option linter.unusedVariables false
namespace Go.Proofs.Ytecolkngbcgmcaa
open Go.RowKit Go.Fw Go.WideShapes Go.ChangeShapes Go.ChangeAt
set_option maxRecDepth 100000 in
theorem graphOrders_lifted (os : Os) (started : os.Started) (H : Type) (enc : TypeId × Value → H) (F : Stop.Interp) :
    ReturnsInHanded {} Try.checked os 6 .any ((Rows.OpenSpec.upto Rows.graphOrdersSpec).pre6 enc Try.prog Try.f6 Rows.graphOrdersUptoRow.domain false) (((Rows.OpenSpec.upto Rows.graphOrdersSpec).at F).post enc Try.prog Try.f6 false true false false) := by
  refine law_lifted_cond (C := Try.checked) (tb := 4) (s := Rows.OpenSpec.upto Rows.graphOrdersSpec) (c := Rows.graphOrdersSpec) (k := Rows.uptoSmall) rfl rfl own0 started (by kernel_rfl) Try.func6
    (OpenSpec.witness (enc := enc) (C := Try.checked) (s := Rows.OpenSpec.upto Rows.graphOrdersSpec) (k := Rows.uptoSmall) rfl false ⟨#[], #[.slice none 0 0, .slice none 0 0, .slice none 0 0], []⟩ 8 (by kernel_rfl) (by kernel_rfl) (by kernel_rfl) (x := ([.nil, .nil, .nil], [], [])) (by kernel_rfl) rfl (by kernel_rfl)) laidOut0 (by kernel_rfl) rfl Try.underlying4 rfl rfl rfl
    (fun ds hd => by match ds, hd with | [_, _, _], _ => rfl) fun W base args ds ps hval hA hlt hsz hfz hk => ?_
  rw [Try.params6] at hA hval hsz
  obtain ⟨v0, v1, v2, d0, d1, d2, p0, p1, p2, rfl, rfl, rfl, h0, h1, h2⟩ := trodAll_three hA
  have hbk := bulk_bound hk
  obtain ⟨l, hl, hnl⟩ := arg_nds (hval 0 _ _ rfl rfl) h0 (weights1 hsz (j := 0) rfl rfl)
  have hp0 := bulk_part (d := d0) (l := [d0, d1, d2]) (by simp)
  obtain ⟨a, ha, hna⟩ := arg_digs (hval 1 _ _ rfl rfl) h1 (weights1 hsz (j := 1) rfl rfl)
  have hp1 := bulk_part (d := d1) (l := [d0, d1, d2]) (by simp)
  obtain ⟨b, hb, hnb⟩ := arg_digs (hval 2 _ _ rfl rfl) h2 (weights1 hsz (j := 2) rfl rfl)
  have hp2 := bulk_part (d := d2) (l := [d0, d1, d2]) (by simp)
  have h15 := len_digs h1 ha
  have h25 := len_digs h2 hb
  exact graphOrders_any v0 v1 v2 l a b W hl ha hb (by omega) (by omega)
/-- ████ THE STATEMENT, WHERE WHAT COMES IN IS OF SUCH BULK ████ -/
theorem graphOrders_upto : Rows.GraphOrdersUptoSaid :=
  OpenClaim.holds_of_cond 6 Try.f6 rfl rfl rfl rfl rfl rfl rfl ⟨rfl, rfl, rfl, rfl, rfl⟩ rfl rfl rfl rfl rfl (by kernel_rfl) Try.func6 (by kernel_rfl)
    (of_decide_eq_true (by kernel_rfl)) (by unfold Func.isWrapper; first | (rw [if_pos (by decide +kernel)]; kernel_rfl) | (rw [if_neg (by decide +kernel)]; exact ⟨rfl, rfl⟩))
    (fun os started H enc _ F => graphOrders_lifted os started H enc F)
#print axioms graphOrders_upto
end Go.Proofs.Ytecolkngbcgmcaa
