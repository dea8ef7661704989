/- For whatever list of nodes and whatever three lists of IDs of bulk at most 1048576 together, GraphLattice returns true, and nothing that was there is turned. Condition: that bulk. -/
import Derived.Test.YtecolkngbcgmcaaRows
import Derived.Test.YtecolkngbcgmcaaCu
import Derived.Test.YtecolkngbcgmcaaOd
import Derived.Test.YtecolkngbcgmcaaHd
set_option linter.unusedSimpArgs false
set_option linter.unusedVariables false
namespace Go.Proofs.Ytecolkngbcgmcaa
open Go.RowKit Go.Fw Go.WideShapes Go.ChangeShapes Go.ChangeAt
set_option maxRecDepth 100000 in
theorem graphLattice_lifted (os : Os) (started : os.Started) (H : Type) (enc : TypeId × Value → H) (F : Stop.Interp) :
    ReturnsInHanded {} Try.checked os 4 .any ((Rows.OpenSpec.upto Rows.graphLatticeSpec).pre6 enc Try.prog Try.f4 Rows.graphLatticeUptoRow.domain false) (((Rows.OpenSpec.upto Rows.graphLatticeSpec).at F).post enc Try.prog Try.f4 false true false false) := by
  refine law_lifted_cond (C := Try.checked) (tb := 4) (s := Rows.OpenSpec.upto Rows.graphLatticeSpec) (c := Rows.graphLatticeSpec) (k := Rows.uptoSmall) rfl rfl own0 started (by kernel_rfl) Try.func4
    (OpenSpec.witness (enc := enc) (C := Try.checked) (s := Rows.OpenSpec.upto Rows.graphLatticeSpec) (k := Rows.uptoSmall) rfl false ⟨#[], #[.slice none 0 0, .agg #[.slice none 0 0, .slice none 0 0, .slice none 0 0]], []⟩ 8 (by kernel_rfl) (by kernel_rfl) (by kernel_rfl) (x := ([.nil, .agg [.nil, .nil, .nil]], [], [])) (by kernel_rfl) rfl (by kernel_rfl)) laidOut0 (by kernel_rfl) rfl Try.underlying4 rfl rfl rfl
    (fun ds hd => by match ds, hd with | [_, _], _ => rfl) fun W base args ds ps hval hA hlt hsz hfz hk => ?_
  rw [Try.params4] at hA hval hsz
  obtain ⟨v0, v1, d0, d1, p0, p1, rfl, rfl, rfl, h0, h1⟩ := trodAll_two hA
  have hbk := bulk_bound hk
  obtain ⟨l, hl, _⟩ := arg_nds (hval 0 _ _ rfl rfl) h0 (weights1 hsz (j := 0) rfl rfl)
  have hp0 := bulk_part (d := d0) (l := [d0, d1]) (by simp)
  obtain ⟨v3, v4, v5, a, b, c, rfl, ⟨ha, hna⟩, ⟨hb, hnb⟩, hc, hnc⟩ := arg_digs3 (hval 1 _ _ rfl rfl) h1 (weights1 hsz (j := 1) rfl rfl)
  have hp1 := bulk_part (d := d1) (l := [d0, d1]) (by simp)
  have hL := len_arr (m := 3) Try.underlying32 (cs := [v3, v4, v5]) h1
  have h3 := hL 0 v3 a (by decide) rfl ha
  have h4 := hL 1 v4 b (by decide) rfl hb
  have h5 := hL 2 v5 c (by decide) rfl hc
  exact graphLattice_any v0 v3 v4 v5 l a b c W hl ha hb hc (by omega) (by omega) (by omega)
/-- ████ THE STATEMENT, WHERE WHAT COMES IN IS OF SUCH BULK ████ -/
theorem graphLattice_upto : Rows.GraphLatticeUptoSaid :=
  OpenClaim.holds_of_cond 4 Try.f4 rfl rfl rfl rfl rfl rfl rfl ⟨rfl, rfl, rfl, rfl, rfl⟩ rfl rfl rfl rfl rfl (by kernel_rfl) Try.func4 (by kernel_rfl)
    (of_decide_eq_true (by kernel_rfl)) (by unfold Func.isWrapper; first | (rw [if_pos (by decide +kernel)]; kernel_rfl) | (rw [if_neg (by decide +kernel)]; exact ⟨rfl, rfl⟩))
    (fun os started H enc _ F => graphLattice_lifted os started H enc F)
#print axioms graphLattice_upto
end Go.Proofs.Ytecolkngbcgmcaa
