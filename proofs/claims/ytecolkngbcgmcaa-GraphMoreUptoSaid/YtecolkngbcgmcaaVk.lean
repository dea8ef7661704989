/- For whatever list of nodes, whatever node and whatever two lists of IDs of bulk at most 1048576 together, GraphMore returns true, and nothing that was there is turned. Condition: that bulk. -/
import Derived.Test.YtecolkngbcgmcaaRows
import Derived.Test.YtecolkngbcgmcaaCu
import Derived.Test.YtecolkngbcgmcaaOd
import Derived.Test.YtecolkngbcgmcaaHl
set_option linter.unusedSimpArgs false
set_option linter.unusedVariables false
namespace Go.Proofs.Ytecolkngbcgmcaa
open Go.RowKit Go.Fw Go.WideShapes Go.ChangeShapes Go.ChangeAt
set_option maxRecDepth 100000 in
theorem graphMore_lifted (os : Os) (started : os.Started) (H : Type) (enc : TypeId × Value → H) (F : Stop.Interp) :
    ReturnsInHanded {} Try.checked os 12 .any ((Rows.OpenSpec.upto Rows.graphMoreSpec).pre6 enc Try.prog Try.f12 Rows.graphMoreUptoRow.domain false) (((Rows.OpenSpec.upto Rows.graphMoreSpec).at F).post enc Try.prog Try.f12 false true false false) := by
  refine law_lifted_cond (C := Try.checked) (tb := 4) (s := Rows.OpenSpec.upto Rows.graphMoreSpec) (c := Rows.graphMoreSpec) (k := Rows.uptoSmall) rfl rfl own0 started (by kernel_rfl) Try.func12
    (OpenSpec.witness (enc := enc) (C := Try.checked) (s := Rows.OpenSpec.upto Rows.graphMoreSpec) (k := Rows.uptoSmall) rfl false ⟨#[], #[.slice none 0 0, .agg (#[.int .u8 0, .int .u8 0, .int .u8 0, .int .u8 0, .int .u8 0, .int .u8 0, .int .u8 0, .int .u8 0, .int .u8 0, .int .u8 0, .int .u8 0, .int .u8 0, .int .u8 0, .int .u8 0, .int .u8 0, .int .u8 0, .int .u8 0, .int .u8 0, .int .u8 0, .int .u8 0, .int .u8 0, .int .u8 0, .int .u8 0, .int .u8 0, .int .u8 0, .int .u8 0, .int .u8 0, .int .u8 0, .int .u8 0, .int .u8 0, .int .u8 0, .int .u8 0, .slice none 0 0]), .agg #[.slice none 0 0, .slice none 0 0]], []⟩ 8 (by kernel_rfl) (by kernel_rfl) (by kernel_rfl) (x := ([.nil, .agg [.agg [.lit (.int .u8 0), .lit (.int .u8 0), .lit (.int .u8 0), .lit (.int .u8 0), .lit (.int .u8 0), .lit (.int .u8 0), .lit (.int .u8 0), .lit (.int .u8 0), .lit (.int .u8 0), .lit (.int .u8 0), .lit (.int .u8 0), .lit (.int .u8 0), .lit (.int .u8 0), .lit (.int .u8 0), .lit (.int .u8 0), .lit (.int .u8 0), .lit (.int .u8 0), .lit (.int .u8 0), .lit (.int .u8 0), .lit (.int .u8 0), .lit (.int .u8 0), .lit (.int .u8 0), .lit (.int .u8 0), .lit (.int .u8 0), .lit (.int .u8 0), .lit (.int .u8 0), .lit (.int .u8 0), .lit (.int .u8 0), .lit (.int .u8 0), .lit (.int .u8 0), .lit (.int .u8 0), .lit (.int .u8 0)], .nil], .agg [.nil, .nil]], [], [])) (by kernel_rfl) rfl (by kernel_rfl)) laidOut0 (by kernel_rfl) rfl Try.underlying4 rfl rfl rfl
    (fun ds hd => by match ds, hd with | [_, _, _], _ => rfl) fun W base args ds ps hval hA hlt hsz hfz hk => ?_
  rw [Try.params12] at hA hval hsz
  obtain ⟨v0, v1, v2, d0, d1, d2, p0, p1, p2, rfl, rfl, rfl, h0, h1, h2⟩ := trodAll_three hA
  have hbk := bulk_bound hk
  obtain ⟨l, hl, hnl⟩ := arg_nds (hval 0 _ _ rfl rfl) h0 (weights1 hsz (j := 0) rfl rfl)
  have hp0 := bulk_part (d := d0) (l := [d0, d1, d2]) (by simp)
  obtain ⟨x, rfl, hx0⟩ := arg_nd (hval 1 _ _ rfl rfl) h1 (weights1 hsz (j := 1) rfl rfl)
  have hp1 := bulk_part (d := d1) (l := [d0, d1, d2]) (by simp)
  obtain ⟨v3, v4, a, b, rfl, ⟨ha, hna⟩, hb, hnb⟩ := arg_digs2 (hval 2 _ _ rfl rfl) h2 (weights1 hsz (j := 2) rfl rfl)
  have hp2 := bulk_part (d := d2) (l := [d0, d1, d2]) (by simp)
  have hL := len_arr (m := 2) Try.underlying53 (cs := [v3, v4]) h2
  have h3 := hL 0 v3 a (by decide) rfl ha
  have h4 := hL 1 v4 b (by decide) rfl hb
  have h5 := len_nds h0 hl
  exact graphMore_any v0 v3 v4 l x a b W hl hx0 ha hb (by omega) (by omega) (by omega)
/-- ████ THE STATEMENT, WHERE WHAT COMES IN IS OF SUCH BULK ████ -/
theorem graphMore_upto : Rows.GraphMoreUptoSaid :=
  OpenClaim.holds_of_cond 12 Try.f12 rfl rfl rfl rfl rfl rfl rfl ⟨rfl, rfl, rfl, rfl, rfl⟩ rfl rfl rfl rfl rfl (by kernel_rfl) Try.func12 (by kernel_rfl)
    (of_decide_eq_true (by kernel_rfl)) (by unfold Func.isWrapper; first | (rw [if_pos (by decide +kernel)]; kernel_rfl) | (rw [if_neg (by decide +kernel)]; exact ⟨rfl, rfl⟩))
    (fun os started H enc _ F => graphMore_lifted os started H enc F)
#print axioms graphMore_upto
end Go.Proofs.Ytecolkngbcgmcaa
