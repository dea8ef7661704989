/- For whatever commits, whatever commit and whatever number, FugueWalks returns true, and nothing that was there is turned. No condition. -/
import Derived.Test.YtffkmlkdlhkkmaaRows
import Derived.Test.YtffkmlkdlhkkmaaOb
import Derived.Test.YtffkmlkdlhkkmaaOi
import Derived.Test.YtffkmlkdlhkkmaaEf
set_option linter.unusedSimpArgs false
set_option linter.unusedVariables false
namespace Go.Proofs.Ytffkmlkdlhkkmaa
open Go.RowKit Go.Fw Go.WideShapes Go.ChangeShapes Go.ChangeAt
set_option maxRecDepth 100000 in
theorem fugueWalks_lifted (os : Os) (started : os.Started) (H : Type) (enc : TypeId × Value → H) :
    ReturnsInHanded {} Try.checked os 4 .any (Rows.fugueWalksSpec.pre6 enc Try.prog Try.f4 Rows.fugueWalksRow.domain false) (Rows.fugueWalksSpec.post enc Try.prog Try.f4 false true false false) := by
  refine law_lifted (C := Try.checked) (tb := 4) own0 started (by kernel_rfl) Try.func4
    (ChangeSpec.witness6 (enc := enc) (C := Try.checked) false ⟨#[], #[.slice none 0 0, .agg (#[.int .u8 0, .int .u8 0, .int .u8 0, .int .u8 0, .int .u8 0, .int .u8 0, .int .u8 0, .int .u8 0, .int .u8 0, .int .u8 0, .int .u8 0, .int .u8 0, .int .u8 0, .int .u8 0, .int .u8 0, .int .u8 0, .int .u8 0, .int .u8 0, .int .u8 0, .int .u8 0, .int .u8 0, .int .u8 0, .int .u8 0, .int .u8 0, .int .u8 0, .int .u8 0, .int .u8 0, .int .u8 0, .int .u8 0, .int .u8 0, .int .u8 0, .int .u8 0, .slice none 0 0]), .int .i64 0], []⟩ 8 (by kernel_rfl) (by kernel_rfl) (by kernel_rfl) (by kernel_rfl)) laidOut0 (by kernel_rfl) rfl Try.underlying4 rfl
    (fun ds hd => by match ds, hd with | [_, _, _], _ => rfl) fun W base args ds ps hval hA hlt hsz hfz => ?_
  rw [Try.params4] at hA hval hsz
  obtain ⟨v0, v1, v2, d0, d1, d2, p0, p1, p2, rfl, rfl, rfl, h0, h1, h2⟩ := trodAll_three hA
  obtain ⟨l, hl⟩ := arg_cms (hval 0 _ _ rfl rfl) h0 (weights1 hsz (j := 0) rfl rfl)
  obtain ⟨x, rfl, hx, _⟩ := arg_cm (hval 1 _ _ rfl rfl) h1 (weights1 hsz (j := 1) rfl rfl)
  obtain ⟨n, rfl, hn⟩ := arg_int (hval 2 _ _ rfl rfl) h2 (weights1 hsz (j := 2) rfl rfl)
  exact walks_any v0 l x n W hl hx
/-- ████ THE STATEMENT ████ -/
theorem fugueWalks_holds : Rows.FugueWalksSaid :=
  OpenClaim.holds_of_wide 4 Try.f4 rfl rfl rfl rfl rfl rfl rfl ⟨rfl, rfl, rfl, rfl, rfl⟩ rfl rfl rfl rfl rfl (by kernel_rfl) Try.func4 (by kernel_rfl)
    (of_decide_eq_true (by kernel_rfl)) (by unfold Func.isWrapper; first | (rw [if_pos (by decide +kernel)]; kernel_rfl) | (rw [if_neg (by decide +kernel)]; exact ⟨rfl, rfl⟩))
    (fun os started H enc _ => fugueWalks_lifted os started H enc)
#print axioms fugueWalks_holds
end Go.Proofs.Ytffkmlkdlhkkmaa
