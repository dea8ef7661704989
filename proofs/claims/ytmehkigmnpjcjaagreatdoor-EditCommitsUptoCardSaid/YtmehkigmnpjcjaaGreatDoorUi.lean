/- For whatever list of commits, whatever list of numbers and whatever three texts, of a bulk of at most 1048576 together, EditCommits returns true, and nothing that was there is turned; digest.keys holds what the program lays (tied). -/
import Derived.Test.YtmehkigmnpjcjaaGreatDoorRows
import Derived.Test.YtmehkigmnpjcjaaGreatDoorCards
import Derived.Test.YtmehkigmnpjcjaaGreatDoorTie
import Derived.Test.YtmehkigmnpjcjaaGreatDoorK07
import Derived.Test.YtmehkigmnpjcjaaGreatDoorK26
import Derived.Test.YtmehkigmnpjcjaaGreatDoorK37
set_option linter.unusedSimpArgs false
set_option linter.unusedVariables false
namespace Go.Proofs.YtmehkigmnpjcjaaGreatDoor
open Go.RowKit Go.Fw Go.WideShapes Go.ChangeShapes Go.ChangeAt
set_option maxRecDepth 100000 in
theorem pw (os : Os) {H : Type} (enc : TypeId × Value → H) : ∃ places, DataW.whole enc Tryz.prog ((uH os).forCall (fun _ _ => 0) ⟨#[], #[.slice none 0 0, .slice none 0 0, .agg #[.string ByteArray.empty, .string ByteArray.empty, .string ByteArray.empty]], []⟩).memory Tryz.f3.params.toList Rows.editCommitsSpec.vars false #[.slice none 0 0, .slice none 0 0, .agg #[.string ByteArray.empty, .string ByteArray.empty, .string ByteArray.empty]].toList 8 = some ([.nil, .nil, .agg [.lit (.string []), .lit (.string []), .lit (.string [])]], [], places) :=
  ⟨[], by kernel_rfl⟩
set_option maxRecDepth 100000 in
theorem oh (os : Os) (started : os.Started) (H : Type) (enc : TypeId × Value → H) (F : Stop.Interp) :
    ReturnsInHanded {} Tryz.checked os 3 .any ((Rows.OpenSpec.upto Rows.editCommitsSpec).preRow enc Tryz.prog Tryz.f3 Rows.editCommitsUptoRow.domain false Rows.editCommitsUptoRow.laid) (((Rows.OpenSpec.upto Rows.editCommitsSpec).at F).post enc Tryz.prog Tryz.f3 false true false false) := by
  obtain ⟨places, hx⟩ := pw os enc
  refine tm (C := Tryz.checked) (tb := 4) (s := Rows.OpenSpec.upto Rows.editCommitsSpec) (c := Rows.editCommitsSpec) (k := Rows.uptoSmall) rfl rfl JL started (by kernel_rfl) Tryz.func3
    (witness_row_at (enc := enc) (C := Tryz.checked) false (uH os) #[.slice none 0 0, .slice none 0 0, .agg #[.string ByteArray.empty, .string ByteArray.empty, .string ByteArray.empty]] rfl (by kernel_rfl) (by kernel_rfl) (by kernel_rfl)
      (OpenSpec.preRow_of_cond 8 hx (by kernel_rfl) (fun k hk => by cases hk; kernel_rfl) (by kernel_rfl) (laidMet_of_run' 8 (by kernel_rfl) (by kernel_rfl)))) EW (by kernel_rfl) rfl Tryz.underlying4 rfl rfl rfl
    (fun ds hd => by match ds, hd with | [_, _, _], _ => rfl) fun W base args ds ps hval hA hlt hsz hfz hk hL => ?_
  rw [Tryz.params3] at hA hval hsz
  obtain ⟨v0, v1, v2, d0, d1, d2, p0, p1, p2, rfl, rfl, rfl, h0, h1, h2⟩ := trodAll_three hA
  have hK := vo hL
  have hbk := y4 hk
  have hp0 := qp (d := d0) (l := [d0, d1, d2]) (by simp)
  have hp1 := qp (d := d1) (l := [d0, d1, d2]) (by simp)
  have hp2 := qp (d := d2) (l := [d0, d1, d2]) (by simp)
  obtain ⟨l, hl, hll, hin⟩ := F9 (hval 0 _ _ rfl rfl) h0 (sE hsz (j := 0) rfl rfl)
  obtain ⟨i1, hi1⟩ := DW (hval 1 _ _ rfl rfl) h1 (sE hsz (j := 1) rfl rfl)
  obtain ⟨au, no, tx, rfl, ha, hn, ht⟩ := CZ (hval 2 _ _ rfl rfl) h2 (sE hsz (j := 2) rfl rfl)
  have hnl := GB h0 hl
  have hn1 := D8 h1 hi1
  have hr := Ed
  obtain ⟨b, rfl⟩ : ∃ b, tx = bs b := ⟨tx.toList, (AN tx).symm⟩
  rw [bT] at ht
  exact wu v0 v1 l i1 au no b W hl hi1 (by omega) (by unfold maxLen; omega) (by unfold maxLen; omega) (by omega) hK
theorem qz : Rows.EditCommitsUptoSaid :=
  OpenClaim.holds_of_cond 3 Tryz.f3 rfl rfl rfl rfl rfl rfl rfl ⟨rfl, rfl, rfl, rfl, rfl⟩ rfl rfl rfl rfl rfl (by kernel_rfl) Tryz.func3 (by kernel_rfl)
    (of_decide_eq_true (by kernel_rfl)) (by unfold Func.isWrapper; first | (rw [if_pos (by decide +kernel)]; kernel_rfl) | (rw [if_neg (by decide +kernel)]; exact ⟨rfl, rfl⟩))
    (fun os started H enc _ F => by rw [OpenClaim.pre_eq_preRow]; exact oh os started H enc F)
/-- ████ THE STATEMENT, A TIED CARD ████ -/
theorem editCommits_card : Rows.EditCommitsUptoCardSaid :=
  Claim7.holds_tied_plain_at .later [] [.data] true (true, "8d1ebc56f2f3ab296754f992f97ad0f84f156fa22e77a4d3bea6eb1197f45a07") false
    qz (fun _ h => by cases h) (by kernel_rfl) (fun _ h => by cases h) editCommitsUpto_row_tie rfl ⟨rfl, rfl⟩ (by kernel_rfl) rfl
    (fun f fn hf hfn => by
      obtain rfl : f = 3 := Option.some.inj ((show Tryz.prog.funcNamed "recension/recensionlaw10.EditCommits" = some 3 by kernel_rfl).symm.trans hf) |>.symm
      obtain rfl : fn = Tryz.f3 := (Option.some.inj (Tryz.func3.symm.trans hfn)).symm
      exact ⟨by kernel_rfl, fun j t ht => by
        have hall : Tryz.f3.params.toList.all (fun t => !Tryz.prog.wantsStandIn t) = true := by kernel_rfl
        have := List.all_eq_true.1 hall t (List.mem_of_getElem? (by rw [Array.getElem?_toList]; exact ht))
        exact (show Tryz.prog.wantsStandIn t = false by simpa using this)⟩)
    (by kernel_rfl)
#print axioms editCommits_card
end Go.Proofs.YtmehkigmnpjcjaaGreatDoor
