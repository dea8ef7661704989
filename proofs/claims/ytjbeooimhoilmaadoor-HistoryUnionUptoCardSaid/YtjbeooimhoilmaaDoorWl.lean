/- For whatever list of commits and whatever two lists of numbers, of a bulk of at most 1048576 together, HistoryUnion returns true, and nothing that was there is turned; digest.keys holds what the program lays (tied). -/
import Derived.Test.YtjbeooimhoilmaaDoorRows
import Derived.Test.YtjbeooimhoilmaaDoorCards
import Derived.Test.YtjbeooimhoilmaaDoorTie
import Derived.Test.YtjbeooimhoilmaaDoorK09
import Derived.Test.YtjbeooimhoilmaaDoorK23
import Derived.Test.YtjbeooimhoilmaaDoorK26
set_option linter.unusedSimpArgs false
set_option linter.unusedVariables false
namespace Go.Proofs.YtjbeooimhoilmaaDoor
open Go.RowKit Go.Fw Go.WideShapes Go.ChangeShapes Go.ChangeAt
set_option maxRecDepth 100000 in
theorem historyUnion_reads (os : Os) {H : Type} (enc : TypeId × Value → H) : ∃ places, DataW.whole enc Tryd.prog ((laidWorld os).forCall (fun _ _ => 0) ⟨#[], #[.slice none 0 0, .slice none 0 0, .slice none 0 0], []⟩).memory Tryd.f5.params.toList Rows.historyUnionSpec.vars false #[.slice none 0 0, .slice none 0 0, .slice none 0 0].toList 8 = some ([.nil, .nil, .nil], [], places) :=
  ⟨[], by kernel_rfl⟩
set_option maxRecDepth 100000 in
theorem historyUnion_lifted (os : Os) (started : os.Started) (H : Type) (enc : TypeId × Value → H) (F : Stop.Interp) :
    ReturnsInHanded {} Tryd.checked os 5 .any ((Rows.OpenSpec.upto Rows.historyUnionSpec).preRow enc Tryd.prog Tryd.f5 Rows.historyUnionUptoRow.domain false Rows.historyUnionUptoRow.laid) (((Rows.OpenSpec.upto Rows.historyUnionSpec).at F).post enc Tryd.prog Tryd.f5 false true false false) := by
  obtain ⟨places, hx⟩ := historyUnion_reads os enc
  refine law_lifted_row (C := Tryd.checked) (tb := 4) (s := Rows.OpenSpec.upto Rows.historyUnionSpec) (c := Rows.historyUnionSpec) (k := Rows.uptoSmall) rfl rfl own0 started (by kernel_rfl) Tryd.func5
    (witness_row_at (enc := enc) (C := Tryd.checked) false (laidWorld os) #[.slice none 0 0, .slice none 0 0, .slice none 0 0] rfl (by kernel_rfl) (by kernel_rfl) (by kernel_rfl)
      (OpenSpec.preRow_of_cond 8 hx (by kernel_rfl) (fun k hk => by cases hk; kernel_rfl) (by kernel_rfl) (laidMet_of_run' 8 (by kernel_rfl) (by kernel_rfl)))) laidOut0 (by kernel_rfl) rfl Tryd.underlying4 rfl rfl rfl
    (fun ds hd => by match ds, hd with | [_, _, _], _ => rfl) fun W base args ds ps hval hA hlt hsz hfz hk hL => ?_
  rw [Tryd.params5] at hA hval hsz
  obtain ⟨v0, v1, v2, d0, d1, d2, p0, p1, p2, rfl, rfl, rfl, h0, h1, h2⟩ := trodAll_three hA
  have hK := keys_of_laid hL
  have hbk := bulk_bound hk
  have hp0 := bulk_part (d := d0) (l := [d0, d1, d2]) (by simp)
  have hp1 := bulk_part (d := d1) (l := [d0, d1, d2]) (by simp)
  have hp2 := bulk_part (d := d2) (l := [d0, d1, d2]) (by simp)
  obtain ⟨l, hl, hll, hin⟩ := arg_cos (hval 0 _ _ rfl rfl) h0 (weights1 hsz (j := 0) rfl rfl)
  obtain ⟨i1, hi1⟩ := arg_ints (hval 1 _ _ rfl rfl) h1 (weights1 hsz (j := 1) rfl rfl)
  obtain ⟨i2, hi2⟩ := arg_ints (hval 2 _ _ rfl rfl) h2 (weights1 hsz (j := 2) rfl rfl)
  have hn1 := len_ints h1 hi1
  have hn2 := len_ints h2 hi2
  exact hunion_any v0 v1 v2 l i1 i2 W hl hi1 hi2 (by omega) (by omega) hK
theorem historyUnion_upto : Rows.HistoryUnionUptoSaid :=
  OpenClaim.holds_of_cond 5 Tryd.f5 rfl rfl rfl rfl rfl rfl rfl ⟨rfl, rfl, rfl, rfl, rfl⟩ rfl rfl rfl rfl rfl (by kernel_rfl) Tryd.func5 (by kernel_rfl)
    (of_decide_eq_true (by kernel_rfl)) (by unfold Func.isWrapper; first | (rw [if_pos (by decide +kernel)]; kernel_rfl) | (rw [if_neg (by decide +kernel)]; exact ⟨rfl, rfl⟩))
    (fun os started H enc _ F => by rw [OpenClaim.pre_eq_preRow]; exact historyUnion_lifted os started H enc F)
/-- ████ THE STATEMENT, A TIED CARD ████ -/
theorem historyUnion_card : Rows.HistoryUnionUptoCardSaid :=
  Claim7.holds_tied_plain_at .later [] [.data] true (true, "12c9ef36bc8b1bc61f5dd6cd1143a71179ca020c77f24b2cf4c9894625608b1f") false
    historyUnion_upto (fun _ h => by cases h) (by kernel_rfl) (fun _ h => by cases h) historyUnionUpto_row_tie rfl ⟨rfl, rfl⟩ (by kernel_rfl) rfl
    (fun f fn hf hfn => by
      obtain rfl : f = 5 := Option.some.inj ((show Tryd.prog.funcNamed "recension/recensionlaw09.HistoryUnion" = some 5 by kernel_rfl).symm.trans hf) |>.symm
      obtain rfl : fn = Tryd.f5 := (Option.some.inj (Tryd.func5.symm.trans hfn)).symm
      exact ⟨by kernel_rfl, fun j t ht => by
        have hall : Tryd.f5.params.toList.all (fun t => !Tryd.prog.wantsStandIn t) = true := by kernel_rfl
        have := List.all_eq_true.1 hall t (List.mem_of_getElem? (by rw [Array.getElem?_toList]; exact ht))
        exact (show Tryd.prog.wantsStandIn t = false by simpa using this)⟩)
    (by kernel_rfl)
#print axioms historyUnion_card
end Go.Proofs.YtjbeooimhoilmaaDoor
