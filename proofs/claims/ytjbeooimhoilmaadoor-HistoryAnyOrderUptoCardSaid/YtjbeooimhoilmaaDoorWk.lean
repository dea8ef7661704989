/- For whatever list of commits and whatever two lists of numbers, of a bulk of at most 1048576 together, HistoryAnyOrder returns true, and nothing that was there is turned; digest.keys holds what the program lays (tied). -/
import Derived.Test.YtjbeooimhoilmaaDoorRows
import Derived.Test.YtjbeooimhoilmaaDoorCards
import Derived.Test.YtjbeooimhoilmaaDoorTie
import Derived.Test.YtjbeooimhoilmaaDoorK09
import Derived.Test.YtjbeooimhoilmaaDoorK25
import Derived.Test.YtjbeooimhoilmaaDoorK27
set_option linter.unusedSimpArgs false
set_option linter.unusedVariables false
namespace Go.Proofs.YtjbeooimhoilmaaDoor
open Go.RowKit Go.Fw Go.WideShapes Go.ChangeShapes Go.ChangeAt
set_option maxRecDepth 100000 in
theorem historyAnyOrder_reads (os : Os) {H : Type} (enc : TypeId × Value → H) : ∃ places, DataW.whole enc Tryd.prog ((laidWorld os).forCall (fun _ _ => 0) ⟨#[], #[.slice none 0 0, .slice none 0 0, .slice none 0 0], []⟩).memory Tryd.f6.params.toList Rows.historyAnyOrderSpec.vars false #[.slice none 0 0, .slice none 0 0, .slice none 0 0].toList 8 = some ([.nil, .nil, .nil], [], places) :=
  ⟨[], by kernel_rfl⟩
set_option maxRecDepth 100000 in
theorem historyAnyOrder_lifted (os : Os) (started : os.Started) (H : Type) (enc : TypeId × Value → H) (F : Stop.Interp) :
    ReturnsInHanded {} Tryd.checked os 6 .any ((Rows.OpenSpec.upto Rows.historyAnyOrderSpec).preRow enc Tryd.prog Tryd.f6 Rows.historyAnyOrderUptoRow.domain false Rows.historyAnyOrderUptoRow.laid) (((Rows.OpenSpec.upto Rows.historyAnyOrderSpec).at F).post enc Tryd.prog Tryd.f6 false true false false) := by
  obtain ⟨places, hx⟩ := historyAnyOrder_reads os enc
  refine law_lifted_row (C := Tryd.checked) (tb := 4) (s := Rows.OpenSpec.upto Rows.historyAnyOrderSpec) (c := Rows.historyAnyOrderSpec) (k := Rows.uptoSmall) rfl rfl own0 started (by kernel_rfl) Tryd.func6
    (witness_row_at (enc := enc) (C := Tryd.checked) false (laidWorld os) #[.slice none 0 0, .slice none 0 0, .slice none 0 0] rfl (by kernel_rfl) (by kernel_rfl) (by kernel_rfl)
      (OpenSpec.preRow_of_cond 8 hx (by kernel_rfl) (fun k hk => by cases hk; kernel_rfl) (by kernel_rfl) (laidMet_of_run' 8 (by kernel_rfl) (by kernel_rfl)))) laidOut0 (by kernel_rfl) rfl Tryd.underlying4 rfl rfl rfl
    (fun ds hd => by match ds, hd with | [_, _, _], _ => rfl) fun W base args ds ps hval hA hlt hsz hfz hk hL => ?_
  rw [Tryd.params6] at hA hval hsz
  obtain ⟨v0, v1, v2, d0, d1, d2, p0, p1, p2, rfl, rfl, rfl, h0, h1, h2⟩ := trodAll_three hA
  have hK := keys_of_laid hL
  have hbk := bulk_bound hk
  have hp0 := bulk_part (d := d0) (l := [d0, d1, d2]) (by simp)
  have hp1 := bulk_part (d := d1) (l := [d0, d1, d2]) (by simp)
  have hp2 := bulk_part (d := d2) (l := [d0, d1, d2]) (by simp)
  obtain ⟨l, hl, hll, hin⟩ := arg_cos (hval 0 _ _ rfl rfl) h0 (weights1 hsz (j := 0) rfl rfl)
  obtain ⟨i1, hi1⟩ := arg_ints (hval 1 _ _ rfl rfl) h1 (weights1 hsz (j := 1) rfl rfl)
  obtain ⟨i2, hi2⟩ := arg_ints (hval 2 _ _ rfl rfl) h2 (weights1 hsz (j := 2) rfl rfl)
  have hn1 := len_ints h1 hi1
  have hn2 := len_ints h2 hi2
  exact hanyorder_any v0 v1 v2 l i1 i2 W hl hi1 hi2 (by omega) (by omega) hK
theorem historyAnyOrder_upto : Rows.HistoryAnyOrderUptoSaid :=
  OpenClaim.holds_of_cond 6 Tryd.f6 rfl rfl rfl rfl rfl rfl rfl ⟨rfl, rfl, rfl, rfl, rfl⟩ rfl rfl rfl rfl rfl (by kernel_rfl) Tryd.func6 (by kernel_rfl)
    (of_decide_eq_true (by kernel_rfl)) (by unfold Func.isWrapper; first | (rw [if_pos (by decide +kernel)]; kernel_rfl) | (rw [if_neg (by decide +kernel)]; exact ⟨rfl, rfl⟩))
    (fun os started H enc _ F => by rw [OpenClaim.pre_eq_preRow]; exact historyAnyOrder_lifted os started H enc F)
/-- ████ THE STATEMENT, A TIED CARD ████ -/
theorem historyAnyOrder_card : Rows.HistoryAnyOrderUptoCardSaid :=
  Claim7.holds_tied_plain_at .later [] [.data] true (true, "12c9ef36bc8b1bc61f5dd6cd1143a71179ca020c77f24b2cf4c9894625608b1f") false
    historyAnyOrder_upto (fun _ h => by cases h) (by kernel_rfl) (fun _ h => by cases h) historyAnyOrderUpto_row_tie rfl ⟨rfl, rfl⟩ (by kernel_rfl) rfl
    (fun f fn hf hfn => by
      obtain rfl : f = 6 := Option.some.inj ((show Tryd.prog.funcNamed "recension/recensionlaw09.HistoryAnyOrder" = some 6 by kernel_rfl).symm.trans hf) |>.symm
      obtain rfl : fn = Tryd.f6 := (Option.some.inj (Tryd.func6.symm.trans hfn)).symm
      exact ⟨by kernel_rfl, fun j t ht => by
        have hall : Tryd.f6.params.toList.all (fun t => !Tryd.prog.wantsStandIn t) = true := by kernel_rfl
        have := List.all_eq_true.1 hall t (List.mem_of_getElem? (by rw [Array.getElem?_toList]; exact ht))
        exact (show Tryd.prog.wantsStandIn t = false by simpa using this)⟩)
    (by kernel_rfl)
#print axioms historyAnyOrder_card
end Go.Proofs.YtjbeooimhoilmaaDoor
