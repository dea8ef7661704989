/- For whatever list of commits and whatever two lists of numbers, of a bulk of at most 1048576 together, HistoryMerges returns true, and nothing that was there is turned; digest.keys holds what the program lays (tied). -/
import Derived.Test.YtjbeooimhoilmaaGreatDoorRows
import Derived.Test.YtjbeooimhoilmaaGreatDoorCards
import Derived.Test.YtjbeooimhoilmaaGreatDoorTie
import Derived.Test.YtjbeooimhoilmaaGreatDoorK09
import Derived.Test.YtjbeooimhoilmaaGreatDoorK23
import Derived.Test.YtjbeooimhoilmaaGreatDoorK25
set_option linter.unusedSimpArgs false
set_option linter.unusedVariables false
namespace Go.Proofs.YtjbeooimhoilmaaGreatDoor
open Go.RowKit Go.Fw Go.WideShapes Go.ChangeShapes Go.ChangeAt
set_option maxRecDepth 100000 in
theorem historyMerges_reads (os : Os) {H : Type} (enc : TypeId × Value → H) : ∃ places, DataW.whole enc Tryz.prog ((laidWorld os).forCall (fun _ _ => 0) ⟨#[], #[.slice none 0 0, .slice none 0 0, .slice none 0 0], []⟩).memory Tryz.f3.params.toList Rows.historyMergesSpec.vars false #[.slice none 0 0, .slice none 0 0, .slice none 0 0].toList 8 = some ([.nil, .nil, .nil], [], places) :=
  ⟨[], by kernel_rfl⟩
set_option maxRecDepth 100000 in
theorem historyMerges_lifted (os : Os) (started : os.Started) (H : Type) (enc : TypeId × Value → H) (F : Stop.Interp) :
    ReturnsInHanded {} Tryz.checked os 3 .any ((Rows.OpenSpec.upto Rows.historyMergesSpec).preRow enc Tryz.prog Tryz.f3 Rows.historyMergesUptoRow.domain false Rows.historyMergesUptoRow.laid) (((Rows.OpenSpec.upto Rows.historyMergesSpec).at F).post enc Tryz.prog Tryz.f3 false true false false) := by
  obtain ⟨places, hx⟩ := historyMerges_reads os enc
  refine law_lifted_row (C := Tryz.checked) (tb := 4) (s := Rows.OpenSpec.upto Rows.historyMergesSpec) (c := Rows.historyMergesSpec) (k := Rows.uptoSmall) rfl rfl own0 started (by kernel_rfl) Tryz.func3
    (witness_row_at (enc := enc) (C := Tryz.checked) false (laidWorld os) #[.slice none 0 0, .slice none 0 0, .slice none 0 0] rfl (by kernel_rfl) (by kernel_rfl) (by kernel_rfl)
      (OpenSpec.preRow_of_cond 8 hx (by kernel_rfl) (fun k hk => by cases hk; kernel_rfl) (by kernel_rfl) (laidMet_of_run' 8 (by kernel_rfl) (by kernel_rfl)))) laidOut0 (by kernel_rfl) rfl Tryz.underlying4 rfl rfl rfl
    (fun ds hd => by match ds, hd with | [_, _, _], _ => rfl) fun W base args ds ps hval hA hlt hsz hfz hk hL => ?_
  rw [Tryz.params3] at hA hval hsz
  obtain ⟨v0, v1, v2, d0, d1, d2, p0, p1, p2, rfl, rfl, rfl, h0, h1, h2⟩ := trodAll_three hA
  have hK := keys_of_laid hL
  have hbk := bulk_bound hk
  have hp0 := bulk_part (d := d0) (l := [d0, d1, d2]) (by simp)
  have hp1 := bulk_part (d := d1) (l := [d0, d1, d2]) (by simp)
  have hp2 := bulk_part (d := d2) (l := [d0, d1, d2]) (by simp)
  obtain ⟨l, hl, hll, hin⟩ := arg_cos (hval 0 _ _ rfl rfl) h0 (weights1 hsz (j := 0) rfl rfl)
  obtain ⟨i1, hi1⟩ := arg_ints (hval 1 _ _ rfl rfl) h1 (weights1 hsz (j := 1) rfl rfl)
  obtain ⟨i2, hi2⟩ := arg_ints (hval 2 _ _ rfl rfl) h2 (weights1 hsz (j := 2) rfl rfl)
  have hn1 := len_ints h1 hi1
  have hn2 := len_ints h2 hi2
  exact hmerges_any v0 v1 v2 l i1 i2 W hl hi1 hi2 (by omega) (by omega) hK
theorem historyMerges_upto : Rows.HistoryMergesUptoSaid :=
  OpenClaim.holds_of_cond 3 Tryz.f3 rfl rfl rfl rfl rfl rfl rfl ⟨rfl, rfl, rfl, rfl, rfl⟩ rfl rfl rfl rfl rfl (by kernel_rfl) Tryz.func3 (by kernel_rfl)
    (of_decide_eq_true (by kernel_rfl)) (by unfold Func.isWrapper; first | (rw [if_pos (by decide +kernel)]; kernel_rfl) | (rw [if_neg (by decide +kernel)]; exact ⟨rfl, rfl⟩))
    (fun os started H enc _ F => by rw [OpenClaim.pre_eq_preRow]; exact historyMerges_lifted os started H enc F)
/-- ████ THE STATEMENT, A TIED CARD ████ -/
theorem historyMerges_card : Rows.HistoryMergesUptoCardSaid :=
  Claim7.holds_tied_plain_at .later [] [.data] true (true, "1f7c0d5270a44413ef9b753f6d75242c732976e74e4e6cf0864eb5ba850c2784") false
    historyMerges_upto (fun _ h => by cases h) (by kernel_rfl) (fun _ h => by cases h) historyMergesUpto_row_tie rfl ⟨rfl, rfl⟩ (by kernel_rfl) rfl
    (fun f fn hf hfn => by
      obtain rfl : f = 3 := Option.some.inj ((show Tryz.prog.funcNamed "recension/recensionlaw09.HistoryMerges" = some 3 by kernel_rfl).symm.trans hf) |>.symm
      obtain rfl : fn = Tryz.f3 := (Option.some.inj (Tryz.func3.symm.trans hfn)).symm
      exact ⟨by kernel_rfl, fun j t ht => by
        have hall : Tryz.f3.params.toList.all (fun t => !Tryz.prog.wantsStandIn t) = true := by kernel_rfl
        have := List.all_eq_true.1 hall t (List.mem_of_getElem? (by rw [Array.getElem?_toList]; exact ht))
        exact (show Tryz.prog.wantsStandIn t = false by simpa using this)⟩)
    (by kernel_rfl)
#print axioms historyMerges_card
end Go.Proofs.YtjbeooimhoilmaaGreatDoor
