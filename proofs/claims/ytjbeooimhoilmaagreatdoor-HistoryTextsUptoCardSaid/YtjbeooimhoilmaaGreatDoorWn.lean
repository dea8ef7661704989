/- For whatever list of commits and whatever list of numbers, of a bulk of at most 1048576 together, HistoryTexts returns true, and nothing that was there is turned; digest.keys holds what the program lays (tied). -/
import Derived.Test.YtjbeooimhoilmaaGreatDoorRows
import Derived.Test.YtjbeooimhoilmaaGreatDoorCards
import Derived.Test.YtjbeooimhoilmaaGreatDoorTie
import Derived.Test.YtjbeooimhoilmaaGreatDoorK09
import Derived.Test.YtjbeooimhoilmaaGreatDoorK24
import Derived.Test.YtjbeooimhoilmaaGreatDoorK27
set_option linter.unusedSimpArgs false
set_option linter.unusedVariables false
namespace Go.Proofs.YtjbeooimhoilmaaGreatDoor
open Go.RowKit Go.Fw Go.WideShapes Go.ChangeShapes Go.ChangeAt
set_option maxRecDepth 100000 in
theorem historyTexts_reads (os : Os) {H : Type} (enc : TypeId × Value → H) : ∃ places, DataW.whole enc Tryz.prog ((laidWorld os).forCall (fun _ _ => 0) ⟨#[], #[.slice none 0 0, .slice none 0 0], []⟩).memory Tryz.f5.params.toList Rows.historyTextsSpec.vars false #[.slice none 0 0, .slice none 0 0].toList 8 = some ([.nil, .nil], [], places) :=
  ⟨[], by kernel_rfl⟩
set_option maxRecDepth 100000 in
theorem historyTexts_lifted (os : Os) (started : os.Started) (H : Type) (enc : TypeId × Value → H) (F : Stop.Interp) :
    ReturnsInHanded {} Tryz.checked os 5 .any ((Rows.OpenSpec.upto Rows.historyTextsSpec).preRow enc Tryz.prog Tryz.f5 Rows.historyTextsUptoRow.domain false Rows.historyTextsUptoRow.laid) (((Rows.OpenSpec.upto Rows.historyTextsSpec).at F).post enc Tryz.prog Tryz.f5 false true false false) := by
  obtain ⟨places, hx⟩ := historyTexts_reads os enc
  refine law_lifted_row (C := Tryz.checked) (tb := 4) (s := Rows.OpenSpec.upto Rows.historyTextsSpec) (c := Rows.historyTextsSpec) (k := Rows.uptoSmall) rfl rfl own0 started (by kernel_rfl) Tryz.func5
    (witness_row_at (enc := enc) (C := Tryz.checked) false (laidWorld os) #[.slice none 0 0, .slice none 0 0] rfl (by kernel_rfl) (by kernel_rfl) (by kernel_rfl)
      (OpenSpec.preRow_of_cond 8 hx (by kernel_rfl) (fun k hk => by cases hk; kernel_rfl) (by kernel_rfl) (laidMet_of_run' 8 (by kernel_rfl) (by kernel_rfl)))) laidOut0 (by kernel_rfl) rfl Tryz.underlying4 rfl rfl rfl
    (fun ds hd => by match ds, hd with | [_, _], _ => rfl) fun W base args ds ps hval hA hlt hsz hfz hk hL => ?_
  rw [Tryz.params5] at hA hval hsz
  obtain ⟨v0, v1, d0, d1, p0, p1, rfl, rfl, rfl, h0, h1⟩ := trodAll_two hA
  have hK := keys_of_laid hL
  have hbk := bulk_bound hk
  have hp0 := bulk_part (d := d0) (l := [d0, d1]) (by simp)
  have hp1 := bulk_part (d := d1) (l := [d0, d1]) (by simp)
  obtain ⟨l, hl, hll, hin⟩ := arg_cos (hval 0 _ _ rfl rfl) h0 (weights1 hsz (j := 0) rfl rfl)
  obtain ⟨i1, hi1⟩ := arg_ints (hval 1 _ _ rfl rfl) h1 (weights1 hsz (j := 1) rfl rfl)
  have hn1 := len_ints h1 hi1
  exact htexts_any v0 v1 l i1 W hl hi1 (by omega) hK
theorem historyTexts_upto : Rows.HistoryTextsUptoSaid :=
  OpenClaim.holds_of_cond 5 Tryz.f5 rfl rfl rfl rfl rfl rfl rfl ⟨rfl, rfl, rfl, rfl, rfl⟩ rfl rfl rfl rfl rfl (by kernel_rfl) Tryz.func5 (by kernel_rfl)
    (of_decide_eq_true (by kernel_rfl)) (by unfold Func.isWrapper; first | (rw [if_pos (by decide +kernel)]; kernel_rfl) | (rw [if_neg (by decide +kernel)]; exact ⟨rfl, rfl⟩))
    (fun os started H enc _ F => by rw [OpenClaim.pre_eq_preRow]; exact historyTexts_lifted os started H enc F)
/-- ████ THE STATEMENT, A TIED CARD ████ -/
theorem historyTexts_card : Rows.HistoryTextsUptoCardSaid :=
  Claim7.holds_tied_plain_at .later [] [.data] true (true, "1f7c0d5270a44413ef9b753f6d75242c732976e74e4e6cf0864eb5ba850c2784") false
    historyTexts_upto (fun _ h => by cases h) (by kernel_rfl) (fun _ h => by cases h) historyTextsUpto_row_tie rfl ⟨rfl, rfl⟩ (by kernel_rfl) rfl
    (fun f fn hf hfn => by
      obtain rfl : f = 5 := Option.some.inj ((show Tryz.prog.funcNamed "recension/recensionlaw09.HistoryTexts" = some 5 by kernel_rfl).symm.trans hf) |>.symm
      obtain rfl : fn = Tryz.f5 := (Option.some.inj (Tryz.func5.symm.trans hfn)).symm
      exact ⟨by kernel_rfl, fun j t ht => by
        have hall : Tryz.f5.params.toList.all (fun t => !Tryz.prog.wantsStandIn t) = true := by kernel_rfl
        have := List.all_eq_true.1 hall t (List.mem_of_getElem? (by rw [Array.getElem?_toList]; exact ht))
        exact (show Tryz.prog.wantsStandIn t = false by simpa using this)⟩)
    (by kernel_rfl)
#print axioms historyTexts_card
end Go.Proofs.YtjbeooimhoilmaaGreatDoor
