/- For whatever list of commits, HistoryChecks returns true, and nothing that was there is turned; digest.keys holds what the program lays (tied). No other condition. -/
import Derived.Test.YtjbeooimhoilmaaGreatDoorRows
import Derived.Test.YtjbeooimhoilmaaGreatDoorCards
import Derived.Test.YtjbeooimhoilmaaGreatDoorTie
import Derived.Test.YtjbeooimhoilmaaGreatDoorK09
import Derived.Test.YtjbeooimhoilmaaGreatDoorK23
import Derived.Test.YtjbeooimhoilmaaGreatDoorK26
set_option linter.unusedSimpArgs false
set_option linter.unusedVariables false
namespace Go.Proofs.YtjbeooimhoilmaaGreatDoor
open Go.RowKit Go.Fw Go.WideShapes Go.ChangeShapes Go.ChangeAt
set_option maxRecDepth 100000 in
theorem historyChecks_lifted (os : Os) (started : os.Started) (H : Type) (enc : TypeId × Value → H) :
    ReturnsInHanded {} Tryz.checked os 4 .any (fun w args => (Rows.historyChecksSpec.pre enc Tryz.prog Tryz.f4 Rows.historyChecksRow.domain false w args ∧ laidMetH Tryz.prog laidL w) ∧ sizedMet enc Tryz.prog Tryz.f4 (OpenSpec.ofChange Rows.historyChecksSpec) false w args) (Rows.historyChecksSpec.post enc Tryz.prog Tryz.f4 false true false false) := by
  refine law_lifted_and (C := Tryz.checked) (tb := 4) (X := fun w _ => laidMetH Tryz.prog laidL w) (fun _ _ _ hh h => h.of_heap hh) own0 started (by kernel_rfl) Tryz.func4
    (ChangeSpec.witness_at (enc := enc) (C := Tryz.checked) (os := os) (X := fun w _ => laidMetH Tryz.prog laidL w) false (laidWorld os) #[.slice none 0 0] 8 rfl (by kernel_rfl) (by kernel_rfl) (by kernel_rfl) (by kernel_rfl) (by kernel_rfl) (laidWorld_met os _)) laidOut0 (by kernel_rfl) rfl Tryz.underlying4 rfl
    (fun ds hd => by match ds, hd with | [_], _ => rfl) fun W base args ds ps hval hA hlt hsz hfz hL => ?_
  rw [Tryz.params4] at hA hval hsz
  obtain ⟨v0, d0, rfl, rfl, h0⟩ := trodAll_one hA
  have hK := keys_of_laid hL
  obtain ⟨l, hl, hll, hin⟩ := arg_cos (hval 0 _ _ rfl rfl) h0 (weights1 hsz (j := 0) rfl rfl)
  have hr := reach_is
  exact hchecks_any v0 l W hl (fun x hx => ⟨by have := (hin x hx).parents; omega, by have := (hin x hx).ops; omega⟩) (by omega) hK
theorem historyChecks_said : Rows.HistoryChecksSaid :=
  OpenClaim.holds_of_wide 4 Tryz.f4 rfl rfl rfl rfl rfl rfl rfl ⟨rfl, rfl, rfl, rfl, rfl⟩ rfl rfl rfl rfl rfl (by kernel_rfl) Tryz.func4 (by kernel_rfl)
    (of_decide_eq_true (by kernel_rfl)) (by unfold Func.isWrapper; first | (rw [if_pos (by decide +kernel)]; kernel_rfl) | (rw [if_neg (by decide +kernel)]; exact ⟨rfl, rfl⟩))
    (fun os started H enc _ => historyChecks_lifted os started H enc)
/-- ████ THE STATEMENT, A TIED CARD ████ -/
theorem historyChecks_card : Rows.HistoryChecksCardSaid :=
  Claim7.holds_tied_plain_at .later [] [.data] true (true, "1f7c0d5270a44413ef9b753f6d75242c732976e74e4e6cf0864eb5ba850c2784") false
    historyChecks_said (fun _ h => by cases h) (by kernel_rfl) (fun _ h => by cases h) historyChecks_row_tie rfl ⟨rfl, rfl⟩ (by kernel_rfl) rfl
    (fun f fn hf hfn => by
      obtain rfl : f = 4 := Option.some.inj ((show Tryz.prog.funcNamed "recension/recensionlaw09.HistoryChecks" = some 4 by kernel_rfl).symm.trans hf) |>.symm
      obtain rfl : fn = Tryz.f4 := (Option.some.inj (Tryz.func4.symm.trans hfn)).symm
      exact ⟨by kernel_rfl, fun j t ht => by
        have hall : Tryz.f4.params.toList.all (fun t => !Tryz.prog.wantsStandIn t) = true := by kernel_rfl
        have := List.all_eq_true.1 hall t (List.mem_of_getElem? (by rw [Array.getElem?_toList]; exact ht))
        exact (show Tryz.prog.wantsStandIn t = false by simpa using this)⟩)
    (by kernel_rfl)
#print axioms historyChecks_card
end Go.Proofs.YtjbeooimhoilmaaGreatDoor
