/- For whatever script of calls, StorePlays returns true, and nothing that was there is turned; digest.keys holds what the program lays (tied). No other condition. -/
import Derived.Test.YtkbmlnkoejlgmaaDoorRows
import Derived.Test.YtkbmlnkoejlgmaaDoorCards
import Derived.Test.YtkbmlnkoejlgmaaDoorTie
import Derived.Test.YtkbmlnkoejlgmaaDoorDk
import Derived.Test.YtkbmlnkoejlgmaaDoorR2
set_option linter.unusedSimpArgs false
set_option linter.unusedVariables false
namespace Go.Proofs.YtkbmlnkoejlgmaaDoor
open Go.RowKit Go.Fw Go.WideShapes Go.ChangeShapes Go.ChangeAt
set_option maxRecDepth 100000 in
theorem storePlays_lifted (os : Os) (started : os.Started) (H : Type) (enc : TypeId × Value → H) :
    ReturnsInHanded {} Tryd.checked os 6 .any (fun w args => (Rows.storePlaysSpec.pre enc Tryd.prog Tryd.f6 Rows.storePlaysRow.domain false w args ∧ laidMetH Tryd.prog laidL w) ∧ sizedMet enc Tryd.prog Tryd.f6 (OpenSpec.ofChange Rows.storePlaysSpec) false w args) (Rows.storePlaysSpec.post enc Tryd.prog Tryd.f6 false true false false) := by
  refine law_lifted_and (C := Tryd.checked) (tb := 4) (X := fun w _ => laidMetH Tryd.prog laidL w) (fun _ _ _ hh h => h.of_heap hh) own0 started (by kernel_rfl) Tryd.func6
    (ChangeSpec.witness_at (enc := enc) (C := Tryd.checked) (os := os) (X := fun w _ => laidMetH Tryd.prog laidL w) false (laidWorld os) #[.slice none 0 0] 8 rfl (by kernel_rfl) (by kernel_rfl) (by kernel_rfl) (by kernel_rfl) (by kernel_rfl) (laidWorld_met os _)) laidOut0 (by kernel_rfl) rfl Tryd.underlying4 rfl
    (fun ds hd => by match ds, hd with | [_], _ => rfl) fun W base args ds ps hval hA hlt hsz hfz hL => ?_
  rw [Tryd.params6] at hA hval hsz
  obtain ⟨v0, d0, rfl, rfl, h0⟩ := trodAll_one hA
  have hK := keys_of_laid hL
  obtain ⟨xs, hx⟩ := arg_acts (hval 0 _ _ rfl rfl) h0 (weights1 hsz (j := 0) rfl rfl)
  exact storePlays_any v0 xs W hx hK
theorem storePlays_said : Rows.StorePlaysSaid :=
  OpenClaim.holds_of_wide 6 Tryd.f6 rfl rfl rfl rfl rfl rfl rfl ⟨rfl, rfl, rfl, rfl, rfl⟩ rfl rfl rfl rfl rfl (by kernel_rfl) Tryd.func6 (by kernel_rfl)
    (of_decide_eq_true (by kernel_rfl)) (by unfold Func.isWrapper; first | (rw [if_pos (by decide +kernel)]; kernel_rfl) | (rw [if_neg (by decide +kernel)]; exact ⟨rfl, rfl⟩))
    (fun os started H enc _ => storePlays_lifted os started H enc)
/-- ████ THE STATEMENT, A TIED CARD ████ -/
theorem storePlays_card : Rows.StorePlaysCardSaid :=
  Claim7.holds_tied_plain_at .later [] [.data] true (true, "01aff85d155ae8e6e8037550e1a5c7ff66718854a6ce855713166e66f9e71a8a") false
    storePlays_said (fun _ h => by cases h) (by kernel_rfl) (fun _ h => by cases h) storePlays_row_tie rfl ⟨rfl, rfl⟩ (by kernel_rfl) rfl
    (fun f fn hf hfn => by
      obtain rfl : f = 6 := Option.some.inj ((show Tryd.prog.funcNamed "recension/recensionlaw11.StorePlays" = some 6 by kernel_rfl).symm.trans hf) |>.symm
      obtain rfl : fn = Tryd.f6 := (Option.some.inj (Tryd.func6.symm.trans hfn)).symm
      exact ⟨by kernel_rfl, fun j t ht => by
        have hall : Tryd.f6.params.toList.all (fun t => !Tryd.prog.wantsStandIn t) = true := by kernel_rfl
        have := List.all_eq_true.1 hall t (List.mem_of_getElem? (by rw [Array.getElem?_toList]; exact ht))
        exact (show Tryd.prog.wantsStandIn t = false by simpa using this)⟩)
    (by kernel_rfl)
#print axioms storePlays_card
end Go.Proofs.YtkbmlnkoejlgmaaDoor
