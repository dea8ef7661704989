/- For whatever list of digests and whatever digest, PackFans returns true, and nothing that was there is turned; digest.keys holds what the program lays (tied). No other condition. -/
import Derived.Test.YtoncdfpohdchgaaDoorRows
import Derived.Test.YtoncdfpohdchgaaDoorCards
import Derived.Test.YtoncdfpohdchgaaDoorTie
import Derived.Test.YtoncdfpohdchgaaDoorDk
import Derived.Test.YtoncdfpohdchgaaDoorPx
import Derived.Test.YtoncdfpohdchgaaDoorP5
set_option linter.unusedSimpArgs false
set_option linter.unusedVariables false
namespace Go.Proofs.YtoncdfpohdchgaaDoor
open Go.RowKit Go.Fw Go.WideShapes Go.ChangeShapes Go.ChangeAt
set_option maxRecDepth 100000 in
theorem packFans_lifted (os : Os) (started : os.Started) (H : Type) (enc : TypeId × Value → H) :
    ReturnsInHanded {} Tryd.checked os 7 .any (fun w args => (Rows.packFansSpec.pre enc Tryd.prog Tryd.f7 Rows.packFansRow.domain false w args ∧ laidMetH Tryd.prog laidL w) ∧ sizedMet enc Tryd.prog Tryd.f7 (OpenSpec.ofChange Rows.packFansSpec) false w args) (Rows.packFansSpec.post enc Tryd.prog Tryd.f7 false true false false) := by
  refine law_lifted_and (C := Tryd.checked) (tb := 4) (X := fun w _ => laidMetH Tryd.prog laidL w) (fun _ _ _ hh h => h.of_heap hh) own0 started (by kernel_rfl) Tryd.func7
    (ChangeSpec.witness_at (enc := enc) (C := Tryd.checked) (os := os) (X := fun w _ => laidMetH Tryd.prog laidL w) false (laidWorld os) #[.slice none 0 0, .agg (Array.replicate 32 (.int .u8 0))] 8 rfl (by kernel_rfl) (by kernel_rfl) (by kernel_rfl) (by kernel_rfl) (by kernel_rfl) (laidWorld_met os _)) laidOut0 (by kernel_rfl) rfl Tryd.underlying4 rfl
    (fun ds hd => by match ds, hd with | [_, _], _ => rfl) fun W base args ds ps hval hA hlt hsz hfz hL => ?_
  rw [Tryd.params7] at hA hval hsz
  obtain ⟨v0, v1, d0, d1, p0, p1, rfl, rfl, rfl, h0, h1⟩ := trodAll_two hA
  have hK := keys_of_laid hL
  obtain ⟨l, hx⟩ := arg_dgs (hval 0 _ _ rfl rfl) h0 (weights1 hsz (j := 0) rfl rfl)
  obtain ⟨k, rfl⟩ := arg_dig (hval 1 _ _ rfl rfl) h1 (weights1 hsz (j := 1) rfl rfl)
  exact packFans_any v0 l k W hx hK
theorem packFans_said : Rows.PackFansSaid :=
  OpenClaim.holds_of_wide 7 Tryd.f7 rfl rfl rfl rfl rfl rfl rfl ⟨rfl, rfl, rfl, rfl, rfl⟩ rfl rfl rfl rfl rfl (by kernel_rfl) Tryd.func7 (by kernel_rfl)
    (of_decide_eq_true (by kernel_rfl)) (by unfold Func.isWrapper; first | (rw [if_pos (by decide +kernel)]; kernel_rfl) | (rw [if_neg (by decide +kernel)]; exact ⟨rfl, rfl⟩))
    (fun os started H enc _ => packFans_lifted os started H enc)
/-- ████ THE STATEMENT, A TIED CARD ████ -/
theorem packFans_card : Rows.PackFansCardSaid :=
  Claim7.holds_tied_plain_at .later [] [.data] true (true, "f20a76ccd142eb4fa1fd4574effd0b17b7692d67715c8ca7e035122f8bf0fa31") true
    packFans_said (fun _ h => by cases h) (by kernel_rfl) (fun _ h => by cases h) packFans_row_tie rfl ⟨rfl, rfl⟩ (by kernel_rfl) rfl
    (fun f fn hf hfn => by
      obtain rfl : f = 7 := Option.some.inj ((show Tryd.prog.funcNamed "recension/recensionlaw12.PackFans" = some 7 by kernel_rfl).symm.trans hf) |>.symm
      obtain rfl : fn = Tryd.f7 := (Option.some.inj (Tryd.func7.symm.trans hfn)).symm
      exact ⟨by kernel_rfl, fun j t ht => by
        have hall : Tryd.f7.params.toList.all (fun t => !Tryd.prog.wantsStandIn t) = true := by kernel_rfl
        have := List.all_eq_true.1 hall t (List.mem_of_getElem? (by rw [Array.getElem?_toList]; exact ht))
        exact (show Tryd.prog.wantsStandIn t = false by simpa using this)⟩)
    (by kernel_rfl)
#print axioms packFans_card
end Go.Proofs.YtoncdfpohdchgaaDoor
