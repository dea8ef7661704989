/- For whatever list of texts and whatever list of digests, PackReaches returns true, and nothing that was there is turned; digest.keys holds what the program lays (tied). No other condition. -/
import Derived.Test.YtfanmpbapabboaaGreatDoorRows
import Derived.Test.YtfanmpbapabboaaGreatDoorCards
import Derived.Test.YtfanmpbapabboaaGreatDoorTie
import Derived.Test.YtfanmpbapabboaaGreatDoorK10
import Derived.Test.YtfanmpbapabboaaGreatDoorK16
import Derived.Test.YtfanmpbapabboaaGreatDoorK27
set_option linter.unusedSimpArgs false
set_option linter.unusedVariables false
namespace Go.Proofs.YtfanmpbapabboaaGreatDoor
open Go.RowKit Go.Fw Go.WideShapes Go.ChangeShapes Go.ChangeAt
set_option maxRecDepth 100000 in
theorem packReaches_lifted (os : Os) (started : os.Started) (H : Type) (enc : TypeId × Value → H) :
    ReturnsInHanded {} Tryz.checked os 3 .any (fun w args => (Rows.packReachesSpec.pre enc Tryz.prog Tryz.f3 Rows.packReachesRow.domain false w args ∧ laidMetH Tryz.prog laidL w) ∧ sizedMet enc Tryz.prog Tryz.f3 (OpenSpec.ofChange Rows.packReachesSpec) false w args) (Rows.packReachesSpec.post enc Tryz.prog Tryz.f3 false true false false) := by
  refine law_lifted_and (C := Tryz.checked) (tb := 4) (X := fun w _ => laidMetH Tryz.prog laidL w) (fun _ _ _ hh h => h.of_heap hh) own0 started (by kernel_rfl) Tryz.func3
    (ChangeSpec.witness_at (enc := enc) (C := Tryz.checked) (os := os) (X := fun w _ => laidMetH Tryz.prog laidL w) false (laidWorld os) #[.slice none 0 0, .slice none 0 0] 8 rfl (by kernel_rfl) (by kernel_rfl) (by kernel_rfl) (by kernel_rfl) (by kernel_rfl) (laidWorld_met os _)) laidOut0 (by kernel_rfl) rfl Tryz.underlying4 rfl
    (fun ds hd => by match ds, hd with | [_, _], _ => rfl) fun W base args ds ps hval hA hlt hsz hfz hL => ?_
  rw [Tryz.params3] at hA hval hsz
  obtain ⟨v0, v1, d0, d1, p0, p1, rfl, rfl, rfl, h0, h1⟩ := trodAll_two hA
  have hK := keys_of_laid hL
  obtain ⟨xs, hx, hxl, hs⟩ := arg_ss (hval 0 _ _ rfl rfl) h0 (weights1 hsz (j := 0) rfl rfl)
  obtain ⟨ids, hd, hn⟩ := arg_dgsB (hval 1 _ _ rfl rfl) h1 (weights1 hsz (j := 1) rfl rfl)
  have hr := reach_is
  exact packReaches_any v0 v1 xs ids W hx (fun x h => by have := hs x h; omega) hd (by omega) hK
theorem packReaches_said : Rows.PackReachesSaid :=
  OpenClaim.holds_of_wide 3 Tryz.f3 rfl rfl rfl rfl rfl rfl rfl ⟨rfl, rfl, rfl, rfl, rfl⟩ rfl rfl rfl rfl rfl (by kernel_rfl) Tryz.func3 (by kernel_rfl)
    (of_decide_eq_true (by kernel_rfl)) (by unfold Func.isWrapper; first | (rw [if_pos (by decide +kernel)]; kernel_rfl) | (rw [if_neg (by decide +kernel)]; exact ⟨rfl, rfl⟩))
    (fun os started H enc _ => packReaches_lifted os started H enc)
/-- ████ THE STATEMENT, A TIED CARD ████ -/
theorem packReaches_card : Rows.PackReachesCardSaid :=
  Claim7.holds_tied_plain_at .later [] [.data] true (true, "f43c2e02da905335ee4a6014f0470fb17315b60c0173394fa8b9c986fb140d85") true
    packReaches_said (fun _ h => by cases h) (by kernel_rfl) (fun _ h => by cases h) packReaches_row_tie rfl ⟨rfl, rfl⟩ (by kernel_rfl) rfl
    (fun f fn hf hfn => by
      obtain rfl : f = 3 := Option.some.inj ((show Tryz.prog.funcNamed "recension/recensionlaw12.PackReaches" = some 3 by kernel_rfl).symm.trans hf) |>.symm
      obtain rfl : fn = Tryz.f3 := (Option.some.inj (Tryz.func3.symm.trans hfn)).symm
      exact ⟨by kernel_rfl, fun j t ht => by
        have hall : Tryz.f3.params.toList.all (fun t => !Tryz.prog.wantsStandIn t) = true := by kernel_rfl
        have := List.all_eq_true.1 hall t (List.mem_of_getElem? (by rw [Array.getElem?_toList]; exact ht))
        exact (show Tryz.prog.wantsStandIn t = false by simpa using this)⟩)
    (by kernel_rfl)
#print axioms packReaches_card
end Go.Proofs.YtfanmpbapabboaaGreatDoor
