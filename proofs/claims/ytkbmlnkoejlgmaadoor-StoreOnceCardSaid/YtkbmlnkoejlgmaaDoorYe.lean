/- For whatever list of texts and whatever number, StoreOnce returns true, and nothing that was there is turned; digest.keys holds what the program lays (tied). No other condition. -/
import Derived.Test.YtkbmlnkoejlgmaaDoorRows
import Derived.Test.YtkbmlnkoejlgmaaDoorCards
import Derived.Test.YtkbmlnkoejlgmaaDoorTie
import Derived.Test.YtkbmlnkoejlgmaaDoorDk
import Derived.Test.YtkbmlnkoejlgmaaDoorXf
import Derived.Test.YtkbmlnkoejlgmaaDoorXl
set_option linter.unusedSimpArgs false
set_option linter.unusedVariables false
namespace Go.Proofs.YtkbmlnkoejlgmaaDoor
open Go.RowKit Go.Fw Go.WideShapes Go.ChangeShapes Go.ChangeAt
set_option maxRecDepth 100000 in
theorem storeOnce_lifted (os : Os) (started : os.Started) (H : Type) (enc : TypeId × Value → H) :
    ReturnsInHanded {} Tryd.checked os 4 .any (fun w args => (Rows.storeOnceSpec.pre enc Tryd.prog Tryd.f4 Rows.storeOnceRow.domain false w args ∧ laidMetH Tryd.prog laidL w) ∧ sizedMet enc Tryd.prog Tryd.f4 (OpenSpec.ofChange Rows.storeOnceSpec) false w args) (Rows.storeOnceSpec.post enc Tryd.prog Tryd.f4 false true false false) := by
  refine law_lifted_and (C := Tryd.checked) (tb := 4) (X := fun w _ => laidMetH Tryd.prog laidL w) (fun _ _ _ hh h => h.of_heap hh) own0 started (by kernel_rfl) Tryd.func4
    (ChangeSpec.witness_at (enc := enc) (C := Tryd.checked) (os := os) (X := fun w _ => laidMetH Tryd.prog laidL w) false (laidWorld os) #[.slice none 0 0, .int .i64 0] 8 rfl (by kernel_rfl) (by kernel_rfl) (by kernel_rfl) (by kernel_rfl) (by kernel_rfl) (laidWorld_met os _)) laidOut0 (by kernel_rfl) rfl Tryd.underlying4 rfl
    (fun ds hd => by match ds, hd with | [_, _], _ => rfl) fun W base args ds ps hval hA hlt hsz hfz hL => ?_
  rw [Tryd.params4] at hA hval hsz
  obtain ⟨v0, v1, d0, d1, p0, p1, rfl, rfl, rfl, h0, h1⟩ := trodAll_two hA
  have hK := keys_of_laid hL
  obtain ⟨bss, hb, hl⟩ := arg_bss (hval 0 _ _ rfl rfl) h0 (weights1 hsz (j := 0) rfl rfl)
  obtain ⟨i, rfl, hi⟩ := arg_int (hval 1 _ _ rfl rfl) h1 (weights1 hsz (j := 1) rfl rfl)
  have hr := reach_is
  exact storeOnce_any v0 bss i W hb hi (by omega) hK
theorem storeOnce_said : Rows.StoreOnceSaid :=
  OpenClaim.holds_of_wide 4 Tryd.f4 rfl rfl rfl rfl rfl rfl rfl ⟨rfl, rfl, rfl, rfl, rfl⟩ rfl rfl rfl rfl rfl (by kernel_rfl) Tryd.func4 (by kernel_rfl)
    (of_decide_eq_true (by kernel_rfl)) (by unfold Func.isWrapper; first | (rw [if_pos (by decide +kernel)]; kernel_rfl) | (rw [if_neg (by decide +kernel)]; exact ⟨rfl, rfl⟩))
    (fun os started H enc _ => storeOnce_lifted os started H enc)
/-- ████ THE STATEMENT, A TIED CARD ████ -/
theorem storeOnce_card : Rows.StoreOnceCardSaid :=
  Claim7.holds_tied_plain_at .later [] [.data] true (true, "01aff85d155ae8e6e8037550e1a5c7ff66718854a6ce855713166e66f9e71a8a") false
    storeOnce_said (fun _ h => by cases h) (by kernel_rfl) (fun _ h => by cases h) storeOnce_row_tie rfl ⟨rfl, rfl⟩ (by kernel_rfl) rfl
    (fun f fn hf hfn => by
      obtain rfl : f = 4 := Option.some.inj ((show Tryd.prog.funcNamed "recension/recensionlaw11.StoreOnce" = some 4 by kernel_rfl).symm.trans hf) |>.symm
      obtain rfl : fn = Tryd.f4 := (Option.some.inj (Tryd.func4.symm.trans hfn)).symm
      exact ⟨by kernel_rfl, fun j t ht => by
        have hall : Tryd.f4.params.toList.all (fun t => !Tryd.prog.wantsStandIn t) = true := by kernel_rfl
        have := List.all_eq_true.1 hall t (List.mem_of_getElem? (by rw [Array.getElem?_toList]; exact ht))
        exact (show Tryd.prog.wantsStandIn t = false by simpa using this)⟩)
    (by kernel_rfl)
#print axioms storeOnce_card
end Go.Proofs.YtkbmlnkoejlgmaaDoor
