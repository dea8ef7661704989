/- For whatever list of texts, whatever number and whatever byte, PackSpoilt returns true, and nothing that was there is turned; digest.keys holds what the program lays (tied). No other condition. -/
import Derived.Test.YtoncdfpohdchgaaDoorRows
import Derived.Test.YtoncdfpohdchgaaDoorCards
import Derived.Test.YtoncdfpohdchgaaDoorTie
import Derived.Test.YtoncdfpohdchgaaDoorDk
import Derived.Test.YtoncdfpohdchgaaDoorPx
import Derived.Test.YtoncdfpohdchgaaDoorP4
set_option linter.unusedSimpArgs false
set_option linter.unusedVariables false
namespace Go.Proofs.YtoncdfpohdchgaaDoor
open Go.RowKit Go.Fw Go.WideShapes Go.ChangeShapes Go.ChangeAt
set_option maxRecDepth 100000 in
theorem packSpoilt_lifted (os : Os) (started : os.Started) (H : Type) (enc : TypeId × Value → H) :
    ReturnsInHanded {} Tryd.checked os 5 .any (fun w args => (Rows.packSpoiltSpec.pre enc Tryd.prog Tryd.f5 Rows.packSpoiltRow.domain false w args ∧ laidMetH Tryd.prog laidL w) ∧ sizedMet enc Tryd.prog Tryd.f5 (OpenSpec.ofChange Rows.packSpoiltSpec) false w args) (Rows.packSpoiltSpec.post enc Tryd.prog Tryd.f5 false true false false) := by
  refine law_lifted_and (C := Tryd.checked) (tb := 4) (X := fun w _ => laidMetH Tryd.prog laidL w) (fun _ _ _ hh h => h.of_heap hh) own0 started (by kernel_rfl) Tryd.func5
    (ChangeSpec.witness_at (enc := enc) (C := Tryd.checked) (os := os) (X := fun w _ => laidMetH Tryd.prog laidL w) false (laidWorld os) #[.slice none 0 0, .int .i64 0, .int .u8 0] 8 rfl (by kernel_rfl) (by kernel_rfl) (by kernel_rfl) (by kernel_rfl) (by kernel_rfl) (laidWorld_met os _)) laidOut0 (by kernel_rfl) rfl Tryd.underlying4 rfl
    (fun ds hd => by match ds, hd with | [_, _, _], _ => rfl) fun W base args ds ps hval hA hlt hsz hfz hL => ?_
  rw [Tryd.params5] at hA hval hsz
  obtain ⟨v0, v1, v2, d0, d1, d2, p0, p1, p2, rfl, rfl, rfl, h0, h1, h2⟩ := trodAll_three hA
  have hK := keys_of_laid hL
  obtain ⟨xs, hx, hxl, hs⟩ := arg_ss (hval 0 _ _ rfl rfl) h0 (weights1 hsz (j := 0) rfl rfl)
  obtain ⟨i, rfl, hi⟩ := arg_int (hval 1 _ _ rfl rfl) h1 (weights1 hsz (j := 1) rfl rfl)
  obtain ⟨b, rfl⟩ := arg_byte (hval 2 _ _ rfl rfl) h2 (weights1 hsz (j := 2) rfl rfl)
  have hr := reach_is
  exact packSpoilt_any v0 xs i b W hx (fun x h => by have := hs x h; omega) hi hK
theorem packSpoilt_said : Rows.PackSpoiltSaid :=
  OpenClaim.holds_of_wide 5 Tryd.f5 rfl rfl rfl rfl rfl rfl rfl ⟨rfl, rfl, rfl, rfl, rfl⟩ rfl rfl rfl rfl rfl (by kernel_rfl) Tryd.func5 (by kernel_rfl)
    (of_decide_eq_true (by kernel_rfl)) (by unfold Func.isWrapper; first | (rw [if_pos (by decide +kernel)]; kernel_rfl) | (rw [if_neg (by decide +kernel)]; exact ⟨rfl, rfl⟩))
    (fun os started H enc _ => packSpoilt_lifted os started H enc)
/-- ████ THE STATEMENT, A TIED CARD ████ -/
theorem packSpoilt_card : Rows.PackSpoiltCardSaid :=
  Claim7.holds_tied_plain_at .later [] [.data] true (true, "f20a76ccd142eb4fa1fd4574effd0b17b7692d67715c8ca7e035122f8bf0fa31") true
    packSpoilt_said (fun _ h => by cases h) (by kernel_rfl) (fun _ h => by cases h) packSpoilt_row_tie rfl ⟨rfl, rfl⟩ (by kernel_rfl) rfl
    (fun f fn hf hfn => by
      obtain rfl : f = 5 := Option.some.inj ((show Tryd.prog.funcNamed "recension/recensionlaw12.PackSpoilt" = some 5 by kernel_rfl).symm.trans hf) |>.symm
      obtain rfl : fn = Tryd.f5 := (Option.some.inj (Tryd.func5.symm.trans hfn)).symm
      exact ⟨by kernel_rfl, fun j t ht => by
        have hall : Tryd.f5.params.toList.all (fun t => !Tryd.prog.wantsStandIn t) = true := by kernel_rfl
        have := List.all_eq_true.1 hall t (List.mem_of_getElem? (by rw [Array.getElem?_toList]; exact ht))
        exact (show Tryd.prog.wantsStandIn t = false by simpa using this)⟩)
    (by kernel_rfl)
#print axioms packSpoilt_card
end Go.Proofs.YtoncdfpohdchgaaDoor
