/- For whatever list of texts and number of a bulk of at most 1048576, PackOnce returns true, and nothing that was there is turned; digest.keys holds what the program lays (tied). -/
import Derived.Test.YtoncdfpohdchgaaDoorRows
import Derived.Test.YtoncdfpohdchgaaDoorCards
import Derived.Test.YtoncdfpohdchgaaDoorTie
import Derived.Test.YtoncdfpohdchgaaDoorCr
import Derived.Test.YtoncdfpohdchgaaDoorPx
import Derived.Test.YtoncdfpohdchgaaDoorP4
set_option linter.unusedSimpArgs false
set_option linter.unusedVariables false
namespace Go.Proofs.YtoncdfpohdchgaaDoor
open Go.RowKit Go.Fw Go.WideShapes Go.ChangeShapes Go.ChangeAt
set_option maxRecDepth 100000 in
theorem packOnce_reads (os : Os) {H : Type} (enc : TypeId × Value → H) : ∃ places, DataW.whole enc Tryd.prog ((laidWorld os).forCall (fun _ _ => 0) ⟨#[], #[.slice none 0 0, .int .i64 0], []⟩).memory Tryd.f4.params.toList Rows.packOnceSpec.vars false #[Value.slice none 0 0, Value.int .i64 0].toList 8 = some ([.nil, .lit (.int .i64 0)], [], places) :=
  ⟨[], by kernel_rfl⟩
set_option maxRecDepth 100000 in
theorem packOnce_lifted (os : Os) (started : os.Started) (H : Type) (enc : TypeId × Value → H) (F : Stop.Interp) :
    ReturnsInHanded {} Tryd.checked os 4 .any ((Rows.OpenSpec.upto Rows.packOnceSpec).preRow enc Tryd.prog Tryd.f4 Rows.packOnceUptoRow.domain false Rows.packOnceUptoRow.laid) (((Rows.OpenSpec.upto Rows.packOnceSpec).at F).post enc Tryd.prog Tryd.f4 false true false false) := by
  obtain ⟨places, hx⟩ := packOnce_reads os enc
  refine law_lifted_row (C := Tryd.checked) (tb := 4) (s := Rows.OpenSpec.upto Rows.packOnceSpec) (c := Rows.packOnceSpec) (k := Rows.uptoSmall) rfl rfl own0 started (by kernel_rfl) Tryd.func4
    (witness_row_at (enc := enc) (C := Tryd.checked) false (laidWorld os) #[.slice none 0 0, .int .i64 0] rfl (by kernel_rfl) (by kernel_rfl) (by kernel_rfl)
      (OpenSpec.preRow_of_cond 8 hx (by kernel_rfl) (fun k hk => by cases hk; kernel_rfl) (by kernel_rfl) (laidMet_of_run' 8 (by kernel_rfl) (by kernel_rfl)))) laidOut0 (by kernel_rfl) rfl Tryd.underlying4 rfl rfl rfl
    (fun ds hd => by match ds, hd with | [_, _], _ => rfl) fun W base args ds ps hval hA hlt hsz hfz hk hL => ?_
  rw [Tryd.params4] at hA hval hsz
  obtain ⟨v0, v1, d0, d1, p0, p1, rfl, rfl, rfl, h0, h1⟩ := trodAll_two hA
  have hK := keys_of_laid hL
  have hbk := bulk_bound hk
  have hp0 := bulk_part (d := d0) (l := [d0, d1]) (by simp)
  obtain ⟨xs, hx, hxl, hs⟩ := arg_ss (hval 0 _ _ rfl rfl) h0 (weights1 hsz (j := 0) rfl rfl)
  obtain ⟨i, rfl, hi⟩ := arg_int (hval 1 _ _ rfl rfl) h1 (weights1 hsz (j := 1) rfl rfl)
  have hr := reach_is
  have hlen : xs.length ≤ 1048576 := by
    obtain ⟨A, m, c, rfl, hm, _⟩ := id hx
    obtain ⟨fu, h9⟩ := id h0
    have := bulk_slice Tryd.underlying22 h9
    omega
  exact packOnce_any v0 xs i W hx (fun x h => by have := hs x h; omega) hlen hi hK
theorem packOnce_upto : Rows.PackOnceUptoSaid :=
  OpenClaim.holds_of_cond 4 Tryd.f4 rfl rfl rfl rfl rfl rfl rfl ⟨rfl, rfl, rfl, rfl, rfl⟩ rfl rfl rfl rfl rfl (by kernel_rfl) Tryd.func4 (by kernel_rfl)
    (of_decide_eq_true (by kernel_rfl)) (by unfold Func.isWrapper; first | (rw [if_pos (by decide +kernel)]; kernel_rfl) | (rw [if_neg (by decide +kernel)]; exact ⟨rfl, rfl⟩))
    (fun os started H enc _ F => by rw [OpenClaim.pre_eq_preRow]; exact packOnce_lifted os started H enc F)
/-- ████ THE STATEMENT, A TIED CARD ████ -/
theorem packOnce_card : Rows.PackOnceUptoCardSaid :=
  Claim7.holds_tied_plain_at .later [] [.data] true (true, "f20a76ccd142eb4fa1fd4574effd0b17b7692d67715c8ca7e035122f8bf0fa31") true
    packOnce_upto (fun _ h => by cases h) (by kernel_rfl) (fun _ h => by cases h) packOnceUpto_row_tie rfl ⟨rfl, rfl⟩ (by kernel_rfl) rfl
    (fun f fn hf hfn => by
      obtain rfl : f = 4 := Option.some.inj ((show Tryd.prog.funcNamed "recension/recensionlaw12.PackOnce" = some 4 by kernel_rfl).symm.trans hf) |>.symm
      obtain rfl : fn = Tryd.f4 := (Option.some.inj (Tryd.func4.symm.trans hfn)).symm
      exact ⟨by kernel_rfl, fun j t ht => by
        have hall : Tryd.f4.params.toList.all (fun t => !Tryd.prog.wantsStandIn t) = true := by kernel_rfl
        have := List.all_eq_true.1 hall t (List.mem_of_getElem? (by rw [Array.getElem?_toList]; exact ht))
        exact (show Tryd.prog.wantsStandIn t = false by simpa using this)⟩)
    (by kernel_rfl)
#print axioms packOnce_card
end Go.Proofs.YtoncdfpohdchgaaDoor
