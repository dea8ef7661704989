/- For whatever list of commits, whatever list of numbers and whatever three texts, of a bulk of at most 1048576 together, EditGrows returns true, and nothing that was there is turned; digest.keys holds what the program lays (tied). -/
import Derived.Test.YtmehkigmnpjcjaaDoorRows
import Derived.Test.YtmehkigmnpjcjaaDoorCards
import Derived.Test.YtmehkigmnpjcjaaDoorTie
import Derived.Test.YtmehkigmnpjcjaaDoorK08
import Derived.Test.YtmehkigmnpjcjaaDoorK20
import Derived.Test.YtmehkigmnpjcjaaDoorK29
set_option linter.unusedSimpArgs false
set_option linter.unusedVariables false
namespace Go.Proofs.YtmehkigmnpjcjaaDoor
open Go.RowKit Go.Fw Go.WideShapes Go.ChangeShapes Go.ChangeAt
set_option maxRecDepth 100000 in
theorem editGrows_reads (os : Os) {H : Type} (enc : TypeId × Value → H) : ∃ places, DataW.whole enc Tryd.prog ((laidWorld os).forCall (fun _ _ => 0) ⟨#[], #[.slice none 0 0, .slice none 0 0, .agg #[.string ByteArray.empty, .string ByteArray.empty, .string ByteArray.empty]], []⟩).memory Tryd.f3.params.toList Rows.editGrowsSpec.vars false #[.slice none 0 0, .slice none 0 0, .agg #[.string ByteArray.empty, .string ByteArray.empty, .string ByteArray.empty]].toList 8 = some ([.nil, .nil, .agg [.lit (.string []), .lit (.string []), .lit (.string [])]], [], places) :=
  ⟨[], by kernel_rfl⟩
set_option maxRecDepth 100000 in
theorem editGrows_lifted (os : Os) (started : os.Started) (H : Type) (enc : TypeId × Value → H) (F : Stop.Interp) :
    ReturnsInHanded {} Tryd.checked os 3 .any ((Rows.OpenSpec.upto Rows.editGrowsSpec).preRow enc Tryd.prog Tryd.f3 Rows.editGrowsUptoRow.domain false Rows.editGrowsUptoRow.laid) (((Rows.OpenSpec.upto Rows.editGrowsSpec).at F).post enc Tryd.prog Tryd.f3 false true false false) := by
  obtain ⟨places, hx⟩ := editGrows_reads os enc
  refine law_lifted_row (C := Tryd.checked) (tb := 4) (s := Rows.OpenSpec.upto Rows.editGrowsSpec) (c := Rows.editGrowsSpec) (k := Rows.uptoSmall) rfl rfl own0 started (by kernel_rfl) Tryd.func3
    (witness_row_at (enc := enc) (C := Tryd.checked) false (laidWorld os) #[.slice none 0 0, .slice none 0 0, .agg #[.string ByteArray.empty, .string ByteArray.empty, .string ByteArray.empty]] rfl (by kernel_rfl) (by kernel_rfl) (by kernel_rfl)
      (OpenSpec.preRow_of_cond 8 hx (by kernel_rfl) (fun k hk => by cases hk; kernel_rfl) (by kernel_rfl) (laidMet_of_run' 8 (by kernel_rfl) (by kernel_rfl)))) laidOut0 (by kernel_rfl) rfl Tryd.underlying4 rfl rfl rfl
    (fun ds hd => by match ds, hd with | [_, _, _], _ => rfl) fun W base args ds ps hval hA hlt hsz hfz hk hL => ?_
  rw [Tryd.params3] at hA hval hsz
  obtain ⟨v0, v1, v2, d0, d1, d2, p0, p1, p2, rfl, rfl, rfl, h0, h1, h2⟩ := trodAll_three hA
  have hK := keys_of_laid hL
  have hbk := bulk_bound hk
  have hp0 := bulk_part (d := d0) (l := [d0, d1, d2]) (by simp)
  have hp1 := bulk_part (d := d1) (l := [d0, d1, d2]) (by simp)
  have hp2 := bulk_part (d := d2) (l := [d0, d1, d2]) (by simp)
  obtain ⟨l, hl, hll, hin⟩ := arg_cos (hval 0 _ _ rfl rfl) h0 (weights1 hsz (j := 0) rfl rfl)
  obtain ⟨i1, hi1⟩ := arg_ints (hval 1 _ _ rfl rfl) h1 (weights1 hsz (j := 1) rfl rfl)
  obtain ⟨au, no, tx, rfl, ha, hn, ht⟩ := arg_strs3 (hval 2 _ _ rfl rfl) h2 (weights1 hsz (j := 2) rfl rfl)
  have hnl := len_cos h0 hl
  have hn1 := len_ints h1 hi1
  have hr := reach_is
  obtain ⟨b, rfl⟩ : ∃ b, tx = bs b := ⟨tx.toList, (bs_of tx).symm⟩
  rw [bs_size] at ht
  exact egrows_any v0 v1 l i1 au no b W hl hi1 (by omega) (by omega) (by unfold maxLen; omega) (by unfold maxLen; omega) (by omega) hK
theorem editGrows_upto : Rows.EditGrowsUptoSaid :=
  OpenClaim.holds_of_cond 3 Tryd.f3 rfl rfl rfl rfl rfl rfl rfl ⟨rfl, rfl, rfl, rfl, rfl⟩ rfl rfl rfl rfl rfl (by kernel_rfl) Tryd.func3 (by kernel_rfl)
    (of_decide_eq_true (by kernel_rfl)) (by unfold Func.isWrapper; first | (rw [if_pos (by decide +kernel)]; kernel_rfl) | (rw [if_neg (by decide +kernel)]; exact ⟨rfl, rfl⟩))
    (fun os started H enc _ F => by rw [OpenClaim.pre_eq_preRow]; exact editGrows_lifted os started H enc F)
/-- ████ THE STATEMENT, A TIED CARD ████ -/
theorem editGrows_card : Rows.EditGrowsUptoCardSaid :=
  Claim7.holds_tied_plain_at .later [] [.data] true (true, "1d200759d8aa9f8fc79d2edfa69d5472a48271230521aa52b73485f169b006c2") false
    editGrows_upto (fun _ h => by cases h) (by kernel_rfl) (fun _ h => by cases h) editGrowsUpto_row_tie rfl ⟨rfl, rfl⟩ (by kernel_rfl) rfl
    (fun f fn hf hfn => by
      obtain rfl : f = 3 := Option.some.inj ((show Tryd.prog.funcNamed "recension/recensionlaw10.EditGrows" = some 3 by kernel_rfl).symm.trans hf) |>.symm
      obtain rfl : fn = Tryd.f3 := (Option.some.inj (Tryd.func3.symm.trans hfn)).symm
      exact ⟨by kernel_rfl, fun j t ht => by
        have hall : Tryd.f3.params.toList.all (fun t => !Tryd.prog.wantsStandIn t) = true := by kernel_rfl
        have := List.all_eq_true.1 hall t (List.mem_of_getElem? (by rw [Array.getElem?_toList]; exact ht))
        exact (show Tryd.prog.wantsStandIn t = false by simpa using this)⟩)
    (by kernel_rfl)
#print axioms editGrows_card
end Go.Proofs.YtmehkigmnpjcjaaDoor
