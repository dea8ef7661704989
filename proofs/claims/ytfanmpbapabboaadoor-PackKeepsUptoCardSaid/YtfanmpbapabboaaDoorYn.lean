/- For whatever list of texts, whatever list of digests and whatever list of texts beside, of a bulk of at most 1048576 together, PackKeeps returns true, and nothing that was there is turned; digest.keys holds what the program lays (tied). -/
import Derived.Test.YtfanmpbapabboaaDoorRows
import Derived.Test.YtfanmpbapabboaaDoorCards
import Derived.Test.YtfanmpbapabboaaDoorTie
import Derived.Test.YtfanmpbapabboaaDoorK08
import Derived.Test.YtfanmpbapabboaaDoorK14
import Derived.Test.YtfanmpbapabboaaDoorK23
set_option linter.unusedSimpArgs false
set_option linter.unusedVariables false
namespace Go.Proofs.YtfanmpbapabboaaDoor
open Go.RowKit Go.Fw Go.WideShapes Go.ChangeShapes Go.ChangeAt
set_option maxRecDepth 100000 in
theorem packKeeps_reads (os : Os) {H : Type} (enc : TypeId × Value → H) : ∃ places, DataW.whole enc Tryd.prog ((laidWorld os).forCall (fun _ _ => 0) ⟨#[], #[.slice none 0 0, .slice none 0 0, .slice none 0 0], []⟩).memory Tryd.f3.params.toList Rows.packKeepsSpec.vars false #[.slice none 0 0, .slice none 0 0, .slice none 0 0].toList 8 = some ([.nil, .nil, .nil], [], places) :=
  ⟨[], by kernel_rfl⟩
set_option maxRecDepth 100000 in
theorem packKeeps_lifted (os : Os) (started : os.Started) (H : Type) (enc : TypeId × Value → H) (F : Stop.Interp) :
    ReturnsInHanded {} Tryd.checked os 3 .any ((Rows.OpenSpec.upto Rows.packKeepsSpec).preRow enc Tryd.prog Tryd.f3 Rows.packKeepsUptoRow.domain false Rows.packKeepsUptoRow.laid) (((Rows.OpenSpec.upto Rows.packKeepsSpec).at F).post enc Tryd.prog Tryd.f3 false true false false) := by
  obtain ⟨places, hx⟩ := packKeeps_reads os enc
  refine law_lifted_row (C := Tryd.checked) (tb := 4) (s := Rows.OpenSpec.upto Rows.packKeepsSpec) (c := Rows.packKeepsSpec) (k := Rows.uptoSmall) rfl rfl own0 started (by kernel_rfl) Tryd.func3
    (witness_row_at (enc := enc) (C := Tryd.checked) false (laidWorld os) #[.slice none 0 0, .slice none 0 0, .slice none 0 0] rfl (by kernel_rfl) (by kernel_rfl) (by kernel_rfl)
      (OpenSpec.preRow_of_cond 8 hx (by kernel_rfl) (fun k hk => by cases hk; kernel_rfl) (by kernel_rfl) (laidMet_of_run' 8 (by kernel_rfl) (by kernel_rfl)))) laidOut0 (by kernel_rfl) rfl Tryd.underlying4 rfl rfl rfl
    (fun ds hd => by match ds, hd with | [_, _, _], _ => rfl) fun W base args ds ps hval hA hlt hsz hfz hk hL => ?_
  rw [Tryd.params3] at hA hval hsz
  obtain ⟨v0, v1, v2, d0, d1, d2, p0, p1, p2, rfl, rfl, rfl, h0, h1, h2⟩ := trodAll_three hA
  have hK := keys_of_laid hL
  have hbk := bulk_bound hk
  have hp0 := bulk_part (d := d0) (l := [d0, d1, d2]) (by simp)
  have hp1 := bulk_part (d := d1) (l := [d0, d1, d2]) (by simp)
  have hp2 := bulk_part (d := d2) (l := [d0, d1, d2]) (by simp)
  obtain ⟨xs, hx, hxl, hs⟩ := arg_ss (hval 0 _ _ rfl rfl) h0 (weights1 hsz (j := 0) rfl rfl)
  obtain ⟨ids, hd, hn⟩ := arg_dgsB (hval 1 _ _ rfl rfl) h1 (weights1 hsz (j := 1) rfl rfl)
  obtain ⟨ms, hm, hml, hsm⟩ := arg_ss (hval 2 _ _ rfl rfl) h2 (weights1 hsz (j := 2) rfl rfl)
  have hr := reach_is
  have hlen0 : xs.length ≤ 1048576 := by
    obtain ⟨A, m, c, rfl, hm9, _⟩ := id hx
    obtain ⟨fu, h9⟩ := id h0
    have := bulk_slice Tryd.underlying22 h9
    omega
  have hlen2 : ms.length ≤ 1048576 := by
    obtain ⟨A, m, c, rfl, hm9, _⟩ := id hm
    obtain ⟨fu, h9⟩ := id h2
    have := bulk_slice Tryd.underlying22 h9
    omega
  exact packKeeps_any v0 v1 v2 xs ids ms W hx (fun x h => by have := hs x h; omega) hd (by omega) hm (fun x h => by have := hsm x h; omega) (by omega) hK
theorem packKeeps_upto : Rows.PackKeepsUptoSaid :=
  OpenClaim.holds_of_cond 3 Tryd.f3 rfl rfl rfl rfl rfl rfl rfl ⟨rfl, rfl, rfl, rfl, rfl⟩ rfl rfl rfl rfl rfl (by kernel_rfl) Tryd.func3 (by kernel_rfl)
    (of_decide_eq_true (by kernel_rfl)) (by unfold Func.isWrapper; first | (rw [if_pos (by decide +kernel)]; kernel_rfl) | (rw [if_neg (by decide +kernel)]; exact ⟨rfl, rfl⟩))
    (fun os started H enc _ F => by rw [OpenClaim.pre_eq_preRow]; exact packKeeps_lifted os started H enc F)
/-- ████ THE STATEMENT, A TIED CARD ████ -/
theorem packKeeps_card : Rows.PackKeepsUptoCardSaid :=
  Claim7.holds_tied_plain_at .later [] [.data] true (true, "754a0505db523be9ed97042795f3857c20c67ec142730d71fca545c3b7bfb5b0") true
    packKeeps_upto (fun _ h => by cases h) (by kernel_rfl) (fun _ h => by cases h) packKeepsUpto_row_tie rfl ⟨rfl, rfl⟩ (by kernel_rfl) rfl
    (fun f fn hf hfn => by
      obtain rfl : f = 3 := Option.some.inj ((show Tryd.prog.funcNamed "recension/recensionlaw12.PackKeeps" = some 3 by kernel_rfl).symm.trans hf) |>.symm
      obtain rfl : fn = Tryd.f3 := (Option.some.inj (Tryd.func3.symm.trans hfn)).symm
      exact ⟨by kernel_rfl, fun j t ht => by
        have hall : Tryd.f3.params.toList.all (fun t => !Tryd.prog.wantsStandIn t) = true := by kernel_rfl
        have := List.all_eq_true.1 hall t (List.mem_of_getElem? (by rw [Array.getElem?_toList]; exact ht))
        exact (show Tryd.prog.wantsStandIn t = false by simpa using this)⟩)
    (by kernel_rfl)
#print axioms packKeeps_card
end Go.Proofs.YtfanmpbapabboaaDoor
