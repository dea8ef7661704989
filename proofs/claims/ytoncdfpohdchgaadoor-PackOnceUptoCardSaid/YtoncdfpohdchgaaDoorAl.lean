/- What must come: the least commit's bytes, and back: small, alive. No condition. -/
import Derived.Test.YtoncdfpohdchgaaDoorKn
set_option linter.unusedSimpArgs false
set_option linter.unusedVariables false
namespace Go.Proofs.YtoncdfpohdchgaaDoor
open Go.RowKit Go.Fw Go.Pl
def smallO : OpD := ⟨1, false, RefD.zero, 97⟩
def smallC : ComD := ⟨[], bs [113], bs [], [smallO]⟩
def nilC : ComD := ⟨[], bs [], bs [], []⟩
def smallB : List UInt8 := [0, 1, 113, 0, 1, 0, 97]
theorem may_small : mayI smallC = 0 := by
  have h : nameB smallC.author.toList = true := by rw [show smallC.author = bs [113] from rfl, bs_toList]; decide
  exact mayOk_i ⟨by decide, rfl, h, by decide, by decide, fun j hj => by
    have : j = 0 := by have : smallC.ops.length = 1 := rfl; omega
    subst this; decide⟩
theorem com_small : comB smallC = smallB := by
  have h0 : vi 0 = [0] := vi_lt (by decide)
  have h1 : vi 1 = [1] := vi_lt (by decide)
  have hf : opB smallO = [0, 97] := by
    have : opB smallO = numB 0 ++ [97] := rfl
    rw [this, show (0 : Int) = ((0 : Nat) : Int) from rfl, numB_nat, h0]; rfl
  simp only [comB, textB, smallC, bs_toList, List.length_nil, List.length_cons, List.map_nil, List.map_cons, hf, h0, h1, List.flatten_nil, List.flatten_cons]
  rfl
theorem dec_small : decI smallB = .ok smallC := by
  have h : gcom smallB = .ok (smallC, 7) := rfl
  rw [decI, h]
  simp [may_small, smallB]
theorem decC_small : decC smallB = smallC := by rw [decC, if_neg (by decide), dec_small]
theorem decE_small : decE smallB = 0 := by rw [decE, if_neg (by decide), dec_small]
theorem same_small : sameB smallC smallC = true := by simp [sameB]
theorem same_nil : sameB smallC nilC = false := by simp [sameB, smallC, nilC, bs_toList]
theorem name_aB : nameB (bs [97, 46, 66, 45, 49]).toList = true := by rw [bs_toList]; decide
theorem com_nil (w : World) : Com w (.agg comZ.toArray) nilC := ⟨_, _, rfl, Sl.nil, Sl.nil, by decide, by decide⟩
theorem build_op1 (w : World) : (Instr.build 132 [(0, Value.int .i64 1), (3, Value.int .u8 97)].toArray).run Tryd.prog w = .ok (opV smallO) w := by kernel_rfl
theorem build_com1 (A : Option Addr) (m c : Nat) (w : World) : (Instr.build 76 [(1, Value.string (bs [113])), (3, Value.slice A m c)].toArray).run Tryd.prog w = .ok (.agg (comC (.slice none 0 0) (bs [113]) (bs []) (.slice A m c)).toArray) w := run_build w _ _ _ (by kernel_rfl)
theorem Sl.one {w : World} {g : Nat} {t : TypeId} {x : OpD} (h : Blk w g t (opC x)) : Sl w opC 37 (.slice (some ⟨g, 0, none⟩) 1 1) [x] := ⟨some ⟨g, 0, none⟩, 1, 1, rfl, rfl, Nat.le_refl _, by unfold maxLen; decide, fun i y hi => by
  cases i with
  | zero =>
    simp at hi; subst hi
    exact ⟨_, rfl, by have := h.mem; simpa [Addr.add] using this⟩
  | succ i => simp at hi⟩

end Go.Proofs.YtoncdfpohdchgaaDoor
