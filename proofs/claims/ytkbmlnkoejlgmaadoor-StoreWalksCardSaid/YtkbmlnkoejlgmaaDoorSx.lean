/- slices.SortFunc at digests of our own, whatever the comparing function that tells the digests' order. No condition. -/
import Derived.Test.YtkbmlnkoejlgmaaDoorSh
import Derived.Test.YtkbmlnkoejlgmaaDoorSf
set_option linter.unusedSimpArgs false
set_option linter.unusedVariables false
namespace Go.Proofs.YtkbmlnkoejlgmaaDoor
open Go.RowKit Go.Fw Go.Pl Go.Sort
instance : Inhabited Dig := ⟨Dig.zero⟩
theorem sort_gen {f : Nat} {fn : Func} {c : Code} (cf : Dig → Dig → Int) (hcf : ∀ a b, ltOf cf a b = lessB a b) (hf : Tryd.prog.funcs[f]? = some fn) (hnm : (fn.name == "runtime.NumGoroutine") = false) (hbd : fn.body = some c)
    (hcmp : ∀ (a b : Dig) (w : World), Calls Tryd.prog f #[digV a, digV b] w (Ret fun v w' => v = .int .i64 (cf a b) ∧ Ext w w'))
    (A : Option Addr) (m c : Nat) (l : List Dig) (w : World) (hO : Own w TDg 32 (.slice A m c) (flatD l)) (hs : l.length < 4611686018427387904) : Calls Tryd.prog 37 #[.slice A m c, .func (.func f) #[] #[]] w (Ret fun v w' => v = .tuple #[] ∧ Own w' TDg 32 (.slice A m c) (flatD (sortedD l)) ∧ Chg (fun k => (Value.slice A m c).ownBlock = some k) w w') := by
  have hlt : ltOf cf = ltOf cfD := by funext a b; rw [hcf, lt_cfD]
  obtain ⟨hlen, hmc, hcm⟩ := hO.len digC_length (by decide)
  unfold maxLen at hcm
  by_cases h0 : l = []
  · subst h0
    simp at hlen
    subst hlen
    refine (AnyF.slices_SortFunc_none sortD A c _ w).mono fun e w' h => ?_
    obtain ⟨rfl, rfl⟩ := h
    exact ⟨rfl, by unfold sortedD; rw [List.mergeSort_nil]; exact hO, Chg.refl⟩
  · obtain ⟨g, rfl, hg⟩ := hO.head (by
      intro h
      have := congrArg List.length h
      rw [flat_length digC_length, List.length_nil] at this
      cases l with
      | nil => exact h0 rfl
      | cons _ _ => simp at this)
    obtain ⟨hH, hblk⟩ := hO.holds (by decide) digC_length
    have hC : CmpLays Tryd.prog f #[] digC 32 cf g 0 l.toArray.size w := fun mm os dk _ x y => by
      rw [Array.append_empty]
      refine (hcmp x y _).mono fun e w' h => ?_
      cases e with
      | returned v => obtain ⟨rfl, hx⟩ := h; exact ⟨rfl, hx.grown⟩
      | panicked ch => exact h.elim
      | outgrown => exact h.elim
    have hcon := AnyQ.slices_SortFunc_total sortD 32 Tryd.isAgg28 Tryd.sizeOf28 digC digC_length (fun x v hv => one_digC v hv) cf (hlt ▸ swo_cfD) f #[] g 0 c l.toArray w (enters_of hf hnm hbd) hC hH hblk (by simpa using hs) (fun x y h k => by rw [hcf] at h k; exact less_tri h k)
    subst hlen
    refine Calls.mono (R := fun e w' => e = .returned (.tuple #[]) ∧ ∃ n os, w' = sortWorldK digC 32 w g 0 n (l.toArray.toList.mergeSort fun x y => !(ltOf cf) y x).toArray os) hcon fun e w' h => ?_
    obtain ⟨rfl, n, os, rfl⟩ := h
    obtain ⟨h1, h2⟩ := hO.sorted (l' := sortedD l) (by decide) digC_length (sortedD_length l) n os
    have e : (l.toArray.toList.mergeSort fun x y => !(ltOf cf) y x) = sortedD l := by rw [hlt]; rfl
    rw [e]
    refine ⟨rfl, h1, h2.mono fun b _ hb => by rw [hb]; rfl⟩
end Go.Proofs.YtkbmlnkoejlgmaaDoor
