/- rem and quo of naturals, slices of strings, as rules. No condition; no program. -/
-- @alt f{recension/commit.May}: Ko -> Kg
import Derived.Test.YtoncdfpohdchgaaDoorKo
set_option linter.unusedSimpArgs false
set_option linter.unusedVariables false
namespace Go.Fw
open Go.RowKit
section
variable {P : Program} {n : NN} {fr : Fr} {w : World} {ty : TypeId}
theorem Y.remN {x y : Operand} {k : IntKind} {p q : Nat} {t t' : TypeId} (hx : ev fr x = some (.int k (p : Int))) (hy : ev fr y = some (.int k (q : Int))) (h : q ≠ 0) : Yw P n fr (.binOp .rem t x y t') ty w (.int k ((p % q : Nat) : Int)) w := Y.rem hx hy (by omega)
theorem Y.quoN {x y : Operand} {p q : Nat} {t t' : TypeId} (hx : ev fr x = some (.int .i64 (p : Int))) (hy : ev fr y = some (.int .i64 (q : Int))) (h : q ≠ 0) (hp : p ≤ 9223372036854775807 := by omega) : Yw P n fr (.binOp .quo t x y t') ty w (.int .i64 ((p / q : Nat) : Int)) w := by
  have h1 := Y.quo (P := P) (n := n) (w := w) (ty := ty) (t := t) (t' := t') hx hy (by omega)
  have e : IntKind.i64.wrap ((p : Int).tdiv (q : Int)) = ((p / q : Nat) : Int) := by
    rw [← Int.ofNat_tdiv]
    have h2 := Nat.div_le_self p q
    generalize p / q = r at h2
    exact wrap_i64_in ⟨by omega, by omega⟩
  rwa [e] at h1
theorem Y.slice_str {x lo hi : Operand} {s : ByteArray} {t : TypeId} {i j : Nat} {ki kj : IntKind} {zi zj : Int} (hT : P.underlying t = some .string) (hx : ev fr x = some (.string s)) (hlo : ev fr lo = some (.int ki zi)) (hhi : ev fr hi = some (.int kj zj)) (hi' : zi = (i : Int)) (hj' : zj = (j : Int)) (h1 : i ≤ j) (h2 : j ≤ s.size) :
    Yw P n fr (.slice t x (some lo) (some hi) none) ty w (.string (s.extract i j)) w := fun b o' ho _ ha => by
  subst hi'; subst hj'
  have e1 : (0 : Int) ≤ (i : Int) := by omega
  have e2 : (0 : Int) ≤ (j : Int) := by omega
  simp [execOp, ho, ha.ev hx, ha.ev hlo, ha.ev hhi, Instr.sliceAt, Instr.slice, run_underlying hT, Instr.sliceBounds, Instr.sliceBound, asIntOf, e1, e2, h1, h2]
end
end Go.Fw
