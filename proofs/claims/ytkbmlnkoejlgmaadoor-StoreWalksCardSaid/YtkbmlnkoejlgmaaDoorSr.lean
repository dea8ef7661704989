/- What a Hash holds when bytes come in: plain. And its cells. No condition. -/
import Derived.Test.YtkbmlnkoejlgmaaDoorSq
set_option linter.unusedSimpArgs false
set_option linter.unusedVariables false
namespace Go.Pl
open Go.Fw
theorem blk_app {xs ys : List UInt8} {i : Nat} (h : 64 * i + 64 ≤ xs.length) : blk (xs ++ ys) i = blk xs i := by
  rw [blk, blk, List.drop_append, List.take_append]
  rw [show 64 - (xs.drop (64 * i)).length = 0 by rw [List.length_drop]; omega, List.take_zero, List.append_nil]
theorem blocksN_app {xs ys : List UInt8} : ∀ {q : Nat}, 64 * q ≤ xs.length → blocksN (xs ++ ys) q = blocksN xs q
  | 0, _ => rfl
  | q + 1, h => by rw [blocksN, blocksN, blocksN_app (by omega), blk_app (by omega)]
/-- The block's bytes hold the tail of what came in. -/
def RestOf (xs rest : List UInt8) : Prop := rest.length = 64 ∧ rest.take (xs.length % 64) = xs.drop (64 * (xs.length / 64))
/-- What the block's bytes are when k more have come. -/
def restK (xs rest ys : List UInt8) : List UInt8 := rest.take (xs.length % 64) ++ ys ++ rest.drop (xs.length % 64 + ys.length)
theorem restK_len {xs rest ys : List UInt8} (h : RestOf xs rest) (hk : xs.length % 64 + ys.length ≤ 64) : (restK xs rest ys).length = 64 := by
  rw [restK, List.length_append, List.length_append, List.length_take, List.length_drop, h.1]; omega
theorem restK_take {xs rest ys : List UInt8} (h : RestOf xs rest) (hk : xs.length % 64 + ys.length ≤ 64) : (restK xs rest ys).take (xs.length % 64 + ys.length) = (xs ++ ys).drop (64 * (xs.length / 64)) := by
  have h1 := h.1
  rw [restK, List.take_append_of_le_length (by rw [List.length_append, List.length_take]; omega), List.take_of_length_le (by rw [List.length_append, List.length_take]; omega), h.2, List.drop_append_of_le_length (by omega)]
/-- The block is not full yet. -/
theorem rest_part {xs rest ys : List UInt8} (h : RestOf xs rest) (hk : xs.length % 64 + ys.length < 64) : RestOf (xs ++ ys) (restK xs rest ys) ∧ blocksN (xs ++ ys) ((xs ++ ys).length / 64) = blocksN xs (xs.length / 64) := by
  have e1 : (xs ++ ys).length = xs.length + ys.length := List.length_append
  have e2 : (xs ++ ys).length % 64 = xs.length % 64 + ys.length := by rw [e1]; omega
  have e3 : (xs ++ ys).length / 64 = xs.length / 64 := by rw [e1]; omega
  refine ⟨⟨restK_len h (by omega), ?_⟩, ?_⟩
  · rw [e2, e3]; exact restK_take h (by omega)
  · rw [e3]; exact blocksN_app (by omega)
/-- The block is full. -/
theorem rest_full {xs rest ys : List UInt8} (h : RestOf xs rest) (hk : xs.length % 64 + ys.length = 64) : RestOf (xs ++ ys) (restK xs rest ys) ∧ blocksN (xs ++ ys) ((xs ++ ys).length / 64) = mixV (blocksN xs (xs.length / 64)) (restK xs rest ys) := by
  have e1 : (xs ++ ys).length = xs.length + ys.length := List.length_append
  have e2 : (xs ++ ys).length % 64 = 0 := by rw [e1]; omega
  have e3 : (xs ++ ys).length / 64 = xs.length / 64 + 1 := by rw [e1]; omega
  have hl := restK_len h (ys := ys) (by omega)
  refine ⟨⟨hl, ?_⟩, ?_⟩
  · rw [e2, e3, List.take_zero, List.drop_of_length_le (by rw [e1]; omega)]
  · rw [e3, blocksN, blocksN_app (by omega)]
    congr 1
    have := restK_take h (ys := ys) (by omega)
    rw [hk, List.take_of_length_le (by omega)] at this
    rw [blk, ← this, List.take_of_length_le (by omega)]
theorem restOf_nil : RestOf [] (List.replicate 64 0) := ⟨by simp, by simp⟩
end Go.Pl
namespace Go.Proofs.YtkbmlnkoejlgmaaDoor
open Go.RowKit Go.Fw Go.Pl
theorem eqIn_ptr (d : Nat) {t e : TypeId} (hT : Tryd.prog.underlying t = some (.pointer e)) (a : Addr) (w : World) : (Op.equalIn (d + 1) t (.pointer (some a)) (.pointer none)).run Tryd.prog w = .ok false w := by
  rw [Op.equalIn, Sem.run_bind, run_underlying hT]
  rfl
section
variable {n : NN} {fr : Fr} {w : World} {ty : TypeId} {x y : Operand} {t' : TypeId}
theorem Y.eql_digestHash {a : Addr} (hx : ev fr x = some (.pointer (some a))) (hy : ev fr y = some (.pointer none)) : Yw Tryd.prog n fr (.binOp .eql 61 x y t') ty w (.bool false) w :=
  Y.bin hx hy (by simp [eqGuard]) (by
    simp only [binOp, Op.equal, Sem.run_bind]
    rw [show Op.maxDepth = 9999 + 1 from rfl, eqIn_ptr 9999 Tryd.underlying61]
    rfl)
end
section
variable {w : World} {a : Addr} {s : V8} {rest : List UInt8} {k : Nat}
theorem Mem.digestHash0 (h : Mem w a (hashC s rest k)) : w.cell? (a.add 0) = some (.bool true) := h 0 _ rfl
theorem Mem.digestHash1 (h : Mem w a (hashC s rest k)) : Mem w (a.add 1) (wds s.ws) := h.sub 1 fun j v hj => by
  have hlt := (List.getElem?_eq_some_iff.1 hj).1
  rw [hashC, Nat.add_comm, List.getElem?_cons_succ, List.getElem?_append_left hlt]; exact hj
theorem Mem.digestHash2 (h : Mem w a (hashC s rest k)) : Mem w (a.add 9) (bytesC rest) := h.sub 9 fun j v hj => by
  have hlt := (List.getElem?_eq_some_iff.1 hj).1
  rw [hashC, show 9 + j = (8 + j) + 1 by omega, List.getElem?_cons_succ, List.getElem?_append_right (by show 8 ≤ _; omega)]
  rw [show 8 + j - (wds s.ws).length = j by show 8 + j - 8 = j; omega, List.getElem?_append_left hlt]; exact hj
theorem Mem.digestHash3 (hl : rest.length = 64) (h : Mem w a (hashC s rest k)) : w.cell? (a.add 73) = some (.int .i64 (k : Int)) := h 73 _ (by
  rw [hashC, List.getElem?_cons_succ, List.getElem?_append_right (by show 8 ≤ 72; omega)]
  rw [show 72 - (wds s.ws).length = 64 from rfl, List.getElem?_append_right (by rw [bytesC_length]; omega), bytesC_length, hl]
  rfl)
end
end Go.Proofs.YtkbmlnkoejlgmaaDoor
