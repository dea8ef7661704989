/- Strings put together; the bytes of a string as a new slice. No condition. -/
import Derived.Test.YtfbagecopapfhaaDoorOw
import Derived.Laws.IdiomStrings
set_option linter.unusedSimpArgs false
set_option linter.unusedVariables false
namespace Go.Fw
open Go.RowKit
section
variable {P : Program} {n : NN} {fr : Fr} {w : World} {ty : TypeId}
theorem Y.addS {x y : Operand} {p q : ByteArray} {t t' : TypeId} (hx : ev fr x = some (.string p)) (hy : ev fr y = some (.string q)) (h : p.size + q.size ≤ 9223372036854775807) :
    Yw P n fr (.binOp .add t x y t') ty w (.string (p ++ q)) w := Y.bin hx hy (by simp [eqGuard_at_string]) (by
      have : ¬ (((p.size + q.size : Nat) : Int) > IntKind.i64.max) := by simp only [IntKind.max, IntKind.bits, IntKind.signed]; simp; omega
      simp only [binOp, Op.stringOp, this]
      rfl)
theorem St.strBytes {x : Operand} {s d e : TypeId} {str : ByteArray} (hs : P.underlying s = some .string) (hd : P.underlying d = some (.slice e)) (he : P.underlying e = some (.int .u8)) (hx : ev fr x = some (.string str)) (hr : str.size ≤ 140737488351232) :
    St P n fr (.convert s d x) ty w (fun v w' => Own w' e 1 v (bytesC str.toList) ∧ Ext w w' ∧ ∀ g, v.ownBlock = some g → w.heap.size ≤ g) := fun a o' ho hty ha => by
  have h1 := run_bytes_of_string (P := P) w s d e str hs hd he
  refine ⟨_, _, by simp only [execOp, ho, ha.ev hx]; rw [Sem.run_bind, h1]; rfl, ?_, ?_, ?_⟩
  · have hge := grownCap_ge w str.size 0 e
    have hle : grownCap w str.size 0 e ≤ maxLen := grownCap_le_maxLen w str.size 0 e (by simp only [maxLen]; omega)
    have hl := toList_length str
    have hc : (bytesC str.toList).length = str.size := by rw [bytesC_length, hl]
    have hrow : bytesRow str (grownCap w str.size 0 e) = (bytesC str.toList ++ List.replicate (grownCap w str.size 0 e - str.size) (Value.int .u8 0)).toArray := by
      apply Array.ext'
      simp [bytesRow, bytesC, ByteArray.toList_eq]
      exact fun _ _ => rfl
    refine .inr ⟨w.heap.size, str.size, grownCap w str.size 0 e, List.replicate (grownCap w str.size 0 e - str.size) (.int .u8 0), ((bytesRow str (grownCap w str.size 0 e)).size, (bytesRow str (grownCap w str.size 0 e)).size + 1), rfl, ?_, by omega, hge, hle, by simp [hc]; omega, ?_⟩
    · rw [← hrow]; exact heap_alloc_new _ _
    · intro o ho' h
      simp only [bytesRow, Array.size_append, Array.size_map, Array.size_replicate] at h
      have : str.data.size = str.size := rfl
      omega
  · exact Chg.drew.trans (Chg.alloc (S := fun _ => False) _) (fun _ _ f => f.elim)
  · intro g hg
    simp [Value.ownBlock] at hg
    omega
end
theorem bs_append (a b : List UInt8) : bs a ++ bs b = bs (a ++ b) := by
  apply ByteArray.ext
  simp [bs]
theorem bs_eq {a : ByteArray} {l : List UInt8} (h : a.toList = l) : a = bs l := by rw [← h, bs_of]
end Go.Fw
