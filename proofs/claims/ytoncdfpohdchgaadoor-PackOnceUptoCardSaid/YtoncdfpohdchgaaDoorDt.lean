/- The api's types as Lean's data, and as cells. No condition; no program. -/
import Derived.Test.YtoncdfpohdchgaaDoorFm
import Derived.Stop.BytesEq
set_option linter.unusedSimpArgs false
set_option linter.unusedVariables false
namespace Go.Fw
open Go.RowKit

/-- A byte as a cell. -/
def bc (b : UInt8) : Value := .int .u8 (b.toNat : Int)
def bytesC (l : List UInt8) : List Value := l.map bc
theorem bytesC_length (l : List UInt8) : (bytesC l).length = l.length := by simp [bytesC]
theorem bytesC_get {l : List UInt8} {i : Nat} {b : UInt8} (h : l[i]? = some b) : (bytesC l)[i]? = some (bc b) := by simp [bytesC, h]
theorem bytesC_append (a b : List UInt8) : bytesC (a ++ b) = bytesC a ++ bytesC b := by simp [bytesC]
theorem bc_inj {a b : UInt8} (h : bc a = bc b) : a = b := by
  unfold bc at h
  injection h with _ h
  exact UInt8.toNat_inj.1 (by omega)
theorem bytesC_inj : ∀ {a b : List UInt8}, bytesC a = bytesC b → a = b
  | [], [], _ => rfl
  | [], _ :: _, h => by simp [bytesC] at h
  | _ :: _, [], h => by simp [bytesC] at h
  | x :: a, y :: b, h => by
    simp only [bytesC, List.map_cons, List.cons.injEq] at h
    rw [bc_inj h.1, bytesC_inj (a := a) (b := b) h.2]
theorem one_bytesC {l : List UInt8} : ∀ u ∈ bytesC l, u.oneCell' = true := by
  intro u hu
  simp only [bytesC, List.mem_map] at hu
  obtain ⟨b, _, rfl⟩ := hu
  rfl

/-- A string of these bytes. -/
def bs (l : List UInt8) : ByteArray := ⟨l.toArray⟩
theorem bs_toList (l : List UInt8) : (bs l).toList = l := by rw [ByteArray.toList_eq]; rfl
theorem bs_size (l : List UInt8) : (bs l).size = l.length := by show l.toArray.size = _; simp
theorem bs_of (s : ByteArray) : bs s.toList = s := by rw [ByteArray.toList_eq]; rfl
theorem toList_length (s : ByteArray) : s.toList.length = s.size := by rw [ByteArray.toList_eq]; rfl
theorem foldl_push : ∀ (l : List UInt8) (s : ByteArray), (l.map fun b => (b.toNat : Int)).foldl (fun r n => r.push (UInt8.ofNat n.toNat)) s = ⟨s.data ++ l.toArray⟩
  | [], s => by simp
  | b :: l, s => by
    simp only [List.map_cons, List.foldl_cons, Int.toNat_natCast, UInt8.ofNat_toNat]
    rw [foldl_push l (s.push b)]
    simp [ByteArray.push]
theorem run_bytes_string {P : Program} {w : World} {A : Option Addr} {m c : Nat} {l : List UInt8} (hl : l.length = m) (hA : 0 < m → ∃ a, A = some a ∧ Mem w a (bytesC l)) (hn : A = none → m = 0) :
    (Conv.bytesToString (.slice A m c)).run P w = .ok (.string (bs l)) w := by
  cases A with
  | none =>
    have h0 := hn rfl
    subst h0
    have : l = [] := List.eq_nil_of_length_eq_zero hl
    subst this
    rfl
  | some a =>
    have hm : Mem w a (bytesC l) := by
      rcases Nat.eq_zero_or_pos m with h0 | h0
      · subst h0
        have : l = [] := List.eq_nil_of_length_eq_zero hl
        subst this
        exact Mem.nil
      · obtain ⟨a', h, hm⟩ := hA h0
        injection h with h
        subst h
        exact hm
    have h1 := run_loadCells_list (P := P) w a (bytesC l) hm
    rw [bytesC_length, hl] at h1
    have h2 : (bytesC l).toArray = ((l.map fun b => (b.toNat : Int)).map (Value.int .u8)).toArray := by simp [bytesC, bc, Function.comp_def]
    rw [h2] at h1
    rw [run_bytesToString w a m c _ h1, foldl_push]
    have h3 : (ByteArray.empty.data ++ l.toArray) = l.toArray := by
      have : ByteArray.empty.data = #[] := rfl
      rw [this]; simp
    rw [h3]; rfl
theorem Y.bytes_string {P : Program} {n : NN} {fr : Fr} {w : World} {ty : TypeId} {x : Operand} {s d e : TypeId} {A : Option Addr} {m c : Nat} {l : List UInt8}
    (hs : P.underlying s = some (.slice e)) (he : P.underlying e = some (.int .u8)) (hd : P.underlying d = some .string)
    (hx : ev fr x = some (.slice A m c)) (hl : l.length = m) (hA : 0 < m → ∃ a, A = some a ∧ Mem w a (bytesC l)) (hn : A = none → m = 0) :
    Yw P n fr (.convert s d x) ty w (.string (bs l)) w := fun b o' ho _ ha => by
  have h1 := run_convert_bytes_string (P := P) w s d e A m c hs he hd
  rw [run_bytes_string hl hA hn] at h1
  simp [execOp, ho, ha.ev hx, h1]
theorem Y.lss_string {P : Program} {n : NN} {fr : Fr} {w : World} {ty : TypeId} {x y : Operand} {p q : ByteArray} {t t' : TypeId} (hx : ev fr x = some (.string p)) (hy : ev fr y = some (.string q)) :
    Yw P n fr (.binOp .lss t x y t') ty w (.bool (Op.bytesLess p.toList q.toList)) w := Y.bin hx hy (by simp [eqGuard_at_string]) (by simp [binOp, Op.stringOp])

/-- A digest. -/
abbrev Dig := { l : List UInt8 // l.length = 32 }
def Dig.zero : Dig := ⟨List.replicate 32 0, by simp⟩
def digC (d : Dig) : List Value := bytesC d.1
theorem digC_length (d : Dig) : (digC d).length = 32 := by rw [digC, bytesC_length, d.2]
abbrev digV (d : Dig) : Value := .agg (digC d).toArray

structure RefD where
  own : Bool
  c : Dig
  n : Int
  deriving DecidableEq
def RefD.zero : RefD := ⟨false, Dig.zero, 0⟩
def refC (r : RefD) : List Value := .bool r.own :: (digC r.c ++ [.int .i64 r.n])
theorem refC_length (r : RefD) : (refC r).length = 34 := by simp [refC, digC_length]
abbrev refV (r : RefD) : Value := .agg (refC r).toArray

structure OpD where
  kind : Int
  left : Bool
  at_ : RefD
  byte : UInt8
  deriving DecidableEq
def opC (x : OpD) : List Value := .int .i64 x.kind :: .bool x.left :: (refC x.at_ ++ [bc x.byte])
theorem opC_length (x : OpD) : (opC x).length = 37 := by simp [opC, refC_length]
abbrev opV (x : OpD) : Value := .agg (opC x).toArray

section cells
theorem one_digC {d : Dig} : ∀ u ∈ digC d, u.oneCell' = true := one_bytesC
theorem one_refC {r : RefD} : ∀ u ∈ refC r, u.oneCell' = true := by
  intro u hu
  simp only [refC, List.mem_cons, List.mem_append, List.not_mem_nil, or_false] at hu
  rcases hu with rfl | hu | rfl
  · rfl
  · exact one_digC u hu
  · rfl
theorem one_opC {x : OpD} : ∀ u ∈ opC x, u.oneCell' = true := by
  intro u hu
  simp only [opC, List.mem_cons, List.mem_append, List.not_mem_nil, or_false] at hu
  rcases hu with rfl | rfl | hu | rfl
  · rfl
  · rfl
  · exact one_refC u hu
  · rfl
theorem refC_get33 (r : RefD) : (refC r)[33]? = some (.int .i64 r.n) := by
  simp only [refC, List.getElem?_cons_succ]
  rw [List.getElem?_append_right (by rw [digC_length]; omega), digC_length]
  rfl
theorem opC_get36 (x : OpD) : (opC x)[36]? = some (bc x.byte) := by
  simp only [opC, List.getElem?_cons_succ]
  rw [List.getElem?_append_right (by rw [refC_length]; omega), refC_length]
  rfl
variable {w : World} {a : Addr}
theorem Mem.ref0 {r : RefD} (h : Mem w a (refC r)) : w.cell? (a.add 0) = some (.bool r.own) := h.cell 0 rfl
theorem Mem.ref1 {r : RefD} (h : Mem w a (refC r)) : Mem w (a.add 1) (digC r.c) := h.sub 1 fun j v hj => by
  have hlt : j < (digC r.c).length := (List.getElem?_eq_some_iff.1 hj).1
  rw [Nat.add_comm, refC, List.getElem?_cons_succ, List.getElem?_append_left hlt]
  exact hj
theorem Mem.ref2 {r : RefD} (h : Mem w a (refC r)) : w.cell? (a.add 33) = some (.int .i64 r.n) := h.cell 33 (refC_get33 r)
theorem Mem.op0 {x : OpD} (h : Mem w a (opC x)) : w.cell? (a.add 0) = some (.int .i64 x.kind) := h.cell 0 rfl
theorem Mem.op1 {x : OpD} (h : Mem w a (opC x)) : w.cell? (a.add 1) = some (.bool x.left) := h.cell 1 rfl
theorem Mem.op2 {x : OpD} (h : Mem w a (opC x)) : Mem w (a.add 2) (refC x.at_) := h.sub 2 fun j v hj => by
  have hlt : j < (refC x.at_).length := (List.getElem?_eq_some_iff.1 hj).1
  rw [Nat.add_comm, opC, List.getElem?_cons_succ, List.getElem?_cons_succ, List.getElem?_append_left hlt]
  exact hj
theorem Mem.op3 {x : OpD} (h : Mem w a (opC x)) : w.cell? (a.add 36) = some (.int .u8 (x.byte.toNat : Int)) := h.cell 36 (opC_get36 x)
theorem Mem.dig {d : Dig} {i : Nat} {b : UInt8} (h : Mem w a (digC d)) (hb : d.1[i]? = some b) : w.cell? (a.add (i * 1)) = some (.int .u8 (b.toNat : Int)) := h (i * 1) _ (by rw [Nat.mul_one]; exact bytesC_get hb)
theorem Mem.digAt {d : Dig} {i : Nat} (h : Mem w a (digC d)) (hi : i < 32) : w.cell? (a.add (i * 1)) = some (.int .u8 ((d.1[i]'(by rw [d.2]; exact hi)).toNat : Int)) := h.dig (List.getElem?_eq_getElem (by rw [d.2]; exact hi))
end cells

/-! ## Commits -/
structure ComD where
  parents : List Dig
  author : ByteArray
  note : ByteArray
  ops : List OpD
def comC (pv : Value) (au no : ByteArray) (ov : Value) : List Value := [pv, .string au, .string no, ov]
section com
variable {w : World} {a : Addr} {pv ov : Value} {au no : ByteArray} (h : Mem w a (comC pv au no ov))
include h
theorem Mem.com0 : w.cell? (a.add 0) = some pv := h.cell 0 rfl
theorem Mem.com1 : w.cell? (a.add 1) = some (.string au) := h.cell 1 rfl
theorem Mem.com2 : w.cell? (a.add 2) = some (.string no) := h.cell 2 rfl
theorem Mem.com3 : w.cell? (a.add 3) = some ov := h.cell 3 rfl
end com

/-! ## Slices that read as lists -/
/-- The slice v reads as the list xs, each element by 'enc' in k cells. -/
def Sl {α : Type} (w : World) (enc : α → List Value) (k : Nat) (v : Value) (xs : List α) : Prop :=
  ∃ A m c, v = .slice A m c ∧ xs.length = m ∧ m ≤ c ∧ c ≤ maxLen ∧ ∀ i x, xs[i]? = some x → ∃ a, A = some a ∧ Mem w (a.add (i * k)) (enc x)
theorem Sl.ext {α : Type} {w w' : World} {enc : α → List Value} {k : Nat} {v : Value} {xs : List α} (h : Sl w enc k v xs) (hc : Ext w w') : Sl w' enc k v xs := by
  obtain ⟨A, m, c, hv, hl, hmc, hcm, hx⟩ := h
  refine ⟨A, m, c, hv, hl, hmc, hcm, fun i x hi => ?_⟩
  obtain ⟨a, ha, hm⟩ := hx i x hi
  exact ⟨a, ha, hm.ext hc⟩
theorem Sl.nil {α : Type} {w : World} {enc : α → List Value} {k : Nat} : Sl w enc k (.slice none 0 0) ([] : List α) :=
  ⟨none, 0, 0, rfl, rfl, Nat.le_refl _, Nat.zero_le _, fun i x h => by simp at h⟩
/-- The value v reads as the commit c. -/
def Com (w : World) (v : Value) (c : ComD) : Prop := ∃ pv ov, v = .agg (comC pv c.author c.note ov).toArray ∧ Sl w digC 32 pv c.parents ∧ Sl w opC 37 ov c.ops ∧ c.author.size ≤ maxLen ∧ c.note.size ≤ maxLen
theorem Com.ext {w w' : World} {v : Value} {c : ComD} (h : Com w v c) (hc : Ext w w') : Com w' v c := by
  obtain ⟨pv, ov, hv, hp, ho, ha, hn⟩ := h
  exact ⟨pv, ov, hv, hp.ext hc, ho.ext hc, ha, hn⟩
theorem ret_ext {P : Program} {f : FuncId} {args : Array Value} {w w0 : World} {v : Value} (h : Calls P f args w (Ret fun v' w' => v' = v ∧ Ext w w')) (hx : Ext w0 w) : Calls P f args w (Ret fun v' w' => v' = v ∧ Ext w0 w') :=
  h.mono fun e w' hr => by
    cases e with
    | returned u => exact ⟨hr.1, hx.thenExt hr.2⟩
    | panicked c => exact hr
    | outgrown => exact hr
end Go.Fw
