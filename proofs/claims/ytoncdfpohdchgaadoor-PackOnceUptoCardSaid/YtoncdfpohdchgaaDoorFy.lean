/- What each operation yields, as rules of the calculus; memory as facts on worlds. No condition; no program. -/
import Derived.Test.YtoncdfpohdchgaaDoorFw
import Derived.WalkKit
import Derived.WalkLawsBesides
import Derived.WalkSpells
import Derived.IntWalk
set_option linter.unusedSimpArgs false
set_option linter.unusedVariables false
namespace Go.Fw
open Go.RowKit

/-! ## Worlds -/
structure Chg (S : Nat → Prop) (w w' : World) : Prop where
  os : w'.os = w.os
  tape : w'.tape = w.tape
  output : w'.output = w.output
  size : w.heap.size ≤ w'.heap.size
  block : ∀ k, k < w.heap.size → ¬ S k → w'.heap[k]? = w.heap[k]?
  drawn : w.drawn ≤ w'.drawn
abbrev Ext (w w' : World) : Prop := Chg (fun _ => False) w w'
section worlds
variable {S T : Nat → Prop} {w w1 w2 : World}
theorem Chg.refl : Chg S w w := ⟨rfl, rfl, rfl, Nat.le_refl _, fun _ _ _ => rfl, Nat.le_refl _⟩
theorem Chg.trans (h : Chg S w w1) (k : Chg T w1 w2) (hT : ∀ i, i < w.heap.size → T i → S i) : Chg S w w2 :=
  ⟨k.os.trans h.os, k.tape.trans h.tape, k.output.trans h.output, Nat.le_trans h.size k.size,
    fun i hi hn => (k.block i (Nat.lt_of_lt_of_le hi h.size) (fun ht => hn (hT i hi ht))).trans (h.block i hi hn), Nat.le_trans h.drawn k.drawn⟩
theorem Chg.thenExt (h : Chg S w w1) (k : Ext w1 w2) : Chg S w w2 := h.trans k (fun _ _ f => f.elim)
theorem Chg.mono (h : Chg S w w1) (hs : ∀ i, i < w.heap.size → S i → T i) : Chg T w w1 := ⟨h.os, h.tape, h.output, h.size, fun k hk hn => h.block k hk (fun hh => hn (hs k hk hh)), h.drawn⟩
theorem Chg.toExt (h : Chg S w w1) (hs : ∀ i, i < w.heap.size → ¬ S i) : Ext w w1 := h.mono fun i hi hh => hs i hi hh
theorem Ext.chg (h : Ext w w1) : Chg S w w1 := h.mono fun _ _ f => f.elim
theorem Chg.drew : Chg S w w.drew := ⟨rfl, rfl, rfl, Nat.le_refl _, fun _ _ _ => rfl, Nat.le_succ _⟩
theorem Chg.alloc (o : Obj) : Chg S w (w.alloc o) := ⟨rfl, rfl, rfl, by simp, fun k hk _ => Below.heap_alloc w o k hk, Nat.le_refl _⟩
theorem Chg.setCell {p : Addr} (hp : p.block < w.heap.size → S p.block) (u : Value) : Chg S w (w.setCell p u) :=
  ⟨rfl, rfl, rfl, by simp [World.setCell], fun k hk hn => Below.heap_setCell w p u k (by rintro rfl; exact hn (hp hk)), Nat.le_refl _⟩
theorem Ext.below (h : Ext w w1) : Below w.heap.size w w1 := ⟨h.os, h.tape, h.output, h.size, fun k hk => h.block k hk (fun f => f)⟩
theorem Chg.cell (h : Chg S w w1) {p : Addr} {v : Value} (hc : w.cell? p = some v) (hs : ¬ S p.block) : w1.cell? p = some v :=
  (World.cell?_of_block (h.block p.block (World.block_lt_of_cell? w p hc) hs)).trans hc
end worlds

theorem CW.seq_testE {P : Program} {n : NN} {Φ : Exit → Fr → World → Prop} {fr : Fr} {w : World} {x y : Code} (T : Nat) (Q : Prop)
    (h1 : CW P x n (thenF (fun f w' => (∃ b, f.get T = some (.bool b) ∧ (b = true ↔ Q)) ∧ Ext w w' ∧ Fr.le fr f) Φ) fr w)
    (h2 : ∀ w', Ext w w' → CW P y n Φ ((T, .bool (@decide Q (Classical.propDecidable Q))) :: fr) w') : CW P (.seq x y) n Φ fr w := CW.seq_testW Ext T Q h1 h2
theorem ret_of {P : Program} {f : FuncId} {args : Array Value} {w : World} {v : Value} (h : Calls P f args w fun e w' => e = .returned v ∧ w' = w) : Calls P f args w (Ret fun v' w' => v' = v ∧ Ext w w') :=
  h.mono fun e w' ⟨he, hw⟩ => by subst he; subst hw; exact ⟨rfl, Chg.refl⟩
/-- The cells from a on hold cs. -/
def Mem (w : World) (a : Addr) (cs : List Value) : Prop := ∀ j v, cs[j]? = some v → w.cell? (a.add j) = some v
/-- Block g is just the cells cs, of type t, none frozen. -/
def Blk (w : World) (g : Nat) (t : TypeId) (cs : List Value) : Prop := w.heap[g]? = some (.cells cs.toArray t (0, 0))

theorem block_add (a : Addr) (n : Nat) : (a.add n).block = a.block := by unfold Addr.add; split <;> rfl
theorem add_add (a : Addr) (i j : Nat) : (a.add i).add j = a.add (i + j) := by
  unfold Addr.add
  by_cases hi : i = 0 <;> by_cases hj : j = 0 <;> simp [hi, hj, Nat.add_assoc]
section mem
variable {S : Nat → Prop} {w w1 : World} {a : Addr} {cs : List Value}
theorem Mem.nil : Mem w a [] := fun j v h => by simp at h
theorem Mem.chg (h : Mem w a cs) (hc : Chg S w w1) (hs : ¬ S a.block) : Mem w1 a cs := fun j v hv => hc.cell (h j v hv) (by rw [block_add]; exact hs)
theorem Mem.ext (h : Mem w a cs) (hc : Ext w w1) : Mem w1 a cs := h.chg hc (fun f => f)
theorem Mem.sub (k : Nat) {l : List Value} (h : Mem w a cs) (hl : ∀ j v, l[j]? = some v → cs[k + j]? = some v) : Mem w (a.add k) l := fun j v hv => by
  rw [add_add]; exact h _ v (hl j v hv)
theorem Mem.cell (h : Mem w a cs) (k : Nat) {v : Value} (hv : cs[k]? = some v) : w.cell? (a.add k) = some v := h k v hv
theorem Mem.cell0 {v : Value} (h : Mem w a (v :: cs)) : w.cell? a = some v := by
  have := h 0 v rfl
  simpa [Addr.add] using this
theorem Mem.lt (h : Mem w a cs) (hne : cs ≠ []) : a.block < w.heap.size := by
  cases cs with
  | nil => exact absurd rfl hne
  | cons v r => exact World.block_lt_of_cell? w a h.cell0
theorem Blk.mem {g : Nat} {t : TypeId} (h : Blk w g t cs) : Mem w ⟨g, 0, none⟩ cs := fun j v hv => by
  have e : (⟨g, 0, none⟩ : Addr).add j = ⟨g, j, none⟩ := by unfold Addr.add; split <;> simp_all
  rw [e, cell_of_row w g j _ t _ h]
  simpa using hv
theorem Blk.lt {g : Nat} {t : TypeId} (h : Blk w g t cs) : g < w.heap.size := (Array.getElem?_eq_some_iff.1 h).1
theorem Blk.chg {g : Nat} {t : TypeId} (h : Blk w g t cs) (hc : Chg S w w1) (hs : ¬ S g) : Blk w1 g t cs := (hc.block g h.lt hs).trans h
theorem Blk.ext {g : Nat} {t : TypeId} (h : Blk w g t cs) (hc : Ext w w1) : Blk w1 g t cs := h.chg hc (fun f => f)
theorem Blk.frozen {g : Nat} {t : TypeId} (h : Blk w g t cs) (i : Nat) : w.frozen? ⟨g, i, none⟩ = false := by unfold Blk at h; simp [World.frozen?, h]
theorem Blk.new (w : World) (t : TypeId) (cs : List Value) : Blk (w.alloc (.cells cs.toArray t)) w.heap.size t cs := heap_alloc_new w _
end mem

/-! ## Operations that look at no memory -/
section Y
variable {P : Program} {n : NN} {fr : Fr} {w : World} {ty : TypeId}
abbrev InI64 (x : Int) : Prop := -9223372036854775808 ≤ x ∧ x ≤ 9223372036854775807

theorem Y.move {x : Operand} {v : Value} (hx : ev fr x = some v) : Yw P n fr (.move x) ty w v w := fun a o' ho _ ha => by
  simp [execOp, ho, ha.ev hx, Sem.run]
theorem Y.assign {x : Operand} {v : Value} (hx : ev fr x = some v) : Yw P n fr (.assign x) ty w v w := fun a o' ho _ ha => by
  simp [execOp, ho, ha.ev hx, Sem.run]
theorem Y.pick {c x y : Operand} {b : Bool} {v : Value} (hc : ev fr c = some (.bool b)) (hx : ev fr (cond b x y) = some v) : Yw P n fr (.pick c x y) ty w v w := fun a o' ho _ ha => by
  have h1 := ha.ev hc
  have h2 := ha.ev hx
  cases b <;> simp [execOp, ho, h1, asBool] <;> simpa using h2
theorem Y.len_string {x : Operand} {s : ByteArray} {t : TypeId} (hT : P.underlying t = some .string) (hx : ev fr x = some (.string s)) :
    Yw P n fr (.call { callee := .builtin .len, args := #[x], argTypes := #[t] }) ty w (.int .i64 (s.size : Int)) w := fun a o' ho _ ha => by
  simp [execOp, ho, resolve, invoke, builtin, ha.ev hx, Builtin.len_, run_underlying hT, goInt]
theorem Y.len_slice {x : Operand} {A : Option Addr} {m c : Nat} {t e : TypeId} (hT : P.underlying t = some (.slice e)) (hx : ev fr x = some (.slice A m c)) :
    Yw P n fr (.call { callee := .builtin .len, args := #[x], argTypes := #[t] }) ty w (.int .i64 (m : Int)) w := fun a o' ho _ ha => by
  simp [execOp, ho, resolve, invoke, builtin, ha.ev hx, Builtin.len_, run_underlying hT, goInt]
theorem Y.bin {op : BinOp} {x y : Operand} {vx vy v : Value} {t t' : TypeId} (hx : ev fr x = some vx) (hy : ev fr y = some vy) (hg : (eqGuard op t x y vx vy).run P w = .ok () w)
    (hr : (binOp op t vx vy).run P w = .ok v w) : Yw P n fr (.binOp op t x y t') ty w v w := fun a o' ho _ ha => by
  simp [execOp, ho, ha.ev hx, ha.ev hy, hg, hr]
section ints
variable {x y : Operand} {k : IntKind} {p q : Int} {t t' : TypeId} (hx : ev fr x = some (.int k p)) (hy : ev fr y = some (.int k q))
include hx hy
theorem Y.lss : Yw P n fr (.binOp .lss t x y t') ty w (.bool (decide (p < q))) w := Y.bin hx hy (by simp [eqGuard_at_int]) (by simp [binOp, Op.intCmp])
theorem Y.leq : Yw P n fr (.binOp .leq t x y t') ty w (.bool (decide (p ≤ q))) w := Y.bin hx hy (by simp [eqGuard_at_int]) (by simp [binOp, Op.intCmp])
theorem Y.gtr : Yw P n fr (.binOp .gtr t x y t') ty w (.bool (decide (q < p))) w := Y.bin hx hy (by simp [eqGuard_at_int]) (by simp [binOp, Op.intCmp])
theorem Y.geq : Yw P n fr (.binOp .geq t x y t') ty w (.bool (decide (q ≤ p))) w := Y.bin hx hy (by simp [eqGuard_at_int]) (by simp [binOp, Op.intCmp])
theorem Y.eql : Yw P n fr (.binOp .eql t x y t') ty w (.bool (decide (p = q))) w := Y.bin hx hy (by simp [eqGuard_at_int]) (by simp [binOp, Op.intCmp, BEq.beq])
theorem Y.neq : Yw P n fr (.binOp .neq t x y t') ty w (.bool (decide (p ≠ q))) w := Y.bin hx hy (by simp [eqGuard_at_int]) (by simp [binOp, Op.intCmp, bne, BEq.beq])
theorem Y.add_k : Yw P n fr (.binOp .add t x y t') ty w (.int k (k.wrap (p + q))) w := Y.bin hx hy (by simp [eqGuard_at_int]) (by simp [binOp, Op.intCmp, Op.intArith])
theorem Y.sub_k : Yw P n fr (.binOp .sub t x y t') ty w (.int k (k.wrap (p - q))) w := Y.bin hx hy (by simp [eqGuard_at_int]) (by simp [binOp, Op.intCmp, Op.intArith])
theorem Y.mul_k : Yw P n fr (.binOp .mul t x y t') ty w (.int k (k.wrap (p * q))) w := Y.bin hx hy (by simp [eqGuard_at_int]) (by simp [binOp, Op.intCmp, Op.intArith])
end ints
theorem wrap_i64_in {x : Int} (h : InI64 x) : IntKind.i64.wrap x = x := IntWalk.i64_in x h
section i64
variable {x y : Operand} {p q : Int} {t t' : TypeId} (hx : ev fr x = some (.int .i64 p)) (hy : ev fr y = some (.int .i64 q))
include hx hy
theorem Y.add (h : InI64 (p + q)) : Yw P n fr (.binOp .add t x y t') ty w (.int .i64 (p + q)) w := by have := Y.add_k (P := P) (n := n) (w := w) (ty := ty) (t := t) (t' := t') hx hy; rwa [wrap_i64_in h] at this
theorem Y.sub (h : InI64 (p - q)) : Yw P n fr (.binOp .sub t x y t') ty w (.int .i64 (p - q)) w := by have := Y.sub_k (P := P) (n := n) (w := w) (ty := ty) (t := t) (t' := t') hx hy; rwa [wrap_i64_in h] at this
theorem Y.mul (h : InI64 (p * q)) : Yw P n fr (.binOp .mul t x y t') ty w (.int .i64 (p * q)) w := by have := Y.mul_k (P := P) (n := n) (w := w) (ty := ty) (t := t) (t' := t') hx hy; rwa [wrap_i64_in h] at this
end i64
theorem Y.not {x : Operand} {b : Bool} {t : TypeId} (hx : ev fr x = some (.bool b)) : Yw P n fr (.unOp .not t x) ty w (.bool (!b)) w := fun a o' ho _ ha => by
  simp [execOp, ho, ha.ev hx, Op.unary]
theorem Y.extract {x : Operand} {vs : Array Value} {i : Nat} {v : Value} (hx : ev fr x = some (.tuple vs)) (hv : vs[i]? = some v) : Yw P n fr (.extract x i) ty w v w := fun a o' ho _ ha => by
  simp [execOp, ho, ha.ev hx, Instr.extract, hv]
theorem Y.conv_int {x : Operand} {k k' : IntKind} {p : Int} {s d : TypeId} {ds : TypeDesc} (hs : P.underlying s = some ds) (hd : P.underlying d = some (.int k')) (hx : ev fr x = some (.int k p)) :
    Yw P n fr (.convert s d x) ty w (.int k' (k'.wrap p)) w := fun a o' ho _ ha => by
  simp [execOp, ho, ha.ev hx, convert, run_underlying hs, run_underlying hd, Conv.intToInt]
theorem Y.eql_string {x y : Operand} {p q : ByteArray} {t t' : TypeId} (hx : ev fr x = some (.string p)) (hy : ev fr y = some (.string q)) :
    Yw P n fr (.binOp .eql t x y t') ty w (.bool (p.toList == q.toList)) w := Y.bin hx hy (by simp [eqGuard_at_string]) (by simp [binOp, Op.stringOp])
theorem Y.neq_string {x y : Operand} {p q : ByteArray} {t t' : TypeId} (hx : ev fr x = some (.string p)) (hy : ev fr y = some (.string q)) :
    Yw P n fr (.binOp .neq t x y t') ty w (.bool (!(p.toList == q.toList))) w := Y.bin hx hy (by simp [eqGuard_at_string]) (by simp [binOp, Op.stringOp])
theorem Y.eql_bool {x y : Operand} {p q : Bool} {t t' : TypeId} (hT : P.underlying t = some .bool) (hx : ev fr x = some (.bool p)) (hy : ev fr y = some (.bool q)) :
    Yw P n fr (.binOp .eql t x y t') ty w (.bool (p == q)) w := Y.bin hx hy (by simp [eqGuard_at_bool]) (run_eql_bool w t p q hT)
theorem Y.index_string {x y : Operand} {s : ByteArray} {k : IntKind} {i : Nat} {t : TypeId} (hT : P.underlying t = some .string) (hx : ev fr x = some (.string s)) (hy : ev fr y = some (.int k (i : Int))) (hi : i < s.size) :
    Yw P n fr (.index t x y) ty w (.int .u8 (s[i].toNat : Int)) w := fun a o' ho _ ha => by
  have h0 : (0 : Int) ≤ (i : Int) := by omega
  have h1 : s[i]? = some s[i] := by simp [hi]
  simp [execOp, ho, ha.ev hx, ha.ev hy, Instr.index, asIntOf, run_underlying hT, h0, h1]
end Y
end Go.Fw
