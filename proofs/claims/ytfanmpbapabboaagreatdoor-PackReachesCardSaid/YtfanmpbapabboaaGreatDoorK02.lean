/- Parts of a proof: what its last text leans on. No condition. -/
import Derived.Stop.BytesEq
import Derived.OrdersHeld
import Derived.Test.YtfanmpbapabboaaGreatDoorK01
set_option linter.unusedSimpArgs false
set_option linter.unusedVariables false
/- The operations that make, read and write memory, as rules of the calculus. No condition; no program. -/
namespace Go.Fw
open Go.RowKit
section Y
variable {P : Program} {n : NN} {fr : Fr} {w : World} {ty : TypeId}
def notAgg : TypeDesc → Bool
 | .struct _ | .array _ _ => false
 | _ => true
theorem fw_isAgg_no {t : TypeId} {d : TypeDesc} (hT : P.underlying t = some d) (hd : notAgg d = true) : (isAgg t).run P w = .ok false w := by
 unfold isAgg
 rw [Sem.run_bind, run_underlying hT]
 cases d <;> simp_all [notAgg]
theorem fw_isAgg_yes {t : TypeId} {d : TypeDesc} (hT : P.underlying t = some d) (hd : notAgg d = false) : (isAgg t).run P w = .ok true w := by
 unfold isAgg
 rw [Sem.run_bind, run_underlying hT]
 cases d <;> simp_all [notAgg]
theorem fw_sizeOf {t : TypeId} {k : Nat} (hS : (P.info? t).map (·.size) = some k) : (sizeOf t).run P w = .ok k w := by
 cases h : P.info? t with
 | none => simp [h] at hS
 | some i => simp [h] at hS; simp [sizeOf, typeInfo, h, hS]
theorem run_loadVar1 {t : TypeId} {d : TypeDesc} {a : Addr} {v : Value} (hT : P.underlying t = some d) (hd : notAgg d = true) (hc : w.cell? a = some v) : (loadVar t a).run P w = .ok v w := by
 simp [loadVar, fw_isAgg_no hT hd, hc]
theorem run_loadVarA {t : TypeId} {d : TypeDesc} {a : Addr} {cs : List Value} (hT : P.underlying t = some d) (hd : notAgg d = false) (hS : (P.info? t).map (·.size) = some cs.length) (hm : Mem w a cs) :
  (loadVar t a).run P w = .ok (.agg cs.toArray) w := by
 have h1 := run_loadCells_list (P := P) w a cs hm
 simp [loadVar, fw_isAgg_yes hT hd, fw_sizeOf hS, h1]
theorem Y.load1 {x : Operand} {t : TypeId} {d : TypeDesc} {a : Addr} {v : Value} (hT : P.underlying t = some d) (hx : ev fr x = some (.pointer (some a))) (hc : w.cell? a = some v) (hd : notAgg d = true) :
  Yw P n fr (.load t x) ty w v w := fun b o' ho _ ha => by
 simp [execOp, ho, ha.ev hx, Instr.loadAt, Instr.sureAddr, run_loadVar1 hT hd hc]
theorem Y.load {x : Operand} {t : TypeId} {d : TypeDesc} {a : Addr} {cs : List Value} (hT : P.underlying t = some d) (hx : ev fr x = some (.pointer (some a))) (hm : Mem w a cs)
  (hS : (P.info? t).map (·.size) = some cs.length) (hd : notAgg d = false) : Yw P n fr (.load t x) ty w (.agg cs.toArray) w := fun b o' ho _ ha => by
 simp [execOp, ho, ha.ev hx, Instr.loadAt, Instr.sureAddr, run_loadVarA hT hd hS hm]
def FieldOff (P : Program) (t : TypeId) (k off : Nat) : Prop := ∃ fs f m, P.underlying t = some (.struct fs) ∧ fs[k]? = some f ∧ (P.info? f.type).map (·.size) = some m ∧ m ≠ 0 ∧ f.offset = off
theorem Y.fieldAddr {x : Operand} {t : TypeId} {k off : Nat} {a : Addr} (h : FieldOff P t k off) (hx : ev fr x = some (.pointer (some a))) : Yw P n fr (.fieldAddr t x k) ty w (.pointer (some (a.add off))) w := fun b o' ho _ ha => by
 obtain ⟨fs, f, m, hT, hf, hS, hm, rfl⟩ := h
 simp [execOp, ho, ha.ev hx, Instr.fieldAt, Instr.sureAddr, run_underlying hT, hf, fieldPlace, fw_sizeOf hS, hm]
theorem Y.indexAddr {x y : Operand} {t e : TypeId} {a : Addr} {m c k : Nat} {ki : IntKind} {i : Int} (hT : P.underlying t = some (.slice e)) (hx : ev fr x = some (.slice (some a) m c)) (hy : ev fr y = some (.int ki i))
  (hS : (P.info? e).map (·.size) = some k) (h0 : 0 ≤ i) (h1 : i < (m : Int)) : Yw P n fr (.indexAddr t x y) ty w (.pointer (some (a.add (i.toNat * k)))) w := fun b o' ho _ ha => by
 simp [execOp, ho, ha.ev hx, ha.ev hy, Instr.indexAt, asIntOf, run_underlying hT, h0, h1, fw_sizeOf hS]
theorem Y.indexAddrA {x y : Operand} {t e : TypeId} {a : Addr} {m k : Nat} {ki : IntKind} {i : Int} (hT : P.underlying t = some (.array m e)) (hx : ev fr x = some (.pointer (some a))) (hy : ev fr y = some (.int ki i))
  (hS : (P.info? e).map (·.size) = some k) (h0 : 0 ≤ i) (h1 : i < (m : Int)) : Yw P n fr (.indexAddr t x y) ty w (.pointer (some (a.add (i.toNat * k)))) w := fun b o' ho _ ha => by
 simp [execOp, ho, ha.ev hx, ha.ev hy, Instr.indexAt, Instr.sureAddr, asIntOf, run_underlying hT, h0, h1, fw_sizeOf hS]
theorem Y.indexAddrN {x y : Operand} {t e : TypeId} {a : Addr} {m c k : Nat} {ki : IntKind} {i : Nat} (hT : P.underlying t = some (.slice e)) (hx : ev fr x = some (.slice (some a) m c)) (hy : ev fr y = some (.int ki (i : Int)))
  (hS : (P.info? e).map (·.size) = some k) (h1 : i < m) : Yw P n fr (.indexAddr t x y) ty w (.pointer (some (a.add (i * k)))) w := Y.indexAddr hT hx hy hS om_ om_
theorem Y.indexAddrAN {x y : Operand} {t e : TypeId} {a : Addr} {m k : Nat} {ki : IntKind} {i : Nat} (hT : P.underlying t = some (.array m e)) (hx : ev fr x = some (.pointer (some a))) (hy : ev fr y = some (.int ki (i : Int)))
  (hS : (P.info? e).map (·.size) = some k) (h1 : i < m) : Yw P n fr (.indexAddr t x y) ty w (.pointer (some (a.add (i * k)))) w := Y.indexAddrA hT hx hy hS om_ om_
theorem Y.makeFunc {f : Fn} {xs : List Operand} {vs : List Value} (hx : evs fr xs = some vs) : Yw P n fr (.makeFunc f #[] xs.toArray) ty w (.func f #[] vs.toArray) w := fun b o' ho _ ha => by
 have := ha.evs hx
 simp [execOp, ho, Instr.makeFunc, this]
theorem Y.makeIface {x : Operand} {t : TypeId} {v : Value} (hT : P.concrete t = true) (hx : ev fr x = some v) : Yw P n fr (.makeInterface t x) ty w (.iface t v) w := fun b o' ho _ ha => by
 simp [execOp, ho, ha.ev hx, run_makeInterface w t v hT]
theorem Y.build0 {t : TypeId} {v : Value} (hr : (Instr.build t #[]).run P w = .ok v w) : Yw P n fr (.build t #[]) ty w v w := fun b o' ho _ ha => by
 simp [execOp, ho, hr]
theorem Y.slice_arr {x : Operand} {t e : TypeId} {m k : Nat} {a : Addr} (hT : P.underlying t = some (.array m e)) (hx : ev fr x = some (.pointer (some a))) (hS : (P.info? e).map (·.size) = some k) :
  Yw P n fr (.slice t x none none none) ty w (.slice (some a) m m) w := fun b o' ho _ ha => by
 simp [execOp, ho, ha.ev hx, Instr.sliceAt, Instr.sureAddr, run_underlying hT, Instr.sliceBounds, fw_sizeOf hS]
 intro _; simp [Addr.add]
end Y
section rules
variable {P : Program} {n : NN} {Φ : Exit → Fr → World → Prop} {fr : Fr} {w : World}
theorem WL.box {ops : Array Oper} {rest : List Oper} {d : Nat} {t : TypeId} {x : Operand} {ty : TypeId} {pos : String} {aft : Array Edge} {v : Value} {cs : List Value}
  (hx : ev fr x = some v) (hv : v.cells = cs.toArray) (hd : d < n.1)
  (h : ∀ g w', Ext w w' → w.heap.size ≤ g → Blk w' g t cs → WL P ops n Φ rest ((d, .pointer (some ⟨g, 0, none⟩)) :: fr) w') :
  WL P ops n Φ (⟨some d, .box t x, ty, pos, aft, none⟩ :: rest) fr w := fun a ha =>
 wpList_plain rfl fun K hK => by
  have hrun : (execOp a.eval ⟨some d, .box t x, ty, pos, aft, none⟩).run P w = .ok (.value (.pointer (some ⟨w.heap.size, 0, none⟩))) (w.alloc (.cells cs.toArray t)) := by
   simp [execOp, ha.ev hx, Instr.box, newVar, newRow, hv]
  unfold Oper.wp
  rw [hrun]
  exact hK _ _ (h w.heap.size _ (Chg.alloc _) (Nat.le_refl _) (Blk.new w t cs) _ (ha.put hd _))
theorem WL.alloc {ops : Array Oper} {rest : List Oper} {d : Nat} {t : TypeId} {ty : TypeId} {pos : String} {aft : Array Edge} {i : TypeInfo} {z : Value} {cs : List Value}
  (hi : P.info? t = some i) (hz : i.zero = some z) (hv : z.cells = cs.toArray) (hd : d < n.1)
  (h : ∀ g w', Ext w w' → w.heap.size ≤ g → Blk w' g t cs → WL P ops n Φ rest ((d, .pointer (some ⟨g, 0, none⟩)) :: fr) w') :
  WL P ops n Φ (⟨some d, .alloc t, ty, pos, aft, none⟩ :: rest) fr w := fun a ha =>
 wpList_plain rfl fun K hK => by
  have hrun : (execOp a.eval ⟨some d, .alloc t, ty, pos, aft, none⟩).run P w = .ok (.value (.pointer (some ⟨w.heap.size, 0, none⟩))) (w.alloc (.cells cs.toArray t)) := by
   simp [execOp, Instr.alloc, zeroValue, typeInfo, hi, hz, newVar, newRow, hv]
  unfold Oper.wp
  rw [hrun]
  exact hK _ _ (h w.heap.size _ (Chg.alloc _) (Nat.le_refl _) (Blk.new w t cs) _ (ha.put hd _))
theorem run_storeCells_blk {g : Nat} {t : TypeId} {pre old post new : List Value} (hb : Blk w g t (pre ++ old ++ post)) (hl : new.length = old.length) (h1 : ∀ u ∈ new, u.oneCell' = true) :
  ∃ w', (storeCells ⟨g, pre.length, none⟩ new).run P w = .ok () w' ∧ Chg (· = g) w w' ∧ Blk w' g t (pre ++ new ++ post) := by
 have hst := run_storeCells_at P g pre.length t new 0 (pre ++ old ++ post).toArray w hb (by simp; omega) h1
 simp only [Nat.add_zero] at hst
 have heq : ((pre ++ old ++ post).toArray.toList.take pre.length ++ new ++ (pre ++ old ++ post).toArray.toList.drop (pre.length + new.length)).toArray = (pre ++ new ++ post).toArray := by
  congr 1
  rw [List.toList_toArray, List.append_assoc pre old post, List.take_left, hl, ← List.append_assoc pre old post]
  congr 1
  rw [show pre.length + old.length = (pre ++ old).length by simp, List.drop_left]
 rw [heq] at hst
 refine ⟨_, hst, ⟨rfl, rfl, rfl, by simp, fun k hk hn => setRow_other w g k _ hn, Nat.le_refl _⟩, setRow_heap w g _ _ t _ hb⟩
theorem WL.store {ops : Array Oper} {rest : List Oper} {t e : TypeId} {x y : Operand} {ty : TypeId} {pos : String} {aft : Array Edge} {v : Value} {g : Nat} {pre old post new : List Value} {A : Addr}
  (hx : ev fr x = some (.pointer (some A))) (hA : A = ⟨g, pre.length, none⟩) (hy : ev fr y = some v) (hv : v.cells = new.toArray) (hS : (P.info? t).map (·.size) = some new.length)
  (hb : Blk w g e (pre ++ old ++ post)) (hl : new.length = old.length) (h1 : ∀ u ∈ new, u.oneCell' = true)
  (h : ∀ w', Chg (· = g) w w' → Blk w' g e (pre ++ new ++ post) → WL P ops n Φ rest fr w') :
  WL P ops n Φ (⟨none, .store t x y, ty, pos, aft, none⟩ :: rest) fr w := fun a ha =>
 wpList_plain rfl fun K hK => by
  obtain ⟨w', hst, hc, hb'⟩ := run_storeCells_blk (P := P) hb hl h1
  have hrun : (execOp a.eval ⟨none, .store t x y, ty, pos, aft, none⟩).run P w = .ok .skip w' := by
   simp [execOp, ha.ev hx, ha.ev hy, Instr.storeAt, Instr.sureAddr, storeVar, fw_sizeOf hS, hv, hA, hst]
  unfold Oper.wp
  rw [hrun]
  exact hK _ _ (h w' hc hb' _ ha)
theorem WL.allocStore {ops : Array Oper} {rest : List Oper} {d : Nat} {t : TypeId} {x : Operand} {ty ty' : TypeId} {pos pos' : String} {aft aft' : Array Edge} {v : Value} {cs zs : List Value} {i : TypeInfo} {z : Value}
  (hi : P.info? t = some i) (hz : i.zero = some z) (hzv : z.cells = zs.toArray) (hi' : i.size = cs.length) (hlen : cs.length = zs.length)
  (hx : ev fr x = some v) (hxd : x ≠ .tmp d) (hv : v.cells = cs.toArray) (h1 : ∀ u ∈ cs, u.oneCell' = true) (hd : d < n.1)
  (h : ∀ g w', Ext w w' → w.heap.size ≤ g → Blk w' g t cs → WL P ops n Φ rest ((d, .pointer (some ⟨g, 0, none⟩)) :: fr) w') :
  WL P ops n Φ (⟨some d, .alloc t, ty, pos, aft, none⟩ :: ⟨none, .store t (.tmp d) x, ty', pos', aft', none⟩ :: rest) fr w := by
 refine WL.alloc hi hz hzv hd fun g w1 hw1 hg hb => ?_
 have hx' : ev ((d, .pointer (some ⟨g, 0, none⟩)) :: fr) x = some v := by
  cases x with
  | tmp u =>
   have hne : Nat.beq d u = false := by
    rw [Bool.eq_false_iff]
    intro e
    exact hxd (by rw [Nat.eq_of_beq_eq_true e])
   simp only [ev, Fr.get, hne, cond_false]
   exact hx
  | _ => exact hx
 have hself : ev ((d, .pointer (some ⟨g, 0, none⟩)) :: fr) (.tmp d) = some (.pointer (some ⟨g, 0, none⟩)) := by
  have : Nat.beq d d = true := Nat.beq_refl d
  simp only [ev, Fr.get, this, cond_true]
 refine WL.store (pre := []) (old := zs) (post := []) (new := cs) hself rfl hx' hv (by simp [hi, hi']) (by simpa using hb) hlen h1 fun w2 hc hb2 => ?_
 refine h g w2 ((hw1.chg (S := (· = g))).trans hc (fun _ _ h => h) |>.toExt fun k hk e => ?_) hg (by simpa using hb2)
 omega
theorem WL.allocStore1 {ops : Array Oper} {rest : List Oper} {d : Nat} {t : TypeId} {x : Operand} {ty ty' : TypeId} {pos pos' : String} {aft aft' : Array Edge} {v : Value}
  (hI : (P.info? t).map (fun i => (i.zero.map fun z => z.cells.size, i.size)) = some (some 1, 1)) (hx : ev fr x = some v) (hxd : x ≠ .tmp d) (hv : v.cells = #[v]) (h1 : v.oneCell' = true) (hd : d < n.1)
  (h : ∀ g w', Ext w w' → w.heap.size ≤ g → Blk w' g t [v] → WL P ops n Φ rest ((d, .pointer (some ⟨g, 0, none⟩)) :: fr) w') :
  WL P ops n Φ (⟨some d, .alloc t, ty, pos, aft, none⟩ :: ⟨none, .store t (.tmp d) x, ty', pos', aft', none⟩ :: rest) fr w := by
 obtain ⟨i, hi, hp⟩ := Option.map_eq_some_iff.1 hI
 injection hp with hp1 hp2
 obtain ⟨z, hz, hzs⟩ := Option.map_eq_some_iff.1 hp1
 exact WL.allocStore (zs := z.cells.toList) hi hz (by simp) (by rw [hp2]; rfl) (by simp [hzs]) hx hxd hv (by intro u hu; simp at hu; subst hu; exact h1) hd h
theorem WL.alloc1 {ops : Array Oper} {rest : List Oper} {d : Nat} {t : TypeId} {ty : TypeId} {pos : String} {aft : Array Edge} {z : Value}
  (hI : (P.info? t).map (fun i => i.zero) = some (some z)) (hz : z.cells = #[z]) (hd : d < n.1)
  (h : ∀ g w', Ext w w' → w.heap.size ≤ g → Blk w' g t [z] → WL P ops n Φ rest ((d, .pointer (some ⟨g, 0, none⟩)) :: fr) w') :
  WL P ops n Φ (⟨some d, .alloc t, ty, pos, aft, none⟩ :: rest) fr w := by
 obtain ⟨i, hi, hp⟩ := Option.map_eq_some_iff.1 hI
 exact WL.alloc (cs := [z]) hi hp hz hd h
end rules
end Go.Fw
/- The api's types as Lean's data, and as cells. No condition; no program. -/
namespace Go.Fw
open Go.RowKit
def bc (b : UInt8) : Value := .int .u8 (b.toNat : Int)
def bytesC (l : List UInt8) : List Value := l.map bc
theorem bytesC_length (l : List UInt8) : (bytesC l).length = l.length := by simp [bytesC]
theorem bytesC_get {l : List UInt8} {i : Nat} {b : UInt8} (h : l[i]? = some b) : (bytesC l)[i]? = some (bc b) := by simp [bytesC, h]
theorem bytesC_append (a b : List UInt8) : bytesC (a ++ b) = bytesC a ++ bytesC b := by simp [bytesC]
theorem one_bytesC {l : List UInt8} : ∀ u ∈ bytesC l, u.oneCell' = true := by
 intro u hu
 simp only [bytesC, List.mem_map] at hu
 obtain ⟨b, _, rfl⟩ := hu
 rfl
def bs (l : List UInt8) : ByteArray := ⟨l.toArray⟩
theorem bs_toList (l : List UInt8) : (bs l).toList = l := by rw [ByteArray.toList_eq]; rfl
theorem bs_size (l : List UInt8) : (bs l).size = l.length := by show l.toArray.size = _; simp
theorem bs_of (s : ByteArray) : bs s.toList = s := by rw [ByteArray.toList_eq]; rfl
theorem toList_length (s : ByteArray) : s.toList.length = s.size := by rw [ByteArray.toList_eq]; rfl
theorem foldl_push : ∀ (l : List UInt8) (s : ByteArray), (l.map fun b => (b.toNat : Int)).foldl (fun r n => r.push (UInt8.ofNat n.toNat)) s = ⟨s.data ++ l.toArray⟩
 | [], s => by simp
 | b :: l, s => by
  simp only [List.map_cons, List.foldl_cons, Int.toNat_natCast, UInt8.ofNat_toNat]
  rw [foldl_push l (s.push b)]
  simp [ByteArray.push]
theorem run_bytes_string {P : Program} {w : World} {A : Option Addr} {m c : Nat} {l : List UInt8} (hl : l.length = m) (hA : 0 < m → ∃ a, A = some a ∧ Mem w a (bytesC l)) (hn : A = none → m = 0) :
  (Conv.bytesToString (.slice A m c)).run P w = .ok (.string (bs l)) w := by
 cases A with
 | none =>
  have h0 := hn rfl
  subst h0
  have : l = [] := List.eq_nil_of_length_eq_zero hl
  subst this
  rfl
 | some a =>
  have hm : Mem w a (bytesC l) := by
   rcases Nat.eq_zero_or_pos m with h0 | h0
   ·
    subst h0
    have : l = [] := List.eq_nil_of_length_eq_zero hl
    subst this
    exact Mem.nil
   ·
    obtain ⟨a', h, hm⟩ := hA h0
    injection h with h
    subst h
    exact hm
  have h1 := run_loadCells_list (P := P) w a (bytesC l) hm
  rw [bytesC_length, hl] at h1
  have h2 : (bytesC l).toArray = ((l.map fun b => (b.toNat : Int)).map (Value.int .u8)).toArray := by simp [bytesC, bc, Function.comp_def]
  rw [h2] at h1
  rw [run_bytesToString w a m c _ h1, foldl_push]
  have h3 : (ByteArray.empty.data ++ l.toArray) = l.toArray := by
   have : ByteArray.empty.data = #[] := rfl
   rw [this]; simp
  rw [h3]; rfl
theorem Y.bytes_string {P : Program} {n : NN} {fr : Fr} {w : World} {ty : TypeId} {x : Operand} {s d e : TypeId} {A : Option Addr} {m c : Nat} {l : List UInt8}
  (hs : P.underlying s = some (.slice e)) (he : P.underlying e = some (.int .u8)) (hd : P.underlying d = some .string)
  (hx : ev fr x = some (.slice A m c)) (hl : l.length = m) (hA : 0 < m → ∃ a, A = some a ∧ Mem w a (bytesC l)) (hn : A = none → m = 0) :
  Yw P n fr (.convert s d x) ty w (.string (bs l)) w := fun b o' ho _ ha => by
 have h1 := run_convert_bytes_string (P := P) w s d e A m c hs he hd
 rw [run_bytes_string hl hA hn] at h1
 simp [execOp, ho, ha.ev hx, h1]
theorem Y.lss_string {P : Program} {n : NN} {fr : Fr} {w : World} {ty : TypeId} {x y : Operand} {p q : ByteArray} {t t' : TypeId} (hx : ev fr x = some (.string p)) (hy : ev fr y = some (.string q)) :
  Yw P n fr (.binOp .lss t x y t') ty w (.bool (Op.bytesLess p.toList q.toList)) w := Y.bin hx hy (by simp [eqGuard_at_string]) (by simp [binOp, Op.stringOp])
abbrev Dig := { l : List UInt8 // l.length = 32 }
def Dig.zero : Dig := ⟨List.replicate 32 0, by simp⟩
def digC (d : Dig) : List Value := bytesC d.1
theorem digC_length (d : Dig) : (digC d).length = 32 := by rw [digC, bytesC_length, d.2]
abbrev digV (d : Dig) : Value := .agg (digC d).toArray
structure RefD where
 own : Bool
 c : Dig
 n : Int
 deriving DecidableEq
def RefD.zero : RefD := ⟨false, Dig.zero, 0⟩
def refC (r : RefD) : List Value := .bool r.own :: (digC r.c ++ [.int .i64 r.n])
theorem refC_length (r : RefD) : (refC r).length = 34 := by simp [refC, digC_length]
abbrev refV (r : RefD) : Value := .agg (refC r).toArray
structure OpD where
 kind : Int
 left : Bool
 at_ : RefD
 byte : UInt8
 deriving DecidableEq
def opC (x : OpD) : List Value := .int .i64 x.kind :: .bool x.left :: (refC x.at_ ++ [bc x.byte])
theorem opC_length (x : OpD) : (opC x).length = 37 := by simp [opC, refC_length]
abbrev opV (x : OpD) : Value := .agg (opC x).toArray
section cells
theorem one_digC {d : Dig} : ∀ u ∈ digC d, u.oneCell' = true := one_bytesC
theorem one_refC {r : RefD} : ∀ u ∈ refC r, u.oneCell' = true := by
 intro u hu
 simp only [refC, List.mem_cons, List.mem_append, List.not_mem_nil, or_false] at hu
 rcases hu with rfl | hu | rfl
 ·
  rfl
 ·
  exact one_digC u hu
 ·
  rfl
theorem one_opC {x : OpD} : ∀ u ∈ opC x, u.oneCell' = true := by
 intro u hu
 simp only [opC, List.mem_cons, List.mem_append, List.not_mem_nil, or_false] at hu
 rcases hu with rfl | rfl | hu | rfl
 ·
  rfl
 ·
  rfl
 ·
  exact one_refC u hu
 ·
  rfl
theorem refC_get33 (r : RefD) : (refC r)[33]? = some (.int .i64 r.n) := by
 simp only [refC, List.getElem?_cons_succ]
 rw [List.getElem?_append_right (by rw [digC_length]; omega), digC_length]
 rfl
theorem opC_get36 (x : OpD) : (opC x)[36]? = some (bc x.byte) := by
 simp only [opC, List.getElem?_cons_succ]
 rw [List.getElem?_append_right (by rw [refC_length]; omega), refC_length]
 rfl
variable {w : World} {a : Addr}
theorem Mem.ref0 {r : RefD} (h : Mem w a (refC r)) : w.cell? (a.add 0) = some (.bool r.own) := h.cell 0 rfl
theorem Mem.ref1 {r : RefD} (h : Mem w a (refC r)) : Mem w (a.add 1) (digC r.c) := h.sub 1 fun j v hj => by
 have hlt : j < (digC r.c).length := (List.getElem?_eq_some_iff.1 hj).1
 rw [Nat.add_comm, refC, List.getElem?_cons_succ, List.getElem?_append_left hlt]
 exact hj
theorem Mem.ref2 {r : RefD} (h : Mem w a (refC r)) : w.cell? (a.add 33) = some (.int .i64 r.n) := h.cell 33 (refC_get33 r)
theorem Mem.op0 {x : OpD} (h : Mem w a (opC x)) : w.cell? (a.add 0) = some (.int .i64 x.kind) := h.cell 0 rfl
theorem Mem.op1 {x : OpD} (h : Mem w a (opC x)) : w.cell? (a.add 1) = some (.bool x.left) := h.cell 1 rfl
theorem Mem.op2 {x : OpD} (h : Mem w a (opC x)) : Mem w (a.add 2) (refC x.at_) := h.sub 2 fun j v hj => by
 have hlt : j < (refC x.at_).length := (List.getElem?_eq_some_iff.1 hj).1
 rw [Nat.add_comm, opC, List.getElem?_cons_succ, List.getElem?_cons_succ, List.getElem?_append_left hlt]
 exact hj
theorem Mem.op3 {x : OpD} (h : Mem w a (opC x)) : w.cell? (a.add 36) = some (.int .u8 (x.byte.toNat : Int)) := h.cell 36 (opC_get36 x)
theorem Mem.dig {d : Dig} {i : Nat} {b : UInt8} (h : Mem w a (digC d)) (hb : d.1[i]? = some b) : w.cell? (a.add (i * 1)) = some (.int .u8 (b.toNat : Int)) := h (i * 1) _ (by rw [Nat.mul_one]; exact bytesC_get hb)
theorem Mem.digAt {d : Dig} {i : Nat} (h : Mem w a (digC d)) (hi : i < 32) : w.cell? (a.add (i * 1)) = some (.int .u8 ((d.1[i]'(by rw [d.2]; exact hi)).toNat : Int)) := h.dig (List.getElem?_eq_getElem (by rw [d.2]; exact hi))
end cells
structure ComD where
 parents : List Dig
 author : ByteArray
 note : ByteArray
 ops : List OpD
def comC (pv : Value) (au no : ByteArray) (ov : Value) : List Value := [pv, .string au, .string no, ov]
section com
variable {w : World} {a : Addr} {pv ov : Value} {au no : ByteArray} (h : Mem w a (comC pv au no ov))
include h
theorem Mem.com0 : w.cell? (a.add 0) = some pv := h.cell 0 rfl
theorem Mem.com1 : w.cell? (a.add 1) = some (.string au) := h.cell 1 rfl
theorem Mem.com2 : w.cell? (a.add 2) = some (.string no) := h.cell 2 rfl
theorem Mem.com3 : w.cell? (a.add 3) = some ov := h.cell 3 rfl
end com
def Sl {α : Type} (w : World) (enc : α → List Value) (k : Nat) (v : Value) (xs : List α) : Prop :=
 ∃ A m c, v = .slice A m c ∧ xs.length = m ∧ m ≤ c ∧ c ≤ maxLen ∧ ∀ i x, xs[i]? = some x → ∃ a, A = some a ∧ Mem w (a.add (i * k)) (enc x)
theorem Sl.ext {α : Type} {w w' : World} {enc : α → List Value} {k : Nat} {v : Value} {xs : List α} (h : Sl w enc k v xs) (hc : Ext w w') : Sl w' enc k v xs := by
 obtain ⟨A, m, c, hv, hl, hmc, hcm, hx⟩ := h
 refine ⟨A, m, c, hv, hl, hmc, hcm, fun i x hi => ?_⟩
 obtain ⟨a, ha, hm⟩ := hx i x hi
 exact ⟨a, ha, hm.ext hc⟩
theorem Sl.nil {α : Type} {w : World} {enc : α → List Value} {k : Nat} : Sl w enc k (.slice none 0 0) ([] : List α) :=
 ⟨none, 0, 0, rfl, rfl, Nat.le_refl _, Nat.zero_le _, fun i x h => by simp at h⟩
def Com (w : World) (v : Value) (c : ComD) : Prop := ∃ pv ov, v = .agg (comC pv c.author c.note ov).toArray ∧ Sl w digC 32 pv c.parents ∧ Sl w opC 37 ov c.ops ∧ c.author.size ≤ maxLen ∧ c.note.size ≤ maxLen
theorem Com.ext {w w' : World} {v : Value} {c : ComD} (h : Com w v c) (hc : Ext w w') : Com w' v c := by
 obtain ⟨pv, ov, hv, hp, ho, ha, hn⟩ := h
 exact ⟨pv, ov, hv, hp.ext hc, ho.ext hc, ha, hn⟩
theorem ret_ext {P : Program} {f : FuncId} {args : Array Value} {w w0 : World} {v : Value} (h : Calls P f args w (Ret fun v' w' => v' = v ∧ Ext w w')) (hx : Ext w0 w) : Calls P f args w (Ret fun v' w' => v' = v ∧ Ext w0 w') :=
 h.mono fun e w' hr => by
  cases e with
  | returned u => exact ⟨hr.1, hx.thenExt hr.2⟩
  | panicked c => exact hr
  | outgrown => exact hr
end Go.Fw
/- Slices that a call owns: append, make; regions whose order is open and that make memory. No condition; no program. -/
namespace Go.Fw
open Go.RowKit
def Own (w : World) (e : TypeId) (k : Nat) (v : Value) (xs : List Value) : Prop :=
 (v = .slice none 0 0 ∧ xs = []) ∨ ∃ g n cap rest fz, v = .slice (some ⟨g, 0, none⟩) n cap ∧ w.heap[g]? = some (.cells (xs ++ rest).toArray e fz) ∧
  xs.length = n * k ∧ n ≤ cap ∧ cap ≤ maxLen ∧ (xs ++ rest).length = cap * k ∧ ∀ o, o < cap * k → ¬ (fz.1 ≤ o ∧ o < fz.2)
section
variable {w w' : World} {e : TypeId} {k : Nat} {v : Value} {xs : List Value} {S : Nat → Prop}
theorem Own.nil : Own w e k (.slice none 0 0) [] := .inl ⟨rfl, rfl⟩
theorem Own.lt (h : Own w e k v xs) : ∀ g, v.ownBlock = some g → g < w.heap.size := by
 intro g hg
 rcases h with ⟨rfl, _⟩ | ⟨g', n, cap, rest, fz, rfl, hh, _⟩
 ·
  simp [Value.ownBlock] at hg
 ·
  simp [Value.ownBlock] at hg
  subst hg
  exact (Array.getElem?_eq_some_iff.1 hh).1
theorem Own.chg (h : Own w e k v xs) (hc : Chg S w w') (hs : ∀ g, v.ownBlock = some g → ¬ S g) : Own w' e k v xs := by
 rcases h with h | ⟨g, n, cap, rest, fz, rfl, hh, r⟩
 ·
  exact .inl h
 ·
  exact .inr ⟨g, n, cap, rest, fz, rfl, (hc.block g (Array.getElem?_eq_some_iff.1 hh).1 (hs g rfl)).trans hh, r⟩
theorem Own.ext (h : Own w e k v xs) (hc : Ext w w') : Own w' e k v xs := h.chg hc (fun _ _ f => f)
theorem Own.mem (h : Own w e k v xs) : ∀ A n c, v = .slice A n c → (0 < n → ∃ a, A = some a ∧ Mem w a xs) ∧ (A = none → n = 0) ∧ xs.length = n * k ∧ n ≤ c ∧ c ≤ maxLen := by
 rintro A n c rfl
 rcases h with ⟨h, rfl⟩ | ⟨g, n', cap, rest, fz, h, hh, hl, hnc, hcm, _⟩
 ·
  injection h with h1 h2 h3
  subst h1; subst h2; subst h3
  exact ⟨fun h => absurd h om_, fun _ => rfl, by simp, Nat.le_refl _, Nat.zero_le _⟩
 ·
  injection h with h1 h2 h3
  subst h1; subst h2; subst h3
  refine ⟨fun _ => ⟨_, rfl, fun j u hu => ?_⟩, (fun h => by cases h), hl, hnc, hcm⟩
  have e : (⟨g, 0, none⟩ : Addr).add j = ⟨g, j, none⟩ := by unfold Addr.add; split <;> simp_all
  rw [e, cell_of_row w g j _ _ _ hh]
  have hlt : j < xs.length := (List.getElem?_eq_some_iff.1 hu).1
  simpa [List.getElem?_append, hlt] using hu
theorem Own.lens (h : Own w e k v xs) : ∃ A n c, v = .slice A n c := by
 rcases h with ⟨rfl, _⟩ | ⟨g, n, cap, rest, fz, rfl, _⟩
 ·
  exact ⟨_, _, _, rfl⟩
 ·
  exact ⟨_, _, _, rfl⟩
end
theorem storeCells_own {P : Program} (g o : Nat) (t : TypeId) (fz : Nat × Nat) : ∀ (vs : List Value) (i : Nat) (cur : Array Value) (w : World), w.heap[g]? = some (.cells cur t fz) → o + i + vs.length ≤ cur.size → (∀ v ∈ vs, v.oneCell' = true) →
  (∀ p, p < cur.size → ¬ (fz.1 ≤ p ∧ p < fz.2)) →
  (storeCells ⟨g, o, none⟩ vs i).run P w = .ok () (w.setRow g (cur.toList.take (o + i) ++ vs ++ cur.toList.drop (o + i + vs.length)).toArray)
 | [], i, cur, w, hg, _, _, _ => by
  simp only [storeCells, List.append_nil, List.length_nil, Nat.add_zero, List.take_append_drop, Array.toArray_toList]
  rw [setRow_self w g cur t fz hg]
  rfl
 | v :: rest, i, cur, w, hg, hl, h1, hf => by
  have hi : o + i < cur.size := by simp at hl; omega
  have hadd : (⟨g, o, none⟩ : Addr).add i = ⟨g, o + i, none⟩ := by unfold Addr.add; split <;> simp_all
  have hcell : w.cell? ⟨g, o + i, none⟩ = some cur[o + i] := by simp [World.cell?, hg, hi]
  have hfro : w.frozen? ⟨g, o + i, none⟩ = false := by
   have := hf (o + i) hi
   simp only [World.frozen?, hg]
   simpa using this
  have hst : (store ((⟨g, o, none⟩ : Addr).add i) v).run P w = .ok () (w.setRow g (cur.setIfInBounds (o + i) v)) := by
   rw [hadd, run_store P w _ v _ (h1 v (by simp)), hcell]
   simp [hfro, setCell_eq_setRow w g (o + i) cur t fz v hg]
  have ih := storeCells_own (P := P) g o t fz rest (i + 1) (cur.setIfInBounds (o + i) v) (w.setRow g (cur.setIfInBounds (o + i) v)) (setRow_heap w g cur _ t fz hg) (by simp at hl ⊢; omega) (fun x hx => h1 x (by simp [hx]))
   (fun p hp => hf p (by simpa using hp))
  simp only [storeCells, Sem.run_bind, hst, Result.andThen_ok, ih, setRow_setRow]
  congr 3
  have e := list_seg_step cur.toList (o + i) v rest (by simp at hl ⊢; omega)
  simpa [Array.toList_setIfInBounds, Nat.add_assoc] using e
def Src (P : Program) (w : World) (k : Nat) (x : Value) (m : Nat) (news : List Value) : Prop :=
 news.length = m * k ∧ ∀ w' : World, w'.heap = w.heap → (Builtin.lenOf x).run P w' = .ok m w' ∧ (Builtin.firstCells k m x).run P w' = .ok news.toArray w'
theorem Src.slice {P : Program} {w : World} {k : Nat} {A : Option Addr} {m c : Nat} {news : List Value} (hl : news.length = m * k) (hA : 0 < m → ∃ a, A = some a ∧ Mem w a news) : Src P w k (.slice A m c) m news := by
 refine ⟨hl, fun w' hw => ⟨by simp [Builtin.lenOf], ?_⟩⟩
 cases A with
 | none =>
  have : m = 0 := by
   rcases Nat.eq_zero_or_pos m with h | h
   ·
    exact h
   ·
    obtain ⟨a, h, _⟩ := hA h; cases h
  subst this
  have : news = [] := List.eq_nil_of_length_eq_zero (by simpa using hl)
  subst this
  simp [Builtin.firstCells]
 | some a =>
  have hm : Mem w a news := by
   rcases Nat.eq_zero_or_pos m with h0 | h0
   ·
    subst h0
    have : news = [] := List.eq_nil_of_length_eq_zero (by simpa using hl)
    subst this
    exact Mem.nil
   ·
    obtain ⟨a', h, hm⟩ := hA h0
    injection h with h
    subst h
    exact hm
  have hm' : Mem w' a news := fun j v hv => by
   have := hm j v hv
   simpa [World.cell?, hw] using this
  exact run_firstCells_some (P := P) w' k m a m c news hl hm'
theorem Src.string {P : Program} {w : World} {s : ByteArray} : Src P w 1 (.string s) s.size (bytesC s.toList) := by
 refine ⟨by rw [bytesC_length, toList_length, Nat.mul_one], fun w' hw => ⟨by simp [Builtin.lenOf], ?_⟩⟩
 have hx : s.extract 0 s.size = s := by
  apply ByteArray.ext
  rw [ByteArray.data_extract]
  show s.data.extract 0 s.data.size = s.data
  simp
 simp only [Builtin.firstCells, hx, Sem.run_pure]
 congr 1
 rw [ByteArray.toList_eq]
 simp [bytesC, bc, Array.ext_iff]
theorem run_append_mine_sl {P : Program} {w : World} {t u ty e e' : TypeId} {i : TypeInfo} {z : Value} {k m : Nat} {v x : Value} {xs news : List Value}
  (ht : P.underlying t = some (.slice e)) (hud : P.underlying u = some (.slice e')) (hi : P.info? e = some i) (hz : i.zero = some z) (hsize : i.size = k) (hzs : z.cells.size = k) (hk : 0 < k) (hbp : 0 < i.bytes)
  (hown : Own w e k v xs) (hsrc : Src P w k x m news) (h1 : ∀ u ∈ news, u.oneCell' = true) (hroom : (xs.length + m * k) * i.bytes ≤ 140737488355328 * k) :
  ∃ v' w', (Builtin.append_ #[t, u] ty #[v, x]).run P w = .ok v' w' ∧ Own w' e k v' (xs ++ news) ∧ Chg (fun g => v.ownBlock = some g) w w' ∧
   (v'.ownBlock = v.ownBlock ∨ ∀ g, v'.ownBlock = some g → w.heap.size ≤ g) := by
 subst hsize
 obtain ⟨hnl, hs⟩ := hsrc
 obtain ⟨A, n, c, rfl⟩ := hown.lens
 obtain ⟨hmem, hnone, hxl, hnc, hcm⟩ := hown.mem A n c rfl
 obtain ⟨_, hsv⟩ := Src.slice (P := P) (w := w) (k := i.size) (A := A) (m := n) (c := c) hxl hmem
 have hfit : (n + m) * i.bytes ≤ 140737488355328 := by
  have h2 : (xs.length + m * i.size) * i.bytes = ((n + m) * i.bytes) * i.size := by rw [hxl, ← Nat.add_mul, Nat.mul_assoc, Nat.mul_comm i.size, ← Nat.mul_assoc]
  rw [h2] at hroom
  exact Nat.le_of_mul_le_mul_right hroom hk
 have hmx : n + m ≤ 140737488355328 := Nat.le_trans (Nat.le_mul_of_pos_right _ hbp) hfit
 by_cases hr : n + m ≤ c
 ·
  cases A with
  | none =>
   have h0 := hnone rfl
   subst h0
   rcases hown with ⟨h, rfl⟩ | ⟨g, n', cap, rest, fz, h, _⟩
   ·
    injection h with _ _ hc
    subst hc
    have hm0 : m = 0 := by omega
    subst hm0
    have : news = [] := List.eq_nil_of_length_eq_zero (by simpa using hnl)
    subst this
    obtain ⟨hl1, hf1⟩ := hs w rfl
    exact ⟨.slice none 0 0, w, by simp [Builtin.append_, run_underlying ht, run_underlying hud, sizeOf, typeInfo, hi, hl1, hf1], by simpa using Own.nil, Chg.refl, .inl rfl⟩
   ·
    cases h
  | some a =>
   rcases hown with ⟨h, _⟩ | ⟨g, n', cap, rest, fz, h, hh, hxl', hnc', hcm', hal, hfz⟩
   ·
    cases h
   ·
    injection h with h2 h3 h4
    injection h2 with h2
    subst h2; subst h3; subst h4
    obtain ⟨hl1, hf1⟩ := hs w rfl
    have hrest : rest.length = (c - n) * i.size := by
     rw [List.length_append, hxl, ] at hal
     rw [Nat.sub_mul]; omega
    have hle : news.length ≤ rest.length := by rw [hnl, hrest]; exact Nat.mul_le_mul_right _ om_
    have hst := storeCells_own (P := P) g (n * i.size) e fz news 0 (xs ++ rest).toArray w hh (by simp; omega) h1 (fun p hp => hfz p (by simp at hp; simp at hal; omega))
    have hadd : (⟨g, 0, none⟩ : Addr).add (n * i.size) = ⟨g, n * i.size, none⟩ := by unfold Addr.add; split <;> simp_all
    have heq : ((xs ++ rest).toArray.toList.take (n * i.size + 0) ++ news ++ (xs ++ rest).toArray.toList.drop (n * i.size + 0 + news.length)).toArray = (xs ++ news ++ rest.drop news.length).toArray := by
     congr 1
     rw [List.toList_toArray, Nat.add_zero, ← hxl, List.take_left, List.drop_append]
     simp [List.drop_of_length_le]
    rw [heq] at hst
    refine ⟨.slice (some ⟨g, 0, none⟩) (n + m) c, _, ?_, .inr ⟨g, n + m, c, rest.drop news.length, fz, rfl, setRow_heap w g _ _ e fz hh, ?_, hr, hcm', ?_, hfz⟩,
     ⟨rfl, rfl, rfl, by simp, fun b hb hn => setRow_other w g b _ (fun e => hn (by rw [e]; rfl)), Nat.le_refl _⟩, .inl rfl⟩
    ·
     simp [Builtin.append_, run_underlying ht, run_underlying hud, sizeOf, typeInfo, hi, hl1, hf1, hr, hadd, hst]
    ·
     rw [List.length_append, hxl, hnl, Nat.add_mul]
    ·
     rw [← hal]; simp; omega
 ·
  have hn : ¬ (n + m ≤ c) := hr
  have h63' : ¬ (9223372036854775807 < ((n : Int) + (m : Int))) := by omega
  have h48' : ¬ (281474976710656 < Builtin.nextslicecap (n + m) c * i.bytes) := by
   have := growslice_fits (need := n + m) (old := c) (bytes := i.bytes) om_ hfit
   omega
  obtain ⟨hl1, _⟩ := hs w rfl
  obtain ⟨_, hf1⟩ := hs w.drew rfl
  obtain ⟨_, hf0⟩ := hsv w.drew rfl
  have hge := grownCap_ge w (n + m) c e
  have hcm2 : grownCap w (n + m) c e ≤ maxLen := grownCap_le_maxLen w (n + m) c e (by simp only [maxLen]; omega)
  refine ⟨.slice (some ⟨w.heap.size, 0, none⟩) (n + m) (grownCap w (n + m) c e),
   w.drew.alloc (.cells (xs ++ news ++ (Builtin.zeroCells z.cells (grownCap w (n + m) c e - (n + m))).toList).toArray e), ?_,
   .inr ⟨w.heap.size, n + m, grownCap w (n + m) c e, (Builtin.zeroCells z.cells (grownCap w (n + m) c e - (n + m))).toList, (0, 0), rfl, heap_alloc_new w.drew _, ?_, hge, hcm2, ?_, fun o _ => by simp⟩,
   Chg.drew.trans (Chg.alloc (S := fun _ => False) _) (fun _ _ f => f.elim), .inr (fun g hg => by simp [Value.ownBlock] at hg; omega)⟩
  ·
   simp [Builtin.append_, run_underlying ht, run_underlying hud, sizeOf, typeInfo, zeroValue, hi, hz, hl1, hn, h63', h48', Question.forced, hf0, hf1, newRow, grownCap]
   congr 2
   apply Array.ext'
   simp
  ·
   rw [List.length_append, hxl, hnl, Nat.add_mul]
  ·
   simp only [List.length_append, hxl, hnl, Array.length_toList, size_zeroCells, hzs, ← Nat.add_mul]
   congr 1
   omega
theorem run_append_mine_str {P : Program} {w : World} {t u ty e : TypeId} {i : TypeInfo} {z : Value} {k m : Nat} {v x : Value} {xs news : List Value}
  (ht : P.underlying t = some (.slice e)) (hud : P.underlying u = some .string) (hi : P.info? e = some i) (hz : i.zero = some z) (hsize : i.size = k) (hzs : z.cells.size = k) (hk : 0 < k) (hbp : 0 < i.bytes)
  (hown : Own w e k v xs) (hsrc : Src P w k x m news) (h1 : ∀ u ∈ news, u.oneCell' = true) (hroom : (xs.length + m * k) * i.bytes ≤ 140737488355328 * k) :
  ∃ v' w', (Builtin.append_ #[t, u] ty #[v, x]).run P w = .ok v' w' ∧ Own w' e k v' (xs ++ news) ∧ Chg (fun g => v.ownBlock = some g) w w' ∧
   (v'.ownBlock = v.ownBlock ∨ ∀ g, v'.ownBlock = some g → w.heap.size ≤ g) := by
 subst hsize
 obtain ⟨hnl, hs⟩ := hsrc
 obtain ⟨A, n, c, rfl⟩ := hown.lens
 obtain ⟨hmem, hnone, hxl, hnc, hcm⟩ := hown.mem A n c rfl
 obtain ⟨_, hsv⟩ := Src.slice (P := P) (w := w) (k := i.size) (A := A) (m := n) (c := c) hxl hmem
 have hfit : (n + m) * i.bytes ≤ 140737488355328 := by
  have h2 : (xs.length + m * i.size) * i.bytes = ((n + m) * i.bytes) * i.size := by rw [hxl, ← Nat.add_mul, Nat.mul_assoc, Nat.mul_comm i.size, ← Nat.mul_assoc]
  rw [h2] at hroom
  exact Nat.le_of_mul_le_mul_right hroom hk
 have hmx : n + m ≤ 140737488355328 := Nat.le_trans (Nat.le_mul_of_pos_right _ hbp) hfit
 by_cases hr : n + m ≤ c
 ·
  cases A with
  | none =>
   have h0 := hnone rfl
   subst h0
   rcases hown with ⟨h, rfl⟩ | ⟨g, n', cap, rest, fz, h, _⟩
   ·
    injection h with _ _ hc
    subst hc
    have hm0 : m = 0 := by omega
    subst hm0
    have : news = [] := List.eq_nil_of_length_eq_zero (by simpa using hnl)
    subst this
    obtain ⟨hl1, hf1⟩ := hs w rfl
    exact ⟨.slice none 0 0, w, by simp [Builtin.append_, run_underlying ht, run_underlying hud, sizeOf, typeInfo, hi, hl1, hf1], by simpa using Own.nil, Chg.refl, .inl rfl⟩
   ·
    cases h
  | some a =>
   rcases hown with ⟨h, _⟩ | ⟨g, n', cap, rest, fz, h, hh, hxl', hnc', hcm', hal, hfz⟩
   ·
    cases h
   ·
    injection h with h2 h3 h4
    injection h2 with h2
    subst h2; subst h3; subst h4
    obtain ⟨hl1, hf1⟩ := hs w rfl
    have hrest : rest.length = (c - n) * i.size := by
     rw [List.length_append, hxl, ] at hal
     rw [Nat.sub_mul]; omega
    have hle : news.length ≤ rest.length := by rw [hnl, hrest]; exact Nat.mul_le_mul_right _ om_
    have hst := storeCells_own (P := P) g (n * i.size) e fz news 0 (xs ++ rest).toArray w hh (by simp; omega) h1 (fun p hp => hfz p (by simp at hp; simp at hal; omega))
    have hadd : (⟨g, 0, none⟩ : Addr).add (n * i.size) = ⟨g, n * i.size, none⟩ := by unfold Addr.add; split <;> simp_all
    have heq : ((xs ++ rest).toArray.toList.take (n * i.size + 0) ++ news ++ (xs ++ rest).toArray.toList.drop (n * i.size + 0 + news.length)).toArray = (xs ++ news ++ rest.drop news.length).toArray := by
     congr 1
     rw [List.toList_toArray, Nat.add_zero, ← hxl, List.take_left, List.drop_append]
     simp [List.drop_of_length_le]
    rw [heq] at hst
    refine ⟨.slice (some ⟨g, 0, none⟩) (n + m) c, _, ?_, .inr ⟨g, n + m, c, rest.drop news.length, fz, rfl, setRow_heap w g _ _ e fz hh, ?_, hr, hcm', ?_, hfz⟩,
     ⟨rfl, rfl, rfl, by simp, fun b hb hn => setRow_other w g b _ (fun e => hn (by rw [e]; rfl)), Nat.le_refl _⟩, .inl rfl⟩
    ·
     simp [Builtin.append_, run_underlying ht, run_underlying hud, sizeOf, typeInfo, hi, hl1, hf1, hr, hadd, hst]
    ·
     rw [List.length_append, hxl, hnl, Nat.add_mul]
    ·
     rw [← hal]; simp; omega
 ·
  have hn : ¬ (n + m ≤ c) := hr
  have h63' : ¬ (9223372036854775807 < ((n : Int) + (m : Int))) := by omega
  have h48' : ¬ (281474976710656 < Builtin.nextslicecap (n + m) c * i.bytes) := by
   have := growslice_fits (need := n + m) (old := c) (bytes := i.bytes) om_ hfit
   omega
  obtain ⟨hl1, _⟩ := hs w rfl
  obtain ⟨_, hf1⟩ := hs w.drew rfl
  obtain ⟨_, hf0⟩ := hsv w.drew rfl
  have hge := grownCap_ge w (n + m) c e
  have hcm2 : grownCap w (n + m) c e ≤ maxLen := grownCap_le_maxLen w (n + m) c e (by simp only [maxLen]; omega)
  refine ⟨.slice (some ⟨w.heap.size, 0, none⟩) (n + m) (grownCap w (n + m) c e),
   w.drew.alloc (.cells (xs ++ news ++ (Builtin.zeroCells z.cells (grownCap w (n + m) c e - (n + m))).toList).toArray e), ?_,
   .inr ⟨w.heap.size, n + m, grownCap w (n + m) c e, (Builtin.zeroCells z.cells (grownCap w (n + m) c e - (n + m))).toList, (0, 0), rfl, heap_alloc_new w.drew _, ?_, hge, hcm2, ?_, fun o _ => by simp⟩,
   Chg.drew.trans (Chg.alloc (S := fun _ => False) _) (fun _ _ f => f.elim), .inr (fun g hg => by simp [Value.ownBlock] at hg; omega)⟩
  ·
   simp [Builtin.append_, run_underlying ht, run_underlying hud, sizeOf, typeInfo, zeroValue, hi, hz, hl1, hn, h63', h48', Question.forced, hf0, hf1, newRow, grownCap]
   congr 2
   apply Array.ext'
   simp
  ·
   rw [List.length_append, hxl, hnl, Nat.add_mul]
  ·
   simp only [List.length_append, hxl, hnl, Array.length_toList, size_zeroCells, hzs, ← Nat.add_mul]
   congr 1
   omega
def St (P : Program) (n : NN) (fr : Fr) (o : Op) (ty : TypeId) (w : World) (R : Value → World → Prop) : Prop :=
 ∀ a (o' : Oper), o'.op = o → o'.type = ty → Rep n a fr → ∃ v w', (execOp a.eval o').run P w = .ok (.value v) w' ∧ R v w'
section
variable {P : Program} {n : NN} {Φ : Exit → Fr → World → Prop} {fr : Fr} {w : World} {ty : TypeId} {R : Value → World → Prop}
theorem WL.st {ops : Array Oper} {rest : List Oper} {d : Nat} {o : Op} {pos : String} {aft : Array Edge}
  (hs : St P n fr o ty w R) (hd : d < n.1) (h : ∀ v w', R v w' → WL P ops n Φ rest ((d, v) :: fr) w') : WL P ops n Φ (⟨some d, o, ty, pos, aft, none⟩ :: rest) fr w := fun a ha =>
 wpList_plain rfl fun K hK => by
  obtain ⟨v, w', hr, hR⟩ := hs a ⟨some d, o, ty, pos, aft, none⟩ rfl rfl ha
  unfold Oper.wp
  rw [hr]
  exact hK _ _ (h v w' hR _ (ha.put hd v))
def AppInfo (P : Program) (e : TypeId) (k b : Nat) : Prop := ∃ i z, P.info? e = some i ∧ i.zero = some z ∧ i.size = k ∧ z.cells.size = k ∧ i.bytes = b ∧ 0 < k ∧ 0 < b
theorem St.append {s x : Operand} {v xv : Value} {t u e e' : TypeId} {k b m : Nat} {xs news : List Value}
  (ht : P.underlying t = some (.slice e)) (hud : P.underlying u = some (.slice e')) (hi : AppInfo P e k b) (hs : ev fr s = some v) (hx : ev fr x = some xv)
  (hown : Own w e k v xs) (hsrc : Src P w k xv m news) (h1 : ∀ u ∈ news, u.oneCell' = true) (hroom : (xs.length + m * k) * b ≤ 140737488355328 * k) :
  St P n fr (.call { callee := .builtin .append, args := #[s, x], argTypes := #[t, u] }) ty w (fun v' w' => Own w' e k v' (xs ++ news) ∧ Chg (fun g => v.ownBlock = some g) w w' ∧
   (v'.ownBlock = v.ownBlock ∨ ∀ g, v'.ownBlock = some g → w.heap.size ≤ g)) := fun a o' ho hty ha => by
 obtain ⟨i, z, hi, hz, hk, hzs, rfl, h0, hb⟩ := hi
 obtain ⟨v', w', hr, hR⟩ := run_append_mine_sl (P := P) (w := w) (ty := o'.type) ht hud hi hz hk hzs h0 hb hown hsrc h1 hroom
 exact ⟨v', w', by simp [execOp, ho, resolve, invoke, builtin, ha.ev hs, ha.ev hx, hr], hR⟩
theorem St.appendS {s x : Operand} {v : Value} {str : ByteArray} {t u e : TypeId} {b : Nat} {xs : List Value}
  (ht : P.underlying t = some (.slice e)) (hud : P.underlying u = some .string) (hi : AppInfo P e 1 b) (hs : ev fr s = some v) (hx : ev fr x = some (.string str))
  (hown : Own w e 1 v xs) (hroom : (xs.length + str.size) * b ≤ 140737488355328) :
  St P n fr (.call { callee := .builtin .append, args := #[s, x], argTypes := #[t, u] }) ty w (fun v' w' => Own w' e 1 v' (xs ++ bytesC str.toList) ∧ Chg (fun g => v.ownBlock = some g) w w' ∧
   (v'.ownBlock = v.ownBlock ∨ ∀ g, v'.ownBlock = some g → w.heap.size ≤ g)) := fun a o' ho hty ha => by
 obtain ⟨i, z, hi, hz, hk, hzs, rfl, h0, hb⟩ := hi
 obtain ⟨v', w', hr, hR⟩ := run_append_mine_str (P := P) (w := w) (ty := o'.type) ht hud hi hz hk hzs h0 hb hown Src.string one_bytesC (by simpa using hroom)
 exact ⟨v', w', by simp [execOp, ho, resolve, invoke, builtin, ha.ev hs, ha.ev hx, hr], hR⟩
def evp (fr : Fr) : List (Nat × Operand) → Option (List (Nat × Value))
 | [] => some []
 | (i, x) :: r => match ev fr x, evp fr r with
  | some v, some vs => some ((i, v) :: vs)
  | _, _ => none
theorem Rep.evp {a : Act} (h : Rep n a fr) : ∀ {xs : List (Nat × Operand)} {vs : List (Nat × Value)}, Fw.evp fr xs = some vs → xs.map (fun p => (p.1, a.eval p.2)) = vs
 | [], vs, e => by simpa [Fw.evp] using e
 | (i, x) :: r, vs, e => by
  simp only [Fw.evp] at e
  split at e
  ·
   rename_i v us h1 h2
   simp only [Option.some.injEq] at e
   subst e
   simp only [List.map_cons, h.ev h1, h.evp h2]
  ·
   cases e
theorem St.buildSlice {t e : TypeId} {len : Nat} {ps : List (Nat × Operand)} {vs : List (Nat × Value)} {cs : List Value} (hp : evp fr ps = some vs)
  (hr : ∀ w, (Instr.buildSlice t len vs.toArray).run P w = .ok (.slice (some ⟨w.heap.size, 0, none⟩) len len) (w.alloc (.cells cs.toArray e))) :
  St P n fr (.buildSlice t len ps.toArray) ty w (fun v w' => ∃ g, v = .slice (some ⟨g, 0, none⟩) len len ∧ w.heap.size ≤ g ∧ Blk w' g e cs ∧ Ext w w') := fun a o' ho hty ha => by
 have := ha.evp hp
 refine ⟨_, _, ?_, w.heap.size, rfl, Nat.le_refl _, Blk.new w e cs, Chg.alloc _⟩
 have h2 := hr w
 rw [← this] at h2
 simp only [execOp, ho]
 simp only [List.map_toArray, Sem.run_bind]
 rw [h2]
 rfl
theorem Y.build {t : TypeId} {ps : List (Nat × Operand)} {vs : List (Nat × Value)} {v : Value} (hp : evp fr ps = some vs) (hr : (Instr.build t vs.toArray).run P w = .ok v w) : Yw P n fr (.build t ps.toArray) ty w v w := fun a o' ho hty ha => by
 have := ha.evp hp
 rw [← this] at hr
 simp only [execOp, ho]
 simp only [List.map_toArray, Sem.run_bind]
 rw [hr]
 rfl
end
def RH (P : Program) (ops : Array Oper) (S : World → Prop) (n : NN) (Φ : Exit → Fr → World → Prop) (fuel : Nat) (listed : Array Bool) (fr : Fr) (w : World) : Prop :=
 ∀ a, Rep n a fr → wpAnyH P .any ops (lift n Φ) S fuel listed a w
def RS (P : Program) (ops : Array Oper) (S : World → Prop) (n : NN) (Φ : Exit → Fr → World → Prop) (fuel : Nat) (listed : Array Bool) (i : Nat) (fr : Fr) (w : World) : Prop :=
 ∀ a, Rep n a fr → wpOp P ops (lift n Φ) i (fun a' w' => S w' ∧ wpAnyH P .any ops (lift n Φ) S fuel (listed.setIfInBounds i true) a' w') a w
section rh
variable {P : Program} {ops : Array Oper} {S : World → Prop} {n : NN} {Φ : Exit → Fr → World → Prop} {fr : Fr} {w : World} {fuel : Nat} {listed : Array Bool}
theorem RH.done (hr : Region.ready .any ops listed = []) (h : Φ .normal fr w) : RH P ops S n Φ fuel listed fr w := fun a ha => wpAnyH_done hr ⟨fr, ha, h⟩ fuel
theorem RH.one (i : Nat) (hr : Region.ready .any ops listed = [i]) (h : RS P ops S n Φ fuel listed i fr w) : RH P ops S n Φ (fuel + 1) listed fr w := fun a ha =>
 wpAnyH_all hr (by simp) fun j hj => by
  simp at hj; subst hj; exact h a ha
theorem RH.two (i j : Nat) (hr : Region.ready .any ops listed = [i, j]) (h1 : RS P ops S n Φ fuel listed i fr w) (h2 : RS P ops S n Φ fuel listed j fr w) : RH P ops S n Φ (fuel + 1) listed fr w := fun a ha =>
 wpAnyH_all hr (by simp) fun k hk => by
  simp at hk
  rcases hk with rfl | rfl
  ·
   exact h1 a ha
  ·
   exact h2 a ha
theorem RH.cases {d : Nat} {c : Bool} (hg : fr.get d = some (.bool c))
  (ht : c = true → RH P ops S n Φ fuel listed ((d, .bool true) :: fr) w) (hf : c = false → RH P ops S n Φ fuel listed ((d, .bool false) :: fr) w) : RH P ops S n Φ fuel listed fr w := by
 intro a ha
 cases c with
 | true => exact ht rfl a (ha.weaken (Fr.le.cons hg Fr.le.refl))
 | false => exact hf rfl a (ha.weaken (Fr.le.cons hg Fr.le.refl))
theorem RH.casesD {d : Nat} {p : Prop} {inst : Decidable p} (hg : fr.get d = some (.bool (@decide p inst)))
  (ht : p → RH P ops S n Φ fuel listed ((d, .bool true) :: fr) w) (hf : ¬ p → RH P ops S n Φ fuel listed ((d, .bool false) :: fr) w) : RH P ops S n Φ fuel listed fr w :=
 RH.cases hg (fun h => ht (@of_decide_eq_true p inst h)) (fun h => hf (@of_decide_eq_false p inst h))
theorem RH.take (i : Nat) {d : Nat} {o : Op} {ty : TypeId} {pos : String} {aft : Array Edge} {v : Value}
  (hQ : ∀ c f f' w, Φ (.panic c) f w → Φ (.panic c) f' w) (hs : Region.noSelect ops = true) (hS : S w)
  (hi : ops[i]? = some ⟨some d, o, ty, pos, aft, none⟩) (hf : Region.free .any ops listed i = true) (hr : (Region.ready .any ops listed).contains i = true)
  (hy : ∀ w, S w → Yw P n fr o ty w v w) (hd : d < n.1) (h : RH P ops S n Φ fuel (listed.setIfInBounds i true) ((d, v) :: fr) w) : RH P ops S n Φ (fuel + 1) listed fr w := fun a ha =>
 wpAnyH_take hi hs hf hr (fun c a w ⟨f, hf, hp⟩ => ⟨[], Rep.nil (by simpa [Act.put] using hf.size) hf.defers, hQ c f [] w hp⟩)
  (.inl ⟨by simp [Region.wanted], fun w hw => hy w hw a _ rfl rfl ha⟩) hS (h _ (ha.put hd v))
theorem RH.gtake (i : Nat) {d j dj : Nat} {b : Bool} {o : Op} {ty : TypeId} {pos : String} {aft : Array Edge} {v : Value}
  (hQ : ∀ c f f' w, Φ (.panic c) f w → Φ (.panic c) f' w) (hs : Region.noSelect ops = true) (hS : S w)
  (hi : ops[i]? = some ⟨some d, o, ty, pos, aft, some (j, b)⟩) (hf : Region.free .any ops listed i = true) (hr : (Region.ready .any ops listed).contains i = true)
  (hj : (ops[j]?).bind (·.dst) = some dj) (hg : fr.get dj = some (.bool b))
  (hy : ∀ w, S w → Yw P n fr o ty w v w) (hd : d < n.1) (h : RH P ops S n Φ fuel (listed.setIfInBounds i true) ((d, v) :: fr) w) : RH P ops S n Φ (fuel + 1) listed fr w := fun a ha =>
 wpAnyH_take hi hs hf hr (fun c a w ⟨f, hf, hp⟩ => ⟨[], Rep.nil (by simpa [Act.put] using hf.size) hf.defers, hQ c f [] w hp⟩)
  (.inl ⟨by simp [Region.wanted, yielded_eq ha hj hg], fun w hw => hy w hw a _ rfl rfl ha⟩) hS (h _ (ha.put hd v))
theorem RH.goff (i : Nat) {d j dj : Nat} {b : Bool} {o : Op} {ty : TypeId} {pos : String} {aft : Array Edge}
  (hQ : ∀ c f f' w, Φ (.panic c) f w → Φ (.panic c) f' w) (hs : Region.noSelect ops = true) (hS : S w)
  (hi : ops[i]? = some ⟨some d, o, ty, pos, aft, some (j, b)⟩) (hf : Region.free .any ops listed i = true) (hr : (Region.ready .any ops listed).contains i = true)
  (hj : (ops[j]?).bind (·.dst) = some dj) (hg : fr.get dj = some (.bool (!b)))
  (hd : d < n.1) (h : RH P ops S n Φ fuel (listed.setIfInBounds i true) ((d, undef) :: fr) w) : RH P ops S n Φ (fuel + 1) listed fr w := fun a ha =>
 wpAnyH_take hi hs hf hr (fun c a w ⟨f, hf, hp⟩ => ⟨[], Rep.nil (by simpa [Act.put] using hf.size) hf.defers, hQ c f [] w hp⟩)
  (.inr ⟨by simp [Region.wanted, yielded_eq ha hj hg], rfl⟩) hS (h _ (ha.put hd undef))
theorem RH.goffU (i : Nat) {d j dj : Nat} {b : Bool} {o : Op} {ty : TypeId} {pos : String} {aft : Array Edge}
  (hQ : ∀ c f f' w, Φ (.panic c) f w → Φ (.panic c) f' w) (hs : Region.noSelect ops = true) (hS : S w)
  (hi : ops[i]? = some ⟨some d, o, ty, pos, aft, some (j, b)⟩) (hf : Region.free .any ops listed i = true) (hr : (Region.ready .any ops listed).contains i = true)
  (hj : (ops[j]?).bind (·.dst) = some dj) (hg : fr.get dj = some undef)
  (hd : d < n.1) (h : RH P ops S n Φ fuel (listed.setIfInBounds i true) ((d, undef) :: fr) w) : RH P ops S n Φ (fuel + 1) listed fr w := fun a ha =>
 wpAnyH_take hi hs hf hr (fun c a w ⟨f, hf, hp⟩ => ⟨[], Rep.nil (by simpa [Act.put] using hf.size) hf.defers, hQ c f [] w hp⟩)
  (.inr ⟨by simp [Region.wanted, yielded_undef ha hj hg], rfl⟩) hS (h _ (ha.put hd undef))
theorem RS.st {i d : Nat} {o : Op} {ty : TypeId} {pos : String} {aft : Array Edge} {R : Value → World → Prop}
  (hi : ops[i]? = some ⟨some d, o, ty, pos, aft, none⟩) (hs : St P n fr o ty w R) (hd : d < n.1)
  (h : ∀ v w', R v w' → S w' ∧ RH P ops S n Φ fuel (listed.setIfInBounds i true) ((d, v) :: fr) w') : RS P ops S n Φ fuel listed i fr w := fun a ha => by
 obtain ⟨v, w', hr, hR⟩ := hs a ⟨some d, o, ty, pos, aft, none⟩ rfl rfl ha
 obtain ⟨h1, h2⟩ := h v w' hR
 unfold wpOp
 rw [hi]
 simp only [Region.wanted, if_true]
 refine .inl ?_
 unfold Oper.wp
 rw [hr]
 exact ⟨h1, h2 _ (ha.put hd v)⟩
theorem RS.call {i : Nat} {d : Nat} {f : FuncId} {args : List Operand} {tys : Array TypeId} {ty : TypeId} {pos : String} {aft : Array Edge} {vs : List Value} {fn : Func} {R : Value → World → Prop} {g : Option (Nat × Bool)}
  (hi : ops[i]? = some ⟨some d, .call { callee := .value (.func f), args := args.toArray, argTypes := tys }, ty, pos, aft, g⟩)
  (hg : ∀ j b, g = some (j, b) → ∃ dj, (ops[j]?).bind (·.dst) = some dj ∧ fr.get dj = some (.bool b))
  (hf : P.funcs[f]? = some fn) (hb : fn.body.isNone = false) (hn : (fn.name == "runtime.NumGoroutine") = false)
  (he : evs fr args = some vs) (hC : Calls P f vs.toArray w (Ret R)) (hd : d < n.1)
  (h : ∀ v w', R v w' → S w' ∧ RH P ops S n Φ fuel (listed.setIfInBounds i true) ((d, v) :: fr) w') : RS P ops S n Φ fuel listed i fr w := fun a ha => by
 have hrun : (execOp a.eval ⟨some d, .call { callee := .value (.func f), args := args.toArray, argTypes := tys }, ty, pos, aft, g⟩).run P w = .ok (.enter f vs.toArray) w := by
  have := ha.evs he
  simp [execOp, resolve, invoke, Deferred.ofValue, Act.eval, this, run_callFunc hf hb hn]
 have hw : Region.wanted ⟨some d, .call { callee := .value (.func f), args := args.toArray, argTypes := tys }, ty, pos, aft, g⟩ (yielded ops a.tmps) = true := by
  cases g with
  | none => simp [Region.wanted]
  | some jb =>
   obtain ⟨j, b⟩ := jb
   obtain ⟨dj, h1, h2⟩ := hg j b rfl
   simp [Region.wanted, yielded_eq ha h1 h2]
 unfold wpOp
 rw [hi]
 simp only [hw, if_true]
 refine .inl ?_
 unfold Oper.wp
 rw [hrun]
 refine hC.mono fun e w' hr => ?_
 cases e with
 | returned v => obtain ⟨h1, h2⟩ := h v w' hr; exact ⟨h1, h2 _ (ha.put hd v)⟩
 | panicked ch => exact hr.elim
 | outgrown => exact hr.elim
end rh
theorem CW.held {P : Program} {n : NN} {Φ : Exit → Fr → World → Prop} {fr : Fr} {w : World} {id : Nat} {l : List Oper} (S : World → Prop) (hm : P.follows .mixedOrders = true) (m : Nat) (hl : l.length = m)
  (h : ∀ w', Ext w w' → RH P l.toArray S n Φ m (Array.replicate m false) fr w') (hR : Tame n l Φ := by first | exact .inl rfl | exact .inr ⟨rfl, fun _ _ h => h⟩) : CW P (.region id l.toArray true) n Φ fr w := fun a ha =>
 region_any hR hm (wpAny_of_held _ _ _ _ (by simp only [List.size_toArray, hl]; exact h w.drew Chg.drew a ha))
end Go.Fw
namespace Go.Fw
open Go.RowKit
theorem RH.tk (i : Nat) {P : Program} {ops : Array Oper} {S : World → Prop} {n : NN} {Φ : Exit → Fr → World → Prop} {fr : Fr} {w : World} {fuel : Nat} {listed : Array Bool} {d : Nat} {o : Op} {ty : TypeId} {pos : String} {aft : Array Edge} {v : Value} (hS : S w)
  (hi : ops[i]? = some ⟨some d, o, ty, pos, aft, none⟩) (hy : ∀ w, S w → Yw P n fr o ty w v w) (h : RH P ops S n Φ fuel (listed.setIfInBounds i true) ((d, v) :: fr) w)
  (hQ : ∀ c f f' w, Φ (.panic c) f w → Φ (.panic c) f' w := by exact fun _ _ _ _ h => h) (hs : Region.noSelect ops = true := by kernel_rfl) (hf : Region.free .any ops listed i = true := by kernel_rfl) (hr : (Region.ready .any ops listed).contains i = true := by kernel_rfl) (hd : d < n.1 := by decide) : RH P ops S n Φ (fuel + 1) listed fr w :=
 RH.take i hQ hs hS hi hf hr hy hd h
end Go.Fw
