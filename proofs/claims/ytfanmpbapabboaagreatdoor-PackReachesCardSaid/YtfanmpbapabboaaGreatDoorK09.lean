/- Parts of a proof: what its last text leans on. No condition. -/
import Derived.ProofKit
import Derived.SizedLaws
import Derived.Below
import Derived.ChangeSame
import Derived.Deep.Slices
import Derived.OpenShut
import Derived.Test.YtfanmpbapabboaaGreatDoorChecked
import Derived.Test.YtfanmpbapabboaaGreatDoorK02
import Derived.Test.YtfanmpbapabboaaGreatDoorK03
import Derived.Test.YtfanmpbapabboaaGreatDoorK08
set_option linter.unusedSimpArgs false
set_option linter.unusedVariables false
/- Rules: remainders, slices up to a place, empty slices, slices as an append's source, results in a cell, stores into slices of our own. No condition; no program. -/
namespace Go.Fw
open Go.RowKit
theorem Chg.step {S : Nat → Prop} {w w1 w2 : World} (h : Ext w w1) (c : Chg S w1 w2) (hS : ∀ k, S k → w.heap.size ≤ k) : Ext w w2 := ((Ext.chg h).trans c (fun _ _ h => h)).toExt (fun i hi h => by have := hS i h; omega)
section
variable {P : Program} {n : NN} {fr : Fr} {w : World} {ty : TypeId}
theorem Y.rem {x y : Operand} {k : IntKind} {p q : Int} {t t' : TypeId} (hx : ev fr x = some (.int k p)) (hy : ev fr y = some (.int k q)) (h : q ≠ 0) : Yw P n fr (.binOp .rem t x y t') ty w (.int k (p.tmod q)) w := Y.bin hx hy (by simp [eqGuard_at_int]) (by simp [binOp_rem, Op.intDiv, h])
theorem Y.quo {x y : Operand} {k : IntKind} {p q : Int} {t t' : TypeId} (hx : ev fr x = some (.int k p)) (hy : ev fr y = some (.int k q)) (h : q ≠ 0) : Yw P n fr (.binOp .quo t x y t') ty w (.int k (k.wrap (p.tdiv q))) w := Y.bin hx hy (by simp [eqGuard_at_int]) (by simp [binOp_quo, Op.intDiv, h])
theorem Y.slice_hi {x hi : Operand} {t e ty : TypeId} {A : Option Addr} {m c k j : Nat} {kj : IntKind} {z : Int} (hT : P.underlying t = some (.slice e)) (hx : ev fr x = some (.slice A m c)) (hhi : ev fr hi = some (.int kj z))
  (hS : (P.info? e).map (·.size) = some k) (hz : z = (j : Int)) (h2 : j ≤ c) : Yw P n fr (.slice t x none (some hi) none) ty w (.slice A j c) w := fun b o' ho _ ha => by
 subst hz
 have e2 : (0 : Int) ≤ (j : Int) := by omega
 have ea : (A.map fun a => a.add (0 * k)) = A := by cases A <;> simp [Addr.add]
 simp [execOp, ho, ha.ev hx, ha.ev hhi, Instr.sliceAt, Instr.slice, run_underlying hT, Instr.sliceBounds, Instr.sliceBound, asIntOf, e2, h2, fw_sizeOf hS]
 intro _; cases A <;> simp [Addr.add]
theorem St.buildSlice0 {t e : TypeId} {k : Nat} (hu : P.underlying t = some (.slice e)) (hS : (P.info? e).map (·.size) = some k) :
  St P n fr (.buildSlice t 0 #[]) ty w (fun v w' => ∃ g, v = .slice (some ⟨g, 0, none⟩) 0 0 ∧ w.heap.size ≤ g ∧ Own w' e k v [] ∧ Ext w w') := fun a o' ho hty ha => by
 refine ⟨_, w.alloc (.cells #[] e), ?_, w.heap.size, rfl, Nat.le_refl _, .inr ⟨w.heap.size, 0, 0, [], (0, 0), rfl, heap_alloc_new w _, by simp, Nat.le_refl _, Nat.zero_le _, by simp, fun o h => by omega⟩, Chg.alloc _⟩
 simp only [execOp, ho]
 have hr0 : Array.range 0 = #[] := by decide
 simp [Instr.buildSlice, run_underlying hu, fw_sizeOf hS, Instr.fill, newRow, hr0]
theorem flat_mem {α : Type} {enc : α → List Value} {k : Nat} (he : ∀ x, (enc x).length = k) {w : World} {a : Addr} : ∀ (xs : List α) (i0 : Nat), (∀ i x, xs[i]? = some x → Mem w (a.add ((i0 + i) * k)) (enc x)) → Mem w (a.add (i0 * k)) ((xs.map enc).flatten)
 | [], _, _ => Mem.nil
 | x :: xs, i0, h => by
  have h0 := h 0 x rfl
  have ih := flat_mem he (w := w) (a := a) xs (i0 + 1) fun i y hy => by
   have := h (i + 1) y (by simpa using hy)
   rwa [show i0 + 1 + i = i0 + (i + 1) by omega]
  intro j v hj
  simp only [List.map_cons, List.flatten_cons] at hj
  rcases Nat.lt_or_ge j (enc x).length with hlt | hge
  ·
   rw [List.getElem?_append_left hlt] at hj
   exact h0 j v hj
  ·
   rw [List.getElem?_append_right hge, he] at hj
   rw [he] at hge
   have := ih (j - k) v hj
   rw [add_add] at this ⊢
   rw [show (i0 + 1) * k + (j - k) = i0 * k + j by rw [Nat.succ_mul]; omega] at this
   exact this
theorem Sl.flat {α : Type} {enc : α → List Value} {k : Nat} (he : ∀ x, (enc x).length = k) {A : Option Addr} {m c : Nat} {xs : List α} (h : Sl w enc k (.slice A m c) xs) : xs.length = m ∧ m ≤ c ∧ c ≤ maxLen ∧ (0 < m → ∃ a, A = some a ∧ Mem w a ((xs.map enc).flatten)) := by
 obtain ⟨A', m', c', e, hl, hmc, hcm, hx⟩ := h
 injection e with e1 e2 e3
 subst e1; subst e2; subst e3
 refine ⟨hl, hmc, hcm, fun h0 => ?_⟩
 obtain ⟨x, hx0⟩ : ∃ x, xs[0]? = some x := ⟨_, List.getElem?_eq_getElem om_⟩
 obtain ⟨a, rfl, _⟩ := hx 0 x hx0
 refine ⟨a, rfl, ?_⟩
 have := flat_mem he (w := w) (a := a) xs 0 fun i y hy => by
  obtain ⟨a', e, hm⟩ := hx i y hy
  injection e with e; subst e
  rwa [Nat.zero_add]
 simpa [Addr.add] using this
theorem Sl.src {α : Type} {enc : α → List Value} {k : Nat} (he : ∀ x, (enc x).length = k) {A : Option Addr} {m c : Nat} {xs : List α} (h : Sl w enc k (.slice A m c) xs) : Src P w k (.slice A m c) m ((xs.map enc).flatten) := by
 obtain ⟨hl, _, _, hA⟩ := h.flat he
 exact Src.slice (by rw [flat_length he, hl]) hA
theorem Sl.lens {α : Type} {enc : α → List Value} {k : Nat} {v : Value} {xs : List α} (h : Sl w enc k v xs) : ∃ A c, v = .slice A xs.length c ∧ xs.length ≤ c ∧ c ≤ maxLen := by
 obtain ⟨A', m', c', e, hl, hmc, hcm, hx⟩ := h
 subst hl
 exact ⟨A', c', e, hmc, hcm⟩
theorem By.take {A : Option Addr} {m c : Nat} {bs : List UInt8} (h : By w (.slice A m c) bs) {j : Nat} (hj : j ≤ m) : By w (.slice A j c) (bs.take j) := by
 obtain ⟨A', m', c', e, hl, hmc, hcm, hA, hn⟩ := h
 injection e with e1 e2 e3
 subst e1; subst e2; subst e3
 refine ⟨A, j, c, rfl, by rw [List.length_take]; omega, by omega, hcm, fun h0 => ?_, fun h => by have := hn h; omega⟩
 obtain ⟨a, rfl, hm⟩ := hA om_
 refine ⟨a, rfl, fun i v hv => hm i v ?_⟩
 have hlt : i < (bytesC (bs.take j)).length := (List.getElem?_eq_some_iff.1 hv).1
 rw [bytesC_length, List.length_take] at hlt
 rw [bytesC, List.getElem?_map, List.getElem?_take, if_pos om_] at hv
 rw [bytesC, List.getElem?_map]
 exact hv
theorem By.len {A : Option Addr} {m c : Nat} {bs : List UInt8} (h : By w (.slice A m c) bs) : bs.length = m ∧ m ≤ c ∧ c ≤ maxLen := by
 obtain ⟨A', m', c', e, hl, hmc, hcm, hA, hn⟩ := h
 injection e with e1 e2 e3
 subst e1; subst e2; subst e3
 exact ⟨hl, hmc, hcm⟩
theorem By.mem {A : Option Addr} {m c : Nat} {bs : List UInt8} (h : By w (.slice A m c) bs) : (0 < m → ∃ a, A = some a ∧ Mem w a (bytesC bs)) ∧ (A = none → m = 0) := by
 obtain ⟨A', m', c', e, hl, hmc, hcm, hA, hn⟩ := h
 injection e with e1 e2 e3
 subst e1; subst e2; subst e3
 exact ⟨hA, hn⟩
theorem By.lens {v : Value} {bs : List UInt8} (h : By w v bs) : ∃ A m c, v = .slice A m c := by
 obtain ⟨A', m', c', e, _⟩ := h
 exact ⟨_, _, _, e⟩
theorem Src.by {A : Option Addr} {m c : Nat} {bs : List UInt8} (h : By w (.slice A m c) bs) : Src P w 1 (.slice A m c) m (bytesC bs) := Src.slice (by rw [bytesC_length, h.len.1]; omega) h.mem.1
end
end Go.Fw
namespace Go.Fw
open Go.RowKit
def gets (fr : Fr) : List Nat → Option (List Value)
 | [] => some []
 | t :: r => match fr.get t, gets fr r with
  | some v, some vs => some (v :: vs)
  | _, _ => none
theorem Rep.gets {n : NN} {a : Act} {fr : Fr} (h : Rep n a fr) : ∀ {ts : List Nat} {vs : List Value}, Fw.gets fr ts = some vs → ts.map (fun t => a.tmps.getD t undef) = vs
 | [], vs, e => by simpa [Fw.gets] using e
 | t :: r, vs, e => by
  simp only [Fw.gets] at e
  split at e
  ·
   rename_i v us h1 h2
   simp only [Option.some.injEq] at e
   subst e
   have := h.get t v h1
   simp only [List.map_cons, h.gets h2]
   simp [this]
  ·
   cases e
@[reducible] def CellT (t m : Nat) (ts : List Nat) (R : Value → World → Prop) (fr : Fr) (w : World) : Prop := ∃ a cs vs, fr.get t = some (.pointer (some a)) ∧ Mem w a cs ∧ cs.length = m ∧ gets fr ts = some vs ∧ R (.tuple (.agg cs.toArray :: vs).toArray) w
theorem res_cellt {P : Program} {n : NN} {fn : Func} {a : Act} {t m : Nat} {ts : List Nat} {ty : TypeId} {d : TypeDesc} {R : Value → World → Prop} (hr : fn.results = (ResultVar.cell t ty :: ts.map ResultVar.tmp).toArray) (hts : ts.length = 1 ∨ ts.length = 2) (hT : P.underlying ty = some d) (hd : notAgg d = false) (hS : (P.info? ty).map (·.size) = some m)
  {fr : Fr} {w : World} (ha : Rep n a fr) (hD : CellT t m ts R fr w) : ∃ v, (results fn a.tmps).run P w = .ok v w ∧ R v w := by
 obtain ⟨p, cs, vs, hp, hm, hl, hg, hR⟩ := hD
 have h1 := run_loadVarA (P := P) hT hd (by rw [hl]; exact hS) hm
 have e := ha.get t _ hp
 have e2 := ha.gets hg
 refine ⟨_, ?_, hR⟩
 match ts, hts with
 | [u], _ =>
  simp at e2; subst e2
  simp [results, hr, e, asAddr, h1]
 | [u, x], _ =>
  simp at e2; subst e2
  simp [results, hr, e, asAddr, h1]
theorem calls_of_CWct {P : Program} {w : World} {f : FuncId} {fn : Func} {c : Code} {args : List Value} {R : Value → World → Prop} (m t k : Nat) (ts : List Nat) (fr0 : Fr) {ty : TypeId} {d : TypeDesc}
  (hf : P.funcs[f]? = some fn) (hb : fn.body = some c) (hm : fn.ntmps = m) (hr : fn.results = (ResultVar.cell t ty :: ts.map ResultVar.tmp).toArray) (hT : P.underlying ty = some d) (hd : notAgg d = false) (hS : (P.info? ty).map (·.size) = some k)
  (hsz : args.length ≤ m) (hargs : ∀ t v, fr0.get t = some v → args[t]? = some v)
  (h : CW P c (m, [], none) (DoneG (CellT t k ts R) (fun _ _ => False)) fr0 w) (hts : ts.length = 1 ∨ ts.length = 2 := by decide) : Calls P f args.toArray w (Ret R) :=
 (calls_of_CWG m _ fr0 hf hb hm (fun a fr w ha hD => res_cellt hr hts hT hd hS ha hD) hsz hargs h).mono fun e w' he => by
  cases e with
  | returned v => exact he
  | panicked ch => exact he.elim
  | outgrown => exact he.elim
theorem Chg.stepO {S T : Nat → Prop} {w w1 w2 : World} (h : Chg S w w1) (c : Chg T w1 w2) (hT : ∀ k, T k → S k ∨ w.heap.size ≤ k) : Chg S w w2 :=
 h.trans c fun i hi h => by rcases hT i h with h | h; exact h; omega
theorem add_zero' (g i : Nat) : (⟨g, 0, none⟩ : Addr).add i = ⟨g, i, none⟩ := by unfold Addr.add; split <;> simp_all
theorem Own.store {P : Program} {w : World} {e : TypeId} {k g n c : Nat} {pre old post new : List Value} (hown : Own w e k (.slice (some ⟨g, 0, none⟩) n c) (pre ++ old ++ post)) (hl : new.length = old.length) (h1 : ∀ u ∈ new, u.oneCell' = true) :
  ∃ w', (storeCells ⟨g, pre.length, none⟩ new).run P w = .ok () w' ∧ Chg (· = g) w w' ∧ Own w' e k (.slice (some ⟨g, 0, none⟩) n c) (pre ++ new ++ post) := by
 rcases hown with ⟨h, _⟩ | ⟨g', n', c', rest, fz, h, hh, hxl, hnc, hcm, hal, hfz⟩
 ·
  cases h
 ·
  injection h with h2 h3 h4
  injection h2 with h2
  injection h2 with h2
  subst h2; subst h3; subst h4
  have hst := storeCells_own (P := P) g pre.length e fz new 0 (pre ++ old ++ post ++ rest).toArray w hh (by simp; omega) h1 (fun p hp => hfz p (by simp at hp; simp at hal; omega))
  have heq : ((pre ++ old ++ post ++ rest).toArray.toList.take (pre.length + 0) ++ new ++ (pre ++ old ++ post ++ rest).toArray.toList.drop (pre.length + 0 + new.length)).toArray = (pre ++ new ++ post ++ rest).toArray := by
   congr 1
   rw [List.toList_toArray, Nat.add_zero, List.append_assoc pre old post, List.append_assoc pre (old ++ post) rest, List.take_left, hl, ← List.append_assoc pre (old ++ post) rest, ← List.append_assoc pre old post, List.append_assoc (pre ++ old) post rest]
   rw [show pre.length + old.length = (pre ++ old).length by simp, List.drop_left]
   simp only [List.append_assoc]
  rw [heq] at hst
  refine ⟨_, hst, ⟨rfl, rfl, rfl, by simp, fun b hb hn => setRow_other w g b _ hn, Nat.le_refl _⟩, .inr ⟨g, n, c, rest, fz, rfl, setRow_heap w g _ _ e fz hh, ?_, hnc, hcm, ?_, hfz⟩⟩
  ·
   rw [← hxl]; simp [hl]
  ·
   rw [← hal]; simp [hl]
theorem WL.storeO {P : Program} {n : NN} {Φ : Exit → Fr → World → Prop} {fr : Fr} {w : World} {ops : Array Oper} {rest : List Oper} {t e : TypeId} {x y : Operand} {ty : TypeId} {pos : String} {aft : Array Edge} {v : Value} {g k m c : Nat} {pre old post new : List Value} {A : Addr}
  (hx : ev fr x = some (.pointer (some A))) (hA : A = ⟨g, pre.length, none⟩) (hy : ev fr y = some v) (hv : v.cells = new.toArray) (hS : (P.info? t).map (·.size) = some new.length)
  (hown : Own w e k (.slice (some ⟨g, 0, none⟩) m c) (pre ++ old ++ post)) (hl : new.length = old.length) (h1 : ∀ u ∈ new, u.oneCell' = true)
  (h : ∀ w', Chg (· = g) w w' → Own w' e k (.slice (some ⟨g, 0, none⟩) m c) (pre ++ new ++ post) → WL P ops n Φ rest fr w') :
  WL P ops n Φ (⟨none, .store t x y, ty, pos, aft, none⟩ :: rest) fr w := fun a ha =>
 wpList_plain rfl fun K hK => by
  obtain ⟨w', hst, hc, hb'⟩ := hown.store (P := P) hl h1
  have hrun : (execOp a.eval ⟨none, .store t x y, ty, pos, aft, none⟩).run P w = .ok .skip w' := by
   simp [execOp, ha.ev hx, ha.ev hy, Instr.storeAt, Instr.sureAddr, storeVar, fw_sizeOf hS, hv, hA, hst]
  unfold Oper.wp
  rw [hrun]
  exact hK _ _ (h w' hc hb' _ ha)
theorem Sl.chg {α : Type} {T : Nat → Prop} {w w' : World} {enc : α → List Value} {k : Nat} {v : Value} {xs : List α} (h : Sl w enc k v xs) (hc : Chg T w w') (hs : ∀ b, v.ownBlock = some b → ¬ T b) : Sl w' enc k v xs := by
 obtain ⟨A, m, c, rfl, hl, hmc, hcm, hx⟩ := h
 refine ⟨A, m, c, rfl, hl, hmc, hcm, fun i x hi => ?_⟩
 obtain ⟨a, rfl, hm⟩ := hx i x hi
 exact ⟨a, rfl, hm.chg hc (by rw [block_add]; exact hs _ rfl)⟩
theorem Own.head {w : World} {e : TypeId} {k : Nat} {A : Option Addr} {n c : Nat} {xs : List Value} (h : Own w e k (.slice A n c) xs) (h0 : xs ≠ []) : ∃ g, A = some ⟨g, 0, none⟩ ∧ g < w.heap.size := by
 rcases h with ⟨_, h⟩ | ⟨g, n', c', rest, fz, h, hh, _⟩
 ·
  exact absurd h h0
 ·
  injection h with h1 _ _
  exact ⟨g, h1, (Array.getElem?_eq_some_iff.1 hh).1⟩
section
variable {P : Program} {n : NN} {fr : Fr} {w : World} {ty : TypeId}
theorem Y.slice_lo {x lo : Operand} {t e ty : TypeId} {A : Option Addr} {m c k i : Nat} {ki : IntKind} {z : Int} (hT : P.underlying t = some (.slice e)) (hx : ev fr x = some (.slice A m c)) (hlo : ev fr lo = some (.int ki z))
  (hS : (P.info? e).map (·.size) = some k) (hz : z = (i : Int)) (h1 : i ≤ m) : Yw P n fr (.slice t x (some lo) none none) ty w (.slice (if c = i then A else A.map fun a => a.add (i * k)) (m - i) (c - i)) w := fun b o' ho _ ha => by
 subst hz
 have e2 : (0 : Int) ≤ (i : Int) := by omega
 simp [execOp, ho, ha.ev hx, ha.ev hlo, Instr.sliceAt, Instr.slice, run_underlying hT, Instr.sliceBounds, Instr.sliceBound, asIntOf, e2, h1, fw_sizeOf hS]
theorem flat_take {α : Type} {enc : α → List Value} {k : Nat} (he : ∀ x, (enc x).length = k) : ∀ (xs : List α) (j : Nat), (xs.map enc).flatten.take (j * k) = ((xs.take j).map enc).flatten
 | [], j => by simp
 | x :: xs, 0 => by simp
 | x :: xs, j + 1 => by
  simp only [List.map_cons, List.flatten_cons, List.take_succ_cons]
  rw [Nat.succ_mul, Nat.add_comm (j * k) k, List.take_append, he, Nat.add_sub_cancel_left, flat_take he xs j, List.take_of_length_le (by rw [he]; omega)]
theorem flat_drop {α : Type} {enc : α → List Value} {k : Nat} (he : ∀ x, (enc x).length = k) : ∀ (xs : List α) (j : Nat), (xs.map enc).flatten.drop (j * k) = ((xs.drop j).map enc).flatten
 | [], j => by simp
 | x :: xs, 0 => by simp
 | x :: xs, j + 1 => by
  simp only [List.map_cons, List.flatten_cons, List.drop_succ_cons]
  rw [Nat.succ_mul, Nat.add_comm (j * k) k, List.drop_append, he, Nat.add_sub_cancel_left, flat_drop he xs j, List.drop_of_length_le (by rw [he]; omega), List.nil_append]
theorem Mem.take {a : Addr} {cs : List Value} (h : Mem w a cs) (j : Nat) : Mem w a (cs.take j) := fun i v hv => h i v (by rw [List.getElem?_take] at hv; split at hv; exact hv; cases hv)
theorem Mem.drop {a : Addr} {cs : List Value} (h : Mem w a cs) (j : Nat) : Mem w (a.add j) (cs.drop j) := h.sub j fun i v hv => by rw [List.getElem?_drop] at hv; exact hv
theorem Own.srcTake {α : Type} {enc : α → List Value} {k : Nat} {e : TypeId} (he : ∀ x, (enc x).length = k) (hk : 0 < k) {A : Option Addr} {m c : Nat} {xs : List α} (h : Own w e k (.slice A m c) ((xs.map enc).flatten)) {j : Nat} (hj : j ≤ xs.length) : Src P w k (.slice A j c) j (((xs.take j).map enc).flatten) := by
 obtain ⟨hA, _, hl, _, _⟩ := h.mem A m c rfl
 rw [flat_length he] at hl
 have hlm : xs.length = m := Nat.eq_of_mul_eq_mul_right hk hl
 refine Src.slice (by rw [flat_length he, List.length_take]; congr 1; omega) fun h0 => ?_
 obtain ⟨a, rfl, hm⟩ := hA om_
 exact ⟨a, rfl, by rw [← flat_take he]; exact hm.take _⟩
theorem Own.srcDrop {α : Type} {enc : α → List Value} {k : Nat} {e : TypeId} (he : ∀ x, (enc x).length = k) (hk : 0 < k) {A : Option Addr} {m c : Nat} {xs : List α} (h : Own w e k (.slice A m c) ((xs.map enc).flatten)) {j : Nat} (hj : j ≤ xs.length) :
  Src P w k (.slice (if c = j then A else A.map fun a => a.add (j * k)) (m - j) (c - j)) (m - j) (((xs.drop j).map enc).flatten) := by
 obtain ⟨hA, _, hl, hmc, _⟩ := h.mem A m c rfl
 rw [flat_length he] at hl
 have hlm : xs.length = m := Nat.eq_of_mul_eq_mul_right hk hl
 refine Src.slice (by rw [flat_length he, List.length_drop]; congr 1; omega) fun h0 => ?_
 obtain ⟨a, rfl, hm⟩ := hA om_
 rw [if_neg om_]
 exact ⟨_, rfl, by rw [← flat_drop he]; exact hm.drop _⟩
theorem Own.len {α : Type} {enc : α → List Value} {k : Nat} {e : TypeId} (he : ∀ x, (enc x).length = k) (hk : 0 < k) {A : Option Addr} {m c : Nat} {xs : List α} (h : Own w e k (.slice A m c) ((xs.map enc).flatten)) : xs.length = m ∧ m ≤ c ∧ c ≤ maxLen := by
 obtain ⟨_, _, hl, hmc, hcm⟩ := h.mem A m c rfl
 rw [flat_length he] at hl
 exact ⟨Nat.eq_of_mul_eq_mul_right hk hl, hmc, hcm⟩
end
end Go.Fw
/- What follows of the plain law of reading. No condition. -/
namespace Go.Pl
open Go.Fw
def Nz {α : Type} (f : Rdg α) : Prop := ∀ bs at_ e, f bs at_ = .error e → e ≠ 0
theorem Nz.bind {α β : Type} {f : Rdg α} {h : α → Rdg β} (h1 : Nz f) (h2 : ∀ x, Nz (h x)) : Nz (gbind f h) := fun bs at_ e he => by
 unfold gbind at he
 split at he
 ·
  rename_i e' he'
  injection he with he; subst he
  exact h1 _ _ _ he'
 ·
  exact h2 _ _ _ _ he
theorem Nz.pure {α : Type} {x : α} : Nz (fun _ at_ => .ok (x, at_)) := fun _ _ _ h => by cases h
theorem Nz.ite {α : Type} {f g : Rdg α} {c : Prop} [Decidable c] (h : Nz f) (k : Nz g) : Nz (fun bs at_ => if c then f bs at_ else g bs at_) := fun bs at_ e he => by
 by_cases hc : c
 ·
  simp only [hc, if_true] at he; exact h _ _ _ he
 ·
  simp only [hc, if_false] at he; exact k _ _ _ he
theorem Nz.guard {α : Type} {f : Rdg α} {c : Prop} [Decidable c] {k : Int} (hk : k ≠ 0) (h : Nz f) : Nz (fun bs at_ => if c then .error k else f bs at_) := fun bs at_ e he => by
 by_cases hc : c
 ·
  simp only [hc, if_true] at he; injection he with he; subst he; exact hk
 ·
  simp only [hc, if_false] at he; exact h _ _ _ he
theorem nz_num : Nz gnum := fun _ _ _ h => gnum_err h
theorem nz_text : Nz gtext := fun _ _ _ h => gtext_err h
theorem nz_dig : Nz gdig := fun bs at_ e h => by
 unfold gdig at h
 split at h
 ·
  cases h
 ·
  injection h with h; omega
theorem nz_byte : Nz gbyte := fun bs at_ e h => by
 unfold gbyte at h
 split at h
 ·
  cases h
 ·
  injection h with h; omega
theorem nz_op : Nz gop := by
 rw [gop_eq]
 exact nz_num.bind fun n => Nz.guard de_ ((Nz.ite nz_dig Nz.pure).bind fun d => (Nz.ite (nz_num.bind fun k => Nz.guard de_ Nz.pure) Nz.pure).bind fun k => (Nz.ite nz_byte Nz.pure).bind fun b => Nz.pure)
theorem nz_many {α : Type} {f : Rdg α} (h : Nz f) : ∀ k, Nz (fun bs at_ => gmany f bs k at_)
 | 0 => Nz.pure
 | k + 1 => by rw [gmany_succ]; exact h.bind fun x => (nz_many h k).bind fun xs => Nz.pure
theorem nz_com : Nz gcomR :=
 nz_num.bind fun n => Nz.guard de_ ((nz_many nz_dig n).bind fun ps => nz_text.bind fun au => nz_text.bind fun no => nz_num.bind fun m => Nz.guard de_ ((nz_many nz_op m).bind fun ops => Nz.pure))
theorem decI_err {b : List UInt8} {e : Int} (h : decI b = .error e) : e ≠ 0 := by
 unfold decI at h
 rw [gcom_eq] at h
 split at h
 ·
  rename_i e' he
  injection h with h; subst h
  exact nz_com _ _ _ he
 ·
  split at h
  ·
   injection h with h; omega
  ·
   split at h
   ·
    rename_i hm; injection h with h; subst h; exact hm
   ·
    cases h
end Go.Pl
namespace Go.Proofs.YtfanmpbapabboaaGreatDoor
open Go.RowKit Go.Fw Go.Pl
theorem dec_ok {b : List UInt8} (h : decE b = 0) : mayI (decC b) = 0 ∧ comB (decC b) = b := by
 unfold decE at h
 split at h
 ·
  omega
 rename_i hl
 split at h
 ·
  rename_i e he; exact absurd h (decI_err he)
 ·
  rename_i c hc
  have : decC b = c := by rw [decC, if_neg hl, hc]
  rw [this]
  exact dec_just hc
end Go.Proofs.YtfanmpbapabboaaGreatDoor
/- Words of 32 bits: their arithmetic as the model's, as rules. No condition; no program. -/
namespace Go.Fw
open Go.RowKit
def wd (x : UInt32) : Value := .int .u32 (x.toNat : Int)
theorem wrap32 (n : Nat) : IntKind.u32.wrap (n : Int) = ((n % 4294967296 : Nat) : Int) := by simp [IntKind.wrap, IntKind.bits, IntKind.signed]
theorem wrap8 (n : Nat) : IntKind.u8.wrap (n : Int) = ((n % 256 : Nat) : Int) := by simp [IntKind.wrap, IntKind.bits, IntKind.signed]
theorem wrap64 (n : Nat) : IntKind.u64.wrap (n : Int) = ((n % 18446744073709551616 : Nat) : Int) := by simp [IntKind.wrap, IntKind.bits, IntKind.signed]
theorem ofInt32 (x : UInt32) : BitVec.ofInt 32 (x.toNat : Int) = x.toBitVec := by
 rw [BitVec.ofInt_natCast]
 apply BitVec.eq_of_toNat_eq
 simp
theorem w_add (x y : UInt32) : IntKind.u32.wrap ((x.toNat : Int) + (y.toNat : Int)) = ((x + y).toNat : Int) := by
 rw [← Int.natCast_add, wrap32, UInt32.toNat_add]
theorem w_or (x y : UInt32) : IntKind.u32.wrap ((BitVec.ofInt IntKind.u32.bits (x.toNat : Int) ||| BitVec.ofInt IntKind.u32.bits (y.toNat : Int)).toNat : Int) = ((x ||| y).toNat : Int) := by
 show IntKind.u32.wrap ((BitVec.ofInt 32 (x.toNat : Int) ||| BitVec.ofInt 32 (y.toNat : Int)).toNat : Int) = _
 rw [ofInt32, ofInt32, wrap32, ← UInt32.toBitVec_or, UInt32.toNat_toBitVec, Nat.mod_eq_of_lt (UInt32.toNat_lt _)]
theorem w_and (x y : UInt32) : IntKind.u32.wrap ((BitVec.ofInt IntKind.u32.bits (x.toNat : Int) &&& BitVec.ofInt IntKind.u32.bits (y.toNat : Int)).toNat : Int) = ((x &&& y).toNat : Int) := by
 show IntKind.u32.wrap ((BitVec.ofInt 32 (x.toNat : Int) &&& BitVec.ofInt 32 (y.toNat : Int)).toNat : Int) = _
 rw [ofInt32, ofInt32, wrap32, ← UInt32.toBitVec_and, UInt32.toNat_toBitVec, Nat.mod_eq_of_lt (UInt32.toNat_lt _)]
theorem w_xor (x y : UInt32) : IntKind.u32.wrap ((BitVec.ofInt IntKind.u32.bits (x.toNat : Int) ^^^ BitVec.ofInt IntKind.u32.bits (y.toNat : Int)).toNat : Int) = ((x ^^^ y).toNat : Int) := by
 show IntKind.u32.wrap ((BitVec.ofInt 32 (x.toNat : Int) ^^^ BitVec.ofInt 32 (y.toNat : Int)).toNat : Int) = _
 rw [ofInt32, ofInt32, wrap32, ← UInt32.toBitVec_xor, UInt32.toNat_toBitVec, Nat.mod_eq_of_lt (UInt32.toNat_lt _)]
theorem w_shl (x : UInt32) {n : Nat} (h : n < 32) : IntKind.u32.wrap ((x.toNat : Int) * 2 ^ (min n IntKind.u32.bits)) = ((x <<< UInt32.ofNat n).toNat : Int) := by
 have e : min n IntKind.u32.bits = n := Nat.min_eq_left (by show n ≤ 32; omega)
 have e2 : ((2 : Int) ^ n) = ((2 ^ n : Nat) : Int) := by simp
 rw [e, e2, ← Int.natCast_mul, wrap32, UInt32.toNat_shiftLeft, Nat.shiftLeft_eq]
 rw [show (UInt32.ofNat n).toNat % 32 = n by rw [UInt32.toNat_ofNat']; omega]
theorem w_shr (x : UInt32) {n : Nat} (h : n < 32) : (x.toNat : Int).fdiv (2 ^ (min n IntKind.u32.bits)) = ((x >>> UInt32.ofNat n).toNat : Int) := by
 have e : min n IntKind.u32.bits = n := Nat.min_eq_left (by show n ≤ 32; omega)
 have e2 : ((2 : Int) ^ n) = ((2 ^ n : Nat) : Int) := by simp
 rw [e, e2, Int.fdiv_eq_ediv_of_nonneg _ (Int.natCast_nonneg _), ← Int.natCast_ediv, UInt32.toNat_shiftRight, Nat.shiftRight_eq_div_pow]
 rw [show (UInt32.ofNat n).toNat % 32 = n by rw [UInt32.toNat_ofNat']; omega]
theorem w_of8 (b : UInt8) : IntKind.u32.wrap (b.toNat : Int) = ((b.toUInt32).toNat : Int) := by
 rw [wrap32, UInt8.toNat_toUInt32, Nat.mod_eq_of_lt (by have := b.toNat_lt; omega)]
theorem w_to8 (x : UInt32) : IntKind.u8.wrap (x.toNat : Int) = ((x.toUInt8).toNat : Int) := by
 rw [wrap8, UInt32.toNat_toUInt8]
section
variable {P : Program} {n : NN} {fr : Fr} {w : World} {ty : TypeId} {x y : Operand} {p q : UInt32} {t t' : TypeId}
theorem Y.addW (hx : ev fr x = some (wd p)) (hy : ev fr y = some (wd q)) : Yw P n fr (.binOp .add t x y t') ty w (wd (p + q)) w := by
 have := Y.add_k (P := P) (n := n) (w := w) (ty := ty) (t := t) (t' := t') hx hy
 rw [w_add] at this; exact this
theorem w_mul (x y : UInt32) : IntKind.u32.wrap ((x.toNat : Int) * (y.toNat : Int)) = ((x * y).toNat : Int) := by
 rw [← Int.natCast_mul, wrap32, UInt32.toNat_mul]
theorem Y.mulW (hx : ev fr x = some (wd p)) (hy : ev fr y = some (wd q)) : Yw P n fr (.binOp .mul t x y t') ty w (wd (p * q)) w := by
 have := Y.mul_k (P := P) (n := n) (w := w) (ty := ty) (t := t) (t' := t') hx hy
 rw [w_mul] at this; exact this
theorem Y.convNW {m : Nat} {k : IntKind} {s d : TypeId} {ds : TypeDesc} (hs : P.underlying s = some ds) (hd : P.underlying d = some (.int .u32)) (hx : ev fr x = some (.int k (m : Int))) : Yw P n fr (.convert s d x) ty w (wd (UInt32.ofNat m)) w := by
 have := Y.conv_int (P := P) (n := n) (w := w) (ty := ty) hs hd hx
 rw [wrap32, ← UInt32.toNat_ofNat'] at this; exact this
theorem Y.orW (hx : ev fr x = some (wd p)) (hy : ev fr y = some (wd q)) : Yw P n fr (.binOp .or t x y t') ty w (wd (p ||| q)) w := Y.or_k hx hy (w_or p q)
theorem Y.andW (hx : ev fr x = some (wd p)) (hy : ev fr y = some (wd q)) : Yw P n fr (.binOp .and t x y t') ty w (wd (p &&& q)) w :=
 Y.bin hx hy (by simp [wd, eqGuard_at_int]) (by
  have e : binOp .and t (wd p) (wd q) = pure (wd (p &&& q)) := by simp only [wd, binOp, ne_eq, not_true_eq_false, if_false, Op.intBits, w_and]
  rw [e]; rfl)
theorem Y.xorW (hx : ev fr x = some (wd p)) (hy : ev fr y = some (wd q)) : Yw P n fr (.binOp .xor t x y t') ty w (wd (p ^^^ q)) w :=
 Y.bin hx hy (by simp [wd, eqGuard_at_int]) (by
  have e : binOp .xor t (wd p) (wd q) = pure (wd (p ^^^ q)) := by simp only [wd, binOp, ne_eq, not_true_eq_false, if_false, Op.intBits, w_xor]
  rw [e]; rfl)
theorem Y.shlW (m : Nat) {k' : IntKind} {z : Int} (hx : ev fr x = some (wd p)) (hy : ev fr y = some (.int k' z)) (hz : z = (m : Int)) (hm : m < 32) : Yw P n fr (.binOp .shl t x y t') ty w (wd (p <<< UInt32.ofNat m)) w := by
 subst hz; exact Y.shl hx hy om_ (w_shl p hm)
theorem Y.shrW (m : Nat) {k' : IntKind} {z : Int} (hx : ev fr x = some (wd p)) (hy : ev fr y = some (.int k' z)) (hz : z = (m : Int)) (hm : m < 32) : Yw P n fr (.binOp .shr t x y t') ty w (wd (p >>> UInt32.ofNat m)) w := by
 subst hz; exact Y.shr hx hy om_ (w_shr p hm)
theorem Y.conv8W {b : UInt8} {s d : TypeId} {ds : TypeDesc} (hs : P.underlying s = some ds) (hd : P.underlying d = some (.int .u32)) (hx : ev fr x = some (.int .u8 (b.toNat : Int))) : Yw P n fr (.convert s d x) ty w (wd b.toUInt32) w := by
 have := Y.conv_int (P := P) (n := n) (w := w) (ty := ty) hs hd hx
 rw [w_of8] at this; exact this
theorem Y.convW8 {s d : TypeId} {ds : TypeDesc} (hs : P.underlying s = some ds) (hd : P.underlying d = some (.int .u8)) (hx : ev fr x = some (wd p)) : Yw P n fr (.convert s d x) ty w (.int .u8 (p.toUInt8.toNat : Int)) w := by
 have := Y.conv_int (P := P) (n := n) (w := w) (ty := ty) hs hd hx
 rw [w_to8] at this; exact this
theorem Y.notW (hx : ev fr x = some (wd p)) : Yw P n fr (.unOp .xor t x) ty w (wd (~~~p)) w := fun a o' ho _ ha => by
 have e := w_xor 4294967295 p
 have e2 : (4294967295 : UInt32) ^^^ p = ~~~p := by
  apply UInt32.toBitVec_inj.1
  simp only [UInt32.toBitVec_xor, UInt32.toBitVec_not]
  rw [show (4294967295 : UInt32).toBitVec = BitVec.allOnes 32 from rfl, BitVec.allOnes_xor]
 rw [e2] at e
 have e3 : Op.unary .xor (wd p) = pure (wd (~~~p)) := by
  show Op.intBits .xor .u32 4294967295 (p.toNat : Int) = _
  rw [show (4294967295 : Int) = (((4294967295 : UInt32).toNat : Nat) : Int) from rfl]
  simp only [Op.intBits, e]
  rfl
 simp [execOp, ho, ha.ev hx, e3]
theorem Y.neg {z : Int} {k : IntKind} (hx : ev fr x = some (.int k z)) : Yw P n fr (.unOp .neg t x) ty w (.int k (k.wrap (0 - z))) w := fun a o' ho _ ha => by
 simp [execOp, ho, ha.ev hx, Op.unary, Op.intArith]
end
end Go.Fw
namespace Go.Fw
open Go.RowKit
abbrev wds (l : List UInt32) : List Value := l.map wd
theorem wds_one {l : List UInt32} : ∀ u ∈ wds l, u.oneCell' = true := by
 intro u hu
 obtain ⟨x, _, rfl⟩ := List.mem_map.1 hu
 rfl
theorem Mem.wd {w : World} {a : Addr} {l : List UInt32} (h : Mem w a (wds l)) {i : Nat} {x : UInt32} (hx : l[i]? = some x) : w.cell? (a.add (i * 1)) = some (wd x) := by
 rw [Nat.mul_one]; exact h i _ (by rw [List.getElem?_map, hx]; rfl)
theorem Mem.bt {w : World} {a : Addr} {l : List UInt8} (h : Mem w a (bytesC l)) {i : Nat} (hi : i < l.length) : w.cell? (a.add (i * 1)) = some (.int .u8 ((l.getD i 0).toNat : Int)) := by
 rw [Nat.mul_one]; exact h i _ (by rw [List.getD_eq_getElem?_getD, List.getElem?_eq_getElem hi]; exact bytesC_get (List.getElem?_eq_getElem hi))
section
variable {P : Program} {n : NN} {fr : Fr} {w : World} {ty : TypeId}
theorem Y.slice_arr_lo {x lo : Operand} {t e : TypeId} {m k i : Nat} {ki : IntKind} {z : Int} {a : Addr} (hT : P.underlying t = some (.array m e)) (hx : ev fr x = some (.pointer (some a))) (hlo : ev fr lo = some (.int ki z)) (hS : (P.info? e).map (·.size) = some k) (hz : z = (i : Int)) (h1 : i < m) :
  Yw P n fr (.slice t x (some lo) none none) ty w (.slice (some (a.add (i * k))) (m - i) (m - i)) w := fun b o' ho _ ha => by
 subst hz
 have e2 : (0 : Int) ≤ (i : Int) := by omega
 have e3 : ¬ m = i := by omega
 simp [execOp, ho, ha.ev hx, ha.ev hlo, Instr.sliceAt, Instr.sureAddr, run_underlying hT, Instr.sliceBounds, Instr.sliceBound, asIntOf, e2, Nat.le_of_lt h1, fw_sizeOf hS, e3]
theorem Y.slice_arr_hi {x hi : Operand} {t e : TypeId} {m k j : Nat} {ki : IntKind} {z : Int} {a : Addr} (hT : P.underlying t = some (.array m e)) (hx : ev fr x = some (.pointer (some a))) (hhi : ev fr hi = some (.int ki z)) (hS : (P.info? e).map (·.size) = some k) (hz : z = (j : Int)) (h1 : j ≤ m) (h0 : 0 < m) :
  Yw P n fr (.slice t x none (some hi) none) ty w (.slice (some a) j m) w := fun b o' ho _ ha => by
 subst hz
 have e2 : (0 : Int) ≤ (j : Int) := by omega
 have e3 : ¬ m = 0 := by omega
 simp [execOp, ho, ha.ev hx, ha.ev hhi, Instr.sliceAt, Instr.sureAddr, run_underlying hT, Instr.sliceBounds, Instr.sliceBound, asIntOf, e2, h1, fw_sizeOf hS, Addr.add]
theorem St.copy {d s : Operand} {t t' e e' : TypeId} {g m j cd cs : Nat} {A D : Addr} {pre old post news : List Value}
  (hT : P.underlying t = some (.slice e)) (hS : (P.info? e).map (·.size) = some 1) (hd : ev fr d = some (.slice (some D) m cd)) (hD : D = ⟨g, pre.length, none⟩) (hs : ev fr s = some (.slice (some A) j cs))
  (hm : Mem w A news) (hl : news.length = min j m) (hb : Blk w g e' (pre ++ old ++ post)) (hlo : news.length = old.length) (h1 : ∀ u ∈ news, u.oneCell' = true) :
  St P n fr (.call { callee := .builtin .copy, args := #[d, s], argTypes := #[t, t'] }) ty w (fun v w' => v = .int .i64 ((min j m : Nat) : Int) ∧ Chg (· = g) w w' ∧ Blk w' g e' (pre ++ news ++ post)) := fun a o' ho hty ha => by
 obtain ⟨w', hst, hc, hb'⟩ := run_storeCells_blk (P := P) hb hlo h1
 have hld := run_loadCells_list (P := P) w A news hm
 refine ⟨_, w', ?_, rfl, hc, hb'⟩
 subst hD
 rw [hl] at hld
 have e1 : (Builtin.copy_ #[t, t'] o'.type #[.slice (some ⟨g, pre.length, none⟩) m cd, .slice (some A) j cs]).run P w = .ok (.int .i64 ((min j m : Nat) : Int)) w' := by
  simp [Builtin.copy_, run_underlying hT, fw_sizeOf hS, Builtin.lenOf, Builtin.firstCells, hld, hst, goInt]
 simp [execOp, ho, resolve, invoke, builtin, ha.ev hd, ha.ev hs, e1]
end
end Go.Fw
/- SHA-256 as plain Lean: words, schedule, rounds. No condition; no program. -/
namespace Go.Pl
open Go.Fw
def rotr (x : UInt32) (n : Nat) : UInt32 := x >>> UInt32.ofNat n ||| x <<< UInt32.ofNat (32 - n)
def sg0 (x : UInt32) : UInt32 := (rotr x 7 ^^^ rotr x 18) ^^^ x >>> UInt32.ofNat 3
def sg1 (x : UInt32) : UInt32 := (rotr x 17 ^^^ rotr x 19) ^^^ x >>> UInt32.ofNat 10
def wordB (b : List UInt8) (i : Nat) : UInt32 := (((b.getD (4 * i) 0).toUInt32 <<< UInt32.ofNat 24 ||| (b.getD (4 * i + 1) 0).toUInt32 <<< UInt32.ofNat 16) ||| (b.getD (4 * i + 2) 0).toUInt32 <<< UInt32.ofNat 8) ||| (b.getD (4 * i + 3) 0).toUInt32
def nextW (ws : List UInt32) : UInt32 := ws.getD (ws.length - 16) 0 + sg0 (ws.getD (ws.length - 15) 0) + ws.getD (ws.length - 7) 0 + sg1 (ws.getD (ws.length - 2) 0)
def schedN (b : List UInt8) : Nat → List UInt32
 | 0 => []
 | n + 1 => schedN b n ++ [if n < 16 then wordB b n else nextW (schedN b n)]
theorem schedN_length (b : List UInt8) : ∀ n, (schedN b n).length = n
 | 0 => rfl
 | n + 1 => by rw [schedN, List.length_append, schedN_length b n]; rfl
def nextAt (b : List UInt8) (x : Nat) : UInt32 := (schedN b x).getD (x - 16) 0 + sg0 ((schedN b x).getD (x - 15) 0) + (schedN b x).getD (x - 7) 0 + sg1 ((schedN b x).getD (x - 2) 0)
theorem sched_lo (b : List UInt8) {x : Nat} (h : x < 16) : schedN b (x + 1) = schedN b x ++ [wordB b x] := by rw [schedN, if_pos h]
theorem sched_hi (b : List UInt8) {x : Nat} (h : 16 ≤ x) : schedN b (x + 1) = schedN b x ++ [nextAt b x] := by rw [schedN, if_neg om_, nextW, schedN_length]; rfl
theorem repl_split {x : Nat} (h : x < 64) (l : List UInt32) : l ++ List.replicate (64 - x) 0 = l ++ 0 :: List.replicate (63 - x) 0 := by rw [show 64 - x = (63 - x) + 1 by omega, List.replicate_succ]
theorem sched_get {b : List UInt8} {x j : Nat} (h : j < x) : (schedN b x)[j]? = some ((schedN b x).getD j 0) := by
 rw [List.getD_eq_getElem?_getD, List.getElem?_eq_getElem (by rw [schedN_length]; exact h)]; rfl
theorem sched_get2 {b : List UInt8} {x j : Nat} {r : List UInt32} (h : j < x) : (schedN b x ++ r)[j]? = some ((schedN b x).getD j 0) := by
 rw [List.getElem?_append_left (by rw [schedN_length]; exact h), sched_get h]
structure V8 where
 a : UInt32
 b : UInt32
 c : UInt32
 d : UInt32
 e : UInt32
 f : UInt32
 g : UInt32
 h : UInt32
 deriving DecidableEq
def V8.ws (v : V8) : List UInt32 := [v.a, v.b, v.c, v.d, v.e, v.f, v.g, v.h]
def V8.add (v s : V8) : V8 := ⟨v.a + s.a, v.b + s.b, v.c + s.c, v.d + s.d, v.e + s.e, v.f + s.f, v.g + s.g, v.h + s.h⟩
def rT (v : V8) (k w : UInt32) : UInt32 := v.h + ((rotr v.e 6 ^^^ rotr v.e 11) ^^^ rotr v.e 25) + ((v.e &&& v.f) ^^^ (~~~v.e &&& v.g)) + k + w
def rU (v : V8) : UInt32 := ((rotr v.a 2 ^^^ rotr v.a 13) ^^^ rotr v.a 22) + (((v.a &&& v.b) ^^^ (v.a &&& v.c)) ^^^ (v.b &&& v.c))
def rnd (v : V8) (k w : UInt32) : V8 := ⟨rT v k w + rU v, v.a, v.b, v.c, v.d + rT v k w, v.e, v.f, v.g⟩
def keysL : List UInt32 := [1116352408, 1899447441, 3049323471, 3921009573, 961987163, 1508970993, 2453635748, 2870763221, 3624381080, 310598401, 607225278, 1426881987, 1925078388, 2162078206, 2614888103, 3248222580, 3835390401, 4022224774, 264347078, 604807628, 770255983, 1249150122, 1555081692, 1996064986, 2554220882, 2821834349, 2952996808, 3210313671, 3336571891, 3584528711, 113926993, 338241895, 666307205, 773529912, 1294757372, 1396182291, 1695183700, 1986661051, 2177026350, 2456956037, 2730485921, 2820302411, 3259730800, 3345764771, 3516065817, 3600352804, 4094571909, 275423344, 430227734, 506948616, 659060556, 883997877, 958139571, 1322822218, 1537002063, 1747873779, 1955562222, 2024104815, 2227730452, 2361852424, 2428436474, 2756734187, 3204031479, 3329325298]
def rounds (ws : List UInt32) : Nat → V8 → V8
 | 0, v => v
 | n + 1, v => rnd (rounds ws n v) (keysL.getD n 0) (ws.getD n 0)
def mixV (s : V8) (b : List UInt8) : V8 := (rounds (schedN b 64) 64 s).add s
def beginV : V8 := ⟨1779033703, 3144134277, 1013904242, 2773480762, 1359893119, 2600822924, 528734635, 1541459225⟩
def digN (c : UInt8) : Nat := if 48 ≤ c.toNat ∧ c.toNat ≤ 57 then c.toNat - 48 else if 97 ≤ c.toNat ∧ c.toNat ≤ 102 then c.toNat - 97 + 10 else 16
def wordL (l : List UInt8) (i : Nat) : Nat → UInt32
 | 0 => 0
 | k + 1 => 16 * wordL l i k + UInt32.ofNat (digN (l.getD (8 * i + k) 0))
theorem ws_get {v : V8} {j : Nat} (h : j < 8) : v.ws[j]? = some (v.ws.getD j 0) := by
 rw [List.getD_eq_getElem?_getD, List.getElem?_eq_getElem (by exact h)]; rfl
theorem keys_get {j : Nat} (h : j < 64) : keysL[j]? = some (keysL.getD j 0) := by
 rw [List.getD_eq_getElem?_getD, List.getElem?_eq_getElem (by exact h)]; rfl
end Go.Pl
/- From a contract to a row, for a law's function; what an argument of the api's types is. No condition; no program. -/
namespace Go.Fw
open Go.RowKit Go.WideShapes Go.ChangeShapes Go.ChangeAt Go.Deep
section
variable {H : Type} {enc : TypeId × Value → H} {P : Program}
theorem post_below {f : Func} {s : ChangeSpec} {apart fresh handsOn again : Bool} {W W' : World} {args : Array Value} {v : Value} {ds gs : List (DataW H)} {before pa pv : List MemPlace}
  (hW : DataW.Whole enc P f.params.toList s.vars apart W args.toList ds gs before)
  (hres : ∀ (b : Nat) (sp : Nat → Bool) (hd : Bool), DataW.TrodAll enc P W' b sp hd f.resultTypes.toList (v.resultList f.resultTypes.size) (s.fn H (ds ++ gs)).results [])
  (hargs : ∀ sp : Nat → Bool, (∀ p ∈ before, sp p.block = true) → DataW.TrodAll enc P W' 0 sp true f.params.toList args.toList (s.fn H (ds ++ gs)).args pa)
  (hvars : ∀ sp : Nat → Bool, (∀ p ∈ before, sp p.block = true) → DataW.TrodVars enc P W' sp s.vars (s.fn H (ds ++ gs)).vars pv)
  (hps : before = pa ++ pv) (hb : Below W.heap.size W W')
  (hok : ∀ (j : Nat) (t : TypeId) (r : Value), f.resultTypes[j]? = some t → (v.resultList f.resultTypes.size)[j]? = some r → Value.okWide P W' .any 0 t r) :
  s.post enc P f apart fresh handsOn again W args v W' := by
 have hlt : ∀ p ∈ before, p.block < W.heap.size := fun p hp => hW.lt p hp
 have hold : ∀ p ∈ before, (fun b => decide (b < W.heap.size)) p.block = true := fun p hp => by simpa using hlt p hp
 refine ⟨ds, gs, before, [], pa, pv, hW, hres _ _ _, hargs _ hold, hvars _ hold, World.keptBut_mono (fun p hp => ⟨hp, ?_⟩) (hb.frame (· ∈ before)), fun _ => ?_⟩
 ·
  rw [hps, List.mem_append] at hp
  exact Or.inr hp
 ·
  obtain ⟨_, _, _, _, _, hz, hn⟩ := hW
  refine ⟨hok, _, _, ([] ++ pa) ++ pv, ⟨[] ++ pa, pv, trodAll_append (hargs _ (fun _ _ => rfl)) (hres _ _ _), hvars _ (fun _ _ => rfl), rfl, ?_, ?_⟩, ?_⟩
  ·
   intro b off hp
   have hin : MemPlace.cell b off ∈ before := by rw [hps]; simpa using hp
   rw [hb.frozen (hlt _ hin)]
   exact hz b off hin
  ·
   intro ha
   have := hn ha
   rw [hps] at this
   simpa using this
  ·
   intro p hp _
   rw [hps]
   simpa using hp
theorem trodAll_below {W W' : World} (hl : laidOutB P = true) (hb : Below W.heap.size W W') {sp : Nat → Bool} : ∀ {ts : List TypeId} {vs : List Value} {ds : List (DataW H)} {ps : List MemPlace},
  (∀ t ∈ ts, P.readableRec t = true ∧ t < P.types.size) → DataW.TrodAll enc P W 0 (fun _ => true) true ts vs ds ps → (∀ p ∈ ps, p.block < W.heap.size) → (∀ p ∈ ps, sp p.block = true) → DataW.TrodAll enc P W' 0 sp true ts vs ds ps
 | [], vs, ds, ps, _, h, _, _ => by
  obtain ⟨rfl, rfl, rfl⟩ := trodAll_nil h
  rfl
 | t :: ts, vs, ds, ps, hr, h, hlt, hsp => by
  obtain ⟨v, vs', d, ds', p, q, rfl, rfl, rfl, h1, h2⟩ := trodAll_cons h
  refine ⟨p, q, ?_, ?_, rfl⟩
  ·
   have hp : ∀ x ∈ p, x.block < W.heap.size := fun x hx => hlt x (List.mem_append_left _ hx)
   exact WideElems.Trod_stays hl (hr t (by simp)).1 (hr t (by simp)).2 h1 (fun x hx => hb.same (hp x hx)) (fun x hx => hsp x (List.mem_append_left _ hx))
  ·
   exact trodAll_below hl hb (fun u hu => hr u (by simp [hu])) h2 (fun x hx => hlt x (List.mem_append_right _ hx)) (fun x hx => hsp x (List.mem_append_right _ hx))
end
end Go.Fw
/- What an argument of plain data is, by its type. No condition; no program. -/
namespace Go.Fw
open Go.RowKit Go.WideShapes Go.ChangeShapes Go.ChangeAt Go.Deep
def RdW (P : Program) (t : TypeId) (R : World → List Value → Prop) : Prop :=
 ∀ (H : Type) (e : TypeId × Value → H) (w : World) (base : Nat) (spare : Nat → Bool) (held : Bool) (fuel : Nat) (cs : List Value) (d : DataW H) (ps : List MemPlace),
  DataW.trod e P w base spare held fuel t cs = some (d, ps) → (∀ n ∈ d.weights P t, n ≤ reachBytes) → R w cs
section
variable {P : Program} {t e : TypeId} {R : World → List Value → Prop}
theorem RdW.mono {R' : World → List Value → Prop} (h : RdW P t R) (hr : ∀ w cs, R w cs → R' w cs) : RdW P t R' := fun H en w b sp hd fu cs d ps ht hw => hr _ _ (h H en w b sp hd fu cs d ps ht hw)
theorem u8_of {n : Int} (h : (Lit.int .u8 n).wf = true) : ∃ b : UInt8, Value.int .u8 n = bc b := by
 have h1 : IntKind.u8.min = 0 := rfl
 have h2 : IntKind.u8.max = 255 := rfl
 simp only [Lit.wf, Bool.and_eq_true, decide_eq_true_eq] at h
 refine ⟨UInt8.ofNat n.toNat, ?_⟩
 unfold bc
 congr 1
 rw [UInt8.toNat_ofNat', Nat.mod_eq_of_lt om_]
 omega
theorem RdW.u8 (ht : P.underlying t = some (.int .u8)) : RdW P t (fun _ cs => ∃ b, cs = [bc b]) := fun H en w bs sp hd fu cs d ps h _ => by
 obtain ⟨n, rfl, _, hn⟩ := DataW.trod_int ht h
 obtain ⟨b, hb⟩ := u8_of hn
 exact ⟨b, by rw [hb]⟩
theorem RdW.int (ht : P.underlying t = some (.int .i64)) : RdW P t (fun _ cs => ∃ i, cs = [.int .i64 i] ∧ InI64 i) := fun H en w bs sp hd fu cs d ps h _ => by
 obtain ⟨n, rfl, _, hn⟩ := DataW.trod_int ht h
 have h1 : IntKind.i64.min = -9223372036854775808 := rfl
 have h2 : IntKind.i64.max = 9223372036854775807 := rfl
 simp only [Lit.wf, Bool.and_eq_true, decide_eq_true_eq] at hn
 exact ⟨n, rfl, by omega, by omega⟩
theorem RdW.bool (ht : P.underlying t = some .bool) : RdW P t (fun _ cs => ∃ b, cs = [.bool b]) := fun H en w bs sp hd fu cs d ps h _ => by
 obtain ⟨b, rfl, _⟩ := DataW.trod_bool ht h
 exact ⟨b, rfl⟩
theorem RdW.string (ht : P.underlying t = some .string) : RdW P t (fun _ cs => ∃ s, cs = [.string s] ∧ s.size ≤ reachBytes) := fun H en w bs sp hd fu cs d ps h hw => by
 obtain ⟨s, rfl, hx, _⟩ := DataW.trod_string ht h
 injection hx with h1 h2
 subst h1
 have := hw s.data.toList.length (by simp [DataW.weights])
 exact ⟨s, rfl, by simpa using this⟩
theorem RdW.struct {fs : Array Field} (ht : P.underlying t = some (.struct fs)) (R : Nat → World → List Value → Prop) (hf : ∀ (i : Nat) (f : Field), fs[i]? = some f → RdW P f.type (R i)) :
  RdW P t (fun w cs => cs.length = P.cellsOf t ∧ ∀ (i : Nat) (f : Field), fs[i]? = some f → R i w ((cs.drop f.offset).take (P.cellsOf f.type))) := fun H en w bs sp hd fu cs d ps h hw => by
 obtain ⟨xs, n, _, hx, hl, hxl, hi⟩ := DataW.trod_struct ht h
 injection hx with h1 h2
 subst h1
 refine ⟨hl, fun i f hif => ?_⟩
 have h3 := hi i f hif
 have hlt : i < fs.size := (Array.getElem?_eq_some_iff.1 hif).1
 rw [List.getElem?_eq_getElem om_] at h3
 refine hf i f hif H en w bs sp hd n _ _ _ h3 fun k hk => hw k ?_
 rw [DataW.weights, ht]
 refine DataW.weights_mem_each (j := i) (t := f.type) (d := (xs[i]'om_).1) ?_ ?_ k hk
 ·
  simp [hif]
 ·
  simp [List.getElem?_eq_getElem (show i < xs.length by omega)]
theorem mem_weightsAll {H : Type} {e : TypeId} : ∀ {ds : List (DataW H)} {d : DataW H} {k : Nat}, d ∈ ds → k ∈ d.weights P e → k ∈ DataW.weightsAll P e ds
 | x :: ds, d, k, hd, hk => by
  simp only [DataW.weightsAll, List.mem_append]
  rcases List.mem_cons.1 hd with rfl | hd
  ·
   exact .inl hk
  ·
   exact .inr (mem_weightsAll hd hk)
theorem RdW.array1 {m : Nat} (ht : P.underlying t = some (.array m e)) (hc : P.cellsOf e = 1) (hct : P.cellsOf t = m) (he : RdW P e R) :
  RdW P t (fun w cs => cs.length = m ∧ ∀ (i : Nat) (v : Value), cs[i]? = some v → R w [v]) := fun H en w bs sp hd fu cs d ps h hw => by
 obtain ⟨xs, n, _, hx, hl, hxl, hi⟩ := DataW.trod_array ht h
 injection hx with h1 h2
 subst h1
 rw [hct] at hl
 refine ⟨hl, fun i v hv => ?_⟩
 have hlt : i < cs.length := (List.getElem?_eq_some_iff.1 hv).1
 have h3 := hi i om_
 rw [hc, Nat.mul_one, List.getElem?_eq_getElem om_] at h3
 have e1 : (cs.drop i).take 1 = [v] := by
  rw [List.drop_eq_getElem_cons hlt]
  have : cs[i] = v := (List.getElem?_eq_some_iff.1 hv).2
  simp [this]
 rw [e1] at h3
 refine he H en w bs sp hd n _ _ _ h3 fun k hk => hw k ?_
 rw [DataW.weights, ht]
 exact mem_weightsAll (List.mem_map.2 ⟨xs[i]'om_, List.getElem_mem _, rfl⟩) hk
theorem list_of {α : Type} {Q : Nat → α → Prop} : ∀ (m : Nat), (∀ i, i < m → ∃ a, Q i a) → ∃ xs : List α, xs.length = m ∧ ∀ i x, xs[i]? = some x → Q i x
 | 0, _ => ⟨[], rfl, fun i x h => by simp at h⟩
 | m + 1, h => by
  obtain ⟨xs, hl, hx⟩ := list_of m fun i hi => h i om_
  obtain ⟨a, ha⟩ := h m om_
  refine ⟨xs ++ [a], by simp [hl], fun i x hi => ?_⟩
  rcases Nat.lt_or_ge i m with hlt | hge
  ·
   rw [List.getElem?_append_left om_] at hi; exact hx i x hi
  ·
   rw [List.getElem?_append_right om_] at hi
   have h0 : i - xs.length = 0 := by
    rcases Nat.eq_zero_or_pos (i - xs.length) with h0 | h0
    ·
     exact h0
    ·
     rw [List.getElem?_eq_none (by simp; omega)] at hi; cases hi
   rw [h0] at hi
   simp at hi
   subst hi
   have : i = m := by omega
   subst this; exact ha
theorem RdW.slice {α : Type} {enc : α → List Value} {Q : World → α → Prop} {k : Nat} (ht : P.underlying t = some (.slice e)) (hc : P.cellsOf e = k) (hk : ∀ a, (enc a).length = k) (he : RdW P e (fun w cs => ∃ a, cs = enc a ∧ Q w a)) :
  RdW P t (fun w cs => ∃ v xs, cs = [v] ∧ Sl w enc k v xs ∧ xs.length * P.bytesOf e ≤ reachBytes ∧ ∀ (i : Nat) x, xs[i]? = some x → Q w x) := fun H en w bs sp hd fu cs d ps h hw => by
 rcases open_slice ht h with ⟨rfl, _⟩ | ⟨a, len, cap, m, n, D, Pl, rfl, hb, hl, hm, hmm, hx, hi⟩
 ·
  exact ⟨_, [], rfl, Sl.nil, by simp, fun i x hx => by simp at hx⟩
 ·
  injection hx with h1 h2
  subst h1
  have hle : len ≤ m := by rw [hmm]; split <;> omega
  obtain ⟨xs, hxl, hxs⟩ := list_of (Q := fun i (x : α) => Mem w (a.add (i * k)) (enc x) ∧ Q w x) len fun i hil => by
   obtain ⟨cs', hc1, hc2⟩ := hi i om_
   rw [hc] at hc1
   obtain ⟨_, hcl, hcg⟩ := World.cells?_some hc1
   obtain ⟨x, rfl, hq⟩ := he H en w bs sp hd n _ _ _ hc2 fun u hu => hw u (by
    rw [DataW.weights, ht]
    refine List.mem_cons_of_mem _ (List.mem_append_left _ (mem_weightsAll (List.mem_map.2 ⟨i, by simpa using hil, rfl⟩) hu)))
   refine ⟨x, fun j v hj => ?_, hq⟩
   have hjl : j < (enc x).length := (List.getElem?_eq_some_iff.1 hj).1
   rw [hcg j om_, hj]
  refine ⟨_, xs, rfl, ⟨some a, len, cap, rfl, hxl, hl, hm, fun i x hx => ⟨a, rfl, (hxs i x hx).1⟩⟩, ?_, fun i x hx => (hxs i x hx).2⟩
  have := hw ((((List.range len).map D).length + ((List.range (m - len)).map fun j => D (len + j)).length) * P.bytesOf e) (by rw [DataW.weights, ht]; exact List.mem_cons_self)
  simp only [List.length_map, List.length_range] at this
  have h2 : xs.length * P.bytesOf e ≤ (len + (m - len)) * P.bytesOf e := Nat.mul_le_mul_right _ om_
  omega
end
theorem reach_max {n : Nat} (h : n ≤ reachBytes) : n ≤ maxLen := Nat.le_trans h de_
section api
variable {P : Program} {t e tb ti td tr : TypeId}
theorem RdW.dig (ht : P.underlying t = some (.array 32 e)) (he : P.underlying e = some (.int .u8)) (hc : P.cellsOf e = 1) (hct : P.cellsOf t = 32) : RdW P t (fun _ cs => ∃ d, cs = digC d) :=
 (RdW.array1 ht hc hct (RdW.u8 he)).mono fun w cs ⟨hl, hg⟩ => by
  obtain ⟨xs, hxl, hxs⟩ := list_of (Q := fun i (b : UInt8) => cs[i]? = some (bc b)) 32 fun i hi => by
   obtain ⟨b, hb⟩ := hg i _ (List.getElem?_eq_getElem om_)
   exact ⟨b, by rw [List.getElem?_eq_getElem om_]; injection hb with hb; rw [hb]⟩
  refine ⟨⟨xs, hxl⟩, ?_⟩
  apply List.ext_getElem?
  intro i
  rcases Nat.lt_or_ge i 32 with h | h
  ·
   rw [hxs i _ (List.getElem?_eq_getElem om_), digC, bytesC_get (l := xs) (List.getElem?_eq_getElem om_)]
  ·
   rw [List.getElem?_eq_none om_, List.getElem?_eq_none (by rw [digC_length]; omega)]
theorem list_split {cs : List Value} {a b : Nat} : cs.take (a + b) = cs.take a ++ (cs.drop a).take b := List.take_add
theorem RdW.op {f0 f1 f2 f3 : Field} (ht : P.underlying t = some (.struct #[f0, f1, f2, f3])) (hct : P.cellsOf t = 37) (h0 : RdW P f0.type (fun _ cs => ∃ i, cs = [.int .i64 i] ∧ InI64 i)) (h1 : RdW P f1.type (fun _ cs => ∃ b, cs = [.bool b])) (h2 : RdW P f2.type (fun _ cs => ∃ r, cs = refC r ∧ InI64 r.n)) (h3 : RdW P f3.type (fun _ cs => ∃ b, cs = [bc b]))
  (o0 : f0.offset = 0) (o1 : f1.offset = 1) (o2 : f2.offset = 2) (o3 : f3.offset = 36) (c0 : P.cellsOf f0.type = 1) (c1 : P.cellsOf f1.type = 1) (c2 : P.cellsOf f2.type = 34) (c3 : P.cellsOf f3.type = 1) : RdW P t (fun _ cs => ∃ x, cs = opC x ∧ InI64 x.kind ∧ InI64 x.at_.n) :=
 (RdW.struct ht (fun i w cs => match i with | 0 => ∃ i, cs = [.int .i64 i] ∧ InI64 i | 1 => ∃ b, cs = [.bool b] | 2 => ∃ r, cs = refC r ∧ InI64 r.n | _ => ∃ b, cs = [bc b]) (fun i f hf => by
  match i, hf with
  | 0, hf => simp at hf; subst hf; exact h0
  | 1, hf => simp at hf; subst hf; exact h1
  | 2, hf => simp at hf; subst hf; exact h2
  | 3, hf => simp at hf; subst hf; exact h3
  | i + 4, hf => simp at hf)).mono fun w cs ⟨hl, hg⟩ => by
   obtain ⟨k, hk, hki⟩ := hg 0 f0 rfl
   obtain ⟨b, hb⟩ := hg 1 f1 rfl
   obtain ⟨r, hr, hi⟩ := hg 2 f2 rfl
   obtain ⟨x, hx⟩ := hg 3 f3 rfl
   rw [o0, c0] at hk; rw [o1, c1] at hb; rw [o2, c2] at hr; rw [o3, c3] at hx
   refine ⟨⟨k, b, r, x⟩, ?_, hki, hi⟩
   have e1 : cs = cs.take (1 + 1 + 34 + 1) := by rw [List.take_of_length_le om_]
   rw [e1, list_split, list_split, list_split, hb, hr, hx]
   rw [List.drop_zero] at hk
   rw [hk]; simp [opC]
structure ComIn (w : World) (v : Value) (c : ComD) : Prop where
 com : Com w v c
 parents : c.parents.length * 32 ≤ reachBytes
 author : c.author.size ≤ reachBytes
 note : c.note.size ≤ reachBytes
 ops : c.ops.length * 72 ≤ reachBytes
 ints : ∀ (i : Nat) x, c.ops[i]? = some x → InI64 x.kind ∧ InI64 x.at_.n
theorem RdW.com {f0 f1 f2 f3 : Field} {ed eo : TypeId} (ht : P.underlying t = some (.struct #[f0, f1, f2, f3])) (hct : P.cellsOf t = 4)
  (u0 : P.underlying f0.type = some (.slice ed)) (cd : P.cellsOf ed = 32) (bd : P.bytesOf ed = 32) (hd : RdW P ed (fun _ cs => ∃ d, cs = digC d))
  (u1 : P.underlying f1.type = some .string) (u2 : P.underlying f2.type = some .string)
  (u3 : P.underlying f3.type = some (.slice eo)) (co : P.cellsOf eo = 37) (bo : P.bytesOf eo = 72) (ho : RdW P eo (fun _ cs => ∃ x, cs = opC x ∧ InI64 x.kind ∧ InI64 x.at_.n))
  (o0 : f0.offset = 0) (o1 : f1.offset = 1) (o2 : f2.offset = 2) (o3 : f3.offset = 3) (c0 : P.cellsOf f0.type = 1) (c1 : P.cellsOf f1.type = 1) (c2 : P.cellsOf f2.type = 1) (c3 : P.cellsOf f3.type = 1) :
  RdW P t (fun w cs => ∃ c, ComIn w (.agg cs.toArray) c) :=
 (RdW.struct ht (fun i w cs => match i with
   | 0 => ∃ v xs, cs = [v] ∧ Sl w digC 32 v xs ∧ xs.length * P.bytesOf ed ≤ reachBytes ∧ ∀ (i : Nat) x, xs[i]? = some x → True
   | 1 => ∃ s, cs = [.string s] ∧ s.size ≤ reachBytes
   | 2 => ∃ s, cs = [.string s] ∧ s.size ≤ reachBytes
   | _ => ∃ v xs, cs = [v] ∧ Sl w opC 37 v xs ∧ xs.length * P.bytesOf eo ≤ reachBytes ∧ ∀ (i : Nat) x, xs[i]? = some x → InI64 x.kind ∧ InI64 x.at_.n) (fun i f hf => by
  match i, hf with
  | 0, hf => simp at hf; subst hf; exact RdW.slice (Q := fun _ _ => True) u0 cd digC_length (hd.mono fun w cs ⟨d, h⟩ => ⟨d, h, trivial⟩)
  | 1, hf => simp at hf; subst hf; exact RdW.string u1
  | 2, hf => simp at hf; subst hf; exact RdW.string u2
  | 3, hf => simp at hf; subst hf; exact RdW.slice (Q := fun _ x => InI64 x.kind ∧ InI64 x.at_.n) u3 co opC_length ho
  | i + 4, hf => simp at hf)).mono fun w cs ⟨hl, hg⟩ => by
   obtain ⟨pv, xs, h0, hs, hb, _⟩ := hg 0 f0 rfl
   obtain ⟨au, h1, ha⟩ := hg 1 f1 rfl
   obtain ⟨no, h2, hn⟩ := hg 2 f2 rfl
   obtain ⟨ov, ys, h3, hso, hbo, hq⟩ := hg 3 f3 rfl
   rw [o0, c0] at h0; rw [o1, c1] at h1; rw [o2, c2] at h2; rw [o3, c3] at h3
   rw [bd] at hb; rw [bo] at hbo
   have e1 : cs = cs.take (1 + 1 + 1 + 1) := by rw [List.take_of_length_le om_]
   rw [List.drop_zero] at h0
   have e2 : cs = comC pv au no ov := by rw [e1, list_split, list_split, list_split, h0, h1, h2, h3]; rfl
   refine ⟨⟨xs, au, no, ys⟩, ⟨pv, ov, by rw [e2], hs, hso, reach_max ha, reach_max hn⟩, hb, ha, hn, hbo, hq⟩
end api
theorem RdW.arg {H : Type} {en : TypeId × Value → H} {P : Program} {t : TypeId} {R : World → List Value → Prop} {w : World} {v : Value} {d : DataW H} {ps : List MemPlace} (h : RdW P t R) (ht : DataW.Trod en P w 0 (fun _ => true) true t v d ps) (hw : ∀ n ∈ d.weights P t, n ≤ reachBytes) : R w v.cells.toList := by
 obtain ⟨fuel, hf⟩ := ht
 exact h H en w _ _ _ fuel _ _ _ hf hw
theorem weights1 {H : Type} {P : Program} {ts : List TypeId} {ds : List (DataW H)} (h : (DataW.weightsEach P ts ds).all (· ≤ reachBytes) = true) {j : Nat} {t : TypeId} {d : DataW H} (ht : ts[j]? = some t) (hd : ds[j]? = some d) : ∀ n ∈ d.weights P t, n ≤ reachBytes := fun n hn => by
 have := List.all_eq_true.1 h n (DataW.weights_mem_each ht hd n hn)
 simpa using this
end Go.Fw
/- The api's types as arguments of this program: closed facts. No condition. -/
namespace Go.Proofs.YtfanmpbapabboaaGreatDoor
open Go.RowKit Go.Fw Go.WideShapes Go.ChangeShapes
theorem own0 : ownKnob Tryz.prog.godebug = none := by kernel_rfl
theorem laidOut0 : laidOutB Tryz.prog = true := by kernel_rfl
theorem rd_dig : RdW Tryz.prog 38 (fun _ cs => ∃ d, cs = digC d) := RdW.dig Tryz.underlying38 Tryz.underlying5 kr_ kr_
section
variable {H : Type} {en : TypeId × Value → H} {w : World} {v : Value} {d : DataW H} {ps : List MemPlace} {base : Nat}
end
end Go.Proofs.YtfanmpbapabboaaGreatDoor
