/- Parts of a proof: what its last text leans on. No condition. -/
import Derived.WideLaws
import Derived.Great.BuildSlice
import Derived.Lib.SlBytesConst
import Derived.Test.YtmehkigmnpjcjaaDoorK04
import Derived.Test.YtmehkigmnpjcjaaDoorK05
set_option linter.unusedSimpArgs false
set_option linter.unusedVariables false
/- commit.Decode: the deferred closure and the whole, walked. No condition. -/
namespace Go.Proofs.YtmehkigmnpjcjaaDoor
open Go.RowKit Go.Fw Go.Pl
abbrev comZ : List Value := comC (.slice none 0 0) (bs []) (bs []) (.slice none 0 0)
theorem build_apiCommit (w : World) : (Instr.build 29 #[]).run Tryd.prog w = .ok (.agg comZ.toArray) w := by kernel_rfl
theorem info_com : ∃ i : TypeInfo, Tryd.prog.info? 29 = some i ∧ i.zero = some (.agg comZ.toArray) := by
 have h : (Tryd.prog.info? 29).map (fun i => i.zero) = some (some (.agg comZ.toArray)) := by kernel_rfl
 obtain ⟨i, hi, h⟩ := Option.map_eq_some_iff.1 h
 exact ⟨i, hi, h⟩
def decE (b : List UInt8) : Int := if 131072 < b.length then 3 else match decI b with | .error e => e | .ok _ => 0
def decC (b : List UInt8) : ComD := if 131072 < b.length then ⟨[], bs [], bs [], []⟩ else match decI b with | .error _ => ⟨[], bs [], bs [], []⟩ | .ok c => c
def DecR (b : List UInt8) (w : World) (v : Value) (w' : World) : Prop := ∃ pv ov, v = .tuple #[.agg (comC pv (decC b).author (decC b).note ov).toArray, .int .i64 (decE b)] ∧ Ext w w' ∧ Sl w' digC 32 pv (decC b).parents ∧ Sl w' opC 37 ov (decC b).ops ∧
 (∀ k, pv.ownBlock = some k → w.heap.size ≤ k) ∧ (∀ k, ov.ownBlock = some k → w.heap.size ≤ k)
theorem DecR.zero {b : List UInt8} {w w' : World} {v : Value} {e : Int} (hc : decC b = ⟨[], bs [], bs [], []⟩) (he : decE b = e) (hx : Ext w w') (hv : v = .tuple #[.agg comZ.toArray, .int .i64 e]) : DecR b w v w' := by
 refine ⟨.slice none 0 0, .slice none 0 0, ?_, hx, ?_, ?_, fun k h => by simp [Value.ownBlock] at h, fun k h => by simp [Value.ownBlock] at h⟩
 ·
  rw [hv, hc, he]
 ·
  rw [hc]; exact Sl.nil
 ·
  rw [hc]; exact Sl.nil
theorem one_com {A B : Option Addr} {m c n d : Nat} {au no : ByteArray} : ∀ u ∈ comC (.slice A m c) au no (.slice B n d), u.oneCell' = true := by intro u hu; simp [comC] at hu; rcases hu with rfl | rfl | rfl | rfl <;> rfl
end Go.Proofs.YtmehkigmnpjcjaaDoor
/- Rules: a slot whose value is known; a slice out of a constant text. No condition; no program. -/
namespace Go.Fw
open Go.RowKit
section
variable {P : Program} {n : NN} {Φ : Exit → Fr → World → Prop} {fr : Fr} {w : World} {ops : Array Oper} {C S : World → Prop} {Ψ : Fr → Prop}
theorem WL.know {l : List Oper} {d : Nat} {v u : Value} (hg : fr.get d = some v) (h : v = u) (k : WL P ops n Φ l ((d, u) :: fr) w) : WL P ops n Φ l fr w := fun a ha => k a (ha.weaken (Fr.le.cons (by rw [hg, h]) Fr.le.refl))
theorem QL.know {l : List Oper} {d : Nat} {v u : Value} (hg : fr.get d = some v) (h : v = u) (k : QL P ops C n Ψ l ((d, u) :: fr)) : QL P ops C n Ψ l fr := fun a ha => k a (ha.weaken (Fr.le.cons (by rw [hg, h]) Fr.le.refl))
theorem RH.know {fuel : Nat} {listed : Array Bool} {d : Nat} {v u : Value} (hg : fr.get d = some v) (h : v = u) (k : RH P ops S n Φ fuel listed ((d, u) :: fr) w) : RH P ops S n Φ fuel listed fr w := fun a ha => k a (ha.weaken (Fr.le.cons (by rw [hg, h]) Fr.le.refl))
theorem CW.know {c : Code} {d : Nat} {v u : Value} (hg : fr.get d = some v) (h : v = u) (k : CW P c n Φ ((d, u) :: fr) w) : CW P c n Φ fr w := fun a ha => k a (ha.weaken (Fr.le.cons (by rw [hg, h]) Fr.le.refl))
end
end Go.Fw
namespace Go.Proofs.YtmehkigmnpjcjaaDoor
open Go.RowKit Go.Fw Go.Pl
theorem as_apiCommit {n : NN} {Φ : Exit → Fr → World → Prop} {fr : Fr} {w : World} {ops : Array Oper} {rest : List Oper} {d : Nat} {x : Operand} {ty ty' : TypeId} {pos pos' : String} {aft aft' : Array Edge} {A B : Option Addr} {m c m' c' : Nat} {au no : ByteArray}
  (hx : ev fr x = some (.agg (comC (.slice A m c) au no (.slice B m' c')).toArray)) (hxd : x ≠ .tmp d) (hd : d < n.1)
  (h : ∀ g w', Ext w w' → w.heap.size ≤ g → Blk w' g 29 (comC (.slice A m c) au no (.slice B m' c')) → WL Tryd.prog ops n Φ rest ((d, .pointer (some ⟨g, 0, none⟩)) :: fr) w') :
  WL Tryd.prog ops n Φ (⟨some d, .alloc 29, ty, pos, aft, none⟩ :: ⟨none, .store 29 (.tmp d) x, ty', pos', aft', none⟩ :: rest) fr w := by
 obtain ⟨i, hi, hz⟩ := info_com
 exact WL.allocStore (zs := comZ) (cs := comC (.slice A m c) au no (.slice B m' c')) hi hz rfl (by have := sz_com; rw [hi] at this; simp at this; rw [this]; rfl) rfl hx hxd rfl one_com hd h
end Go.Proofs.YtmehkigmnpjcjaaDoor
/- What must come: the least commit's bytes, and back: small, alive. No condition. -/
namespace Go.Proofs.YtmehkigmnpjcjaaDoor
open Go.RowKit Go.Fw Go.Pl
def nilC : ComD := ⟨[], bs [], bs [], []⟩
theorem com_nil (w : World) : Com w (.agg comZ.toArray) nilC := ⟨_, _, rfl, Sl.nil, Sl.nil, by decide, by decide⟩
theorem Sl.one {w : World} {g : Nat} {t : TypeId} {x : OpD} (h : Blk w g t (opC x)) : Sl w opC 37 (.slice (some ⟨g, 0, none⟩) 1 1) [x] := ⟨some ⟨g, 0, none⟩, 1, 1, rfl, rfl, Nat.le_refl _, by unfold maxLen; decide, fun i y hi => by
 cases i with
 | zero =>
  simp at hi; subst hi
  exact ⟨_, rfl, by have := h.mem; simpa [Addr.add] using this⟩
 | succ i => simp at hi⟩
end Go.Proofs.YtmehkigmnpjcjaaDoor
/- The plain law of a commit's bytes, there and back: what is written is read, with bytes missing it ends too early, what is read was written so. No condition; no program. -/
namespace Go.Pl
open Go.Fw
abbrev Rdg (α : Type) := List UInt8 → Nat → Except Int (α × Nat)
def Rds {α : Type} (f : Rdg α) (x : α) (e : List UInt8) : Prop :=
 (∀ pre post : List UInt8, f (pre ++ (e ++ post)) pre.length = .ok (x, pre.length + e.length)) ∧ ∀ (pre : List UInt8) (k : Nat), k < e.length → f (pre ++ e.take k) pre.length = .error 8
def Snd {α : Type} (f : Rdg α) (E : α → List UInt8 → Prop) : Prop :=
 ∀ (bs : List UInt8) (at_ : Nat) (x : α) (a : Nat), at_ ≤ bs.length → f bs at_ = .ok (x, a) → at_ ≤ a ∧ a ≤ bs.length ∧ E x ((bs.drop at_).take (a - at_))
def gbind {α β : Type} (f : Rdg α) (h : α → Rdg β) : Rdg β := fun bs at_ => match f bs at_ with
 | .error e => .error e
 | .ok (x, a) => h x bs a
theorem gbind_ok {α β : Type} {f : Rdg α} {h : α → Rdg β} {bs : List UInt8} {at_ a : Nat} {x : α} (e : f bs at_ = .ok (x, a)) : gbind f h bs at_ = h x bs a := by simp only [gbind, e]
theorem gbind_err {α β : Type} {f : Rdg α} {h : α → Rdg β} {bs : List UInt8} {at_ : Nat} {k : Int} (e : f bs at_ = .error k) : gbind f h bs at_ = .error k := by simp only [gbind, e]
theorem Rds.bind {α β : Type} {f : Rdg α} {h : α → Rdg β} {x : α} {y : β} {e1 e2 : List UInt8} (h1 : Rds f x e1) (h2 : Rds (h x) y e2) : Rds (gbind f h) y (e1 ++ e2) := by
 constructor
 ·
  intro pre post
  have a1 := h1.1 pre (e2 ++ post)
  have a2 := h2.1 (pre ++ e1) post
  rw [List.append_assoc e1 e2 post, gbind_ok a1]
  rw [List.append_assoc, List.length_append] at a2
  rw [a2, List.length_append, Nat.add_assoc]
 ·
  intro pre k hk
  rcases Nat.lt_or_ge k e1.length with hlt | hge
  ·
   rw [List.take_append_of_le_length om_]
   exact gbind_err (h1.2 pre k hlt)
  ·
   have a1 := h1.1 pre (e2.take (k - e1.length))
   have ht : (e1 ++ e2).take k = e1 ++ e2.take (k - e1.length) := by rw [List.take_append, List.take_of_length_le hge]
   rw [ht, gbind_ok a1]
   have a2 := h2.2 (pre ++ e1) (k - e1.length) (by rw [List.length_append] at hk; omega)
   rw [List.append_assoc, List.length_append] at a2
   exact a2
theorem cut_join (bs : List UInt8) {a b c : Nat} (h1 : a ≤ b) (h2 : b ≤ c) : (bs.drop a).take (c - a) = (bs.drop a).take (b - a) ++ (bs.drop b).take (c - b) := by
 have e : c - a = (b - a) + (c - b) := by omega
 rw [e, List.take_add, List.drop_drop]
 congr 3
 omega
theorem Snd.bind {α β : Type} {f : Rdg α} {h : α → Rdg β} {E1 : α → List UInt8 → Prop} {E2 : α → β → List UInt8 → Prop} (h1 : Snd f E1) (h2 : ∀ x, Snd (h x) (E2 x)) :
  Snd (gbind f h) (fun y l => ∃ x l1 l2, l = l1 ++ l2 ∧ E1 x l1 ∧ E2 x y l2) := by
 intro bs at_ y a ha hf
 unfold gbind at hf
 split at hf
 ·
  cases hf
 ·
  rename_i x b hb
  obtain ⟨a1, a2, a3⟩ := h1 bs at_ x b ha hb
  obtain ⟨b1, b2, b3⟩ := h2 x bs b y a a2 hf
  exact ⟨by omega, b2, x, _, _, cut_join bs a1 b1, a3, b3⟩
theorem Snd.mono {α : Type} {f : Rdg α} {E F : α → List UInt8 → Prop} (h : Snd f E) (hm : ∀ x l, E x l → F x l) : Snd f F := fun bs at_ x a ha hf => by
 obtain ⟨h1, h2, h3⟩ := h bs at_ x a ha hf
 exact ⟨h1, h2, hm _ _ h3⟩
structure OkOp (x : OpD) : Prop where
 ref : refB x.at_ = true
 kind : x.kind = 1 ∨ x.kind = 2
 ins : x.kind = 1 → ¬ (x.left = true ∧ rootB x.at_ = true)
 del : x.kind = 2 → x.left = false ∧ x.byte = 0 ∧ rootB x.at_ = false
 n : x.at_.n ≤ 2000
theorem byte0 {b : UInt8} (h : ¬ (b.toNat : Int) ≠ 0) : b = 0 := by
 have : b.toNat = 0 := by omega
 exact UInt8.toNat_inj.1 this
theorem MayOk.op {c : ComD} (h : MayOk c) {x : OpD} (hx : x ∈ c.ops) : OkOp x := by
 obtain ⟨j, hj⟩ := List.mem_iff_getElem?.1 hx
 have hn := h.n hx
 obtain ⟨h1, h2, h3, h4, _⟩ := rightX_zero (h.right' hj)
 refine ⟨h1, h4, fun hk ⟨a, b⟩ => h2 ⟨hk, a, b⟩, fun hk => ?_, hn.2⟩
 have h3' : ¬ (x.left = true ∨ (x.byte.toNat : Int) ≠ 0 ∨ rootB x.at_ = true) := fun e => h3 ⟨hk, e⟩
 rw [not_or, not_or] at h3'
 exact ⟨by simpa using h3'.1, byte0 h3'.2.1, by simpa using h3'.2.2⟩
end Go.Pl
/- Rules: remainders, slices up to a place, empty slices, slices as an append's source, results in a cell, stores into slices of our own. No condition; no program. -/
namespace Go.Fw
open Go.RowKit
theorem Chg.step {S : Nat → Prop} {w w1 w2 : World} (h : Ext w w1) (c : Chg S w1 w2) (hS : ∀ k, S k → w.heap.size ≤ k) : Ext w w2 := ((Ext.chg h).trans c (fun _ _ h => h)).toExt (fun i hi h => by have := hS i h; omega)
section
variable {P : Program} {n : NN} {fr : Fr} {w : World} {ty : TypeId}
theorem Y.rem {x y : Operand} {k : IntKind} {p q : Int} {t t' : TypeId} (hx : ev fr x = some (.int k p)) (hy : ev fr y = some (.int k q)) (h : q ≠ 0) : Yw P n fr (.binOp .rem t x y t') ty w (.int k (p.tmod q)) w := Y.bin hx hy (by simp [eqGuard_at_int]) (by simp [binOp_rem, Op.intDiv, h])
theorem Y.slice_hi {x hi : Operand} {t e ty : TypeId} {A : Option Addr} {m c k j : Nat} {kj : IntKind} {z : Int} (hT : P.underlying t = some (.slice e)) (hx : ev fr x = some (.slice A m c)) (hhi : ev fr hi = some (.int kj z))
  (hS : (P.info? e).map (·.size) = some k) (hz : z = (j : Int)) (h2 : j ≤ c) : Yw P n fr (.slice t x none (some hi) none) ty w (.slice A j c) w := fun b o' ho _ ha => by
 subst hz
 have e2 : (0 : Int) ≤ (j : Int) := by omega
 have ea : (A.map fun a => a.add (0 * k)) = A := by cases A <;> simp [Addr.add]
 simp [execOp, ho, ha.ev hx, ha.ev hhi, Instr.sliceAt, Instr.slice, run_underlying hT, Instr.sliceBounds, Instr.sliceBound, asIntOf, e2, h2, fw_sizeOf hS]
 intro _; cases A <;> simp [Addr.add]
theorem St.buildSlice0 {t e : TypeId} {k : Nat} (hu : P.underlying t = some (.slice e)) (hS : (P.info? e).map (·.size) = some k) :
  St P n fr (.buildSlice t 0 #[]) ty w (fun v w' => ∃ g, v = .slice (some ⟨g, 0, none⟩) 0 0 ∧ w.heap.size ≤ g ∧ Own w' e k v [] ∧ Ext w w') := fun a o' ho hty ha => by
 refine ⟨_, w.alloc (.cells #[] e), ?_, w.heap.size, rfl, Nat.le_refl _, .inr ⟨w.heap.size, 0, 0, [], (0, 0), rfl, heap_alloc_new w _, by simp, Nat.le_refl _, Nat.zero_le _, by simp, fun o h => by omega⟩, Chg.alloc _⟩
 simp only [execOp, ho]
 have hr0 : Array.range 0 = #[] := by decide
 simp [Instr.buildSlice, run_underlying hu, fw_sizeOf hS, Instr.fill, newRow, hr0]
theorem flat_mem {α : Type} {enc : α → List Value} {k : Nat} (he : ∀ x, (enc x).length = k) {w : World} {a : Addr} : ∀ (xs : List α) (i0 : Nat), (∀ i x, xs[i]? = some x → Mem w (a.add ((i0 + i) * k)) (enc x)) → Mem w (a.add (i0 * k)) ((xs.map enc).flatten)
 | [], _, _ => Mem.nil
 | x :: xs, i0, h => by
  have h0 := h 0 x rfl
  have ih := flat_mem he (w := w) (a := a) xs (i0 + 1) fun i y hy => by
   have := h (i + 1) y (by simpa using hy)
   rwa [show i0 + 1 + i = i0 + (i + 1) by omega]
  intro j v hj
  simp only [List.map_cons, List.flatten_cons] at hj
  rcases Nat.lt_or_ge j (enc x).length with hlt | hge
  ·
   rw [List.getElem?_append_left hlt] at hj
   exact h0 j v hj
  ·
   rw [List.getElem?_append_right hge, he] at hj
   rw [he] at hge
   have := ih (j - k) v hj
   rw [add_add] at this ⊢
   rw [show (i0 + 1) * k + (j - k) = i0 * k + j by rw [Nat.succ_mul]; omega] at this
   exact this
theorem Sl.flat {α : Type} {enc : α → List Value} {k : Nat} (he : ∀ x, (enc x).length = k) {A : Option Addr} {m c : Nat} {xs : List α} (h : Sl w enc k (.slice A m c) xs) : xs.length = m ∧ m ≤ c ∧ c ≤ maxLen ∧ (0 < m → ∃ a, A = some a ∧ Mem w a ((xs.map enc).flatten)) := by
 obtain ⟨A', m', c', e, hl, hmc, hcm, hx⟩ := h
 injection e with e1 e2 e3
 subst e1; subst e2; subst e3
 refine ⟨hl, hmc, hcm, fun h0 => ?_⟩
 obtain ⟨x, hx0⟩ : ∃ x, xs[0]? = some x := ⟨_, List.getElem?_eq_getElem om_⟩
 obtain ⟨a, rfl, _⟩ := hx 0 x hx0
 refine ⟨a, rfl, ?_⟩
 have := flat_mem he (w := w) (a := a) xs 0 fun i y hy => by
  obtain ⟨a', e, hm⟩ := hx i y hy
  injection e with e; subst e
  rwa [Nat.zero_add]
 simpa [Addr.add] using this
theorem Sl.src {α : Type} {enc : α → List Value} {k : Nat} (he : ∀ x, (enc x).length = k) {A : Option Addr} {m c : Nat} {xs : List α} (h : Sl w enc k (.slice A m c) xs) : Src P w k (.slice A m c) m ((xs.map enc).flatten) := by
 obtain ⟨hl, _, _, hA⟩ := h.flat he
 exact Src.slice (by rw [flat_length he, hl]) hA
theorem Sl.lens {α : Type} {enc : α → List Value} {k : Nat} {v : Value} {xs : List α} (h : Sl w enc k v xs) : ∃ A c, v = .slice A xs.length c ∧ xs.length ≤ c ∧ c ≤ maxLen := by
 obtain ⟨A', m', c', e, hl, hmc, hcm, hx⟩ := h
 subst hl
 exact ⟨A', c', e, hmc, hcm⟩
theorem By.take {A : Option Addr} {m c : Nat} {bs : List UInt8} (h : By w (.slice A m c) bs) {j : Nat} (hj : j ≤ m) : By w (.slice A j c) (bs.take j) := by
 obtain ⟨A', m', c', e, hl, hmc, hcm, hA, hn⟩ := h
 injection e with e1 e2 e3
 subst e1; subst e2; subst e3
 refine ⟨A, j, c, rfl, by rw [List.length_take]; omega, by omega, hcm, fun h0 => ?_, fun h => by have := hn h; omega⟩
 obtain ⟨a, rfl, hm⟩ := hA om_
 refine ⟨a, rfl, fun i v hv => hm i v ?_⟩
 have hlt : i < (bytesC (bs.take j)).length := (List.getElem?_eq_some_iff.1 hv).1
 rw [bytesC_length, List.length_take] at hlt
 rw [bytesC, List.getElem?_map, List.getElem?_take, if_pos om_] at hv
 rw [bytesC, List.getElem?_map]
 exact hv
theorem By.len {A : Option Addr} {m c : Nat} {bs : List UInt8} (h : By w (.slice A m c) bs) : bs.length = m ∧ m ≤ c ∧ c ≤ maxLen := by
 obtain ⟨A', m', c', e, hl, hmc, hcm, hA, hn⟩ := h
 injection e with e1 e2 e3
 subst e1; subst e2; subst e3
 exact ⟨hl, hmc, hcm⟩
theorem By.mem {A : Option Addr} {m c : Nat} {bs : List UInt8} (h : By w (.slice A m c) bs) : (0 < m → ∃ a, A = some a ∧ Mem w a (bytesC bs)) ∧ (A = none → m = 0) := by
 obtain ⟨A', m', c', e, hl, hmc, hcm, hA, hn⟩ := h
 injection e with e1 e2 e3
 subst e1; subst e2; subst e3
 exact ⟨hA, hn⟩
theorem By.lens {v : Value} {bs : List UInt8} (h : By w v bs) : ∃ A m c, v = .slice A m c := by
 obtain ⟨A', m', c', e, _⟩ := h
 exact ⟨_, _, _, e⟩
theorem Src.by {A : Option Addr} {m c : Nat} {bs : List UInt8} (h : By w (.slice A m c) bs) : Src P w 1 (.slice A m c) m (bytesC bs) := Src.slice (by rw [bytesC_length, h.len.1]; omega) h.mem.1
end
end Go.Fw
namespace Go.Fw
open Go.RowKit
def gets (fr : Fr) : List Nat → Option (List Value)
 | [] => some []
 | t :: r => match fr.get t, gets fr r with
  | some v, some vs => some (v :: vs)
  | _, _ => none
theorem Rep.gets {n : NN} {a : Act} {fr : Fr} (h : Rep n a fr) : ∀ {ts : List Nat} {vs : List Value}, Fw.gets fr ts = some vs → ts.map (fun t => a.tmps.getD t undef) = vs
 | [], vs, e => by simpa [Fw.gets] using e
 | t :: r, vs, e => by
  simp only [Fw.gets] at e
  split at e
  ·
   rename_i v us h1 h2
   simp only [Option.some.injEq] at e
   subst e
   have := h.get t v h1
   simp only [List.map_cons, h.gets h2]
   simp [this]
  ·
   cases e
@[reducible] def CellT (t m : Nat) (ts : List Nat) (R : Value → World → Prop) (fr : Fr) (w : World) : Prop := ∃ a cs vs, fr.get t = some (.pointer (some a)) ∧ Mem w a cs ∧ cs.length = m ∧ gets fr ts = some vs ∧ R (.tuple (.agg cs.toArray :: vs).toArray) w
theorem res_cellt {P : Program} {n : NN} {fn : Func} {a : Act} {t m : Nat} {ts : List Nat} {ty : TypeId} {d : TypeDesc} {R : Value → World → Prop} (hr : fn.results = (ResultVar.cell t ty :: ts.map ResultVar.tmp).toArray) (hts : ts.length = 1 ∨ ts.length = 2) (hT : P.underlying ty = some d) (hd : notAgg d = false) (hS : (P.info? ty).map (·.size) = some m)
  {fr : Fr} {w : World} (ha : Rep n a fr) (hD : CellT t m ts R fr w) : ∃ v, (results fn a.tmps).run P w = .ok v w ∧ R v w := by
 obtain ⟨p, cs, vs, hp, hm, hl, hg, hR⟩ := hD
 have h1 := run_loadVarA (P := P) hT hd (by rw [hl]; exact hS) hm
 have e := ha.get t _ hp
 have e2 := ha.gets hg
 refine ⟨_, ?_, hR⟩
 match ts, hts with
 | [u], _ =>
  simp at e2; subst e2
  simp [results, hr, e, asAddr, h1]
 | [u, x], _ =>
  simp at e2; subst e2
  simp [results, hr, e, asAddr, h1]
theorem calls_of_CWct {P : Program} {w : World} {f : FuncId} {fn : Func} {c : Code} {args : List Value} {R : Value → World → Prop} (m t k : Nat) (ts : List Nat) (fr0 : Fr) {ty : TypeId} {d : TypeDesc}
  (hf : P.funcs[f]? = some fn) (hb : fn.body = some c) (hm : fn.ntmps = m) (hr : fn.results = (ResultVar.cell t ty :: ts.map ResultVar.tmp).toArray) (hT : P.underlying ty = some d) (hd : notAgg d = false) (hS : (P.info? ty).map (·.size) = some k)
  (hsz : args.length ≤ m) (hargs : ∀ t v, fr0.get t = some v → args[t]? = some v)
  (h : CW P c (m, [], none) (DoneG (CellT t k ts R) (fun _ _ => False)) fr0 w) (hts : ts.length = 1 ∨ ts.length = 2 := by decide) : Calls P f args.toArray w (Ret R) :=
 (calls_of_CWG m _ fr0 hf hb hm (fun a fr w ha hD => res_cellt hr hts hT hd hS ha hD) hsz hargs h).mono fun e w' he => by
  cases e with
  | returned v => exact he
  | panicked ch => exact he.elim
  | outgrown => exact he.elim
theorem Chg.stepO {S T : Nat → Prop} {w w1 w2 : World} (h : Chg S w w1) (c : Chg T w1 w2) (hT : ∀ k, T k → S k ∨ w.heap.size ≤ k) : Chg S w w2 :=
 h.trans c fun i hi h => by rcases hT i h with h | h; exact h; omega
theorem add_zero' (g i : Nat) : (⟨g, 0, none⟩ : Addr).add i = ⟨g, i, none⟩ := by unfold Addr.add; split <;> simp_all
theorem Own.store {P : Program} {w : World} {e : TypeId} {k g n c : Nat} {pre old post new : List Value} (hown : Own w e k (.slice (some ⟨g, 0, none⟩) n c) (pre ++ old ++ post)) (hl : new.length = old.length) (h1 : ∀ u ∈ new, u.oneCell' = true) :
  ∃ w', (storeCells ⟨g, pre.length, none⟩ new).run P w = .ok () w' ∧ Chg (· = g) w w' ∧ Own w' e k (.slice (some ⟨g, 0, none⟩) n c) (pre ++ new ++ post) := by
 rcases hown with ⟨h, _⟩ | ⟨g', n', c', rest, fz, h, hh, hxl, hnc, hcm, hal, hfz⟩
 ·
  cases h
 ·
  injection h with h2 h3 h4
  injection h2 with h2
  injection h2 with h2
  subst h2; subst h3; subst h4
  have hst := storeCells_own (P := P) g pre.length e fz new 0 (pre ++ old ++ post ++ rest).toArray w hh (by simp; omega) h1 (fun p hp => hfz p (by simp at hp; simp at hal; omega))
  have heq : ((pre ++ old ++ post ++ rest).toArray.toList.take (pre.length + 0) ++ new ++ (pre ++ old ++ post ++ rest).toArray.toList.drop (pre.length + 0 + new.length)).toArray = (pre ++ new ++ post ++ rest).toArray := by
   congr 1
   rw [List.toList_toArray, Nat.add_zero, List.append_assoc pre old post, List.append_assoc pre (old ++ post) rest, List.take_left, hl, ← List.append_assoc pre (old ++ post) rest, ← List.append_assoc pre old post, List.append_assoc (pre ++ old) post rest]
   rw [show pre.length + old.length = (pre ++ old).length by simp, List.drop_left]
   simp only [List.append_assoc]
  rw [heq] at hst
  refine ⟨_, hst, ⟨rfl, rfl, rfl, by simp, fun b hb hn => setRow_other w g b _ hn, Nat.le_refl _⟩, .inr ⟨g, n, c, rest, fz, rfl, setRow_heap w g _ _ e fz hh, ?_, hnc, hcm, ?_, hfz⟩⟩
  ·
   rw [← hxl]; simp [hl]
  ·
   rw [← hal]; simp [hl]
theorem WL.storeO {P : Program} {n : NN} {Φ : Exit → Fr → World → Prop} {fr : Fr} {w : World} {ops : Array Oper} {rest : List Oper} {t e : TypeId} {x y : Operand} {ty : TypeId} {pos : String} {aft : Array Edge} {v : Value} {g k m c : Nat} {pre old post new : List Value} {A : Addr}
  (hx : ev fr x = some (.pointer (some A))) (hA : A = ⟨g, pre.length, none⟩) (hy : ev fr y = some v) (hv : v.cells = new.toArray) (hS : (P.info? t).map (·.size) = some new.length)
  (hown : Own w e k (.slice (some ⟨g, 0, none⟩) m c) (pre ++ old ++ post)) (hl : new.length = old.length) (h1 : ∀ u ∈ new, u.oneCell' = true)
  (h : ∀ w', Chg (· = g) w w' → Own w' e k (.slice (some ⟨g, 0, none⟩) m c) (pre ++ new ++ post) → WL P ops n Φ rest fr w') :
  WL P ops n Φ (⟨none, .store t x y, ty, pos, aft, none⟩ :: rest) fr w := fun a ha =>
 wpList_plain rfl fun K hK => by
  obtain ⟨w', hst, hc, hb'⟩ := hown.store (P := P) hl h1
  have hrun : (execOp a.eval ⟨none, .store t x y, ty, pos, aft, none⟩).run P w = .ok .skip w' := by
   simp [execOp, ha.ev hx, ha.ev hy, Instr.storeAt, Instr.sureAddr, storeVar, fw_sizeOf hS, hv, hA, hst]
  unfold Oper.wp
  rw [hrun]
  exact hK _ _ (h w' hc hb' _ ha)
theorem Sl.chg {α : Type} {T : Nat → Prop} {w w' : World} {enc : α → List Value} {k : Nat} {v : Value} {xs : List α} (h : Sl w enc k v xs) (hc : Chg T w w') (hs : ∀ b, v.ownBlock = some b → ¬ T b) : Sl w' enc k v xs := by
 obtain ⟨A, m, c, rfl, hl, hmc, hcm, hx⟩ := h
 refine ⟨A, m, c, rfl, hl, hmc, hcm, fun i x hi => ?_⟩
 obtain ⟨a, rfl, hm⟩ := hx i x hi
 exact ⟨a, rfl, hm.chg hc (by rw [block_add]; exact hs _ rfl)⟩
theorem Own.head {w : World} {e : TypeId} {k : Nat} {A : Option Addr} {n c : Nat} {xs : List Value} (h : Own w e k (.slice A n c) xs) (h0 : xs ≠ []) : ∃ g, A = some ⟨g, 0, none⟩ ∧ g < w.heap.size := by
 rcases h with ⟨_, h⟩ | ⟨g, n', c', rest, fz, h, hh, _⟩
 ·
  exact absurd h h0
 ·
  injection h with h1 _ _
  exact ⟨g, h1, (Array.getElem?_eq_some_iff.1 hh).1⟩
section
variable {P : Program} {n : NN} {fr : Fr} {w : World} {ty : TypeId}
theorem Y.slice_lo {x lo : Operand} {t e ty : TypeId} {A : Option Addr} {m c k i : Nat} {ki : IntKind} {z : Int} (hT : P.underlying t = some (.slice e)) (hx : ev fr x = some (.slice A m c)) (hlo : ev fr lo = some (.int ki z))
  (hS : (P.info? e).map (·.size) = some k) (hz : z = (i : Int)) (h1 : i ≤ m) : Yw P n fr (.slice t x (some lo) none none) ty w (.slice (if c = i then A else A.map fun a => a.add (i * k)) (m - i) (c - i)) w := fun b o' ho _ ha => by
 subst hz
 have e2 : (0 : Int) ≤ (i : Int) := by omega
 simp [execOp, ho, ha.ev hx, ha.ev hlo, Instr.sliceAt, Instr.slice, run_underlying hT, Instr.sliceBounds, Instr.sliceBound, asIntOf, e2, h1, fw_sizeOf hS]
theorem flat_take {α : Type} {enc : α → List Value} {k : Nat} (he : ∀ x, (enc x).length = k) : ∀ (xs : List α) (j : Nat), (xs.map enc).flatten.take (j * k) = ((xs.take j).map enc).flatten
 | [], j => by simp
 | x :: xs, 0 => by simp
 | x :: xs, j + 1 => by
  simp only [List.map_cons, List.flatten_cons, List.take_succ_cons]
  rw [Nat.succ_mul, Nat.add_comm (j * k) k, List.take_append, he, Nat.add_sub_cancel_left, flat_take he xs j, List.take_of_length_le (by rw [he]; omega)]
theorem flat_drop {α : Type} {enc : α → List Value} {k : Nat} (he : ∀ x, (enc x).length = k) : ∀ (xs : List α) (j : Nat), (xs.map enc).flatten.drop (j * k) = ((xs.drop j).map enc).flatten
 | [], j => by simp
 | x :: xs, 0 => by simp
 | x :: xs, j + 1 => by
  simp only [List.map_cons, List.flatten_cons, List.drop_succ_cons]
  rw [Nat.succ_mul, Nat.add_comm (j * k) k, List.drop_append, he, Nat.add_sub_cancel_left, flat_drop he xs j, List.drop_of_length_le (by rw [he]; omega), List.nil_append]
theorem Mem.take {a : Addr} {cs : List Value} (h : Mem w a cs) (j : Nat) : Mem w a (cs.take j) := fun i v hv => h i v (by rw [List.getElem?_take] at hv; split at hv; exact hv; cases hv)
theorem Mem.drop {a : Addr} {cs : List Value} (h : Mem w a cs) (j : Nat) : Mem w (a.add j) (cs.drop j) := h.sub j fun i v hv => by rw [List.getElem?_drop] at hv; exact hv
theorem Own.len {α : Type} {enc : α → List Value} {k : Nat} {e : TypeId} (he : ∀ x, (enc x).length = k) (hk : 0 < k) {A : Option Addr} {m c : Nat} {xs : List α} (h : Own w e k (.slice A m c) ((xs.map enc).flatten)) : xs.length = m ∧ m ≤ c ∧ c ≤ maxLen := by
 obtain ⟨_, _, hl, hmc, hcm⟩ := h.mem A m c rfl
 rw [flat_length he] at hl
 exact ⟨Nat.eq_of_mul_eq_mul_right hk hl, hmc, hcm⟩
end
end Go.Fw
/- What follows of the plain law of reading. No condition. -/
namespace Go.Pl
open Go.Fw
def Nz {α : Type} (f : Rdg α) : Prop := ∀ bs at_ e, f bs at_ = .error e → e ≠ 0
theorem Nz.bind {α β : Type} {f : Rdg α} {h : α → Rdg β} (h1 : Nz f) (h2 : ∀ x, Nz (h x)) : Nz (gbind f h) := fun bs at_ e he => by
 unfold gbind at he
 split at he
 ·
  rename_i e' he'
  injection he with he; subst he
  exact h1 _ _ _ he'
 ·
  exact h2 _ _ _ _ he
theorem comB_len {c : ComD} (h : mayI c = 0) : (comB c).length ≤ 110000 := by
 have hm := mayI_ok h
 have h1 := hm.parents
 have h2 := hm.ops
 have h3 := hm.name
 have h4 := hm.note
 have l1 := vi_len9 (n := c.parents.length) om_
 have l2 := vi_len9 (n := c.ops.length) om_
 have l3 := vi_len9 (n := c.author.toList.length) (by rw [toList_length]; omega)
 have l4 := vi_len9 (n := c.note.toList.length) (by rw [toList_length]; omega)
 have f1 := flat_len (f := fun d : Dig => d.1) (k := 32) (l := c.parents) fun d _ => by rw [d.2]; exact Nat.le_refl _
 have f2 := flat_len (f := opB) (k := 51) (l := c.ops) fun x hx => opB_len (by have := (hm.n hx).2; omega)
 simp only [comB, textB, List.length_append]
 rw [toList_length] at *
 rw [toList_length] at *
 omega
end Go.Pl
namespace Go.Proofs.YtmehkigmnpjcjaaDoor
open Go.RowKit Go.Fw Go.Pl
theorem sameB_iff {a b : ComD} : sameB a b = true ↔ a.parents = b.parents ∧ a.author = b.author ∧ a.note = b.note ∧ a.ops = b.ops := by
 have e : ∀ x y : ByteArray, x.toList = y.toList ↔ x = y := fun x y => ⟨fun h => by rw [← bs_of x, ← bs_of y, h], fun h => by rw [h]⟩
 simp [sameB, e]
 constructor
 ·
  rintro ⟨⟨⟨h1, h2⟩, h3⟩, h4⟩; exact ⟨h1, h2, h3, h4⟩
 ·
  rintro ⟨h1, h2, h3, h4⟩; exact ⟨⟨⟨h1, h2⟩, h3⟩, h4⟩
theorem sameB_eq {a b : ComD} : sameB a b = true ↔ a = b := by
 rw [sameB_iff]
 cases a; cases b; simp
theorem sameB_self (a : ComD) : sameB a a = true := sameB_eq.2 rfl
end Go.Proofs.YtmehkigmnpjcjaaDoor
/- rem and quo of naturals, slices of strings, as rules. No condition; no program. -/
namespace Go.Fw
open Go.RowKit
section
variable {P : Program} {n : NN} {fr : Fr} {w : World} {ty : TypeId}
theorem Y.remN {x y : Operand} {k : IntKind} {p q : Nat} {t t' : TypeId} (hx : ev fr x = some (.int k (p : Int))) (hy : ev fr y = some (.int k (q : Int))) (h : q ≠ 0) : Yw P n fr (.binOp .rem t x y t') ty w (.int k ((p % q : Nat) : Int)) w := Y.rem hx hy om_
theorem Y.slice_str {x lo hi : Operand} {s : ByteArray} {t : TypeId} {i j : Nat} {ki kj : IntKind} {zi zj : Int} (hT : P.underlying t = some .string) (hx : ev fr x = some (.string s)) (hlo : ev fr lo = some (.int ki zi)) (hhi : ev fr hi = some (.int kj zj)) (hi' : zi = (i : Int)) (hj' : zj = (j : Int)) (h1 : i ≤ j) (h2 : j ≤ s.size) :
  Yw P n fr (.slice t x (some lo) (some hi) none) ty w (.string (s.extract i j)) w := fun b o' ho _ ha => by
 subst hi'; subst hj'
 have e1 : (0 : Int) ≤ (i : Int) := by omega
 have e2 : (0 : Int) ≤ (j : Int) := by omega
 simp [execOp, ho, ha.ev hx, ha.ev hlo, ha.ev hhi, Instr.sliceAt, Instr.slice, run_underlying hT, Instr.sliceBounds, Instr.sliceBound, asIntOf, e1, e2, h1, h2]
end
end Go.Fw
