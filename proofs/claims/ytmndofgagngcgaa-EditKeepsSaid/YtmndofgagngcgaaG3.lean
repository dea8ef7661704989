/- Several texts as one: Ap, Pk, Kn, Kg, Rq. -/
import Derived.Test.YtmndofgagngcgaaG2
import Derived.Test.YtmndofgagngcgaaTy
import Derived.Great.BuildSlice
import Derived.ScopeJumps
import Derived.Test.YtmndofgagngcgaaG1
import Derived.Lib.SlBytesConst
set_option linter.unusedSimpArgs false
set_option linter.unusedVariables false
/- Bytes that are put behind bytes of our own; the closed facts for it. No condition. -/
namespace Go.Fw
open Go.RowKit

/-- From v with xs in w there came v' with ys behind them in w'. -/
def AppB (e : TypeId) (w : World) (v : Value) (xs : List UInt8) (w' : World) (v' : Value) (ys : List UInt8) : Prop :=
  Own w' e 1 v' (bytesC (xs ++ ys)) ∧ Chg (fun g => v.ownBlock = some g) w w' ∧ (v'.ownBlock = v.ownBlock ∨ ∀ g, v'.ownBlock = some g → w.heap.size ≤ g)
section
variable {e : TypeId} {w w1 w2 : World} {v v1 v2 : Value} {xs ys zs : List UInt8} {g : Nat} {t : TypeId} {cs : List Value} {a : Addr}
theorem AppB.refl (h : Own w e 1 v (bytesC xs)) : AppB e w v xs w v [] := ⟨by simpa using h, Chg.refl, .inl rfl⟩
theorem AppB.trans (h : AppB e w v xs w1 v1 ys) (k : AppB e w1 v1 (xs ++ ys) w2 v2 zs) : AppB e w v xs w2 v2 (ys ++ zs) := by
  obtain ⟨h1, h2, h3⟩ := h
  obtain ⟨k1, k2, k3⟩ := k
  refine ⟨by rw [← List.append_assoc]; exact k1, h2.trans k2 fun i hi hh => ?_, ?_⟩
  · rcases h3 with h3 | h3
    · rw [← h3]; exact hh
    · have := h3 i hh; omega
  · rcases k3 with k3 | k3
    · rcases h3 with h3 | h3
      · exact .inl (k3.trans h3)
      · exact .inr fun g hg => h3 g (by rw [← k3]; exact hg)
    · exact .inr fun g hg => Nat.le_trans h2.size (k3 g hg)
theorem AppB.extL (h : Ext w w1) (k : AppB e w1 v xs w2 v2 ys) : AppB e w v xs w2 v2 ys := by
  obtain ⟨k1, k2, k3⟩ := k
  refine ⟨k1, (h.chg).trans k2 fun i _ hh => hh, ?_⟩
  rcases k3 with k3 | k3
  · exact .inl k3
  · exact .inr fun g hg => Nat.le_trans h.size (k3 g hg)
theorem AppB.extR (h : AppB e w v xs w1 v1 ys) (k : Ext w1 w2) : AppB e w v xs w2 v1 ys := ⟨h.1.ext k, h.2.1.thenExt k, h.2.2⟩
theorem AppB.nilExt (h : AppB e w (.slice none 0 0) xs w1 v1 ys) : Ext w w1 := h.2.1.toExt fun i _ hh => by simp [Value.ownBlock] at hh
theorem AppB.nilOwn (h : AppB e w (.slice none 0 0) [] w1 v1 ys) : Own w1 e 1 v1 (bytesC ys) := by simpa using h.1
theorem AppB.fresh (h : AppB e w (.slice none 0 0) xs w1 v1 ys) : ∀ g, v1.ownBlock = some g → w.heap.size ≤ g := by
  rcases h.2.2 with h | h
  · intro g hg; rw [h] at hg; simp [Value.ownBlock] at hg
  · exact h
theorem AppB.blk (h : AppB e w v xs w1 v1 ys) (hb : Blk w g t cs) (hn : v.ownBlock ≠ some g) : Blk w1 g t cs := hb.chg h.2.1 hn
theorem AppB.away (h : AppB e w v xs w1 v1 ys) (hg : g < w.heap.size) (hn : v.ownBlock ≠ some g) : v1.ownBlock ≠ some g := by
  rcases h.2.2 with h | h
  · rw [h]; exact hn
  · intro e; have := h g e; omega
/-- One that is fresh above a world grows further: nothing old is changed. -/
theorem AppB.old {w0 : World} (h : AppB e w v xs w1 v1 ys) (hx : Ext w0 w) (hf : ∀ g, v.ownBlock = some g → w0.heap.size ≤ g) : Ext w0 w1 :=
  (hx.chg (S := fun g => v.ownBlock = some g)).trans h.2.1 (fun _ _ hh => hh) |>.toExt fun i hi hh => by have := hf i hh; omega
theorem AppB.above {w0 : World} (h : AppB e w v xs w1 v1 ys) (hx : Ext w0 w) (hf : ∀ g, v.ownBlock = some g → w0.heap.size ≤ g) : ∀ g, v1.ownBlock = some g → w0.heap.size ≤ g := by
  rcases h.2.2 with h | h
  · rw [h]; exact hf
  · intro g hg; exact Nat.le_trans hx.size (h g hg)
end
section
variable {P : Program} {n : NN} {fr : Fr} {w : World} {ty : TypeId}
theorem Y.or_k {x y : Operand} {k : IntKind} {p q : Int} {t t' : TypeId} {r : Int} (hx : ev fr x = some (.int k p)) (hy : ev fr y = some (.int k q)) (hr : k.wrap ((BitVec.ofInt k.bits p ||| BitVec.ofInt k.bits q).toNat : Int) = r) : Yw P n fr (.binOp .or t x y t') ty w (.int k r) w :=
  Y.bin hx hy (by simp [eqGuard_at_int]) (by
    have e : binOp .or t (.int k p) (.int k q) = pure (.int k r) := by simp only [binOp, ne_eq, not_true_eq_false, if_false, Op.intBits, hr]
    rw [e]; rfl)
theorem Y.shr {x y : Operand} {k k' : IntKind} {p q r : Int} {t t' : TypeId} (hx : ev fr x = some (.int k p)) (hy : ev fr y = some (.int k' q)) (hq : 0 ≤ q) (hr : p.fdiv (2 ^ (min q.toNat k.bits)) = r) : Yw P n fr (.binOp .shr t x y t') ty w (.int k r) w :=
  Y.bin hx hy (by simp [eqGuard_at_int]) (by simp [binOp, Op.shift, Int.not_lt.2 hq, hr])
/-- append of bytes. -/
theorem St.app {s x : Operand} {v xv : Value} {t u e e' : TypeId} {b : Nat} {xs ys : List UInt8} {m : Nat}
    (ht : P.underlying t = some (.slice e)) (hud : P.underlying u = some (.slice e')) (hi : AppInfo P e 1 b) (hs : ev fr s = some v) (hx : ev fr x = some xv)
    (hown : Own w e 1 v (bytesC xs)) (hsrc : Src P w 1 xv m (bytesC ys)) (hroom : (xs.length + m) * b ≤ 140737488355328) :
    St P n fr (.call { callee := .builtin .append, args := #[s, x], argTypes := #[t, u] }) ty w (fun v' w' => AppB e w v xs w' v' ys) := by
  intro a o' ho hty ha
  obtain ⟨v', w', hr, hR⟩ := St.append (n := n) (ty := ty) ht hud hi hs hx hown hsrc one_bytesC (by simpa [bytesC_length] using hroom) a o' ho hty ha
  exact ⟨v', w', hr, by rw [bytesC_append]; exact hR.1, hR.2.1, hR.2.2⟩
theorem St.appS {s x : Operand} {v : Value} {str : ByteArray} {t u e : TypeId} {b : Nat} {xs : List UInt8}
    (ht : P.underlying t = some (.slice e)) (hud : P.underlying u = some .string) (hi : AppInfo P e 1 b) (hs : ev fr s = some v) (hx : ev fr x = some (.string str))
    (hown : Own w e 1 v (bytesC xs)) (hroom : (xs.length + str.size) * b ≤ 140737488355328) :
    St P n fr (.call { callee := .builtin .append, args := #[s, x], argTypes := #[t, u] }) ty w (fun v' w' => AppB e w v xs w' v' str.toList) := by
  intro a o' ho hty ha
  obtain ⟨v', w', hr, hR⟩ := St.appendS (n := n) (ty := ty) ht hud hi hs hx hown (by simpa [bytesC_length] using hroom) a o' ho hty ha
  exact ⟨v', w', hr, by rw [bytesC_append]; exact hR.1, hR.2.1, hR.2.2⟩
theorem Src.own {e : TypeId} {v : Value} {ys : List UInt8} (h : Own w e 1 v (bytesC ys)) : Src P w 1 v ys.length (bytesC ys) := by
  obtain ⟨A, n, c, rfl⟩ := h.lens
  obtain ⟨hm, hn, hl, _⟩ := h.mem A n c rfl
  have : n = ys.length := by rw [bytesC_length] at hl; omega
  subst this
  exact Src.slice (by simpa using hl) hm
theorem Src.arr {a : Addr} {ys : List UInt8} {c : Nat} (h : Mem w a (bytesC ys)) : Src P w 1 (.slice (some a) ys.length c) ys.length (bytesC ys) := Src.slice (by rw [bytesC_length]; omega) fun _ => ⟨a, rfl, h⟩
end
end Go.Fw
namespace Go.Proofs.Ytmndofgagngcgaa
open Go.RowKit Go.Fw
theorem ai_u8 : AppInfo Try.prog 5 1 1 := by
  have h : (Try.prog.info? 5).map (fun i => (i.size, i.bytes, i.zero)) = some (1, 1, some (.int .u8 0)) := by kernel_rfl
  obtain ⟨i, hi, h⟩ := Option.map_eq_some_iff.1 h
  injection h with h1 h2
  injection h2 with h2 h3
  exact ⟨i, _, hi, h3, h1, rfl, h2, by decide, by decide⟩
theorem bs1 (b : Int) (w : World) : (Instr.buildSlice 96 1 [(0, Value.int .u8 b)].toArray).run Try.prog w = .ok (.slice (some ⟨w.heap.size, 0, none⟩) 1 1) (w.alloc (.cells [Value.int .u8 b].toArray 5)) := by
  obtain ⟨i, z, hi, hz, hk, hzs, hb, _⟩ := ai_u8
  obtain ⟨zc, hzc⟩ : ∃ c, z.cells = #[c] := by
    match h : z.cells with
    | ⟨[]⟩ => simp [h] at hzs
    | ⟨[c]⟩ => exact ⟨c, rfl⟩
    | ⟨_ :: _ :: _⟩ => simp [h] at hzs
  have hr1 : Array.range 1 = #[0] := by decide
  have hc : (Value.int .u8 b).cells = #[Value.int .u8 b] := rfl
  simp [Instr.buildSlice, run_underlying Try.underlying96, sizeOf, typeInfo, hi, hk, zeroValue, hz, hzc, Instr.fill, newRow, hr1, hc]
end Go.Proofs.Ytmndofgagngcgaa
namespace Go.Fw
open Go.RowKit
theorem Src.dig {P : Program} {w : World} {a : Addr} {d : Dig} (h : Mem w a (digC d)) : Src P w 1 (.slice (some a) 32 32) 32 (bytesC d.1) := Src.slice (by rw [bytesC_length, d.2]) fun _ => ⟨a, rfl, h⟩
end Go.Fw
namespace Go.Fw
open Go.RowKit
theorem run_bs1 {P : Program} {t e : TypeId} {ie : TypeInfo} {z : Value} {v : Value} {cs : List Value} (hu : P.underlying t = some (.slice e)) (hi : P.info? e = some ie) (hz : ie.zero = some z) (h0 : 0 < ie.size) (hsm : ie.size ≤ 16777216) (hv : v.cells = cs.toArray) (hl : cs.length = ie.size) (w : World) :
    (Instr.buildSlice t 1 [(0, v)].toArray).run P w = .ok (.slice (some ⟨w.heap.size, 0, none⟩) 1 1) (w.alloc (.cells cs.toArray e)) := by
  refine run_buildSlice w t e 1 _ _ ie z hu hi hz (by omega) (by omega) ?_
  have h := Go.Great.fill_whole (s := ie.size) h0 [v] ((Array.range (1 * ie.size)).map (z.cells[· % z.cells.size]!)) (by intro u hu; simp at hu; subst hu; rw [hv]; simpa using hl) (by simp)
  simpa [hv] using h
theorem flat_length {α : Type} {enc : α → List Value} {k : Nat} (he : ∀ x, (enc x).length = k) : ∀ xs : List α, ((xs.map enc).flatten).length = xs.length * k
  | [] => by simp
  | x :: xs => by simp only [List.map_cons, List.flatten_cons, List.length_append, he, flat_length he xs, List.length_cons, Nat.succ_mul]; omega
theorem flat_at {α : Type} {enc : α → List Value} {k : Nat} (he : ∀ x, (enc x).length = k) : ∀ (xs : List α) (i : Nat) (x : α), xs[i]? = some x → ∀ j v, (enc x)[j]? = some v → ((xs.map enc).flatten)[i * k + j]? = some v
  | [], i, x, h, _, _, _ => by simp at h
  | y :: xs, 0, x, h, j, v, hv => by
    simp at h; subst h
    have hj : j < (enc y).length := (List.getElem?_eq_some_iff.1 hv).1
    simp only [List.map_cons, List.flatten_cons, Nat.zero_mul, Nat.zero_add]
    rw [List.getElem?_append_left hj]; exact hv
  | y :: xs, i + 1, x, h, j, v, hv => by
    have h' : xs[i]? = some x := by simpa using h
    have := flat_at he xs i x h' j v hv
    simp only [List.map_cons, List.flatten_cons]
    rw [List.getElem?_append_right (by rw [he, Nat.succ_mul]; omega), he, show (i + 1) * k + j - k = i * k + j by rw [Nat.succ_mul]; omega]
    exact this
/-- A slice of our own reads as the list. -/
theorem Own.sl {α : Type} {w : World} {e : TypeId} {k : Nat} {v : Value} {enc : α → List Value} {xs : List α} (h : Own w e k v ((xs.map enc).flatten)) (he : ∀ x, (enc x).length = k) (hk : 0 < k) : Sl w enc k v xs := by
  obtain ⟨A, m, c, rfl⟩ := h.lens
  obtain ⟨hm, hn, hl, hmc, hcm⟩ := h.mem A m c rfl
  rw [flat_length he] at hl
  have hlm : xs.length = m := Nat.eq_of_mul_eq_mul_right hk hl
  refine ⟨A, m, c, rfl, hlm, hmc, hcm, fun i x hi => ?_⟩
  have hi' := (List.getElem?_eq_some_iff.1 hi).1
  obtain ⟨a, rfl, hM⟩ := hm (by omega)
  refine ⟨a, rfl, hM.sub (i * k) fun j v hj => flat_at he xs i x hi j v hj⟩
theorem Src.one {P : Program} {w : World} {g k : Nat} {t : TypeId} {cs : List Value} (h : Blk w g t cs) (hl : cs.length = k) : Src P w k (.slice (some ⟨g, 0, none⟩) 1 1) 1 cs := Src.slice (by omega) fun _ => ⟨_, rfl, h.mem⟩
end Go.Fw
namespace Go.Proofs.Ytmndofgagngcgaa
open Go.RowKit Go.Fw
theorem ai_dig : AppInfo Try.prog 50 32 32 := by
  have h : (Try.prog.info? 50).map (fun i => (i.size, i.bytes, i.zero)) = some (32, 32, some (.agg (digC Dig.zero).toArray)) := by kernel_rfl
  obtain ⟨i, hi, h⟩ := Option.map_eq_some_iff.1 h
  injection h with h1 h2
  injection h2 with h2 h3
  exact ⟨i, _, hi, h3, h1, by show (digC Dig.zero).toArray.size = 32; simp [digC_length], h2, by decide, by decide⟩
theorem ai_op : AppInfo Try.prog 93 37 72 := by
  have h : (Try.prog.info? 93).map (fun i => (i.size, i.bytes, i.zero)) = some (37, 72, some (.agg (opC ⟨0, false, RefD.zero, 0⟩).toArray)) := by kernel_rfl
  obtain ⟨i, hi, h⟩ := Option.map_eq_some_iff.1 h
  injection h with h1 h2
  injection h2 with h2 h3
  exact ⟨i, _, hi, h3, h1, by show (opC _).toArray.size = 37; simp [opC_length], h2, by decide, by decide⟩
theorem bs1_dig (d : Dig) (w : World) : (Instr.buildSlice 88 1 [(0, digV d)].toArray).run Try.prog w = .ok (.slice (some ⟨w.heap.size, 0, none⟩) 1 1) (w.alloc (.cells (digC d).toArray 50)) := by
  obtain ⟨i, z, hi, hz, hk, _⟩ := ai_dig
  exact run_bs1 Try.underlying88 hi hz (by omega) (by omega) rfl (by rw [digC_length, hk]) w
theorem bs1_op (x : OpD) (w : World) : (Instr.buildSlice 27 1 [(0, opV x)].toArray).run Try.prog w = .ok (.slice (some ⟨w.heap.size, 0, none⟩) 1 1) (w.alloc (.cells (opC x).toArray 93)) := by
  obtain ⟨i, z, hi, hz, hk, _⟩ := ai_op
  exact run_bs1 Try.underlying27 hi hz (by omega) (by omega) rfl (by rw [opC_length, hk]) w
abbrev flatD (ps : List Dig) : List Value := (ps.map digC).flatten
abbrev flatO (os : List OpD) : List Value := (os.map opC).flatten
end Go.Proofs.Ytmndofgagngcgaa
namespace Go.Fw
theorem one1 {v : Value} (h : v.oneCell' = true) : ∀ u ∈ [v], u.oneCell' = true := by intro u hu; simp at hu; subst hu; exact h
end Go.Fw
namespace Go.Proofs.Ytmndofgagngcgaa
open Go.RowKit Go.Fw
theorem u8_of (n : Nat) : IntKind.u8.wrap (n : Int) = ((UInt8.ofNat n).toNat : Int) := by simp [IntKind.wrap, IntKind.bits, IntKind.signed]
theorem Blk.src1 {w : World} {g : Nat} {b : UInt8} (h : Blk w g 5 [Value.int .u8 (b.toNat : Int)]) : Src Try.prog w 1 (.slice (some ⟨g, 0, none⟩) 1 1) 1 (bytesC [b]) := Src.slice (by rfl) fun _ => ⟨_, rfl, h.mem⟩
end Go.Proofs.Ytmndofgagngcgaa

/- Calls that may panic; results that lie in cells; stores and loads in held regions; slices of slices. No condition; no program. -/
namespace Go.Fw
open Go.RowKit
section
variable {P : Program} {n : NN} {Φ : Exit → Fr → World → Prop} {fr : Fr} {w : World}
theorem WL.callOr {ops : Array Oper} {rest : List Oper} {dst : Option Nat} {f : FuncId} {args : List Operand} {tys : Array TypeId} {ty : TypeId} {pos : String} {aft : Array Edge} {vs : List Value} {fn : Func}
    {R : Value → World → Prop} {S : List PanicEntry → World → Prop}
    (hf : P.funcs[f]? = some fn) (hb : fn.body.isNone = false) (hn : (fn.name == "runtime.NumGoroutine") = false)
    (he : evs fr args = some vs) (hC : Calls P f vs.toArray w (RetOr R S)) (hd : ∀ d, dst = some d → d < n.1)
    (hp : ∀ ch w', S ch w' → Φ (.panic ch) fr w')
    (h : ∀ v w', R v w' → WL P ops n Φ rest (match dst with | some d => (d, v) :: fr | none => fr) w') :
    WL P ops n Φ (⟨dst, .call { callee := .value (.func f), args := args.toArray, argTypes := tys }, ty, pos, aft, none⟩ :: rest) fr w := fun a ha =>
  wpList_plain rfl fun K hK => by
    have hrun : (execOp a.eval ⟨dst, .call { callee := .value (.func f), args := args.toArray, argTypes := tys }, ty, pos, aft, none⟩).run P w = .ok (.enter f vs.toArray) w := by
      have := ha.evs he
      simp [execOp, resolve, invoke, Deferred.ofValue, Act.eval, this, run_callFunc hf hb hn]
    unfold Oper.wp
    rw [hrun]
    refine hC.mono fun e w' hr => ?_
    cases e with
    | returned v =>
      refine hK _ _ (h v w' hr _ ?_)
      cases dst with
      | none => exact ha
      | some d => exact ha.put (hd d rfl) v
    | panicked ch => exact ⟨fr, ha, hp ch w' hr⟩
    | outgrown => exact hr.elim
theorem WL.panicI {ops : Array Oper} {rest : List Oper} {x : Operand} {t : TypeId} {v : Value} {ty : TypeId} {pos : String} {aft : Array Edge} (hx : ev fr x = some (.iface t v)) (h : Φ (.panic [{ v := .iface t v, recovered := false }]) fr w) :
    WL P ops n Φ (⟨none, .panic x, ty, pos, aft, none⟩ :: rest) fr w := fun a ha =>
  wpList_plain rfl fun K hK => by
    have hrun : (execOp a.eval ⟨none, .panic x, ty, pos, aft, none⟩).run P w = .halt (.panic (.iface t v)) w := by
      simp [execOp, ha.ev hx, run_panic_iface]
    unfold Oper.wp
    rw [hrun]
    exact ⟨fr, ha, h⟩
theorem Y.nilCheck {x : Operand} {ty : TypeId} {a : Addr} (hx : ev fr x = some (.pointer (some a))) : Yw P n fr (.nilCheck x) ty w (.pointer (some a)) w := fun b o' ho _ ha => by
  simp [execOp, ho, ha.ev hx]
theorem Y.slice_sl {x lo hi : Operand} {t e ty : TypeId} {a : Addr} {m c k i j : Nat} {ki kj : IntKind} (hT : P.underlying t = some (.slice e)) (hx : ev fr x = some (.slice (some a) m c)) (hlo : ev fr lo = some (.int ki (i : Int))) (hhi : ev fr hi = some (.int kj (j : Int)))
    (hS : (P.info? e).map (·.size) = some k) (h1 : i ≤ j) (h2 : j ≤ c) : Yw P n fr (.slice t x (some lo) (some hi) none) ty w (.slice (some (if c = i then a else a.add (i * k))) (j - i) (c - i)) w := fun b o' ho _ ha => by
  have e1 : (0 : Int) ≤ (i : Int) := by omega
  have e2 : (0 : Int) ≤ (j : Int) := by omega
  simp [execOp, ho, ha.ev hx, ha.ev hlo, ha.ev hhi, Instr.sliceAt, Instr.slice, run_underlying hT, Instr.sliceBounds, Instr.sliceBound, asIntOf, e1, e2, h1, h2, fw_sizeOf hS]
  split <;> rfl
theorem Y.toArr {x : Operand} {t e ty : TypeId} {A : Option Addr} {m c k : Nat} (hT : P.underlying t = some (.array k e)) (hx : ev fr x = some (.slice A m c)) (h : k ≤ m) : Yw P n fr (.sliceToArrayPointer t x) ty w (.pointer A) w := fun b o' ho _ ha => by
  simp [execOp, ho, ha.ev hx, Instr.arrayAt, run_underlying hT, Nat.not_lt.2 h]

/-! ## Held regions -/
variable {ops : Array Oper} {S : World → Prop} {fuel : Nat} {listed : Array Bool}
theorem RS.val {i d : Nat} {o : Op} {ty : TypeId} {pos : String} {aft : Array Edge} {v : Value}
    (hi : ops[i]? = some ⟨some d, o, ty, pos, aft, none⟩) (hy : Yw P n fr o ty w v w) (hd : d < n.1)
    (h : S w ∧ RH P ops S n Φ fuel (listed.setIfInBounds i true) ((d, v) :: fr) w) : RS P ops S n Φ fuel listed i fr w := fun a ha => by
  have hr := hy a ⟨some d, o, ty, pos, aft, none⟩ rfl rfl ha
  unfold wpOp
  rw [hi]
  simp only [Region.wanted, if_true]
  refine .inl ?_
  unfold Oper.wp
  rw [hr]
  exact ⟨h.1, h.2 _ (ha.put hd v)⟩
theorem RS.callOr {i : Nat} {dst : Option Nat} {f : FuncId} {args : List Operand} {tys : Array TypeId} {ty : TypeId} {pos : String} {aft : Array Edge} {vs : List Value} {fn : Func} {R : Value → World → Prop} {T : List PanicEntry → World → Prop}
    (hi : ops[i]? = some ⟨dst, .call { callee := .value (.func f), args := args.toArray, argTypes := tys }, ty, pos, aft, none⟩)
    (hf : P.funcs[f]? = some fn) (hb : fn.body.isNone = false) (hn : (fn.name == "runtime.NumGoroutine") = false)
    (he : evs fr args = some vs) (hC : Calls P f vs.toArray w (RetOr R T)) (hd : ∀ d, dst = some d → d < n.1)
    (hp : ∀ ch w', T ch w' → Φ (.panic ch) fr w')
    (h : ∀ v w', R v w' → S w' ∧ RH P ops S n Φ fuel (listed.setIfInBounds i true) (match dst with | some d => (d, v) :: fr | none => fr) w') : RS P ops S n Φ fuel listed i fr w := fun a ha => by
  have hrun : (execOp a.eval ⟨dst, .call { callee := .value (.func f), args := args.toArray, argTypes := tys }, ty, pos, aft, none⟩).run P w = .ok (.enter f vs.toArray) w := by
    have := ha.evs he
    simp [execOp, resolve, invoke, Deferred.ofValue, Act.eval, this, run_callFunc hf hb hn]
  unfold wpOp
  rw [hi]
  simp only [Region.wanted, if_true]
  refine .inl ?_
  unfold Oper.wp
  rw [hrun]
  refine hC.mono fun e w' hr => ?_
  cases e with
  | returned v =>
    obtain ⟨h1, h2⟩ := h v w' hr
    refine ⟨h1, h2 _ ?_⟩
    cases dst with
    | none => exact ha
    | some d => exact ha.put (hd d rfl) v
  | panicked ch => exact ⟨fr, ha, hp ch w' hr⟩
  | outgrown => exact hr.elim
theorem RS.store {i : Nat} {t e : TypeId} {x y : Operand} {ty : TypeId} {pos : String} {aft : Array Edge} {v : Value} {g : Nat} {pre old post new : List Value} {A : Addr}
    (hi : ops[i]? = some ⟨none, .store t x y, ty, pos, aft, none⟩)
    (hx : ev fr x = some (.pointer (some A))) (hA : A = ⟨g, pre.length, none⟩) (hy : ev fr y = some v) (hv : v.cells = new.toArray) (hS : (P.info? t).map (·.size) = some new.length)
    (hb : Blk w g e (pre ++ old ++ post)) (hl : new.length = old.length) (h1 : ∀ u ∈ new, u.oneCell' = true)
    (h : ∀ w', Chg (· = g) w w' → Blk w' g e (pre ++ new ++ post) → S w' ∧ RH P ops S n Φ fuel (listed.setIfInBounds i true) fr w') : RS P ops S n Φ fuel listed i fr w := fun a ha => by
  obtain ⟨w', hst, hc, hb'⟩ := run_storeCells_blk (P := P) hb hl h1
  have hrun : (execOp a.eval ⟨none, .store t x y, ty, pos, aft, none⟩).run P w = .ok .skip w' := by
    simp [execOp, ha.ev hx, ha.ev hy, Instr.storeAt, Instr.sureAddr, storeVar, fw_sizeOf hS, hv, hA, hst]
  obtain ⟨h1, h2⟩ := h w' hc hb'
  unfold wpOp
  rw [hi]
  simp only [Region.wanted, if_true]
  refine .inl ?_
  unfold Oper.wp
  rw [hrun]
  exact ⟨h1, h2 _ ha⟩

/-! ## Results in cells -/
@[reducible] def DoneG (D : Fr → World → Prop) (S : List PanicEntry → World → Prop) : Exit → Fr → World → Prop
  | .normal, fr, w => D fr w
  | .ret, fr, w => D fr w
  | .panic ch, _, w => S ch w
  | _, _, _ => False
theorem calls_of_CWG {f : FuncId} {fn : Func} {c : Code} {args : List Value} {R : Value → World → Prop} {S : List PanicEntry → World → Prop} (m : Nat) (D : Fr → World → Prop) (fr0 : Fr)
    (hf : P.funcs[f]? = some fn) (hb : fn.body = some c) (hm : fn.ntmps = m) (hr : ∀ a fr w, Rep (m, [], none) a fr → D fr w → ∃ v, (results fn a.tmps).run P w = .ok v w ∧ R v w)
    (hsz : args.length ≤ m) (hargs : ∀ t v, fr0.get t = some v → args[t]? = some v)
    (h : CW P c (m, [], none) (DoneG D S) fr0 w) : Calls P f args.toArray w (RetOr R S) := by
  refine calls_of_wp hf hb ?_
  have hrep : Rep (m, [], none) { tmps := args.toArray ++ Array.replicate (fn.ntmps - args.toArray.size) undef, defers := [] } fr0 := by
    refine ⟨by simp [hm]; omega, rfl, fun t v hv => ?_⟩
    have h1 := hargs t v hv
    have hlt : t < args.length := (List.getElem?_eq_some_iff.1 h1).1
    simpa [Array.getElem?_append, hlt] using (List.getElem?_eq_some_iff.1 h1).2
  refine wp_mono ((CW.plain rfl).1 h _ hrep) ?_
  rintro e a' w' ⟨fr', hf', hp⟩
  cases e with
  | normal => obtain ⟨v, hv, hR⟩ := hr _ _ _ hf' hp; exact ⟨hf'.defers, v, hv, hR⟩
  | ret => obtain ⟨v, hv, hR⟩ := hr _ _ _ hf' hp; exact ⟨hf'.defers, v, hv, hR⟩
  | exit id => exact hp
  | goto l => exact hp
  | panic ch => exact ⟨hf'.defers, hp⟩
  | outgrown => exact hp.elim
/-- One result, in cells. -/
@[reducible] def Cell1 (t m : Nat) (R : Value → World → Prop) (fr : Fr) (w : World) : Prop := ∃ a cs, fr.get t = some (.pointer (some a)) ∧ Mem w a cs ∧ cs.length = m ∧ R (.agg cs.toArray) w
theorem res_cell {fn : Func} {a : Act} {t m : Nat} {ty : TypeId} {d : TypeDesc} {R : Value → World → Prop} (hr : fn.results = #[.cell t ty]) (hT : P.underlying ty = some d) (hd : notAgg d = false) (hS : (P.info? ty).map (·.size) = some m)
    {fr : Fr} {w : World} (ha : Rep n a fr) (hD : Cell1 t m R fr w) : ∃ v, (results fn a.tmps).run P w = .ok v w ∧ R v w := by
  obtain ⟨p, cs, hp, hm, hl, hR⟩ := hD
  have h1 := run_loadVarA (P := P) hT hd (by rw [hl]; exact hS) hm
  have e := ha.get t _ hp
  refine ⟨_, ?_, hR⟩
  simp [results, hr, e, asAddr, h1]
theorem calls_of_CWc_or {f : FuncId} {fn : Func} {c : Code} {args : List Value} {R : Value → World → Prop} {S : List PanicEntry → World → Prop} (m t k : Nat) (fr0 : Fr) {ty : TypeId} {d : TypeDesc}
    (hf : P.funcs[f]? = some fn) (hb : fn.body = some c) (hm : fn.ntmps = m) (hr : fn.results = #[.cell t ty]) (hT : P.underlying ty = some d) (hd : notAgg d = false) (hS : (P.info? ty).map (·.size) = some k)
    (hsz : args.length ≤ m) (hargs : ∀ t v, fr0.get t = some v → args[t]? = some v)
    (h : CW P c (m, [], none) (DoneG (Cell1 t k R) S) fr0 w) : Calls P f args.toArray w (RetOr R S) :=
  calls_of_CWG m _ fr0 hf hb hm (fun a fr w ha hD => res_cell hr hT hd hS ha hD) hsz hargs h
theorem calls_of_CWc {f : FuncId} {fn : Func} {c : Code} {args : List Value} {R : Value → World → Prop} (m t k : Nat) (fr0 : Fr) {ty : TypeId} {d : TypeDesc}
    (hf : P.funcs[f]? = some fn) (hb : fn.body = some c) (hm : fn.ntmps = m) (hr : fn.results = #[.cell t ty]) (hT : P.underlying ty = some d) (hd : notAgg d = false) (hS : (P.info? ty).map (·.size) = some k)
    (hsz : args.length ≤ m) (hargs : ∀ t v, fr0.get t = some v → args[t]? = some v)
    (h : CW P c (m, [], none) (DoneG (Cell1 t k R) (fun _ _ => False)) fr0 w) : Calls P f args.toArray w (Ret R) :=
  (calls_of_CWc_or m t k fr0 hf hb hm hr hT hd hS hsz hargs h).mono fun e w' he => by
    cases e with
    | returned v => exact he
    | panicked ch => exact he.elim
    | outgrown => exact he.elim
/-- A slice of bytes, whosever. -/
def By (w : World) (v : Value) (bs : List UInt8) : Prop := ∃ A m c, v = .slice A m c ∧ bs.length = m ∧ m ≤ c ∧ c ≤ maxLen ∧ (0 < m → ∃ a, A = some a ∧ Mem w a (bytesC bs)) ∧ (A = none → m = 0)
theorem By.chg {T : Nat → Prop} {w w' : World} {v : Value} {bs : List UInt8} (h : By w v bs) (hc : Chg T w w') (hs : bs ≠ [] → ∀ g, v.ownBlock = some g → ¬ T g) : By w' v bs := by
  obtain ⟨A, m, c, rfl, hl, hmc, hcm, hA, hn⟩ := h
  refine ⟨A, m, c, rfl, hl, hmc, hcm, fun h0 => ?_, hn⟩
  obtain ⟨a, rfl, hm⟩ := hA h0
  exact ⟨a, rfl, hm.chg hc (hs (by rintro rfl; simp at hl; omega) _ rfl)⟩
theorem By.ext {w w' : World} {v : Value} {bs : List UInt8} (h : By w v bs) (hc : Ext w w') : By w' v bs := h.chg hc fun _ _ _ f => f
theorem Own.by {e : TypeId} {v : Value} {bs : List UInt8} (h : Own w e 1 v (bytesC bs)) : By w v bs := by
  obtain ⟨A, m, c, rfl⟩ := h.lens
  obtain ⟨hm, hn, hl, hmc, hcm⟩ := h.mem A m c rfl
  rw [bytesC_length] at hl
  exact ⟨A, m, c, rfl, by omega, hmc, hcm, hm, hn⟩
end

/-! ## A scope with a label that is jumped back to -/
@[reducible] def jumpF (l : Nat) (J : Fr → World → Prop) (Φ : Exit → Fr → World → Prop) : Exit → Fr → World → Prop
  | .goto l', f, w => l' = l ∧ J f w
  | .normal, f, w => Φ .normal f w
  | .exit id, f, w => Φ (.exit id) f w
  | .ret, f, w => Φ .ret f w
  | .panic ch, f, w => Φ (.panic ch) f w
  | .outgrown, f, w => Φ .outgrown f w
theorem CW.scope {P : Program} {n : NN} {Φ : Exit → Fr → World → Prop} {fr : Fr} {w : World} {c tail : Code} {X : Type} (l : Nat) (g : X → Fr) (W : X → World → Prop) (μ : X → Nat) (hf : findLabel c l = some (.seq .skip tail))
    (T : ∀ x w, W x w → CW P tail n (jumpF l (fun f w => ∃ y, μ y < μ x ∧ Fr.le (g y) f ∧ W y w) Φ) (g x) w)
    (first : (∀ f w x, Fr.le (g x) f → W x w → CW P (.seq (.label l) tail) n (jumpF l (fun f w => ∃ y, Fr.le (g y) f ∧ W y w) Φ) f w) → CW P c n (jumpF l (fun f w => ∃ y, Fr.le (g y) f ∧ W y w) Φ) fr w) (hn0 : n.2.2 = none := by rfl) : CW P (.scope c) n Φ fr w := by
  have hT : ∀ f w x, Fr.le (g x) f → W x w → CW P tail n (jumpF l (fun f w => ∃ y, Fr.le (g y) f ∧ W y w) Φ) f w := fun f w x hl hw =>
    CW.weaken hl (CW.mono (T x w hw) fun e f w hp => by
      cases e with
      | goto l' => obtain ⟨h1, y, _, h2⟩ := hp; exact ⟨h1, y, h2⟩
      | _ => exact hp)
  have hT' : ∀ f w x, Fr.le (g x) f → W x w → CW P (.seq (.label l) tail) n (jumpF l (fun f w => ∃ y, Fr.le (g y) f ∧ W y w) Φ) f w := fun f w x hl hw =>
    CW.seq fun K hK => CW.label (hK _ _ (hT f w x hl hw))
  refine (CW.plain hn0).2 fun a ha => ?_
  intro b k cs
  have hg : gotoIn l (.inScope c :: k) = some (.code (.seq .skip tail) :: .inScope c :: k) := by simp [gotoIn, hf]
  have key : ∀ m x a w, μ x = m → Rep n a (g x) → W x w → ∃ e a' w', lift n Φ e a' w' ∧ Arrives P (lone (b.at a (.code (.seq .skip tail) :: .inScope c :: k)) cs w) b k cs e a' w' := by
    intro m
    induction m using Nat.strongRecOn with
    | _ m ih =>
      intro x a w hn hr hW
      have hs : CW P (.seq .skip tail) n (jumpF l (fun f w => ∃ y, μ y < μ x ∧ Fr.le (g y) f ∧ W y w) Φ) (g x) w := CW.seq fun K hK => CW.skip (hK _ _ (T x w hW))
      obtain ⟨e, a₁, w₁, ⟨f, hf1, hp⟩, harr⟩ := (CW.plain hn0).1 hs a hr b (.inScope c :: k) cs
      cases e with
      | normal => exact ⟨.normal, a₁, w₁, ⟨f, hf1, hp⟩, Steps.trans harr (.one step_inScope)⟩
      | exit id => exact ⟨.exit id, a₁, w₁, ⟨f, hf1, hp⟩, fun k' hk => harr k' (by simp [exitTo, hk])⟩
      | goto l' =>
        obtain ⟨rfl, y, hlt, hl, hW'⟩ := hp
        obtain ⟨e₂, a₂, w₂, hq₂, harr₂⟩ := ih _ (hn ▸ hlt) y a₁ w₁ rfl (hf1.weaken hl) hW'
        exact ⟨e₂, a₂, w₂, hq₂, .of_steps (harr _ hg) harr₂⟩
      | ret => exact ⟨_, a₁, w₁, ⟨f, hf1, hp⟩, harr⟩
      | panic ch => exact ⟨_, a₁, w₁, ⟨f, hf1, hp⟩, harr⟩
      | outgrown => exact ⟨_, a₁, w₁, ⟨f, hf1, hp⟩, harr⟩
  obtain ⟨e, a₁, w₁, ⟨f, hf1, hp⟩, harr⟩ := (CW.plain hn0).1 (first hT') a ha b (.inScope c :: k) cs
  cases e with
  | normal => exact ⟨.normal, a₁, w₁, ⟨f, hf1, hp⟩, .head step_scope (Steps.trans harr (.one step_inScope))⟩
  | exit id => exact ⟨.exit id, a₁, w₁, ⟨f, hf1, hp⟩, fun k' hk => .head step_scope (harr k' (by simp [exitTo, hk]))⟩
  | goto l' =>
    obtain ⟨rfl, y, hl, hW'⟩ := hp
    obtain ⟨e₂, a₂, w₂, hq₂, harr₂⟩ := key _ y a₁ w₁ rfl (hf1.weaken hl) hW'
    exact ⟨e₂, a₂, w₂, hq₂, .of_steps (.head step_scope (harr _ hg)) harr₂⟩
  | ret => exact ⟨_, a₁, w₁, ⟨f, hf1, hp⟩, .of_steps (.one step_scope) harr⟩
  | panic ch => exact ⟨_, a₁, w₁, ⟨f, hf1, hp⟩, .of_steps (.one step_scope) harr⟩
  | outgrown => exact ⟨_, a₁, w₁, ⟨f, hf1, hp⟩, .of_steps (.one step_scope) harr⟩
section
variable {P : Program} {n : NN} {fr : Fr} {w : World} {ty : TypeId}
theorem Y.and_k {x y : Operand} {k : IntKind} {p q : Int} {t t' : TypeId} {r : Int} (hx : ev fr x = some (.int k p)) (hy : ev fr y = some (.int k q)) (hr : k.wrap ((BitVec.ofInt k.bits p &&& BitVec.ofInt k.bits q).toNat : Int) = r) : Yw P n fr (.binOp .and t x y t') ty w (.int k r) w :=
  Y.bin hx hy (by simp [eqGuard_at_int]) (by
    have e : binOp .and t (.int k p) (.int k q) = pure (.int k r) := by simp only [binOp, ne_eq, not_true_eq_false, if_false, Op.intBits, hr]
    rw [e]; rfl)
theorem Y.shl {x y : Operand} {k k' : IntKind} {p q r : Int} {t t' : TypeId} (hx : ev fr x = some (.int k p)) (hy : ev fr y = some (.int k' q)) (hq : 0 ≤ q) (hr : k.wrap (p * (2 ^ (min q.toNat k.bits))) = r) : Yw P n fr (.binOp .shl t x y t') ty w (.int k r) w :=
  Y.bin hx hy (by simp [eqGuard_at_int]) (by simp [binOp, Op.shift, Int.not_lt.2 hq, hr])
end
theorem and127 (b : UInt8) : IntKind.u8.wrap ((BitVec.ofInt IntKind.u8.bits (b.toNat : Int) &&& BitVec.ofInt IntKind.u8.bits 127).toNat : Int) = ((b.toNat % 128 : Nat) : Int) := by
  have h : ∀ m, m < 256 → IntKind.u8.wrap ((BitVec.ofInt IntKind.u8.bits ((m : Nat) : Int) &&& BitVec.ofInt IntKind.u8.bits 127).toNat : Int) = ((m % 128 : Nat) : Int) := by decide +kernel
  exact h _ b.toNat_lt
theorem wrap_nat {n : Nat} (h : n < 9223372036854775808) : IntKind.i64.wrap (n : Int) = (n : Int) := IntWalk.i64_in _ ⟨by omega, by omega⟩
theorem toNat_of {n : Nat} (h : n < 18446744073709551616) : (BitVec.ofInt 64 (n : Int)).toNat = n := by
  rw [BitVec.toNat_ofInt]; omega
theorem pow7 (i : Nat) : 2 ^ (7 * i) = 128 ^ i := by rw [Nat.pow_mul]
theorem p128 {i : Nat} (h : i ≤ 8) : 128 ^ i ≤ 72057594037927936 := by
  have := Nat.pow_le_pow_right (n := 128) (by decide) h
  simpa using this
theorem low_high {s y i : Nat} (hs : s < 128 ^ i) (hy : y < 128) (hi : i ≤ 8) : s + y * 128 ^ i < 128 ^ (i + 1) ∧ s + y * 128 ^ i < 9223372036854775808 := by
  have h1 : s + y * 128 ^ i < 128 ^ (i + 1) := by
    have := Nat.mul_le_mul_right (128 ^ i) (Nat.le_sub_one_of_lt hy)
    rw [Nat.pow_succ]; omega
  refine ⟨h1, Nat.lt_of_lt_of_le h1 ?_⟩
  have := Nat.pow_le_pow_right (n := 128) (by decide) (Nat.add_le_add_right hi 1)
  simpa using this
theorem shl_at {y i : Nat} (hy : y < 128) (hi : i ≤ 8) : IntKind.i64.wrap ((y : Int) * (2 ^ (min (7 * (i : Int)).toNat IntKind.i64.bits))) = ((y * 128 ^ i : Nat) : Int) := by
  have e : min (7 * (i : Int)).toNat IntKind.i64.bits = 7 * i := by show min _ 64 = _; omega
  have h := (low_high (s := 0) (Nat.pow_pos (by decide)) hy hi).2
  have e2 : (y : Int) * (2 ^ (7 * i)) = ((y * 128 ^ i : Nat) : Int) := by rw [← pow7]; simp
  rw [e, e2, wrap_nat (by omega)]
theorem or_at {s y i : Nat} (hs : s < 128 ^ i) (hy : y < 128) (hi : i ≤ 8) : IntKind.i64.wrap ((BitVec.ofInt IntKind.i64.bits (s : Int) ||| BitVec.ofInt IntKind.i64.bits ((y * 128 ^ i : Nat) : Int)).toNat : Int) = ((s + y * 128 ^ i : Nat) : Int) := by
  have h := (low_high hs hy hi).2
  show IntKind.i64.wrap ((BitVec.ofInt 64 (s : Int) ||| BitVec.ofInt 64 ((y * 128 ^ i : Nat) : Int)).toNat : Int) = _
  rw [BitVec.toNat_or, toNat_of (by omega), toNat_of (by omega)]
  have e : s ||| y * 128 ^ i = s + y * 128 ^ i := by
    rw [← pow7] at hs ⊢
    have := Nat.two_pow_add_eq_or_of_lt hs y
    rw [Nat.or_comm, Nat.mul_comm, ← this, Nat.add_comm]
  rw [e, wrap_nat h]
theorem Y.conv_nat {P : Program} {n : NN} {fr : Fr} {w : World} {ty : TypeId} {x : Operand} {k : IntKind} {m : Nat} {s d : TypeId} {ds : TypeDesc} (hs : P.underlying s = some ds) (hd : P.underlying d = some (.int .i64)) (hx : ev fr x = some (.int k (m : Int))) (h : m < 9223372036854775808) :
    Yw P n fr (.convert s d x) ty w (.int .i64 (m : Int)) w := by
  have := Y.conv_int (n := n) (w := w) (ty := ty) hs hd hx
  rwa [wrap_nat h] at this
theorem Mem.byteAt {w : World} {a : Addr} {bs : List UInt8} {j : Nat} {b : UInt8} {z : Int} (h : Mem w a (bytesC bs)) (hb : bs[j]? = some b) (hz : z = (j : Int)) : w.cell? (a.add (z.toNat * 1)) = some (.int .u8 (b.toNat : Int)) := by
  subst hz
  rw [Int.toNat_natCast, Nat.mul_one]
  exact h j _ (bytesC_get hb)
theorem Y.slice_slI {P : Program} {n : NN} {fr : Fr} {w : World} {x lo hi : Operand} {t e ty : TypeId} {a : Addr} {m c k i j : Nat} {ki kj : IntKind} {zi zj : Int} (hT : P.underlying t = some (.slice e)) (hx : ev fr x = some (.slice (some a) m c)) (hlo : ev fr lo = some (.int ki zi)) (hhi : ev fr hi = some (.int kj zj))
    (hS : (P.info? e).map (·.size) = some k) (hi' : zi = (i : Int)) (hj' : zj = (j : Int)) (h1 : i ≤ j) (h2 : j ≤ c) : Yw P n fr (.slice t x (some lo) (some hi) none) ty w (.slice (some (if c = i then a else a.add (i * k))) (j - i) (c - i)) w := by
  subst hi'; subst hj'; exact Y.slice_sl hT hx hlo hhi hS h1 h2
section place
variable {w : World} {a : Addr} {bv pv ov : Value} {at_ : Int} {rest : List Value} {au no : ByteArray}
theorem Mem.place0 (h : Mem w a (bv :: .int .i64 at_ :: rest)) : w.cell? (a.add 0) = some bv := h.cell 0 rfl
theorem Mem.place1 (h : Mem w a (bv :: .int .i64 at_ :: rest)) : w.cell? (a.add 1) = some (.int .i64 at_) := h.cell 1 rfl
/-- A reader's cells. -/
def rdC (bv : Value) (at_ : Int) (pv : Value) (au no : ByteArray) (ov : Value) : List Value := bv :: .int .i64 at_ :: comC pv au no ov
theorem Mem.reader0 (h : Mem w a (rdC bv at_ pv au no ov)) : Mem w (a.add 0) (rdC bv at_ pv au no ov) := by rw [show a.add 0 = a by simp [Addr.add]]; exact h
theorem Mem.reader1 (h : Mem w a (rdC bv at_ pv au no ov)) : Mem w (a.add 2) (comC pv au no ov) := h.sub 2 fun j v hj => by
  rw [Nat.add_comm]; exact hj
end place
end Go.Fw
namespace Go.Fw
open Go.RowKit
theorem By.slMem {w : World} {a : Addr} {m c i j : Nat} {bs : List UInt8} (h : Mem w a (bytesC bs)) (hl : bs.length = m) (hc : m ≤ c) (h1 : i < j) (h2 : j ≤ m) : Mem w (if c = i then a else a.add (i * 1)) (bytesC ((bs.drop i).take (j - i))) := by
  rw [if_neg (by omega), Nat.mul_one]
  refine h.sub i fun k v hk => ?_
  rw [bytesC, List.getElem?_map] at hk ⊢
  rw [List.getElem?_take] at hk
  split at hk
  · rwa [List.getElem?_drop] at hk
  · cases hk
end Go.Fw

/- Rules: a slot whose value is known; a slice out of a constant text. No condition; no program. -/
namespace Go.Fw
open Go.RowKit
section
variable {P : Program} {n : NN} {Φ : Exit → Fr → World → Prop} {fr : Fr} {w : World} {ops : Array Oper} {C S : World → Prop} {Ψ : Fr → Prop}
theorem WL.know {l : List Oper} {d : Nat} {v u : Value} (hg : fr.get d = some v) (h : v = u) (k : WL P ops n Φ l ((d, u) :: fr) w) : WL P ops n Φ l fr w := fun a ha => k a (ha.weaken (Fr.le.cons (by rw [hg, h]) Fr.le.refl))
theorem QL.know {l : List Oper} {d : Nat} {v u : Value} (hg : fr.get d = some v) (h : v = u) (k : QL P ops C n Ψ l ((d, u) :: fr)) : QL P ops C n Ψ l fr := fun a ha => k a (ha.weaken (Fr.le.cons (by rw [hg, h]) Fr.le.refl))
theorem RH.know {fuel : Nat} {listed : Array Bool} {d : Nat} {v u : Value} (hg : fr.get d = some v) (h : v = u) (k : RH P ops S n Φ fuel listed ((d, u) :: fr) w) : RH P ops S n Φ fuel listed fr w := fun a ha => k a (ha.weaken (Fr.le.cons (by rw [hg, h]) Fr.le.refl))
theorem CW.know {c : Code} {d : Nat} {v u : Value} (hg : fr.get d = some v) (h : v = u) (k : CW P c n Φ ((d, u) :: fr) w) : CW P c n Φ fr w := fun a ha => k a (ha.weaken (Fr.le.cons (by rw [hg, h]) Fr.le.refl))
/-- '[]byte("..")' of a constant text. -/
theorem WL.bytesConst {rest : List Oper} {d d' : Nat} {t e : TypeId} {len : Nat} {ps : List (Nat × Operand)} {vs : List (Nat × Value)} {cs : List Value} {ty ty' : TypeId} {pos pos' : String} {aft aft' : Array Edge}
    (hp : evp fr ps = some vs) (hr : ∀ w, (Instr.buildSlice t len vs.toArray).run P w = .ok (.slice (some ⟨w.heap.size, 0, none⟩) len len) (w.alloc (.cells cs.toArray e)))
    (ht : P.underlying t = some (.slice e)) (he : P.underlying e = some (.int .u8)) (hl : cs.length = len) (hm : len ≤ maxLen) (hd : d < n.1) (hd' : d' < n.1)
    (h : ∀ g w', Ext w w' → w.heap.size ≤ g → Own w' e 1 (.slice (some ⟨g, 0, none⟩) len len) cs → WL P ops n Φ rest ((d', .slice (some ⟨g, 0, none⟩) len len) :: (d, .slice (some ⟨g, 0, none⟩) len len) :: fr) w') :
    WL P ops n Φ (⟨some d, .buildSlice t len ps.toArray, ty, pos, aft, none⟩ :: ⟨some d', .convert t t (.tmp d), ty', pos', aft', none⟩ :: rest) fr w := fun a ha =>
  wpList_plain rfl fun K hK => by
    have h1 : (execOp a.eval ⟨some d, .buildSlice t len ps.toArray, ty, pos, aft, none⟩).run P w = .ok (.value (.slice (some ⟨w.heap.size, 0, none⟩) len len)) (w.alloc (.cells cs.toArray e)) := by
      have h2 := hr w
      rw [← ha.evp hp] at h2
      simp only [execOp, List.map_toArray, Sem.run_bind]
      rw [h2]; rfl
    unfold Oper.wp
    rw [h1]
    refine hK _ _ ?_
    have ha1 := ha.put hd (.slice (some ⟨w.heap.size, 0, none⟩) len len)
    refine wpList_plain rfl fun K2 hK2 => ?_
    have hg : (a.put (some d) (.slice (some ⟨w.heap.size, 0, none⟩) len len)).eval (.tmp d) = .slice (some ⟨w.heap.size, 0, none⟩) len len := ha1.ev (by simp [ev, Fr.get])
    have h2 : (execOp (a.put (some d) (.slice (some ⟨w.heap.size, 0, none⟩) len len)).eval ⟨some d', .convert t t (.tmp d), ty', pos', aft', none⟩).run P (w.alloc (.cells cs.toArray e)) = .ok (.value (.slice (some ⟨w.heap.size, 0, none⟩) len len)) (w.alloc (.cells cs.toArray e (cs.toArray.size, cs.toArray.size + 1))) := by
      have h3 := Lib.run_convert_bytes_const (P := P) w t e cs.toArray len len ht he
      simp only [execOp, hg, Sem.run_bind]
      rw [h3]; rfl
    unfold Oper.wp
    rw [h2]
    refine hK2 _ _ ?_
    refine h w.heap.size _ (Chg.alloc _) (Nat.le_refl _) (.inr ⟨w.heap.size, len, len, [], (cs.length, cs.length + 1), rfl, ?_, by omega, Nat.le_refl _, hm, by simp [hl], fun o ho => by omega⟩) _ (ha1.put hd' _)
    have := heap_alloc_new w (.cells cs.toArray e (cs.toArray.size, cs.toArray.size + 1))
    simpa using this
theorem flat_cells1 : ∀ {l : List Value}, (∀ u ∈ l, u.oneCell' = true) → l.flatMap (fun v => v.cells.toList) = l
  | [], _ => rfl
  | x :: r, h => by
    have h1 : x.cells = #[x] := by
      have := h x (by simp)
      cases x <;> first | rfl | simp [Value.oneCell'] at this
    simp only [List.flatMap_cons, h1, flat_cells1 (l := r) fun u hu => h u (by simp [hu])]
    rfl
theorem run_bsN {t e : TypeId} {b : Nat} (hu : P.underlying t = some (.slice e)) (hi : AppInfo P e 1 b) (l : List UInt8) (h0 : 0 < l.length) (hs : l.length ≤ 16777216) (w : World) :
    (Instr.buildSlice t l.length (((bytesC l).zipIdx 0).map fun x => (x.2, x.1)).toArray).run P w = .ok (.slice (some ⟨w.heap.size, 0, none⟩) l.length l.length) (w.alloc (.cells (bytesC l).toArray e)) := by
  obtain ⟨i, z, hi, hz, hk, hzs, hb, h1, h2⟩ := hi
  refine run_buildSlice w t e l.length _ _ i z hu hi hz (by rw [hk]; omega) (by rw [hk]; omega) ?_
  rw [hk]
  have h := Go.Great.fill_whole (s := 1) (by decide) (bytesC l) ((Array.range (l.length * 1)).map (z.cells[· % z.cells.size]!)) (by intro u hu; simp only [bytesC, List.mem_map] at hu; obtain ⟨x, _, rfl⟩ := hu; rfl) (by simp [bytesC])
  rw [flat_cells1 one_bytesC] at h
  exact h
end
end Go.Fw
namespace Go.Proofs.Ytmndofgagngcgaa
open Go.RowKit Go.Fw Go.Pl
end Go.Proofs.Ytmndofgagngcgaa

/- Rules: remainders, slices up to a place, empty slices, slices as an append's source, results in a cell, stores into slices of our own. No condition; no program. -/
namespace Go.Fw
open Go.RowKit
theorem Chg.step {S : Nat → Prop} {w w1 w2 : World} (h : Ext w w1) (c : Chg S w1 w2) (hS : ∀ k, S k → w.heap.size ≤ k) : Ext w w2 := ((Ext.chg h).trans c (fun _ _ h => h)).toExt (fun i hi h => by have := hS i h; omega)
section
variable {P : Program} {n : NN} {fr : Fr} {w : World} {ty : TypeId}
theorem Y.rem {x y : Operand} {k : IntKind} {p q : Int} {t t' : TypeId} (hx : ev fr x = some (.int k p)) (hy : ev fr y = some (.int k q)) (h : q ≠ 0) : Yw P n fr (.binOp .rem t x y t') ty w (.int k (p.tmod q)) w := Y.bin hx hy (by simp [eqGuard_at_int]) (by simp [binOp_rem, Op.intDiv, h])
theorem Y.quo {x y : Operand} {k : IntKind} {p q : Int} {t t' : TypeId} (hx : ev fr x = some (.int k p)) (hy : ev fr y = some (.int k q)) (h : q ≠ 0) : Yw P n fr (.binOp .quo t x y t') ty w (.int k (k.wrap (p.tdiv q))) w := Y.bin hx hy (by simp [eqGuard_at_int]) (by simp [binOp_quo, Op.intDiv, h])
theorem Y.slice_hi {x hi : Operand} {t e ty : TypeId} {A : Option Addr} {m c k j : Nat} {kj : IntKind} {z : Int} (hT : P.underlying t = some (.slice e)) (hx : ev fr x = some (.slice A m c)) (hhi : ev fr hi = some (.int kj z))
    (hS : (P.info? e).map (·.size) = some k) (hz : z = (j : Int)) (h2 : j ≤ c) : Yw P n fr (.slice t x none (some hi) none) ty w (.slice A j c) w := fun b o' ho _ ha => by
  subst hz
  have e2 : (0 : Int) ≤ (j : Int) := by omega
  have ea : (A.map fun a => a.add (0 * k)) = A := by cases A <;> simp [Addr.add]
  simp [execOp, ho, ha.ev hx, ha.ev hhi, Instr.sliceAt, Instr.slice, run_underlying hT, Instr.sliceBounds, Instr.sliceBound, asIntOf, e2, h2, fw_sizeOf hS]
  intro _; cases A <;> simp [Addr.add]
theorem St.buildSlice0 {t e : TypeId} {k : Nat} (hu : P.underlying t = some (.slice e)) (hS : (P.info? e).map (·.size) = some k) :
    St P n fr (.buildSlice t 0 #[]) ty w (fun v w' => ∃ g, v = .slice (some ⟨g, 0, none⟩) 0 0 ∧ w.heap.size ≤ g ∧ Own w' e k v [] ∧ Ext w w') := fun a o' ho hty ha => by
  refine ⟨_, w.alloc (.cells #[] e), ?_, w.heap.size, rfl, Nat.le_refl _, .inr ⟨w.heap.size, 0, 0, [], (0, 0), rfl, heap_alloc_new w _, by simp, Nat.le_refl _, Nat.zero_le _, by simp, fun o h => by omega⟩, Chg.alloc _⟩
  simp only [execOp, ho]
  have hr0 : Array.range 0 = #[] := by decide
  simp [Instr.buildSlice, run_underlying hu, fw_sizeOf hS, Instr.fill, newRow, hr0]
theorem flat_mem {α : Type} {enc : α → List Value} {k : Nat} (he : ∀ x, (enc x).length = k) {w : World} {a : Addr} : ∀ (xs : List α) (i0 : Nat), (∀ i x, xs[i]? = some x → Mem w (a.add ((i0 + i) * k)) (enc x)) → Mem w (a.add (i0 * k)) ((xs.map enc).flatten)
  | [], _, _ => Mem.nil
  | x :: xs, i0, h => by
    have h0 := h 0 x rfl
    have ih := flat_mem he (w := w) (a := a) xs (i0 + 1) fun i y hy => by
      have := h (i + 1) y (by simpa using hy)
      rwa [show i0 + 1 + i = i0 + (i + 1) by omega]
    intro j v hj
    simp only [List.map_cons, List.flatten_cons] at hj
    rcases Nat.lt_or_ge j (enc x).length with hlt | hge
    · rw [List.getElem?_append_left hlt] at hj
      exact h0 j v hj
    · rw [List.getElem?_append_right hge, he] at hj
      rw [he] at hge
      have := ih (j - k) v hj
      rw [add_add] at this ⊢
      rw [show (i0 + 1) * k + (j - k) = i0 * k + j by rw [Nat.succ_mul]; omega] at this
      exact this
theorem Sl.flat {α : Type} {enc : α → List Value} {k : Nat} (he : ∀ x, (enc x).length = k) {A : Option Addr} {m c : Nat} {xs : List α} (h : Sl w enc k (.slice A m c) xs) : xs.length = m ∧ m ≤ c ∧ c ≤ maxLen ∧ (0 < m → ∃ a, A = some a ∧ Mem w a ((xs.map enc).flatten)) := by
  obtain ⟨A', m', c', e, hl, hmc, hcm, hx⟩ := h
  injection e with e1 e2 e3
  subst e1; subst e2; subst e3
  refine ⟨hl, hmc, hcm, fun h0 => ?_⟩
  obtain ⟨x, hx0⟩ : ∃ x, xs[0]? = some x := ⟨_, List.getElem?_eq_getElem (by omega)⟩
  obtain ⟨a, rfl, _⟩ := hx 0 x hx0
  refine ⟨a, rfl, ?_⟩
  have := flat_mem he (w := w) (a := a) xs 0 fun i y hy => by
    obtain ⟨a', e, hm⟩ := hx i y hy
    injection e with e; subst e
    rwa [Nat.zero_add]
  simpa [Addr.add] using this
theorem Sl.src {α : Type} {enc : α → List Value} {k : Nat} (he : ∀ x, (enc x).length = k) {A : Option Addr} {m c : Nat} {xs : List α} (h : Sl w enc k (.slice A m c) xs) : Src P w k (.slice A m c) m ((xs.map enc).flatten) := by
  obtain ⟨hl, _, _, hA⟩ := h.flat he
  exact Src.slice (by rw [flat_length he, hl]) hA
theorem Sl.lens {α : Type} {enc : α → List Value} {k : Nat} {v : Value} {xs : List α} (h : Sl w enc k v xs) : ∃ A c, v = .slice A xs.length c ∧ xs.length ≤ c ∧ c ≤ maxLen := by
  obtain ⟨A', m', c', e, hl, hmc, hcm, hx⟩ := h
  subst hl
  exact ⟨A', c', e, hmc, hcm⟩
theorem By.take {A : Option Addr} {m c : Nat} {bs : List UInt8} (h : By w (.slice A m c) bs) {j : Nat} (hj : j ≤ m) : By w (.slice A j c) (bs.take j) := by
  obtain ⟨A', m', c', e, hl, hmc, hcm, hA, hn⟩ := h
  injection e with e1 e2 e3
  subst e1; subst e2; subst e3
  refine ⟨A, j, c, rfl, by rw [List.length_take]; omega, by omega, hcm, fun h0 => ?_, fun h => by have := hn h; omega⟩
  obtain ⟨a, rfl, hm⟩ := hA (by omega)
  refine ⟨a, rfl, fun i v hv => hm i v ?_⟩
  have hlt : i < (bytesC (bs.take j)).length := (List.getElem?_eq_some_iff.1 hv).1
  rw [bytesC_length, List.length_take] at hlt
  rw [bytesC, List.getElem?_map, List.getElem?_take, if_pos (by omega)] at hv
  rw [bytesC, List.getElem?_map]
  exact hv
theorem By.len {A : Option Addr} {m c : Nat} {bs : List UInt8} (h : By w (.slice A m c) bs) : bs.length = m ∧ m ≤ c ∧ c ≤ maxLen := by
  obtain ⟨A', m', c', e, hl, hmc, hcm, hA, hn⟩ := h
  injection e with e1 e2 e3
  subst e1; subst e2; subst e3
  exact ⟨hl, hmc, hcm⟩
theorem By.mem {A : Option Addr} {m c : Nat} {bs : List UInt8} (h : By w (.slice A m c) bs) : (0 < m → ∃ a, A = some a ∧ Mem w a (bytesC bs)) ∧ (A = none → m = 0) := by
  obtain ⟨A', m', c', e, hl, hmc, hcm, hA, hn⟩ := h
  injection e with e1 e2 e3
  subst e1; subst e2; subst e3
  exact ⟨hA, hn⟩
theorem By.lens {v : Value} {bs : List UInt8} (h : By w v bs) : ∃ A m c, v = .slice A m c := by
  obtain ⟨A', m', c', e, _⟩ := h
  exact ⟨_, _, _, e⟩
theorem Src.by {A : Option Addr} {m c : Nat} {bs : List UInt8} (h : By w (.slice A m c) bs) : Src P w 1 (.slice A m c) m (bytesC bs) := Src.slice (by rw [bytesC_length, h.len.1]; omega) h.mem.1
end
end Go.Fw
namespace Go.Fw
open Go.RowKit
/-! ## A result in cells, and others -/
def gets (fr : Fr) : List Nat → Option (List Value)
  | [] => some []
  | t :: r => match fr.get t, gets fr r with
    | some v, some vs => some (v :: vs)
    | _, _ => none
theorem Rep.gets {n : NN} {a : Act} {fr : Fr} (h : Rep n a fr) : ∀ {ts : List Nat} {vs : List Value}, Fw.gets fr ts = some vs → ts.map (fun t => a.tmps.getD t undef) = vs
  | [], vs, e => by simpa [Fw.gets] using e
  | t :: r, vs, e => by
    simp only [Fw.gets] at e
    split at e
    · rename_i v us h1 h2
      simp only [Option.some.injEq] at e
      subst e
      have := h.get t v h1
      simp only [List.map_cons, h.gets h2]
      simp [this]
    · cases e
@[reducible] def CellT (t m : Nat) (ts : List Nat) (R : Value → World → Prop) (fr : Fr) (w : World) : Prop := ∃ a cs vs, fr.get t = some (.pointer (some a)) ∧ Mem w a cs ∧ cs.length = m ∧ gets fr ts = some vs ∧ R (.tuple (.agg cs.toArray :: vs).toArray) w
theorem res_cellt {P : Program} {n : NN} {fn : Func} {a : Act} {t m : Nat} {ts : List Nat} {ty : TypeId} {d : TypeDesc} {R : Value → World → Prop} (hr : fn.results = (ResultVar.cell t ty :: ts.map ResultVar.tmp).toArray) (hts : ts.length = 1 ∨ ts.length = 2) (hT : P.underlying ty = some d) (hd : notAgg d = false) (hS : (P.info? ty).map (·.size) = some m)
    {fr : Fr} {w : World} (ha : Rep n a fr) (hD : CellT t m ts R fr w) : ∃ v, (results fn a.tmps).run P w = .ok v w ∧ R v w := by
  obtain ⟨p, cs, vs, hp, hm, hl, hg, hR⟩ := hD
  have h1 := run_loadVarA (P := P) hT hd (by rw [hl]; exact hS) hm
  have e := ha.get t _ hp
  have e2 := ha.gets hg
  refine ⟨_, ?_, hR⟩
  match ts, hts with
  | [u], _ =>
    simp at e2; subst e2
    simp [results, hr, e, asAddr, h1]
  | [u, x], _ =>
    simp at e2; subst e2
    simp [results, hr, e, asAddr, h1]
theorem calls_of_CWct {P : Program} {w : World} {f : FuncId} {fn : Func} {c : Code} {args : List Value} {R : Value → World → Prop} (m t k : Nat) (ts : List Nat) (fr0 : Fr) {ty : TypeId} {d : TypeDesc}
    (hf : P.funcs[f]? = some fn) (hb : fn.body = some c) (hm : fn.ntmps = m) (hr : fn.results = (ResultVar.cell t ty :: ts.map ResultVar.tmp).toArray) (hT : P.underlying ty = some d) (hd : notAgg d = false) (hS : (P.info? ty).map (·.size) = some k)
    (hsz : args.length ≤ m) (hargs : ∀ t v, fr0.get t = some v → args[t]? = some v)
    (h : CW P c (m, [], none) (DoneG (CellT t k ts R) (fun _ _ => False)) fr0 w) (hts : ts.length = 1 ∨ ts.length = 2 := by decide) : Calls P f args.toArray w (Ret R) :=
  (calls_of_CWG m _ fr0 hf hb hm (fun a fr w ha hD => res_cellt hr hts hT hd hS ha hD) hsz hargs h).mono fun e w' he => by
    cases e with
    | returned v => exact he
    | panicked ch => exact he.elim
    | outgrown => exact he.elim
theorem Chg.stepO {S T : Nat → Prop} {w w1 w2 : World} (h : Chg S w w1) (c : Chg T w1 w2) (hT : ∀ k, T k → S k ∨ w.heap.size ≤ k) : Chg S w w2 :=
  h.trans c fun i hi h => by rcases hT i h with h | h; exact h; omega
theorem add_zero' (g i : Nat) : (⟨g, 0, none⟩ : Addr).add i = ⟨g, i, none⟩ := by unfold Addr.add; split <;> simp_all
end Go.Fw
namespace Go.Fw
open Go.RowKit
/-! ## Stores into slices of our own -/
theorem Own.store {P : Program} {w : World} {e : TypeId} {k g n c : Nat} {pre old post new : List Value} (hown : Own w e k (.slice (some ⟨g, 0, none⟩) n c) (pre ++ old ++ post)) (hl : new.length = old.length) (h1 : ∀ u ∈ new, u.oneCell' = true) :
    ∃ w', (storeCells ⟨g, pre.length, none⟩ new).run P w = .ok () w' ∧ Chg (· = g) w w' ∧ Own w' e k (.slice (some ⟨g, 0, none⟩) n c) (pre ++ new ++ post) := by
  rcases hown with ⟨h, _⟩ | ⟨g', n', c', rest, fz, h, hh, hxl, hnc, hcm, hal, hfz⟩
  · cases h
  · injection h with h2 h3 h4
    injection h2 with h2
    injection h2 with h2
    subst h2; subst h3; subst h4
    have hst := storeCells_own (P := P) g pre.length e fz new 0 (pre ++ old ++ post ++ rest).toArray w hh (by simp; omega) h1 (fun p hp => hfz p (by simp at hp; simp at hal; omega))
    have heq : ((pre ++ old ++ post ++ rest).toArray.toList.take (pre.length + 0) ++ new ++ (pre ++ old ++ post ++ rest).toArray.toList.drop (pre.length + 0 + new.length)).toArray = (pre ++ new ++ post ++ rest).toArray := by
      congr 1
      rw [List.toList_toArray, Nat.add_zero, List.append_assoc pre old post, List.append_assoc pre (old ++ post) rest, List.take_left, hl, ← List.append_assoc pre (old ++ post) rest, ← List.append_assoc pre old post, List.append_assoc (pre ++ old) post rest]
      rw [show pre.length + old.length = (pre ++ old).length by simp, List.drop_left]
      simp only [List.append_assoc]
    rw [heq] at hst
    refine ⟨_, hst, ⟨rfl, rfl, rfl, by simp, fun b hb hn => setRow_other w g b _ hn, Nat.le_refl _⟩, .inr ⟨g, n, c, rest, fz, rfl, setRow_heap w g _ _ e fz hh, ?_, hnc, hcm, ?_, hfz⟩⟩
    · rw [← hxl]; simp [hl]
    · rw [← hal]; simp [hl]
theorem WL.storeO {P : Program} {n : NN} {Φ : Exit → Fr → World → Prop} {fr : Fr} {w : World} {ops : Array Oper} {rest : List Oper} {t e : TypeId} {x y : Operand} {ty : TypeId} {pos : String} {aft : Array Edge} {v : Value} {g k m c : Nat} {pre old post new : List Value} {A : Addr}
    (hx : ev fr x = some (.pointer (some A))) (hA : A = ⟨g, pre.length, none⟩) (hy : ev fr y = some v) (hv : v.cells = new.toArray) (hS : (P.info? t).map (·.size) = some new.length)
    (hown : Own w e k (.slice (some ⟨g, 0, none⟩) m c) (pre ++ old ++ post)) (hl : new.length = old.length) (h1 : ∀ u ∈ new, u.oneCell' = true)
    (h : ∀ w', Chg (· = g) w w' → Own w' e k (.slice (some ⟨g, 0, none⟩) m c) (pre ++ new ++ post) → WL P ops n Φ rest fr w') :
    WL P ops n Φ (⟨none, .store t x y, ty, pos, aft, none⟩ :: rest) fr w := fun a ha =>
  wpList_plain rfl fun K hK => by
    obtain ⟨w', hst, hc, hb'⟩ := hown.store (P := P) hl h1
    have hrun : (execOp a.eval ⟨none, .store t x y, ty, pos, aft, none⟩).run P w = .ok .skip w' := by
      simp [execOp, ha.ev hx, ha.ev hy, Instr.storeAt, Instr.sureAddr, storeVar, fw_sizeOf hS, hv, hA, hst]
    unfold Oper.wp
    rw [hrun]
    exact hK _ _ (h w' hc hb' _ ha)
theorem Sl.chg {α : Type} {T : Nat → Prop} {w w' : World} {enc : α → List Value} {k : Nat} {v : Value} {xs : List α} (h : Sl w enc k v xs) (hc : Chg T w w') (hs : ∀ b, v.ownBlock = some b → ¬ T b) : Sl w' enc k v xs := by
  obtain ⟨A, m, c, rfl, hl, hmc, hcm, hx⟩ := h
  refine ⟨A, m, c, rfl, hl, hmc, hcm, fun i x hi => ?_⟩
  obtain ⟨a, rfl, hm⟩ := hx i x hi
  exact ⟨a, rfl, hm.chg hc (by rw [block_add]; exact hs _ rfl)⟩
/-- A slice of our own that holds something begins at a block's head. -/
theorem Own.head {w : World} {e : TypeId} {k : Nat} {A : Option Addr} {n c : Nat} {xs : List Value} (h : Own w e k (.slice A n c) xs) (h0 : xs ≠ []) : ∃ g, A = some ⟨g, 0, none⟩ ∧ g < w.heap.size := by
  rcases h with ⟨_, h⟩ | ⟨g, n', c', rest, fz, h, hh, _⟩
  · exact absurd h h0
  · injection h with h1 _ _
    exact ⟨g, h1, (Array.getElem?_eq_some_iff.1 hh).1⟩
end Go.Fw
namespace Go.Fw
open Go.RowKit
section
variable {P : Program} {n : NN} {fr : Fr} {w : World} {ty : TypeId}
theorem Y.slice_lo {x lo : Operand} {t e ty : TypeId} {A : Option Addr} {m c k i : Nat} {ki : IntKind} {z : Int} (hT : P.underlying t = some (.slice e)) (hx : ev fr x = some (.slice A m c)) (hlo : ev fr lo = some (.int ki z))
    (hS : (P.info? e).map (·.size) = some k) (hz : z = (i : Int)) (h1 : i ≤ m) : Yw P n fr (.slice t x (some lo) none none) ty w (.slice (if c = i then A else A.map fun a => a.add (i * k)) (m - i) (c - i)) w := fun b o' ho _ ha => by
  subst hz
  have e2 : (0 : Int) ≤ (i : Int) := by omega
  simp [execOp, ho, ha.ev hx, ha.ev hlo, Instr.sliceAt, Instr.slice, run_underlying hT, Instr.sliceBounds, Instr.sliceBound, asIntOf, e2, h1, fw_sizeOf hS]
theorem flat_take {α : Type} {enc : α → List Value} {k : Nat} (he : ∀ x, (enc x).length = k) : ∀ (xs : List α) (j : Nat), (xs.map enc).flatten.take (j * k) = ((xs.take j).map enc).flatten
  | [], j => by simp
  | x :: xs, 0 => by simp
  | x :: xs, j + 1 => by
    simp only [List.map_cons, List.flatten_cons, List.take_succ_cons]
    rw [Nat.succ_mul, Nat.add_comm (j * k) k, List.take_append, he, Nat.add_sub_cancel_left, flat_take he xs j, List.take_of_length_le (by rw [he]; omega)]
theorem flat_drop {α : Type} {enc : α → List Value} {k : Nat} (he : ∀ x, (enc x).length = k) : ∀ (xs : List α) (j : Nat), (xs.map enc).flatten.drop (j * k) = ((xs.drop j).map enc).flatten
  | [], j => by simp
  | x :: xs, 0 => by simp
  | x :: xs, j + 1 => by
    simp only [List.map_cons, List.flatten_cons, List.drop_succ_cons]
    rw [Nat.succ_mul, Nat.add_comm (j * k) k, List.drop_append, he, Nat.add_sub_cancel_left, flat_drop he xs j, List.drop_of_length_le (by rw [he]; omega), List.nil_append]
theorem Mem.take {a : Addr} {cs : List Value} (h : Mem w a cs) (j : Nat) : Mem w a (cs.take j) := fun i v hv => h i v (by rw [List.getElem?_take] at hv; split at hv; exact hv; cases hv)
theorem Mem.drop {a : Addr} {cs : List Value} (h : Mem w a cs) (j : Nat) : Mem w (a.add j) (cs.drop j) := h.sub j fun i v hv => by rw [List.getElem?_drop] at hv; exact hv
/-- A slice of our own, cut, as an append's source. -/
theorem Own.srcTake {α : Type} {enc : α → List Value} {k : Nat} {e : TypeId} (he : ∀ x, (enc x).length = k) (hk : 0 < k) {A : Option Addr} {m c : Nat} {xs : List α} (h : Own w e k (.slice A m c) ((xs.map enc).flatten)) {j : Nat} (hj : j ≤ xs.length) : Src P w k (.slice A j c) j (((xs.take j).map enc).flatten) := by
  obtain ⟨hA, _, hl, _, _⟩ := h.mem A m c rfl
  rw [flat_length he] at hl
  have hlm : xs.length = m := Nat.eq_of_mul_eq_mul_right hk hl
  refine Src.slice (by rw [flat_length he, List.length_take]; congr 1; omega) fun h0 => ?_
  obtain ⟨a, rfl, hm⟩ := hA (by omega)
  exact ⟨a, rfl, by rw [← flat_take he]; exact hm.take _⟩
theorem Own.srcDrop {α : Type} {enc : α → List Value} {k : Nat} {e : TypeId} (he : ∀ x, (enc x).length = k) (hk : 0 < k) {A : Option Addr} {m c : Nat} {xs : List α} (h : Own w e k (.slice A m c) ((xs.map enc).flatten)) {j : Nat} (hj : j ≤ xs.length) :
    Src P w k (.slice (if c = j then A else A.map fun a => a.add (j * k)) (m - j) (c - j)) (m - j) (((xs.drop j).map enc).flatten) := by
  obtain ⟨hA, _, hl, hmc, _⟩ := h.mem A m c rfl
  rw [flat_length he] at hl
  have hlm : xs.length = m := Nat.eq_of_mul_eq_mul_right hk hl
  refine Src.slice (by rw [flat_length he, List.length_drop]; congr 1; omega) fun h0 => ?_
  obtain ⟨a, rfl, hm⟩ := hA (by omega)
  rw [if_neg (by omega)]
  exact ⟨_, rfl, by rw [← flat_drop he]; exact hm.drop _⟩
theorem Own.len {α : Type} {enc : α → List Value} {k : Nat} {e : TypeId} (he : ∀ x, (enc x).length = k) (hk : 0 < k) {A : Option Addr} {m c : Nat} {xs : List α} (h : Own w e k (.slice A m c) ((xs.map enc).flatten)) : xs.length = m ∧ m ≤ c ∧ c ≤ maxLen := by
  obtain ⟨_, _, hl, hmc, hcm⟩ := h.mem A m c rfl
  rw [flat_length he] at hl
  exact ⟨Nat.eq_of_mul_eq_mul_right hk hl, hmc, hcm⟩
end
end Go.Fw

/- rem and quo of naturals, slices of strings, as rules. No condition; no program. -/
namespace Go.Fw
open Go.RowKit
section
variable {P : Program} {n : NN} {fr : Fr} {w : World} {ty : TypeId}
theorem Y.remN {x y : Operand} {k : IntKind} {p q : Nat} {t t' : TypeId} (hx : ev fr x = some (.int k (p : Int))) (hy : ev fr y = some (.int k (q : Int))) (h : q ≠ 0) : Yw P n fr (.binOp .rem t x y t') ty w (.int k ((p % q : Nat) : Int)) w := Y.rem hx hy (by omega)
theorem Y.quoN {x y : Operand} {p q : Nat} {t t' : TypeId} (hx : ev fr x = some (.int .i64 (p : Int))) (hy : ev fr y = some (.int .i64 (q : Int))) (h : q ≠ 0) (hp : p ≤ 9223372036854775807 := by omega) : Yw P n fr (.binOp .quo t x y t') ty w (.int .i64 ((p / q : Nat) : Int)) w := by
  have h1 := Y.quo (P := P) (n := n) (w := w) (ty := ty) (t := t) (t' := t') hx hy (by omega)
  have e : IntKind.i64.wrap ((p : Int).tdiv (q : Int)) = ((p / q : Nat) : Int) := by
    rw [← Int.ofNat_tdiv]
    have h2 := Nat.div_le_self p q
    generalize p / q = r at h2
    exact wrap_i64_in ⟨by omega, by omega⟩
  rwa [e] at h1
theorem Y.slice_str {x lo hi : Operand} {s : ByteArray} {t : TypeId} {i j : Nat} {ki kj : IntKind} {zi zj : Int} (hT : P.underlying t = some .string) (hx : ev fr x = some (.string s)) (hlo : ev fr lo = some (.int ki zi)) (hhi : ev fr hi = some (.int kj zj)) (hi' : zi = (i : Int)) (hj' : zj = (j : Int)) (h1 : i ≤ j) (h2 : j ≤ s.size) :
    Yw P n fr (.slice t x (some lo) (some hi) none) ty w (.string (s.extract i j)) w := fun b o' ho _ ha => by
  subst hi'; subst hj'
  have e1 : (0 : Int) ≤ (i : Int) := by omega
  have e2 : (0 : Int) ≤ (j : Int) := by omega
  simp [execOp, ho, ha.ev hx, ha.ev hlo, ha.ev hhi, Instr.sliceAt, Instr.slice, run_underlying hT, Instr.sliceBounds, Instr.sliceBound, asIntOf, e1, e2, h1, h2]
end
end Go.Fw
