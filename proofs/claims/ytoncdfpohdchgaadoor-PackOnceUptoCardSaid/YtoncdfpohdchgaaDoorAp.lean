/- Bytes that are put behind bytes of our own; the closed facts for it. No condition. -/
import Derived.Test.YtoncdfpohdchgaaDoorOw
import Derived.Test.YtoncdfpohdchgaaDoorTy
import Derived.Great.BuildSlice
set_option linter.unusedSimpArgs false
set_option linter.unusedVariables false
namespace Go.Fw
open Go.RowKit

/-- From v with xs in w there came v' with ys behind them in w'. -/
def AppB (e : TypeId) (w : World) (v : Value) (xs : List UInt8) (w' : World) (v' : Value) (ys : List UInt8) : Prop :=
  Own w' e 1 v' (bytesC (xs ++ ys)) ∧ Chg (fun g => v.ownBlock = some g) w w' ∧ (v'.ownBlock = v.ownBlock ∨ ∀ g, v'.ownBlock = some g → w.heap.size ≤ g)
section
variable {e : TypeId} {w w1 w2 : World} {v v1 v2 : Value} {xs ys zs : List UInt8} {g : Nat} {t : TypeId} {cs : List Value} {a : Addr}
theorem AppB.refl (h : Own w e 1 v (bytesC xs)) : AppB e w v xs w v [] := ⟨by simpa using h, Chg.refl, .inl rfl⟩
theorem AppB.trans (h : AppB e w v xs w1 v1 ys) (k : AppB e w1 v1 (xs ++ ys) w2 v2 zs) : AppB e w v xs w2 v2 (ys ++ zs) := by
  obtain ⟨h1, h2, h3⟩ := h
  obtain ⟨k1, k2, k3⟩ := k
  refine ⟨by rw [← List.append_assoc]; exact k1, h2.trans k2 fun i hi hh => ?_, ?_⟩
  · rcases h3 with h3 | h3
    · rw [← h3]; exact hh
    · have := h3 i hh; omega
  · rcases k3 with k3 | k3
    · rcases h3 with h3 | h3
      · exact .inl (k3.trans h3)
      · exact .inr fun g hg => h3 g (by rw [← k3]; exact hg)
    · exact .inr fun g hg => Nat.le_trans h2.size (k3 g hg)
theorem AppB.extL (h : Ext w w1) (k : AppB e w1 v xs w2 v2 ys) : AppB e w v xs w2 v2 ys := by
  obtain ⟨k1, k2, k3⟩ := k
  refine ⟨k1, (h.chg).trans k2 fun i _ hh => hh, ?_⟩
  rcases k3 with k3 | k3
  · exact .inl k3
  · exact .inr fun g hg => Nat.le_trans h.size (k3 g hg)
theorem AppB.extR (h : AppB e w v xs w1 v1 ys) (k : Ext w1 w2) : AppB e w v xs w2 v1 ys := ⟨h.1.ext k, h.2.1.thenExt k, h.2.2⟩
theorem AppB.nilExt (h : AppB e w (.slice none 0 0) xs w1 v1 ys) : Ext w w1 := h.2.1.toExt fun i _ hh => by simp [Value.ownBlock] at hh
theorem AppB.nilOwn (h : AppB e w (.slice none 0 0) [] w1 v1 ys) : Own w1 e 1 v1 (bytesC ys) := by simpa using h.1
theorem AppB.fresh (h : AppB e w (.slice none 0 0) xs w1 v1 ys) : ∀ g, v1.ownBlock = some g → w.heap.size ≤ g := by
  rcases h.2.2 with h | h
  · intro g hg; rw [h] at hg; simp [Value.ownBlock] at hg
  · exact h
theorem AppB.blk (h : AppB e w v xs w1 v1 ys) (hb : Blk w g t cs) (hn : v.ownBlock ≠ some g) : Blk w1 g t cs := hb.chg h.2.1 hn
theorem AppB.away (h : AppB e w v xs w1 v1 ys) (hg : g < w.heap.size) (hn : v.ownBlock ≠ some g) : v1.ownBlock ≠ some g := by
  rcases h.2.2 with h | h
  · rw [h]; exact hn
  · intro e; have := h g e; omega
/-- One that is fresh above a world grows further: nothing old is changed. -/
theorem AppB.old {w0 : World} (h : AppB e w v xs w1 v1 ys) (hx : Ext w0 w) (hf : ∀ g, v.ownBlock = some g → w0.heap.size ≤ g) : Ext w0 w1 :=
  (hx.chg (S := fun g => v.ownBlock = some g)).trans h.2.1 (fun _ _ hh => hh) |>.toExt fun i hi hh => by have := hf i hh; omega
theorem AppB.above {w0 : World} (h : AppB e w v xs w1 v1 ys) (hx : Ext w0 w) (hf : ∀ g, v.ownBlock = some g → w0.heap.size ≤ g) : ∀ g, v1.ownBlock = some g → w0.heap.size ≤ g := by
  rcases h.2.2 with h | h
  · rw [h]; exact hf
  · intro g hg; exact Nat.le_trans hx.size (h g hg)
end
section
variable {P : Program} {n : NN} {fr : Fr} {w : World} {ty : TypeId}
theorem Y.or_k {x y : Operand} {k : IntKind} {p q : Int} {t t' : TypeId} {r : Int} (hx : ev fr x = some (.int k p)) (hy : ev fr y = some (.int k q)) (hr : k.wrap ((BitVec.ofInt k.bits p ||| BitVec.ofInt k.bits q).toNat : Int) = r) : Yw P n fr (.binOp .or t x y t') ty w (.int k r) w :=
  Y.bin hx hy (by simp [eqGuard_at_int]) (by
    have e : binOp .or t (.int k p) (.int k q) = pure (.int k r) := by simp only [binOp, ne_eq, not_true_eq_false, if_false, Op.intBits, hr]
    rw [e]; rfl)
theorem Y.shr {x y : Operand} {k k' : IntKind} {p q r : Int} {t t' : TypeId} (hx : ev fr x = some (.int k p)) (hy : ev fr y = some (.int k' q)) (hq : 0 ≤ q) (hr : p.fdiv (2 ^ (min q.toNat k.bits)) = r) : Yw P n fr (.binOp .shr t x y t') ty w (.int k r) w :=
  Y.bin hx hy (by simp [eqGuard_at_int]) (by simp [binOp, Op.shift, Int.not_lt.2 hq, hr])
/-- append of bytes. -/
theorem St.app {s x : Operand} {v xv : Value} {t u e e' : TypeId} {b : Nat} {xs ys : List UInt8} {m : Nat}
    (ht : P.underlying t = some (.slice e)) (hud : P.underlying u = some (.slice e')) (hi : AppInfo P e 1 b) (hs : ev fr s = some v) (hx : ev fr x = some xv)
    (hown : Own w e 1 v (bytesC xs)) (hsrc : Src P w 1 xv m (bytesC ys)) (hroom : (xs.length + m) * b ≤ 140737488355328) :
    St P n fr (.call { callee := .builtin .append, args := #[s, x], argTypes := #[t, u] }) ty w (fun v' w' => AppB e w v xs w' v' ys) := by
  intro a o' ho hty ha
  obtain ⟨v', w', hr, hR⟩ := St.append (n := n) (ty := ty) ht hud hi hs hx hown hsrc one_bytesC (by simpa [bytesC_length] using hroom) a o' ho hty ha
  exact ⟨v', w', hr, by rw [bytesC_append]; exact hR.1, hR.2.1, hR.2.2⟩
theorem St.appS {s x : Operand} {v : Value} {str : ByteArray} {t u e : TypeId} {b : Nat} {xs : List UInt8}
    (ht : P.underlying t = some (.slice e)) (hud : P.underlying u = some .string) (hi : AppInfo P e 1 b) (hs : ev fr s = some v) (hx : ev fr x = some (.string str))
    (hown : Own w e 1 v (bytesC xs)) (hroom : (xs.length + str.size) * b ≤ 140737488355328) :
    St P n fr (.call { callee := .builtin .append, args := #[s, x], argTypes := #[t, u] }) ty w (fun v' w' => AppB e w v xs w' v' str.toList) := by
  intro a o' ho hty ha
  obtain ⟨v', w', hr, hR⟩ := St.appendS (n := n) (ty := ty) ht hud hi hs hx hown (by simpa [bytesC_length] using hroom) a o' ho hty ha
  exact ⟨v', w', hr, by rw [bytesC_append]; exact hR.1, hR.2.1, hR.2.2⟩
theorem Src.own {e : TypeId} {v : Value} {ys : List UInt8} (h : Own w e 1 v (bytesC ys)) : Src P w 1 v ys.length (bytesC ys) := by
  obtain ⟨A, n, c, rfl⟩ := h.lens
  obtain ⟨hm, hn, hl, _⟩ := h.mem A n c rfl
  have : n = ys.length := by rw [bytesC_length] at hl; omega
  subst this
  exact Src.slice (by simpa using hl) hm
theorem Src.arr {a : Addr} {ys : List UInt8} {c : Nat} (h : Mem w a (bytesC ys)) : Src P w 1 (.slice (some a) ys.length c) ys.length (bytesC ys) := Src.slice (by rw [bytesC_length]; omega) fun _ => ⟨a, rfl, h⟩
end
end Go.Fw
namespace Go.Proofs.YtoncdfpohdchgaaDoor
open Go.RowKit Go.Fw
theorem ai_u8 : AppInfo Tryd.prog 5 1 1 := by
  have h : (Tryd.prog.info? 5).map (fun i => (i.size, i.bytes, i.zero)) = some (1, 1, some (.int .u8 0)) := by kernel_rfl
  obtain ⟨i, hi, h⟩ := Option.map_eq_some_iff.1 h
  injection h with h1 h2
  injection h2 with h2 h3
  exact ⟨i, _, hi, h3, h1, rfl, h2, by decide, by decide⟩
theorem bs1 (b : Int) (w : World) : (Instr.buildSlice 33 1 [(0, Value.int .u8 b)].toArray).run Tryd.prog w = .ok (.slice (some ⟨w.heap.size, 0, none⟩) 1 1) (w.alloc (.cells [Value.int .u8 b].toArray 5)) := by
  obtain ⟨i, z, hi, hz, hk, hzs, hb, _⟩ := ai_u8
  obtain ⟨zc, hzc⟩ : ∃ c, z.cells = #[c] := by
    match h : z.cells with
    | ⟨[]⟩ => simp [h] at hzs
    | ⟨[c]⟩ => exact ⟨c, rfl⟩
    | ⟨_ :: _ :: _⟩ => simp [h] at hzs
  have hr1 : Array.range 1 = #[0] := by decide
  have hc : (Value.int .u8 b).cells = #[Value.int .u8 b] := rfl
  simp [Instr.buildSlice, run_underlying Tryd.underlying33, sizeOf, typeInfo, hi, hk, zeroValue, hz, hzc, Instr.fill, newRow, hr1, hc]
end Go.Proofs.YtoncdfpohdchgaaDoor
namespace Go.Fw
open Go.RowKit
theorem Src.dig {P : Program} {w : World} {a : Addr} {d : Dig} (h : Mem w a (digC d)) : Src P w 1 (.slice (some a) 32 32) 32 (bytesC d.1) := Src.slice (by rw [bytesC_length, d.2]) fun _ => ⟨a, rfl, h⟩
end Go.Fw
namespace Go.Fw
open Go.RowKit
theorem run_bs1 {P : Program} {t e : TypeId} {ie : TypeInfo} {z : Value} {v : Value} {cs : List Value} (hu : P.underlying t = some (.slice e)) (hi : P.info? e = some ie) (hz : ie.zero = some z) (h0 : 0 < ie.size) (hsm : ie.size ≤ 16777216) (hv : v.cells = cs.toArray) (hl : cs.length = ie.size) (w : World) :
    (Instr.buildSlice t 1 [(0, v)].toArray).run P w = .ok (.slice (some ⟨w.heap.size, 0, none⟩) 1 1) (w.alloc (.cells cs.toArray e)) := by
  refine run_buildSlice w t e 1 _ _ ie z hu hi hz (by omega) (by omega) ?_
  have h := Go.Great.fill_whole (s := ie.size) h0 [v] ((Array.range (1 * ie.size)).map (z.cells[· % z.cells.size]!)) (by intro u hu; simp at hu; subst hu; rw [hv]; simpa using hl) (by simp)
  simpa [hv] using h
theorem flat_length {α : Type} {enc : α → List Value} {k : Nat} (he : ∀ x, (enc x).length = k) : ∀ xs : List α, ((xs.map enc).flatten).length = xs.length * k
  | [] => by simp
  | x :: xs => by simp only [List.map_cons, List.flatten_cons, List.length_append, he, flat_length he xs, List.length_cons, Nat.succ_mul]; omega
theorem flat_at {α : Type} {enc : α → List Value} {k : Nat} (he : ∀ x, (enc x).length = k) : ∀ (xs : List α) (i : Nat) (x : α), xs[i]? = some x → ∀ j v, (enc x)[j]? = some v → ((xs.map enc).flatten)[i * k + j]? = some v
  | [], i, x, h, _, _, _ => by simp at h
  | y :: xs, 0, x, h, j, v, hv => by
    simp at h; subst h
    have hj : j < (enc y).length := (List.getElem?_eq_some_iff.1 hv).1
    simp only [List.map_cons, List.flatten_cons, Nat.zero_mul, Nat.zero_add]
    rw [List.getElem?_append_left hj]; exact hv
  | y :: xs, i + 1, x, h, j, v, hv => by
    have h' : xs[i]? = some x := by simpa using h
    have := flat_at he xs i x h' j v hv
    simp only [List.map_cons, List.flatten_cons]
    rw [List.getElem?_append_right (by rw [he, Nat.succ_mul]; omega), he, show (i + 1) * k + j - k = i * k + j by rw [Nat.succ_mul]; omega]
    exact this
/-- A slice of our own reads as the list. -/
theorem Own.sl {α : Type} {w : World} {e : TypeId} {k : Nat} {v : Value} {enc : α → List Value} {xs : List α} (h : Own w e k v ((xs.map enc).flatten)) (he : ∀ x, (enc x).length = k) (hk : 0 < k) : Sl w enc k v xs := by
  obtain ⟨A, m, c, rfl⟩ := h.lens
  obtain ⟨hm, hn, hl, hmc, hcm⟩ := h.mem A m c rfl
  rw [flat_length he] at hl
  have hlm : xs.length = m := Nat.eq_of_mul_eq_mul_right hk hl
  refine ⟨A, m, c, rfl, hlm, hmc, hcm, fun i x hi => ?_⟩
  have hi' := (List.getElem?_eq_some_iff.1 hi).1
  obtain ⟨a, rfl, hM⟩ := hm (by omega)
  refine ⟨a, rfl, hM.sub (i * k) fun j v hj => flat_at he xs i x hi j v hj⟩
theorem Src.one {P : Program} {w : World} {g k : Nat} {t : TypeId} {cs : List Value} (h : Blk w g t cs) (hl : cs.length = k) : Src P w k (.slice (some ⟨g, 0, none⟩) 1 1) 1 cs := Src.slice (by omega) fun _ => ⟨_, rfl, h.mem⟩
end Go.Fw
namespace Go.Proofs.YtoncdfpohdchgaaDoor
open Go.RowKit Go.Fw
theorem ai_dig : AppInfo Tryd.prog 31 32 32 := by
  have h : (Tryd.prog.info? 31).map (fun i => (i.size, i.bytes, i.zero)) = some (32, 32, some (.agg (digC Dig.zero).toArray)) := by kernel_rfl
  obtain ⟨i, hi, h⟩ := Option.map_eq_some_iff.1 h
  injection h with h1 h2
  injection h2 with h2 h3
  exact ⟨i, _, hi, h3, h1, by show (digC Dig.zero).toArray.size = 32; simp [digC_length], h2, by decide, by decide⟩
theorem ai_op : AppInfo Tryd.prog 132 37 72 := by
  have h : (Tryd.prog.info? 132).map (fun i => (i.size, i.bytes, i.zero)) = some (37, 72, some (.agg (opC ⟨0, false, RefD.zero, 0⟩).toArray)) := by kernel_rfl
  obtain ⟨i, hi, h⟩ := Option.map_eq_some_iff.1 h
  injection h with h1 h2
  injection h2 with h2 h3
  exact ⟨i, _, hi, h3, h1, by show (opC _).toArray.size = 37; simp [opC_length], h2, by decide, by decide⟩
theorem bs1_dig (d : Dig) (w : World) : (Instr.buildSlice 29 1 [(0, digV d)].toArray).run Tryd.prog w = .ok (.slice (some ⟨w.heap.size, 0, none⟩) 1 1) (w.alloc (.cells (digC d).toArray 31)) := by
  obtain ⟨i, z, hi, hz, hk, _⟩ := ai_dig
  exact run_bs1 Tryd.underlying29 hi hz (by omega) (by omega) rfl (by rw [digC_length, hk]) w
theorem bs1_op (x : OpD) (w : World) : (Instr.buildSlice 74 1 [(0, opV x)].toArray).run Tryd.prog w = .ok (.slice (some ⟨w.heap.size, 0, none⟩) 1 1) (w.alloc (.cells (opC x).toArray 132)) := by
  obtain ⟨i, z, hi, hz, hk, _⟩ := ai_op
  exact run_bs1 Tryd.underlying74 hi hz (by omega) (by omega) rfl (by rw [opC_length, hk]) w
abbrev flatD (ps : List Dig) : List Value := (ps.map digC).flatten
abbrev flatO (os : List OpD) : List Value := (os.map opC).flatten
end Go.Proofs.YtoncdfpohdchgaaDoor
namespace Go.Fw
theorem one1 {v : Value} (h : v.oneCell' = true) : ∀ u ∈ [v], u.oneCell' = true := by intro u hu; simp at hu; subst hu; exact h
end Go.Fw
namespace Go.Proofs.YtoncdfpohdchgaaDoor
open Go.RowKit Go.Fw
theorem u8_of (n : Nat) : IntKind.u8.wrap (n : Int) = ((UInt8.ofNat n).toNat : Int) := by simp [IntKind.wrap, IntKind.bits, IntKind.signed]
theorem Blk.src1 {w : World} {g : Nat} {b : UInt8} (h : Blk w g 5 [Value.int .u8 (b.toNat : Int)]) : Src Tryd.prog w 1 (.slice (some ⟨g, 0, none⟩) 1 1) 1 (bytesC [b]) := Src.slice (by rfl) fun _ => ⟨_, rfl, h.mem⟩
end Go.Proofs.YtoncdfpohdchgaaDoor
