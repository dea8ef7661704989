/- Rules: remainders, slices up to a place, empty slices, slices as an append's source; what follows of the plain law of reading. No condition. -/
import Derived.Test.YtfbagecopapfhaaAl
import Derived.Test.YtfbagecopapfhaaPq
set_option linter.unusedSimpArgs false
set_option linter.unusedVariables false
namespace Go.Fw
open Go.RowKit
theorem Chg.step {S : Nat → Prop} {w w1 w2 : World} (h : Ext w w1) (c : Chg S w1 w2) (hS : ∀ k, S k → w.heap.size ≤ k) : Ext w w2 := ((Ext.chg h).trans c (fun _ _ h => h)).toExt (fun i hi h => by have := hS i h; omega)
section
variable {P : Program} {n : NN} {fr : Fr} {w : World} {ty : TypeId}
theorem Y.rem {x y : Operand} {k : IntKind} {p q : Int} {t t' : TypeId} (hx : ev fr x = some (.int k p)) (hy : ev fr y = some (.int k q)) (h : q ≠ 0) : Yw P n fr (.binOp .rem t x y t') ty w (.int k (p.tmod q)) w := Y.bin hx hy (by simp [eqGuard_at_int]) (by simp [binOp_rem, Op.intDiv, h])
theorem Y.quo {x y : Operand} {k : IntKind} {p q : Int} {t t' : TypeId} (hx : ev fr x = some (.int k p)) (hy : ev fr y = some (.int k q)) (h : q ≠ 0) : Yw P n fr (.binOp .quo t x y t') ty w (.int k (k.wrap (p.tdiv q))) w := Y.bin hx hy (by simp [eqGuard_at_int]) (by simp [binOp_quo, Op.intDiv, h])
theorem Y.slice_hi {x hi : Operand} {t e ty : TypeId} {A : Option Addr} {m c k j : Nat} {kj : IntKind} {z : Int} (hT : P.underlying t = some (.slice e)) (hx : ev fr x = some (.slice A m c)) (hhi : ev fr hi = some (.int kj z))
    (hS : (P.info? e).map (·.size) = some k) (hz : z = (j : Int)) (h2 : j ≤ c) : Yw P n fr (.slice t x none (some hi) none) ty w (.slice A j c) w := fun b o' ho _ ha => by
  subst hz
  have e2 : (0 : Int) ≤ (j : Int) := by omega
  have ea : (A.map fun a => a.add (0 * k)) = A := by cases A <;> simp [Addr.add]
  simp [execOp, ho, ha.ev hx, ha.ev hhi, Instr.sliceAt, Instr.slice, run_underlying hT, Instr.sliceBounds, Instr.sliceBound, asIntOf, e2, h2, fw_sizeOf hS]
  intro _; cases A <;> simp [Addr.add]
theorem St.buildSlice0 {t e : TypeId} {k : Nat} (hu : P.underlying t = some (.slice e)) (hS : (P.info? e).map (·.size) = some k) :
    St P n fr (.buildSlice t 0 #[]) ty w (fun v w' => ∃ g, v = .slice (some ⟨g, 0, none⟩) 0 0 ∧ w.heap.size ≤ g ∧ Own w' e k v [] ∧ Ext w w') := fun a o' ho hty ha => by
  refine ⟨_, w.alloc (.cells #[] e), ?_, w.heap.size, rfl, Nat.le_refl _, .inr ⟨w.heap.size, 0, 0, [], (0, 0), rfl, heap_alloc_new w _, by simp, Nat.le_refl _, Nat.zero_le _, by simp, fun o h => by omega⟩, Chg.alloc _⟩
  simp only [execOp, ho]
  have hr0 : Array.range 0 = #[] := by decide
  simp [Instr.buildSlice, run_underlying hu, fw_sizeOf hS, Instr.fill, newRow, hr0]
theorem flat_mem {α : Type} {enc : α → List Value} {k : Nat} (he : ∀ x, (enc x).length = k) {w : World} {a : Addr} : ∀ (xs : List α) (i0 : Nat), (∀ i x, xs[i]? = some x → Mem w (a.add ((i0 + i) * k)) (enc x)) → Mem w (a.add (i0 * k)) ((xs.map enc).flatten)
  | [], _, _ => Mem.nil
  | x :: xs, i0, h => by
    have h0 := h 0 x rfl
    have ih := flat_mem he (w := w) (a := a) xs (i0 + 1) fun i y hy => by
      have := h (i + 1) y (by simpa using hy)
      rwa [show i0 + 1 + i = i0 + (i + 1) by omega]
    intro j v hj
    simp only [List.map_cons, List.flatten_cons] at hj
    rcases Nat.lt_or_ge j (enc x).length with hlt | hge
    · rw [List.getElem?_append_left hlt] at hj
      exact h0 j v hj
    · rw [List.getElem?_append_right hge, he] at hj
      rw [he] at hge
      have := ih (j - k) v hj
      rw [add_add] at this ⊢
      rw [show (i0 + 1) * k + (j - k) = i0 * k + j by rw [Nat.succ_mul]; omega] at this
      exact this
theorem Sl.flat {α : Type} {enc : α → List Value} {k : Nat} (he : ∀ x, (enc x).length = k) {A : Option Addr} {m c : Nat} {xs : List α} (h : Sl w enc k (.slice A m c) xs) : xs.length = m ∧ m ≤ c ∧ c ≤ maxLen ∧ (0 < m → ∃ a, A = some a ∧ Mem w a ((xs.map enc).flatten)) := by
  obtain ⟨A', m', c', e, hl, hmc, hcm, hx⟩ := h
  injection e with e1 e2 e3
  subst e1; subst e2; subst e3
  refine ⟨hl, hmc, hcm, fun h0 => ?_⟩
  obtain ⟨x, hx0⟩ : ∃ x, xs[0]? = some x := ⟨_, List.getElem?_eq_getElem (by omega)⟩
  obtain ⟨a, rfl, _⟩ := hx 0 x hx0
  refine ⟨a, rfl, ?_⟩
  have := flat_mem he (w := w) (a := a) xs 0 fun i y hy => by
    obtain ⟨a', e, hm⟩ := hx i y hy
    injection e with e; subst e
    rwa [Nat.zero_add]
  simpa [Addr.add] using this
theorem Sl.src {α : Type} {enc : α → List Value} {k : Nat} (he : ∀ x, (enc x).length = k) {A : Option Addr} {m c : Nat} {xs : List α} (h : Sl w enc k (.slice A m c) xs) : Src P w k (.slice A m c) m ((xs.map enc).flatten) := by
  obtain ⟨hl, _, _, hA⟩ := h.flat he
  exact Src.slice (by rw [flat_length he, hl]) hA
theorem Sl.lens {α : Type} {enc : α → List Value} {k : Nat} {v : Value} {xs : List α} (h : Sl w enc k v xs) : ∃ A c, v = .slice A xs.length c ∧ xs.length ≤ c ∧ c ≤ maxLen := by
  obtain ⟨A', m', c', e, hl, hmc, hcm, hx⟩ := h
  subst hl
  exact ⟨A', c', e, hmc, hcm⟩
theorem By.take {A : Option Addr} {m c : Nat} {bs : List UInt8} (h : By w (.slice A m c) bs) {j : Nat} (hj : j ≤ m) : By w (.slice A j c) (bs.take j) := by
  obtain ⟨A', m', c', e, hl, hmc, hcm, hA, hn⟩ := h
  injection e with e1 e2 e3
  subst e1; subst e2; subst e3
  refine ⟨A, j, c, rfl, by rw [List.length_take]; omega, by omega, hcm, fun h0 => ?_, fun h => by have := hn h; omega⟩
  obtain ⟨a, rfl, hm⟩ := hA (by omega)
  refine ⟨a, rfl, fun i v hv => hm i v ?_⟩
  have hlt : i < (bytesC (bs.take j)).length := (List.getElem?_eq_some_iff.1 hv).1
  rw [bytesC_length, List.length_take] at hlt
  rw [bytesC, List.getElem?_map, List.getElem?_take, if_pos (by omega)] at hv
  rw [bytesC, List.getElem?_map]
  exact hv
theorem By.len {A : Option Addr} {m c : Nat} {bs : List UInt8} (h : By w (.slice A m c) bs) : bs.length = m ∧ m ≤ c ∧ c ≤ maxLen := by
  obtain ⟨A', m', c', e, hl, hmc, hcm, hA, hn⟩ := h
  injection e with e1 e2 e3
  subst e1; subst e2; subst e3
  exact ⟨hl, hmc, hcm⟩
theorem By.mem {A : Option Addr} {m c : Nat} {bs : List UInt8} (h : By w (.slice A m c) bs) : (0 < m → ∃ a, A = some a ∧ Mem w a (bytesC bs)) ∧ (A = none → m = 0) := by
  obtain ⟨A', m', c', e, hl, hmc, hcm, hA, hn⟩ := h
  injection e with e1 e2 e3
  subst e1; subst e2; subst e3
  exact ⟨hA, hn⟩
theorem By.lens {v : Value} {bs : List UInt8} (h : By w v bs) : ∃ A m c, v = .slice A m c := by
  obtain ⟨A', m', c', e, _⟩ := h
  exact ⟨_, _, _, e⟩
theorem Src.by {A : Option Addr} {m c : Nat} {bs : List UInt8} (h : By w (.slice A m c) bs) : Src P w 1 (.slice A m c) m (bytesC bs) := Src.slice (by rw [bytesC_length, h.len.1]; omega) h.mem.1
end
end Go.Fw
namespace Go.Pl
open Go.Fw
/-! ## No error is 0 -/
def Nz {α : Type} (f : Rdg α) : Prop := ∀ bs at_ e, f bs at_ = .error e → e ≠ 0
theorem Nz.bind {α β : Type} {f : Rdg α} {h : α → Rdg β} (h1 : Nz f) (h2 : ∀ x, Nz (h x)) : Nz (gbind f h) := fun bs at_ e he => by
  unfold gbind at he
  split at he
  · rename_i e' he'
    injection he with he; subst he
    exact h1 _ _ _ he'
  · exact h2 _ _ _ _ he
theorem Nz.pure {α : Type} {x : α} : Nz (fun _ at_ => .ok (x, at_)) := fun _ _ _ h => by cases h
theorem Nz.ite {α : Type} {f g : Rdg α} {c : Prop} [Decidable c] (h : Nz f) (k : Nz g) : Nz (fun bs at_ => if c then f bs at_ else g bs at_) := fun bs at_ e he => by
  by_cases hc : c
  · simp only [hc, if_true] at he; exact h _ _ _ he
  · simp only [hc, if_false] at he; exact k _ _ _ he
theorem Nz.guard {α : Type} {f : Rdg α} {c : Prop} [Decidable c] {k : Int} (hk : k ≠ 0) (h : Nz f) : Nz (fun bs at_ => if c then .error k else f bs at_) := fun bs at_ e he => by
  by_cases hc : c
  · simp only [hc, if_true] at he; injection he with he; subst he; exact hk
  · simp only [hc, if_false] at he; exact h _ _ _ he
theorem nz_num : Nz gnum := fun _ _ _ h => gnum_err h
theorem nz_text : Nz gtext := fun _ _ _ h => gtext_err h
theorem nz_dig : Nz gdig := fun bs at_ e h => by
  unfold gdig at h
  split at h
  · cases h
  · injection h with h; omega
theorem nz_byte : Nz gbyte := fun bs at_ e h => by
  unfold gbyte at h
  split at h
  · cases h
  · injection h with h; omega
theorem nz_op : Nz gop := by
  rw [gop_eq]
  exact nz_num.bind fun n => Nz.guard (by decide) ((Nz.ite nz_dig Nz.pure).bind fun d => (Nz.ite (nz_num.bind fun k => Nz.guard (by decide) Nz.pure) Nz.pure).bind fun k => (Nz.ite nz_byte Nz.pure).bind fun b => Nz.pure)
theorem nz_many {α : Type} {f : Rdg α} (h : Nz f) : ∀ k, Nz (fun bs at_ => gmany f bs k at_)
  | 0 => Nz.pure
  | k + 1 => by rw [gmany_succ]; exact h.bind fun x => (nz_many h k).bind fun xs => Nz.pure
theorem nz_com : Nz gcomR :=
  nz_num.bind fun n => Nz.guard (by decide) ((nz_many nz_dig n).bind fun ps => nz_text.bind fun au => nz_text.bind fun no => nz_num.bind fun m => Nz.guard (by decide) ((nz_many nz_op m).bind fun ops => Nz.pure))
theorem decI_err {b : List UInt8} {e : Int} (h : decI b = .error e) : e ≠ 0 := by
  unfold decI at h
  rw [gcom_eq] at h
  split at h
  · rename_i e' he
    injection h with h; subst h
    exact nz_com _ _ _ he
  · split at h
    · injection h with h; omega
    · split at h
      · rename_i hm; injection h with h; subst h; exact hm
      · cases h
theorem comB_pos (c : ComD) : 0 < (comB c).length := by
  have := vi_pos c.parents.length
  simp only [comB, List.length_append]; omega
theorem comB_len {c : ComD} (h : mayI c = 0) : (comB c).length ≤ 110000 := by
  have hm := mayI_ok h
  have h1 := hm.parents
  have h2 := hm.ops
  have h3 := hm.name
  have h4 := hm.note
  have l1 := vi_len9 (n := c.parents.length) (by omega)
  have l2 := vi_len9 (n := c.ops.length) (by omega)
  have l3 := vi_len9 (n := c.author.toList.length) (by rw [toList_length]; omega)
  have l4 := vi_len9 (n := c.note.toList.length) (by rw [toList_length]; omega)
  have f1 := flat_len (f := fun d : Dig => d.1) (k := 32) (l := c.parents) fun d _ => by rw [d.2]; exact Nat.le_refl _
  have f2 := flat_len (f := opB) (k := 51) (l := c.ops) fun x hx => opB_len (by have := (hm.n hx).2; omega)
  simp only [comB, textB, List.length_append]
  rw [toList_length] at *
  rw [toList_length] at *
  omega
end Go.Pl
namespace Go.Proofs.Ytfbagecopapfhaa
open Go.RowKit Go.Fw Go.Pl
theorem dec_ok {b : List UInt8} (h : decE b = 0) : mayI (decC b) = 0 ∧ comB (decC b) = b := by
  unfold decE at h
  split at h
  · omega
  rename_i hl
  split at h
  · rename_i e he; exact absurd h (decI_err he)
  · rename_i c hc
    have : decC b = c := by rw [decC, if_neg hl, hc]
    rw [this]
    exact dec_just hc
theorem dec_no {b : List UInt8} (h : decE b ≠ 0) : decC b = nilC := by
  unfold decE at h
  unfold decC
  split
  · rfl
  rename_i hl
  rw [if_neg hl] at h
  split
  · rfl
  · rename_i c hc
    rw [hc] at h
    exact absurd rfl h
theorem sameB_iff {a b : ComD} : sameB a b = true ↔ a.parents = b.parents ∧ a.author = b.author ∧ a.note = b.note ∧ a.ops = b.ops := by
  have e : ∀ x y : ByteArray, x.toList = y.toList ↔ x = y := fun x y => ⟨fun h => by rw [← bs_of x, ← bs_of y, h], fun h => by rw [h]⟩
  simp [sameB, e]
  constructor
  · rintro ⟨⟨⟨h1, h2⟩, h3⟩, h4⟩; exact ⟨h1, h2, h3, h4⟩
  · rintro ⟨h1, h2, h3, h4⟩; exact ⟨⟨⟨h1, h2⟩, h3⟩, h4⟩
theorem sameB_eq {a b : ComD} : sameB a b = true ↔ a = b := by
  rw [sameB_iff]
  cases a; cases b; simp
theorem sameB_comm (a b : ComD) : sameB a b = sameB b a := by
  rw [Bool.eq_iff_iff, sameB_eq, sameB_eq]
  exact eq_comm
theorem sameB_self (a : ComD) : sameB a a = true := sameB_eq.2 rfl
theorem same_com {a b : ComD} (ha : mayI a = 0) (hb : mayI b = 0) : (comB a == comB b) = sameB a b := by
  rw [Bool.eq_iff_iff, sameB_eq, beq_iff_eq]
  exact ⟨com_inj ha hb, fun h => by rw [h]⟩
theorem decE_com {c : ComD} (h : mayI c = 0) : decE (comB c) = 0 ∧ decC (comB c) = c := by
  have hl := comB_len h
  rw [decE, decC, if_neg (by omega), if_neg (by omega), dec_com h]
  exact ⟨rfl, rfl⟩
theorem decE_head {c : ComD} (h : mayI c = 0) {k : Nat} (hk : k < (comB c).length) : decE ((comB c).take k) = 8 := by
  have hl := comB_len h
  rw [decE, if_neg (by rw [List.length_take]; omega), dec_head h hk]
theorem decE_tail {c : ComD} (h : mayI c = 0) (x : UInt8) : decE (comB c ++ [x]) = 7 := by
  have hl := comB_len h
  rw [decE, if_neg (by rw [List.length_append]; simp; omega), dec_tail h x]
end Go.Proofs.Ytfbagecopapfhaa
namespace Go.Proofs.Ytfbagecopapfhaa
open Go.RowKit Go.Fw Go.Pl
theorem decC_max {b : List UInt8} : (decC b).author.size ≤ maxLen ∧ (decC b).note.size ≤ maxLen := by
  by_cases h : decE b = 0
  · have hm := mayI_ok (dec_ok h).1
    have h1 := hm.name
    have h2 := hm.note
    unfold maxLen
    omega
  · rw [dec_no h]
    unfold maxLen
    exact ⟨by decide, by decide⟩
end Go.Proofs.Ytfbagecopapfhaa
