/- slices.SortFunc at digests of our own: what it leaves; the order of digests. No condition; no program. -/
import Derived.Test.YtkbmlnkoejlgmaaDoorSd
import Derived.Shelf.SlSortCmp.NoneTotal
set_option linter.unusedSimpArgs false
set_option linter.unusedVariables false
namespace Go.Pl
open Go.Fw Go.Proofs Go.Sort
theorem bl_asymm : ∀ {a b : List UInt8}, Op.bytesLess a b = true → Op.bytesLess b a = false
  | _, [], h => by simp [Op.bytesLess] at h
  | [], _ :: _, _ => by simp [Op.bytesLess]
  | a :: x, b :: y, h => by
    simp only [Op.bytesLess, Bool.or_eq_true, decide_eq_true_eq, Bool.and_eq_true, beq_iff_eq] at h
    simp only [Op.bytesLess, Bool.or_eq_false_iff, decide_eq_false_iff_not, Bool.and_eq_false_imp, beq_iff_eq]
    rcases h with h | ⟨rfl, h⟩
    · exact ⟨fun h' => by have := UInt8.lt_iff_toNat_lt.1 h; have := UInt8.lt_iff_toNat_lt.1 h'; omega, fun e => by subst e; exact absurd h (UInt8.lt_irrefl _)⟩
    · exact ⟨UInt8.lt_irrefl _, fun _ => bl_asymm h⟩
theorem bl_trans : ∀ {a b c : List UInt8}, Op.bytesLess a b = true → Op.bytesLess b c = true → Op.bytesLess a c = true
  | _, [], _, h, _ => by simp [Op.bytesLess] at h
  | _, _ :: _, [], _, h => by simp [Op.bytesLess] at h
  | [], _ :: _, _ :: _, _, _ => by simp [Op.bytesLess]
  | a :: x, b :: y, c :: z, h, k => by
    simp only [Op.bytesLess, Bool.or_eq_true, decide_eq_true_eq, Bool.and_eq_true, beq_iff_eq] at h k ⊢
    rcases h with h | ⟨rfl, h⟩
    · rcases k with k | ⟨rfl, k⟩
      · exact .inl (UInt8.lt_trans h k)
      · exact .inl h
    · rcases k with k | ⟨rfl, k⟩
      · exact .inl k
      · exact .inr ⟨rfl, bl_trans h k⟩
theorem bl_tri : ∀ {a b : List UInt8}, a.length = b.length → Op.bytesLess a b = false → Op.bytesLess b a = false → a = b
  | [], [], _, _, _ => rfl
  | [], _ :: _, h, _, _ => by simp at h
  | _ :: _, [], h, _, _ => by simp at h
  | a :: x, b :: y, hl, h, k => by
    simp only [Op.bytesLess, Bool.or_eq_false_iff, decide_eq_false_iff_not, Bool.and_eq_false_imp, beq_iff_eq] at h k
    have e : a = b := UInt8.toNat_inj.1 (by
      have h1 : ¬ a.toNat < b.toNat := fun x => h.1 (UInt8.lt_iff_toNat_lt.2 x)
      have h2 : ¬ b.toNat < a.toNat := fun x => k.1 (UInt8.lt_iff_toNat_lt.2 x)
      omega)
    subst e
    rw [bl_tri (by simpa using hl) (h.2 rfl) (k.2 rfl)]
theorem less_asymm {a b : Dig} (h : lessB a b = true) : lessB b a = false := bl_asymm h
theorem less_trans {a b c : Dig} (h : lessB a b = true) (k : lessB b c = true) : lessB a c = true := bl_trans h k
theorem less_tri {a b : Dig} (h : lessB a b = false) (k : lessB b a = false) : a = b := Subtype.ext (bl_tri (by rw [a.2, b.2]) h k)
theorem less_irrefl (a : Dig) : lessB a a = false := bytesLess_self _
/-- What commit's closure hands back. -/
def cfD (a b : Dig) : Int := if lessB a b = true then -1 else 1
theorem lt_cfD (a b : Dig) : ltOf cfD a b = lessB a b := by
  unfold ltOf cfD
  cases lessB a b <;> simp
theorem swo_cfD : SWO (ltOf cfD) where
  irrefl x := by rw [lt_cfD]; exact less_irrefl x
  trans x y z h k := by rw [lt_cfD] at h k ⊢; exact less_trans h k
  ntrans x y z h k := by
    rw [lt_cfD] at h k ⊢
    cases hc : lessB x z with
    | false => rfl
    | true =>
      cases hd : lessB y x with
      | true => rw [less_trans hd hc] at k; cases k
      | false =>
        have := less_tri h hd; subst this
        rw [hc] at k; cases k
def sortedD (l : List Dig) : List Dig := l.mergeSort fun x y => !(ltOf cfD) y x
end Go.Pl
namespace Go.Fw
open Go.RowKit Go.Proofs Go.Sort
theorem flat_get {α : Type} {enc : α → List Value} {k : Nat} (hk : 0 < k) (he : ∀ x, (enc x).length = k) : ∀ (xs : List α) (t : Nat), ((xs.map enc).flatten)[t]? = (xs[t / k]?).bind fun x => (enc x)[t % k]?
  | [], t => by simp
  | x :: xs, t => by
    simp only [List.map_cons, List.flatten_cons, List.getElem?_append, he]
    split
    · rename_i h
      rw [Nat.div_eq_of_lt h, Nat.mod_eq_of_lt h]; rfl
    · rename_i h
      have e1 : t / k = (t - k) / k + 1 := Nat.div_eq_sub_div hk (by omega)
      have e2 : t % k = (t - k) % k := Nat.mod_eq_sub_mod (by omega)
      rw [flat_get hk he xs, e1, e2, List.getElem?_cons_succ]
theorem flatK_toList {α : Type} [Inhabited α] {enc : α → List Value} {k : Nat} (hk : 0 < k) (he : ∀ x, (enc x).length = k) (xs : List α) : (flatK enc k xs.toArray).toList = (xs.map enc).flatten := by
  apply List.ext_getElem?
  intro t
  rw [flat_get hk he]
  by_cases ht : t < xs.length * k
  · have h1 : t / k < xs.length := Nat.div_lt_of_lt_mul (by rw [Nat.mul_comm]; exact ht)
    have h2 : t % k < (enc xs[t / k]).length := by rw [he]; exact Nat.mod_lt _ hk
    have h3 : t < (flatK enc k xs.toArray).size := by rw [size_flatK]; exact ht
    have h4 := get_flatK enc k xs.toArray t (by simpa using ht)
    rw [getElem!_pos _ t h3, getElem!_pos xs.toArray (t / k) (by simpa using h1)] at h4
    rw [Array.getElem?_toList, Array.getElem?_eq_getElem h3, h4, List.getElem?_eq_getElem h1, Option.bind_some, List.getElem?_eq_getElem h2]
    simp only [List.getElem_toArray]
    rw [getElem!_pos (enc xs[t / k]) (t % k) h2]
  · have h1 : ¬ t / k < xs.length := fun h => ht (Nat.lt_mul_of_div_lt h hk)
    rw [Array.getElem?_toList, Array.getElem?_eq_none (by rw [size_flatK]; simpa using ht), List.getElem?_eq_none (by omega)]
    rfl
theorem putCells_list (F : Array Value) (xs rest : List Value) (h : F.size = xs.length) : putCells id 0 F (xs ++ rest).toArray = (F.toList ++ rest).toArray := by
  apply Array.ext_getElem?
  intro j
  simp only [putCells, Array.getElem?_mapIdx, List.getElem?_toArray, List.getElem?_append, Nat.zero_le, true_and, Nat.zero_add, Nat.sub_zero, id]
  by_cases hj : j < F.size
  · rw [if_pos (by omega), if_pos (by simpa using hj), List.getElem?_eq_getElem (by omega), Array.getElem?_toList, Array.getElem?_eq_getElem hj]
    simp only [Option.map_some, if_pos hj]
    rw [getElem!_pos F j hj]
  · rw [if_neg (by omega), if_neg (by simpa using hj), h]
    simp only [if_neg (show ¬ j < xs.length by omega), Array.length_toList, h]
    cases rest[j - xs.length]? <;> rfl
section
variable {w : World} {e : TypeId} {k g n c : Nat} {α : Type} [Inhabited α] {enc : α → List Value} {l : List α}
theorem Own.holds (hk : 0 < k) (he : ∀ x, (enc x).length = k) (h : Own w e k (.slice (some ⟨g, 0, none⟩) n c) ((l.map enc).flatten)) : HoldsK enc k w g 0 l.toArray ∧ g < w.heap.size := by
  rcases h with ⟨h, _⟩ | ⟨g', n', c', rest, fz, h, hh, hxl, hnc, hcm, hal, hfz⟩
  · cases h
  injection h with h2 h3 h4
  injection h2 with h2
  injection h2 with h2
  subst h2; subst h3; subst h4
  refine ⟨fun j hj => ?_, (Array.getElem?_eq_some_iff.1 hh).1⟩
  have hj' : j < (flatK enc k l.toArray).toList.length := by simpa using hj
  have hjx : j < ((l.map enc).flatten).length := by rw [← flatK_toList hk he]; exact hj'
  refine ⟨?_, ?_⟩
  · rw [Nat.zero_add]
    unfold World.cell?
    simp only [hh]
    simp only [List.getElem?_toArray]
    rw [List.getElem?_append_left hjx, ← flatK_toList hk he, Array.getElem?_toList, Array.getElem?_eq_getElem hj, getElem!_pos _ j hj]
    rfl
  · rw [Nat.zero_add]
    unfold World.frozen?
    simp only [hh]
    have := hfz j (by have : ((l.map enc).flatten).length ≤ c * k := by rw [← hal]; simp
                      omega)
    simp only [Bool.and_eq_false_imp, decide_eq_true_eq, decide_eq_false_iff_not]
    omega
theorem Own.sorted (hk : 0 < k) (he : ∀ x, (enc x).length = k) (h : Own w e k (.slice (some ⟨g, 0, none⟩) n c) ((l.map enc).flatten)) {l' : List α} (hl : l'.length = l.length) (m : Nat) (os : Array Obj) :
    Own (sortWorldK enc k w g 0 m l'.toArray os) e k (.slice (some ⟨g, 0, none⟩) n c) ((l'.map enc).flatten) ∧ Chg (· = g) w (sortWorldK enc k w g 0 m l'.toArray os) := by
  rcases h with ⟨h, _⟩ | ⟨g', n', c', rest, fz, h, hh, hxl, hnc, hcm, hal, hfz⟩
  · cases h
  injection h with h2 h3 h4
  injection h2 with h2
  injection h2 with h2
  subst h2; subst h3; subst h4
  have hlen : ((l'.map enc).flatten).length = ((l.map enc).flatten).length := by rw [flat_length he, flat_length he, hl]
  have hlt := (Array.getElem?_eq_some_iff.1 hh).1
  have hg : (sortWorldK enc k w g 0 m l'.toArray os).heap[g]? = some (.cells ((l'.map enc).flatten ++ rest).toArray e fz) := by
    show ((w.heap.modify g (onCells (putCells id 0 (flatK enc k l'.toArray)))) ++ os)[g]? = _
    rw [Array.getElem?_append_left (by simpa using hlt), Array.getElem?_modify, if_pos rfl, hh, Option.map_some]
    simp only [onCells]
    rw [putCells_list _ _ _ (by rw [size_flatK, flat_length he]; simp [hl]), flatK_toList hk he]
  refine ⟨.inr ⟨g, n, c, rest, fz, rfl, hg, by rw [hlen, hxl], hnc, hcm, by rw [List.length_append, hlen, ← List.length_append, hal], hfz⟩, rfl, rfl, rfl, ?_, fun b hb hn => ?_, Nat.le_add_right _ _⟩
  · show _ ≤ ((w.heap.modify g _) ++ os).size
    simp
  · show ((w.heap.modify g (onCells (putCells id 0 (flatK enc k l'.toArray)))) ++ os)[b]? = _
    rw [Array.getElem?_append_left (by simpa using hb), Array.getElem?_modify, if_neg (fun h => hn h.symm)]
end
theorem Ext.grown {W w' : World} (h : Ext W w') : ∃ q os', w' = grow (W.drewN q) os' := by
  refine ⟨w'.drawn - W.drawn, w'.heap.extract W.heap.size w'.heap.size, ?_⟩
  obtain ⟨h1, h2, h3, h4, h5, h6⟩ := h
  have hh : w'.heap = W.heap ++ w'.heap.extract W.heap.size w'.heap.size := by
    apply Array.ext_getElem?
    intro i
    by_cases hi : i < W.heap.size
    · rw [Array.getElem?_append_left hi]; exact h5 i hi (fun f => f)
    · rw [Array.getElem?_append_right (by omega), Array.getElem?_extract]
      split
      · congr 1; omega
      · rw [Array.getElem?_eq_none (by omega)]
  cases W; cases w'
  simp only [World.drewN, grow] at *
  subst h1; subst h2; subst h3
  congr 1
  omega
end Go.Fw
