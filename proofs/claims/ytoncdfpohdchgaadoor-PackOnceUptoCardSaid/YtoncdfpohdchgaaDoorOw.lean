/- Slices that a call owns: append, make; regions whose order is open and that make memory. No condition; no program. -/
import Derived.Test.YtoncdfpohdchgaaDoorDt
import Derived.OrdersHeld
set_option linter.unusedSimpArgs false
set_option linter.unusedVariables false
namespace Go.Fw
open Go.RowKit

/-- The slice v is one of our own: nil, or it begins at a block's head; it holds the cells xs (k an element). -/
def Own (w : World) (e : TypeId) (k : Nat) (v : Value) (xs : List Value) : Prop :=
  (v = .slice none 0 0 ∧ xs = []) ∨ ∃ g n cap rest fz, v = .slice (some ⟨g, 0, none⟩) n cap ∧ w.heap[g]? = some (.cells (xs ++ rest).toArray e fz) ∧
    xs.length = n * k ∧ n ≤ cap ∧ cap ≤ maxLen ∧ (xs ++ rest).length = cap * k ∧ ∀ o, o < cap * k → ¬ (fz.1 ≤ o ∧ o < fz.2)
section
variable {w w' : World} {e : TypeId} {k : Nat} {v : Value} {xs : List Value} {S : Nat → Prop}
theorem Own.nil : Own w e k (.slice none 0 0) [] := .inl ⟨rfl, rfl⟩
theorem Own.lt (h : Own w e k v xs) : ∀ g, v.ownBlock = some g → g < w.heap.size := by
  intro g hg
  rcases h with ⟨rfl, _⟩ | ⟨g', n, cap, rest, fz, rfl, hh, _⟩
  · simp [Value.ownBlock] at hg
  · simp [Value.ownBlock] at hg
    subst hg
    exact (Array.getElem?_eq_some_iff.1 hh).1
theorem Own.chg (h : Own w e k v xs) (hc : Chg S w w') (hs : ∀ g, v.ownBlock = some g → ¬ S g) : Own w' e k v xs := by
  rcases h with h | ⟨g, n, cap, rest, fz, rfl, hh, r⟩
  · exact .inl h
  · exact .inr ⟨g, n, cap, rest, fz, rfl, (hc.block g (Array.getElem?_eq_some_iff.1 hh).1 (hs g rfl)).trans hh, r⟩
theorem Own.ext (h : Own w e k v xs) (hc : Ext w w') : Own w' e k v xs := h.chg hc (fun _ _ f => f)
theorem Own.mem (h : Own w e k v xs) : ∀ A n c, v = .slice A n c → (0 < n → ∃ a, A = some a ∧ Mem w a xs) ∧ (A = none → n = 0) ∧ xs.length = n * k ∧ n ≤ c ∧ c ≤ maxLen := by
  rintro A n c rfl
  rcases h with ⟨h, rfl⟩ | ⟨g, n', cap, rest, fz, h, hh, hl, hnc, hcm, _⟩
  · injection h with h1 h2 h3
    subst h1; subst h2; subst h3
    exact ⟨fun h => absurd h (by omega), fun _ => rfl, by simp, Nat.le_refl _, Nat.zero_le _⟩
  · injection h with h1 h2 h3
    subst h1; subst h2; subst h3
    refine ⟨fun _ => ⟨_, rfl, fun j u hu => ?_⟩, (fun h => by cases h), hl, hnc, hcm⟩
    have e : (⟨g, 0, none⟩ : Addr).add j = ⟨g, j, none⟩ := by unfold Addr.add; split <;> simp_all
    rw [e, cell_of_row w g j _ _ _ hh]
    have hlt : j < xs.length := (List.getElem?_eq_some_iff.1 hu).1
    simpa [List.getElem?_append, hlt] using hu
theorem Own.lens (h : Own w e k v xs) : ∃ A n c, v = .slice A n c := by
  rcases h with ⟨rfl, _⟩ | ⟨g, n, cap, rest, fz, rfl, _⟩
  · exact ⟨_, _, _, rfl⟩
  · exact ⟨_, _, _, rfl⟩
end

theorem storeCells_own {P : Program} (g o : Nat) (t : TypeId) (fz : Nat × Nat) : ∀ (vs : List Value) (i : Nat) (cur : Array Value) (w : World), w.heap[g]? = some (.cells cur t fz) → o + i + vs.length ≤ cur.size → (∀ v ∈ vs, v.oneCell' = true) →
    (∀ p, p < cur.size → ¬ (fz.1 ≤ p ∧ p < fz.2)) →
    (storeCells ⟨g, o, none⟩ vs i).run P w = .ok () (w.setRow g (cur.toList.take (o + i) ++ vs ++ cur.toList.drop (o + i + vs.length)).toArray)
  | [], i, cur, w, hg, _, _, _ => by
    simp only [storeCells, List.append_nil, List.length_nil, Nat.add_zero, List.take_append_drop, Array.toArray_toList]
    rw [setRow_self w g cur t fz hg]
    rfl
  | v :: rest, i, cur, w, hg, hl, h1, hf => by
    have hi : o + i < cur.size := by simp at hl; omega
    have hadd : (⟨g, o, none⟩ : Addr).add i = ⟨g, o + i, none⟩ := by unfold Addr.add; split <;> simp_all
    have hcell : w.cell? ⟨g, o + i, none⟩ = some cur[o + i] := by simp [World.cell?, hg, hi]
    have hfro : w.frozen? ⟨g, o + i, none⟩ = false := by
      have := hf (o + i) hi
      simp only [World.frozen?, hg]
      simpa using this
    have hst : (store ((⟨g, o, none⟩ : Addr).add i) v).run P w = .ok () (w.setRow g (cur.setIfInBounds (o + i) v)) := by
      rw [hadd, run_store P w _ v _ (h1 v (by simp)), hcell]
      simp [hfro, setCell_eq_setRow w g (o + i) cur t fz v hg]
    have ih := storeCells_own (P := P) g o t fz rest (i + 1) (cur.setIfInBounds (o + i) v) (w.setRow g (cur.setIfInBounds (o + i) v)) (setRow_heap w g cur _ t fz hg) (by simp at hl ⊢; omega) (fun x hx => h1 x (by simp [hx]))
      (fun p hp => hf p (by simpa using hp))
    simp only [storeCells, Sem.run_bind, hst, Result.andThen_ok, ih, setRow_setRow]
    congr 3
    have e := list_seg_step cur.toList (o + i) v rest (by simp at hl ⊢; omega)
    simpa [Array.toList_setIfInBounds, Nat.add_assoc] using e

/-- What a source of an append holds. -/
def Src (P : Program) (w : World) (k : Nat) (x : Value) (m : Nat) (news : List Value) : Prop :=
  news.length = m * k ∧ ∀ w' : World, w'.heap = w.heap → (Builtin.lenOf x).run P w' = .ok m w' ∧ (Builtin.firstCells k m x).run P w' = .ok news.toArray w'
theorem Src.slice {P : Program} {w : World} {k : Nat} {A : Option Addr} {m c : Nat} {news : List Value} (hl : news.length = m * k) (hA : 0 < m → ∃ a, A = some a ∧ Mem w a news) : Src P w k (.slice A m c) m news := by
  refine ⟨hl, fun w' hw => ⟨by simp [Builtin.lenOf], ?_⟩⟩
  cases A with
  | none =>
    have : m = 0 := by
      rcases Nat.eq_zero_or_pos m with h | h
      · exact h
      · obtain ⟨a, h, _⟩ := hA h; cases h
    subst this
    have : news = [] := List.eq_nil_of_length_eq_zero (by simpa using hl)
    subst this
    simp [Builtin.firstCells]
  | some a =>
    have hm : Mem w a news := by
      rcases Nat.eq_zero_or_pos m with h0 | h0
      · subst h0
        have : news = [] := List.eq_nil_of_length_eq_zero (by simpa using hl)
        subst this
        exact Mem.nil
      · obtain ⟨a', h, hm⟩ := hA h0
        injection h with h
        subst h
        exact hm
    have hm' : Mem w' a news := fun j v hv => by
      have := hm j v hv
      simpa [World.cell?, hw] using this
    exact run_firstCells_some (P := P) w' k m a m c news hl hm'
theorem Src.string {P : Program} {w : World} {s : ByteArray} : Src P w 1 (.string s) s.size (bytesC s.toList) := by
  refine ⟨by rw [bytesC_length, toList_length, Nat.mul_one], fun w' hw => ⟨by simp [Builtin.lenOf], ?_⟩⟩
  have hx : s.extract 0 s.size = s := by
    apply ByteArray.ext
    rw [ByteArray.data_extract]
    show s.data.extract 0 s.data.size = s.data
    simp
  simp only [Builtin.firstCells, hx, Sem.run_pure]
  congr 1
  rw [ByteArray.toList_eq]
  simp [bytesC, bc, Array.ext_iff]

/-- append onto a slice of our own, whatever the source. -/
theorem run_append_mine_sl {P : Program} {w : World} {t u ty e e' : TypeId} {i : TypeInfo} {z : Value} {k m : Nat} {v x : Value} {xs news : List Value}
    (ht : P.underlying t = some (.slice e)) (hud : P.underlying u = some (.slice e')) (hi : P.info? e = some i) (hz : i.zero = some z) (hsize : i.size = k) (hzs : z.cells.size = k) (hk : 0 < k) (hbp : 0 < i.bytes)
    (hown : Own w e k v xs) (hsrc : Src P w k x m news) (h1 : ∀ u ∈ news, u.oneCell' = true) (hroom : (xs.length + m * k) * i.bytes ≤ 140737488355328 * k) :
    ∃ v' w', (Builtin.append_ #[t, u] ty #[v, x]).run P w = .ok v' w' ∧ Own w' e k v' (xs ++ news) ∧ Chg (fun g => v.ownBlock = some g) w w' ∧
      (v'.ownBlock = v.ownBlock ∨ ∀ g, v'.ownBlock = some g → w.heap.size ≤ g) := by
  subst hsize
  obtain ⟨hnl, hs⟩ := hsrc
  obtain ⟨A, n, c, rfl⟩ := hown.lens
  obtain ⟨hmem, hnone, hxl, hnc, hcm⟩ := hown.mem A n c rfl
  obtain ⟨_, hsv⟩ := Src.slice (P := P) (w := w) (k := i.size) (A := A) (m := n) (c := c) hxl hmem
  have hfit : (n + m) * i.bytes ≤ 140737488355328 := by
    have h2 : (xs.length + m * i.size) * i.bytes = ((n + m) * i.bytes) * i.size := by rw [hxl, ← Nat.add_mul, Nat.mul_assoc, Nat.mul_comm i.size, ← Nat.mul_assoc]
    rw [h2] at hroom
    exact Nat.le_of_mul_le_mul_right hroom hk
  have hmx : n + m ≤ 140737488355328 := Nat.le_trans (Nat.le_mul_of_pos_right _ hbp) hfit
  by_cases hr : n + m ≤ c
  · cases A with
    | none =>
      have h0 := hnone rfl
      subst h0
      rcases hown with ⟨h, rfl⟩ | ⟨g, n', cap, rest, fz, h, _⟩
      · injection h with _ _ hc
        subst hc
        have hm0 : m = 0 := by omega
        subst hm0
        have : news = [] := List.eq_nil_of_length_eq_zero (by simpa using hnl)
        subst this
        obtain ⟨hl1, hf1⟩ := hs w rfl
        exact ⟨.slice none 0 0, w, by simp [Builtin.append_, run_underlying ht, run_underlying hud, sizeOf, typeInfo, hi, hl1, hf1], by simpa using Own.nil, Chg.refl, .inl rfl⟩
      · cases h
    | some a =>
      rcases hown with ⟨h, _⟩ | ⟨g, n', cap, rest, fz, h, hh, hxl', hnc', hcm', hal, hfz⟩
      · cases h
      · injection h with h2 h3 h4
        injection h2 with h2
        subst h2; subst h3; subst h4
        obtain ⟨hl1, hf1⟩ := hs w rfl
        have hrest : rest.length = (c - n) * i.size := by
          rw [List.length_append, hxl, ] at hal
          rw [Nat.sub_mul]; omega
        have hle : news.length ≤ rest.length := by rw [hnl, hrest]; exact Nat.mul_le_mul_right _ (by omega)
        have hst := storeCells_own (P := P) g (n * i.size) e fz news 0 (xs ++ rest).toArray w hh (by simp; omega) h1 (fun p hp => hfz p (by simp at hp; simp at hal; omega))
        have hadd : (⟨g, 0, none⟩ : Addr).add (n * i.size) = ⟨g, n * i.size, none⟩ := by unfold Addr.add; split <;> simp_all
        have heq : ((xs ++ rest).toArray.toList.take (n * i.size + 0) ++ news ++ (xs ++ rest).toArray.toList.drop (n * i.size + 0 + news.length)).toArray = (xs ++ news ++ rest.drop news.length).toArray := by
          congr 1
          rw [List.toList_toArray, Nat.add_zero, ← hxl, List.take_left, List.drop_append]
          simp [List.drop_of_length_le]
        rw [heq] at hst
        refine ⟨.slice (some ⟨g, 0, none⟩) (n + m) c, _, ?_, .inr ⟨g, n + m, c, rest.drop news.length, fz, rfl, setRow_heap w g _ _ e fz hh, ?_, hr, hcm', ?_, hfz⟩,
          ⟨rfl, rfl, rfl, by simp, fun b hb hn => setRow_other w g b _ (fun e => hn (by rw [e]; rfl)), Nat.le_refl _⟩, .inl rfl⟩
        · simp [Builtin.append_, run_underlying ht, run_underlying hud, sizeOf, typeInfo, hi, hl1, hf1, hr, hadd, hst]
        · rw [List.length_append, hxl, hnl, Nat.add_mul]
        · rw [← hal]; simp; omega
  · have hn : ¬ (n + m ≤ c) := hr
    have h63' : ¬ (9223372036854775807 < ((n : Int) + (m : Int))) := by omega
    have h48' : ¬ (281474976710656 < Builtin.nextslicecap (n + m) c * i.bytes) := by
      have := growslice_fits (need := n + m) (old := c) (bytes := i.bytes) (by omega) hfit
      omega
    obtain ⟨hl1, _⟩ := hs w rfl
    obtain ⟨_, hf1⟩ := hs w.drew rfl
    obtain ⟨_, hf0⟩ := hsv w.drew rfl
    have hge := grownCap_ge w (n + m) c e
    have hcm2 : grownCap w (n + m) c e ≤ maxLen := grownCap_le_maxLen w (n + m) c e (by simp only [maxLen]; omega)
    refine ⟨.slice (some ⟨w.heap.size, 0, none⟩) (n + m) (grownCap w (n + m) c e),
      w.drew.alloc (.cells (xs ++ news ++ (Builtin.zeroCells z.cells (grownCap w (n + m) c e - (n + m))).toList).toArray e), ?_,
      .inr ⟨w.heap.size, n + m, grownCap w (n + m) c e, (Builtin.zeroCells z.cells (grownCap w (n + m) c e - (n + m))).toList, (0, 0), rfl, heap_alloc_new w.drew _, ?_, hge, hcm2, ?_, fun o _ => by simp⟩,
      Chg.drew.trans (Chg.alloc (S := fun _ => False) _) (fun _ _ f => f.elim), .inr (fun g hg => by simp [Value.ownBlock] at hg; omega)⟩
    · simp [Builtin.append_, run_underlying ht, run_underlying hud, sizeOf, typeInfo, zeroValue, hi, hz, hl1, hn, h63', h48', Question.forced, hf0, hf1, newRow, grownCap]
      congr 2
      apply Array.ext'
      simp
    · rw [List.length_append, hxl, hnl, Nat.add_mul]
    · simp only [List.length_append, hxl, hnl, Array.length_toList, size_zeroCells, hzs, ← Nat.add_mul]
      congr 1
      omega
/-- append onto a slice of our own, whatever the source. -/
theorem run_append_mine_str {P : Program} {w : World} {t u ty e : TypeId} {i : TypeInfo} {z : Value} {k m : Nat} {v x : Value} {xs news : List Value}
    (ht : P.underlying t = some (.slice e)) (hud : P.underlying u = some .string) (hi : P.info? e = some i) (hz : i.zero = some z) (hsize : i.size = k) (hzs : z.cells.size = k) (hk : 0 < k) (hbp : 0 < i.bytes)
    (hown : Own w e k v xs) (hsrc : Src P w k x m news) (h1 : ∀ u ∈ news, u.oneCell' = true) (hroom : (xs.length + m * k) * i.bytes ≤ 140737488355328 * k) :
    ∃ v' w', (Builtin.append_ #[t, u] ty #[v, x]).run P w = .ok v' w' ∧ Own w' e k v' (xs ++ news) ∧ Chg (fun g => v.ownBlock = some g) w w' ∧
      (v'.ownBlock = v.ownBlock ∨ ∀ g, v'.ownBlock = some g → w.heap.size ≤ g) := by
  subst hsize
  obtain ⟨hnl, hs⟩ := hsrc
  obtain ⟨A, n, c, rfl⟩ := hown.lens
  obtain ⟨hmem, hnone, hxl, hnc, hcm⟩ := hown.mem A n c rfl
  obtain ⟨_, hsv⟩ := Src.slice (P := P) (w := w) (k := i.size) (A := A) (m := n) (c := c) hxl hmem
  have hfit : (n + m) * i.bytes ≤ 140737488355328 := by
    have h2 : (xs.length + m * i.size) * i.bytes = ((n + m) * i.bytes) * i.size := by rw [hxl, ← Nat.add_mul, Nat.mul_assoc, Nat.mul_comm i.size, ← Nat.mul_assoc]
    rw [h2] at hroom
    exact Nat.le_of_mul_le_mul_right hroom hk
  have hmx : n + m ≤ 140737488355328 := Nat.le_trans (Nat.le_mul_of_pos_right _ hbp) hfit
  by_cases hr : n + m ≤ c
  · cases A with
    | none =>
      have h0 := hnone rfl
      subst h0
      rcases hown with ⟨h, rfl⟩ | ⟨g, n', cap, rest, fz, h, _⟩
      · injection h with _ _ hc
        subst hc
        have hm0 : m = 0 := by omega
        subst hm0
        have : news = [] := List.eq_nil_of_length_eq_zero (by simpa using hnl)
        subst this
        obtain ⟨hl1, hf1⟩ := hs w rfl
        exact ⟨.slice none 0 0, w, by simp [Builtin.append_, run_underlying ht, run_underlying hud, sizeOf, typeInfo, hi, hl1, hf1], by simpa using Own.nil, Chg.refl, .inl rfl⟩
      · cases h
    | some a =>
      rcases hown with ⟨h, _⟩ | ⟨g, n', cap, rest, fz, h, hh, hxl', hnc', hcm', hal, hfz⟩
      · cases h
      · injection h with h2 h3 h4
        injection h2 with h2
        subst h2; subst h3; subst h4
        obtain ⟨hl1, hf1⟩ := hs w rfl
        have hrest : rest.length = (c - n) * i.size := by
          rw [List.length_append, hxl, ] at hal
          rw [Nat.sub_mul]; omega
        have hle : news.length ≤ rest.length := by rw [hnl, hrest]; exact Nat.mul_le_mul_right _ (by omega)
        have hst := storeCells_own (P := P) g (n * i.size) e fz news 0 (xs ++ rest).toArray w hh (by simp; omega) h1 (fun p hp => hfz p (by simp at hp; simp at hal; omega))
        have hadd : (⟨g, 0, none⟩ : Addr).add (n * i.size) = ⟨g, n * i.size, none⟩ := by unfold Addr.add; split <;> simp_all
        have heq : ((xs ++ rest).toArray.toList.take (n * i.size + 0) ++ news ++ (xs ++ rest).toArray.toList.drop (n * i.size + 0 + news.length)).toArray = (xs ++ news ++ rest.drop news.length).toArray := by
          congr 1
          rw [List.toList_toArray, Nat.add_zero, ← hxl, List.take_left, List.drop_append]
          simp [List.drop_of_length_le]
        rw [heq] at hst
        refine ⟨.slice (some ⟨g, 0, none⟩) (n + m) c, _, ?_, .inr ⟨g, n + m, c, rest.drop news.length, fz, rfl, setRow_heap w g _ _ e fz hh, ?_, hr, hcm', ?_, hfz⟩,
          ⟨rfl, rfl, rfl, by simp, fun b hb hn => setRow_other w g b _ (fun e => hn (by rw [e]; rfl)), Nat.le_refl _⟩, .inl rfl⟩
        · simp [Builtin.append_, run_underlying ht, run_underlying hud, sizeOf, typeInfo, hi, hl1, hf1, hr, hadd, hst]
        · rw [List.length_append, hxl, hnl, Nat.add_mul]
        · rw [← hal]; simp; omega
  · have hn : ¬ (n + m ≤ c) := hr
    have h63' : ¬ (9223372036854775807 < ((n : Int) + (m : Int))) := by omega
    have h48' : ¬ (281474976710656 < Builtin.nextslicecap (n + m) c * i.bytes) := by
      have := growslice_fits (need := n + m) (old := c) (bytes := i.bytes) (by omega) hfit
      omega
    obtain ⟨hl1, _⟩ := hs w rfl
    obtain ⟨_, hf1⟩ := hs w.drew rfl
    obtain ⟨_, hf0⟩ := hsv w.drew rfl
    have hge := grownCap_ge w (n + m) c e
    have hcm2 : grownCap w (n + m) c e ≤ maxLen := grownCap_le_maxLen w (n + m) c e (by simp only [maxLen]; omega)
    refine ⟨.slice (some ⟨w.heap.size, 0, none⟩) (n + m) (grownCap w (n + m) c e),
      w.drew.alloc (.cells (xs ++ news ++ (Builtin.zeroCells z.cells (grownCap w (n + m) c e - (n + m))).toList).toArray e), ?_,
      .inr ⟨w.heap.size, n + m, grownCap w (n + m) c e, (Builtin.zeroCells z.cells (grownCap w (n + m) c e - (n + m))).toList, (0, 0), rfl, heap_alloc_new w.drew _, ?_, hge, hcm2, ?_, fun o _ => by simp⟩,
      Chg.drew.trans (Chg.alloc (S := fun _ => False) _) (fun _ _ f => f.elim), .inr (fun g hg => by simp [Value.ownBlock] at hg; omega)⟩
    · simp [Builtin.append_, run_underlying ht, run_underlying hud, sizeOf, typeInfo, zeroValue, hi, hz, hl1, hn, h63', h48', Question.forced, hf0, hf1, newRow, grownCap]
      congr 2
      apply Array.ext'
      simp
    · rw [List.length_append, hxl, hnl, Nat.add_mul]
    · simp only [List.length_append, hxl, hnl, Array.length_toList, size_zeroCells, hzs, ← Nat.add_mul]
      congr 1
      omega

/-! ## Operations that make memory, as rules -/
/-- The operation yields a value and leaves a world of which R tells. -/
def St (P : Program) (n : NN) (fr : Fr) (o : Op) (ty : TypeId) (w : World) (R : Value → World → Prop) : Prop :=
  ∀ a (o' : Oper), o'.op = o → o'.type = ty → Rep n a fr → ∃ v w', (execOp a.eval o').run P w = .ok (.value v) w' ∧ R v w'
section
variable {P : Program} {n : NN} {Φ : Exit → Fr → World → Prop} {fr : Fr} {w : World} {ty : TypeId} {R : Value → World → Prop}
theorem WL.st {ops : Array Oper} {rest : List Oper} {d : Nat} {o : Op} {pos : String} {aft : Array Edge}
    (hs : St P n fr o ty w R) (hd : d < n.1) (h : ∀ v w', R v w' → WL P ops n Φ rest ((d, v) :: fr) w') : WL P ops n Φ (⟨some d, o, ty, pos, aft, none⟩ :: rest) fr w := fun a ha =>
  wpList_plain rfl fun K hK => by
    obtain ⟨v, w', hr, hR⟩ := hs a ⟨some d, o, ty, pos, aft, none⟩ rfl rfl ha
    unfold Oper.wp
    rw [hr]
    exact hK _ _ (h v w' hR _ (ha.put hd v))
/-- What append wants to know of an element's type. -/
def AppInfo (P : Program) (e : TypeId) (k b : Nat) : Prop := ∃ i z, P.info? e = some i ∧ i.zero = some z ∧ i.size = k ∧ z.cells.size = k ∧ i.bytes = b ∧ 0 < k ∧ 0 < b
theorem St.append {s x : Operand} {v xv : Value} {t u e e' : TypeId} {k b m : Nat} {xs news : List Value}
    (ht : P.underlying t = some (.slice e)) (hud : P.underlying u = some (.slice e')) (hi : AppInfo P e k b) (hs : ev fr s = some v) (hx : ev fr x = some xv)
    (hown : Own w e k v xs) (hsrc : Src P w k xv m news) (h1 : ∀ u ∈ news, u.oneCell' = true) (hroom : (xs.length + m * k) * b ≤ 140737488355328 * k) :
    St P n fr (.call { callee := .builtin .append, args := #[s, x], argTypes := #[t, u] }) ty w (fun v' w' => Own w' e k v' (xs ++ news) ∧ Chg (fun g => v.ownBlock = some g) w w' ∧
      (v'.ownBlock = v.ownBlock ∨ ∀ g, v'.ownBlock = some g → w.heap.size ≤ g)) := fun a o' ho hty ha => by
  obtain ⟨i, z, hi, hz, hk, hzs, rfl, h0, hb⟩ := hi
  obtain ⟨v', w', hr, hR⟩ := run_append_mine_sl (P := P) (w := w) (ty := o'.type) ht hud hi hz hk hzs h0 hb hown hsrc h1 hroom
  exact ⟨v', w', by simp [execOp, ho, resolve, invoke, builtin, ha.ev hs, ha.ev hx, hr], hR⟩
theorem St.appendS {s x : Operand} {v : Value} {str : ByteArray} {t u e : TypeId} {b : Nat} {xs : List Value}
    (ht : P.underlying t = some (.slice e)) (hud : P.underlying u = some .string) (hi : AppInfo P e 1 b) (hs : ev fr s = some v) (hx : ev fr x = some (.string str))
    (hown : Own w e 1 v xs) (hroom : (xs.length + str.size) * b ≤ 140737488355328) :
    St P n fr (.call { callee := .builtin .append, args := #[s, x], argTypes := #[t, u] }) ty w (fun v' w' => Own w' e 1 v' (xs ++ bytesC str.toList) ∧ Chg (fun g => v.ownBlock = some g) w w' ∧
      (v'.ownBlock = v.ownBlock ∨ ∀ g, v'.ownBlock = some g → w.heap.size ≤ g)) := fun a o' ho hty ha => by
  obtain ⟨i, z, hi, hz, hk, hzs, rfl, h0, hb⟩ := hi
  obtain ⟨v', w', hr, hR⟩ := run_append_mine_str (P := P) (w := w) (ty := o'.type) ht hud hi hz hk hzs h0 hb hown Src.string one_bytesC (by simpa using hroom)
  exact ⟨v', w', by simp [execOp, ho, resolve, invoke, builtin, ha.ev hs, ha.ev hx, hr], hR⟩
def evp (fr : Fr) : List (Nat × Operand) → Option (List (Nat × Value))
  | [] => some []
  | (i, x) :: r => match ev fr x, evp fr r with
    | some v, some vs => some ((i, v) :: vs)
    | _, _ => none
theorem Rep.evp {a : Act} (h : Rep n a fr) : ∀ {xs : List (Nat × Operand)} {vs : List (Nat × Value)}, Fw.evp fr xs = some vs → xs.map (fun p => (p.1, a.eval p.2)) = vs
  | [], vs, e => by simpa [Fw.evp] using e
  | (i, x) :: r, vs, e => by
    simp only [Fw.evp] at e
    split at e
    · rename_i v us h1 h2
      simp only [Option.some.injEq] at e
      subst e
      simp only [List.map_cons, h.ev h1, h.evp h2]
    · cases e
theorem St.buildSlice {t e : TypeId} {len : Nat} {ps : List (Nat × Operand)} {vs : List (Nat × Value)} {cs : List Value} (hp : evp fr ps = some vs)
    (hr : ∀ w, (Instr.buildSlice t len vs.toArray).run P w = .ok (.slice (some ⟨w.heap.size, 0, none⟩) len len) (w.alloc (.cells cs.toArray e))) :
    St P n fr (.buildSlice t len ps.toArray) ty w (fun v w' => ∃ g, v = .slice (some ⟨g, 0, none⟩) len len ∧ w.heap.size ≤ g ∧ Blk w' g e cs ∧ Ext w w') := fun a o' ho hty ha => by
  have := ha.evp hp
  refine ⟨_, _, ?_, w.heap.size, rfl, Nat.le_refl _, Blk.new w e cs, Chg.alloc _⟩
  have h2 := hr w
  rw [← this] at h2
  simp only [execOp, ho]
  simp only [List.map_toArray, Sem.run_bind]
  rw [h2]
  rfl
theorem Y.build {t : TypeId} {ps : List (Nat × Operand)} {vs : List (Nat × Value)} {v : Value} (hp : evp fr ps = some vs) (hr : (Instr.build t vs.toArray).run P w = .ok v w) : Yw P n fr (.build t ps.toArray) ty w v w := fun a o' ho hty ha => by
  have := ha.evp hp
  rw [← this] at hr
  simp only [execOp, ho]
  simp only [List.map_toArray, Sem.run_bind]
  rw [hr]
  rfl
end

/-! ## A region whose order is open and that makes memory: whichever comes, of those that may -/
def RH (P : Program) (ops : Array Oper) (S : World → Prop) (n : NN) (Φ : Exit → Fr → World → Prop) (fuel : Nat) (listed : Array Bool) (fr : Fr) (w : World) : Prop :=
  ∀ a, Rep n a fr → wpAnyH P .any ops (lift n Φ) S fuel listed a w
/-- Operation i comes up. -/
def RS (P : Program) (ops : Array Oper) (S : World → Prop) (n : NN) (Φ : Exit → Fr → World → Prop) (fuel : Nat) (listed : Array Bool) (i : Nat) (fr : Fr) (w : World) : Prop :=
  ∀ a, Rep n a fr → wpOp P ops (lift n Φ) i (fun a' w' => S w' ∧ wpAnyH P .any ops (lift n Φ) S fuel (listed.setIfInBounds i true) a' w') a w
section rh
variable {P : Program} {ops : Array Oper} {S : World → Prop} {n : NN} {Φ : Exit → Fr → World → Prop} {fr : Fr} {w : World} {fuel : Nat} {listed : Array Bool}
theorem RH.done (hr : Region.ready .any ops listed = []) (h : Φ .normal fr w) : RH P ops S n Φ fuel listed fr w := fun a ha => wpAnyH_done hr ⟨fr, ha, h⟩ fuel
theorem RH.one (i : Nat) (hr : Region.ready .any ops listed = [i]) (h : RS P ops S n Φ fuel listed i fr w) : RH P ops S n Φ (fuel + 1) listed fr w := fun a ha =>
  wpAnyH_all hr (by simp) fun j hj => by
    simp at hj; subst hj; exact h a ha
theorem RH.two (i j : Nat) (hr : Region.ready .any ops listed = [i, j]) (h1 : RS P ops S n Φ fuel listed i fr w) (h2 : RS P ops S n Φ fuel listed j fr w) : RH P ops S n Φ (fuel + 1) listed fr w := fun a ha =>
  wpAnyH_all hr (by simp) fun k hk => by
    simp at hk
    rcases hk with rfl | rfl
    · exact h1 a ha
    · exact h2 a ha
theorem RH.cases {d : Nat} {c : Bool} (hg : fr.get d = some (.bool c))
    (ht : c = true → RH P ops S n Φ fuel listed ((d, .bool true) :: fr) w) (hf : c = false → RH P ops S n Φ fuel listed ((d, .bool false) :: fr) w) : RH P ops S n Φ fuel listed fr w := by
  intro a ha
  cases c with
  | true => exact ht rfl a (ha.weaken (Fr.le.cons hg Fr.le.refl))
  | false => exact hf rfl a (ha.weaken (Fr.le.cons hg Fr.le.refl))
theorem RH.casesD {d : Nat} {p : Prop} {inst : Decidable p} (hg : fr.get d = some (.bool (@decide p inst)))
    (ht : p → RH P ops S n Φ fuel listed ((d, .bool true) :: fr) w) (hf : ¬ p → RH P ops S n Φ fuel listed ((d, .bool false) :: fr) w) : RH P ops S n Φ fuel listed fr w :=
  RH.cases hg (fun h => ht (@of_decide_eq_true p inst h)) (fun h => hf (@of_decide_eq_false p inst h))
/-- What looks at no memory but what S keeps is taken first. -/
theorem RH.take (i : Nat) {d : Nat} {o : Op} {ty : TypeId} {pos : String} {aft : Array Edge} {v : Value}
    (hQ : ∀ c f f' w, Φ (.panic c) f w → Φ (.panic c) f' w) (hs : Region.noSelect ops = true) (hS : S w)
    (hi : ops[i]? = some ⟨some d, o, ty, pos, aft, none⟩) (hf : Region.free .any ops listed i = true) (hr : (Region.ready .any ops listed).contains i = true)
    (hy : ∀ w, S w → Yw P n fr o ty w v w) (hd : d < n.1) (h : RH P ops S n Φ fuel (listed.setIfInBounds i true) ((d, v) :: fr) w) : RH P ops S n Φ (fuel + 1) listed fr w := fun a ha =>
  wpAnyH_take hi hs hf hr (fun c a w ⟨f, hf, hp⟩ => ⟨[], Rep.nil (by simpa [Act.put] using hf.size) hf.defers, hQ c f [] w hp⟩)
    (.inl ⟨by simp [Region.wanted], fun w hw => hy w hw a _ rfl rfl ha⟩) hS (h _ (ha.put hd v))
theorem RH.gtake (i : Nat) {d j dj : Nat} {b : Bool} {o : Op} {ty : TypeId} {pos : String} {aft : Array Edge} {v : Value}
    (hQ : ∀ c f f' w, Φ (.panic c) f w → Φ (.panic c) f' w) (hs : Region.noSelect ops = true) (hS : S w)
    (hi : ops[i]? = some ⟨some d, o, ty, pos, aft, some (j, b)⟩) (hf : Region.free .any ops listed i = true) (hr : (Region.ready .any ops listed).contains i = true)
    (hj : (ops[j]?).bind (·.dst) = some dj) (hg : fr.get dj = some (.bool b))
    (hy : ∀ w, S w → Yw P n fr o ty w v w) (hd : d < n.1) (h : RH P ops S n Φ fuel (listed.setIfInBounds i true) ((d, v) :: fr) w) : RH P ops S n Φ (fuel + 1) listed fr w := fun a ha =>
  wpAnyH_take hi hs hf hr (fun c a w ⟨f, hf, hp⟩ => ⟨[], Rep.nil (by simpa [Act.put] using hf.size) hf.defers, hQ c f [] w hp⟩)
    (.inl ⟨by simp [Region.wanted, yielded_eq ha hj hg], fun w hw => hy w hw a _ rfl rfl ha⟩) hS (h _ (ha.put hd v))
theorem RH.goff (i : Nat) {d j dj : Nat} {b : Bool} {o : Op} {ty : TypeId} {pos : String} {aft : Array Edge}
    (hQ : ∀ c f f' w, Φ (.panic c) f w → Φ (.panic c) f' w) (hs : Region.noSelect ops = true) (hS : S w)
    (hi : ops[i]? = some ⟨some d, o, ty, pos, aft, some (j, b)⟩) (hf : Region.free .any ops listed i = true) (hr : (Region.ready .any ops listed).contains i = true)
    (hj : (ops[j]?).bind (·.dst) = some dj) (hg : fr.get dj = some (.bool (!b)))
    (hd : d < n.1) (h : RH P ops S n Φ fuel (listed.setIfInBounds i true) ((d, undef) :: fr) w) : RH P ops S n Φ (fuel + 1) listed fr w := fun a ha =>
  wpAnyH_take hi hs hf hr (fun c a w ⟨f, hf, hp⟩ => ⟨[], Rep.nil (by simpa [Act.put] using hf.size) hf.defers, hQ c f [] w hp⟩)
    (.inr ⟨by simp [Region.wanted, yielded_eq ha hj hg], rfl⟩) hS (h _ (ha.put hd undef))
theorem RH.goffU (i : Nat) {d j dj : Nat} {b : Bool} {o : Op} {ty : TypeId} {pos : String} {aft : Array Edge}
    (hQ : ∀ c f f' w, Φ (.panic c) f w → Φ (.panic c) f' w) (hs : Region.noSelect ops = true) (hS : S w)
    (hi : ops[i]? = some ⟨some d, o, ty, pos, aft, some (j, b)⟩) (hf : Region.free .any ops listed i = true) (hr : (Region.ready .any ops listed).contains i = true)
    (hj : (ops[j]?).bind (·.dst) = some dj) (hg : fr.get dj = some undef)
    (hd : d < n.1) (h : RH P ops S n Φ fuel (listed.setIfInBounds i true) ((d, undef) :: fr) w) : RH P ops S n Φ (fuel + 1) listed fr w := fun a ha =>
  wpAnyH_take hi hs hf hr (fun c a w ⟨f, hf, hp⟩ => ⟨[], Rep.nil (by simpa [Act.put] using hf.size) hf.defers, hQ c f [] w hp⟩)
    (.inr ⟨by simp [Region.wanted, yielded_undef ha hj hg], rfl⟩) hS (h _ (ha.put hd undef))
theorem RS.st {i d : Nat} {o : Op} {ty : TypeId} {pos : String} {aft : Array Edge} {R : Value → World → Prop}
    (hi : ops[i]? = some ⟨some d, o, ty, pos, aft, none⟩) (hs : St P n fr o ty w R) (hd : d < n.1)
    (h : ∀ v w', R v w' → S w' ∧ RH P ops S n Φ fuel (listed.setIfInBounds i true) ((d, v) :: fr) w') : RS P ops S n Φ fuel listed i fr w := fun a ha => by
  obtain ⟨v, w', hr, hR⟩ := hs a ⟨some d, o, ty, pos, aft, none⟩ rfl rfl ha
  obtain ⟨h1, h2⟩ := h v w' hR
  unfold wpOp
  rw [hi]
  simp only [Region.wanted, if_true]
  refine .inl ?_
  unfold Oper.wp
  rw [hr]
  exact ⟨h1, h2 _ (ha.put hd v)⟩
theorem RS.call {i : Nat} {d : Nat} {f : FuncId} {args : List Operand} {tys : Array TypeId} {ty : TypeId} {pos : String} {aft : Array Edge} {vs : List Value} {fn : Func} {R : Value → World → Prop} {g : Option (Nat × Bool)}
    (hi : ops[i]? = some ⟨some d, .call { callee := .value (.func f), args := args.toArray, argTypes := tys }, ty, pos, aft, g⟩)
    (hg : ∀ j b, g = some (j, b) → ∃ dj, (ops[j]?).bind (·.dst) = some dj ∧ fr.get dj = some (.bool b))
    (hf : P.funcs[f]? = some fn) (hb : fn.body.isNone = false) (hn : (fn.name == "runtime.NumGoroutine") = false)
    (he : evs fr args = some vs) (hC : Calls P f vs.toArray w (Ret R)) (hd : d < n.1)
    (h : ∀ v w', R v w' → S w' ∧ RH P ops S n Φ fuel (listed.setIfInBounds i true) ((d, v) :: fr) w') : RS P ops S n Φ fuel listed i fr w := fun a ha => by
  have hrun : (execOp a.eval ⟨some d, .call { callee := .value (.func f), args := args.toArray, argTypes := tys }, ty, pos, aft, g⟩).run P w = .ok (.enter f vs.toArray) w := by
    have := ha.evs he
    simp [execOp, resolve, invoke, Deferred.ofValue, Act.eval, this, run_callFunc hf hb hn]
  have hw : Region.wanted ⟨some d, .call { callee := .value (.func f), args := args.toArray, argTypes := tys }, ty, pos, aft, g⟩ (yielded ops a.tmps) = true := by
    cases g with
    | none => simp [Region.wanted]
    | some jb =>
      obtain ⟨j, b⟩ := jb
      obtain ⟨dj, h1, h2⟩ := hg j b rfl
      simp [Region.wanted, yielded_eq ha h1 h2]
  unfold wpOp
  rw [hi]
  simp only [hw, if_true]
  refine .inl ?_
  unfold Oper.wp
  rw [hrun]
  refine hC.mono fun e w' hr => ?_
  cases e with
  | returned v => obtain ⟨h1, h2⟩ := h v w' hr; exact ⟨h1, h2 _ (ha.put hd v)⟩
  | panicked ch => exact hr.elim
  | outgrown => exact hr.elim
end rh
theorem CW.held {P : Program} {n : NN} {Φ : Exit → Fr → World → Prop} {fr : Fr} {w : World} {id : Nat} {l : List Oper} (S : World → Prop) (hm : P.follows .mixedOrders = true) (m : Nat) (hl : l.length = m)
    (h : ∀ w', Ext w w' → RH P l.toArray S n Φ m (Array.replicate m false) fr w') (hR : Tame n l Φ := by first | exact .inl rfl | exact .inr ⟨rfl, fun _ _ h => h⟩) : CW P (.region id l.toArray true) n Φ fr w := fun a ha =>
  region_any hR hm (wpAny_of_held _ _ _ _ (by simp only [List.size_toArray, hl]; exact h w.drew Chg.drew a ha))
end Go.Fw
