/- Several texts as one: Ow, Mp, Mr, Tr. -/
import Derived.Test.YtmndofgagngcgaaG1
import Derived.OrdersHeld
import Derived.MapKept
import Derived.WideKeyRuns
import Derived.ChangeMaps4
import Derived.Maps.RangeRun
import Derived.Laws.IdiomStrings
set_option linter.unusedSimpArgs false
set_option linter.unusedVariables false
/- Slices that a call owns: append, make; regions whose order is open and that make memory. No condition; no program. -/
namespace Go.Fw
open Go.RowKit

/-- The slice v is one of our own: nil, or it begins at a block's head; it holds the cells xs (k an element). -/
def Own (w : World) (e : TypeId) (k : Nat) (v : Value) (xs : List Value) : Prop :=
  (v = .slice none 0 0 ∧ xs = []) ∨ ∃ g n cap rest fz, v = .slice (some ⟨g, 0, none⟩) n cap ∧ w.heap[g]? = some (.cells (xs ++ rest).toArray e fz) ∧
    xs.length = n * k ∧ n ≤ cap ∧ cap ≤ maxLen ∧ (xs ++ rest).length = cap * k ∧ ∀ o, o < cap * k → ¬ (fz.1 ≤ o ∧ o < fz.2)
section
variable {w w' : World} {e : TypeId} {k : Nat} {v : Value} {xs : List Value} {S : Nat → Prop}
theorem Own.nil : Own w e k (.slice none 0 0) [] := .inl ⟨rfl, rfl⟩
theorem Own.lt (h : Own w e k v xs) : ∀ g, v.ownBlock = some g → g < w.heap.size := by
  intro g hg
  rcases h with ⟨rfl, _⟩ | ⟨g', n, cap, rest, fz, rfl, hh, _⟩
  · simp [Value.ownBlock] at hg
  · simp [Value.ownBlock] at hg
    subst hg
    exact (Array.getElem?_eq_some_iff.1 hh).1
theorem Own.chg (h : Own w e k v xs) (hc : Chg S w w') (hs : ∀ g, v.ownBlock = some g → ¬ S g) : Own w' e k v xs := by
  rcases h with h | ⟨g, n, cap, rest, fz, rfl, hh, r⟩
  · exact .inl h
  · exact .inr ⟨g, n, cap, rest, fz, rfl, (hc.block g (Array.getElem?_eq_some_iff.1 hh).1 (hs g rfl)).trans hh, r⟩
theorem Own.ext (h : Own w e k v xs) (hc : Ext w w') : Own w' e k v xs := h.chg hc (fun _ _ f => f)
theorem Own.mem (h : Own w e k v xs) : ∀ A n c, v = .slice A n c → (0 < n → ∃ a, A = some a ∧ Mem w a xs) ∧ (A = none → n = 0) ∧ xs.length = n * k ∧ n ≤ c ∧ c ≤ maxLen := by
  rintro A n c rfl
  rcases h with ⟨h, rfl⟩ | ⟨g, n', cap, rest, fz, h, hh, hl, hnc, hcm, _⟩
  · injection h with h1 h2 h3
    subst h1; subst h2; subst h3
    exact ⟨fun h => absurd h (by omega), fun _ => rfl, by simp, Nat.le_refl _, Nat.zero_le _⟩
  · injection h with h1 h2 h3
    subst h1; subst h2; subst h3
    refine ⟨fun _ => ⟨_, rfl, fun j u hu => ?_⟩, (fun h => by cases h), hl, hnc, hcm⟩
    have e : (⟨g, 0, none⟩ : Addr).add j = ⟨g, j, none⟩ := by unfold Addr.add; split <;> simp_all
    rw [e, cell_of_row w g j _ _ _ hh]
    have hlt : j < xs.length := (List.getElem?_eq_some_iff.1 hu).1
    simpa [List.getElem?_append, hlt] using hu
theorem Own.lens (h : Own w e k v xs) : ∃ A n c, v = .slice A n c := by
  rcases h with ⟨rfl, _⟩ | ⟨g, n, cap, rest, fz, rfl, _⟩
  · exact ⟨_, _, _, rfl⟩
  · exact ⟨_, _, _, rfl⟩
end

theorem storeCells_own {P : Program} (g o : Nat) (t : TypeId) (fz : Nat × Nat) : ∀ (vs : List Value) (i : Nat) (cur : Array Value) (w : World), w.heap[g]? = some (.cells cur t fz) → o + i + vs.length ≤ cur.size → (∀ v ∈ vs, v.oneCell' = true) →
    (∀ p, p < cur.size → ¬ (fz.1 ≤ p ∧ p < fz.2)) →
    (storeCells ⟨g, o, none⟩ vs i).run P w = .ok () (w.setRow g (cur.toList.take (o + i) ++ vs ++ cur.toList.drop (o + i + vs.length)).toArray)
  | [], i, cur, w, hg, _, _, _ => by
    simp only [storeCells, List.append_nil, List.length_nil, Nat.add_zero, List.take_append_drop, Array.toArray_toList]
    rw [setRow_self w g cur t fz hg]
    rfl
  | v :: rest, i, cur, w, hg, hl, h1, hf => by
    have hi : o + i < cur.size := by simp at hl; omega
    have hadd : (⟨g, o, none⟩ : Addr).add i = ⟨g, o + i, none⟩ := by unfold Addr.add; split <;> simp_all
    have hcell : w.cell? ⟨g, o + i, none⟩ = some cur[o + i] := by simp [World.cell?, hg, hi]
    have hfro : w.frozen? ⟨g, o + i, none⟩ = false := by
      have := hf (o + i) hi
      simp only [World.frozen?, hg]
      simpa using this
    have hst : (store ((⟨g, o, none⟩ : Addr).add i) v).run P w = .ok () (w.setRow g (cur.setIfInBounds (o + i) v)) := by
      rw [hadd, run_store P w _ v _ (h1 v (by simp)), hcell]
      simp [hfro, setCell_eq_setRow w g (o + i) cur t fz v hg]
    have ih := storeCells_own (P := P) g o t fz rest (i + 1) (cur.setIfInBounds (o + i) v) (w.setRow g (cur.setIfInBounds (o + i) v)) (setRow_heap w g cur _ t fz hg) (by simp at hl ⊢; omega) (fun x hx => h1 x (by simp [hx]))
      (fun p hp => hf p (by simpa using hp))
    simp only [storeCells, Sem.run_bind, hst, Result.andThen_ok, ih, setRow_setRow]
    congr 3
    have e := list_seg_step cur.toList (o + i) v rest (by simp at hl ⊢; omega)
    simpa [Array.toList_setIfInBounds, Nat.add_assoc] using e

/-- What a source of an append holds. -/
def Src (P : Program) (w : World) (k : Nat) (x : Value) (m : Nat) (news : List Value) : Prop :=
  news.length = m * k ∧ ∀ w' : World, w'.heap = w.heap → (Builtin.lenOf x).run P w' = .ok m w' ∧ (Builtin.firstCells k m x).run P w' = .ok news.toArray w'
theorem Src.slice {P : Program} {w : World} {k : Nat} {A : Option Addr} {m c : Nat} {news : List Value} (hl : news.length = m * k) (hA : 0 < m → ∃ a, A = some a ∧ Mem w a news) : Src P w k (.slice A m c) m news := by
  refine ⟨hl, fun w' hw => ⟨by simp [Builtin.lenOf], ?_⟩⟩
  cases A with
  | none =>
    have : m = 0 := by
      rcases Nat.eq_zero_or_pos m with h | h
      · exact h
      · obtain ⟨a, h, _⟩ := hA h; cases h
    subst this
    have : news = [] := List.eq_nil_of_length_eq_zero (by simpa using hl)
    subst this
    simp [Builtin.firstCells]
  | some a =>
    have hm : Mem w a news := by
      rcases Nat.eq_zero_or_pos m with h0 | h0
      · subst h0
        have : news = [] := List.eq_nil_of_length_eq_zero (by simpa using hl)
        subst this
        exact Mem.nil
      · obtain ⟨a', h, hm⟩ := hA h0
        injection h with h
        subst h
        exact hm
    have hm' : Mem w' a news := fun j v hv => by
      have := hm j v hv
      simpa [World.cell?, hw] using this
    exact run_firstCells_some (P := P) w' k m a m c news hl hm'
theorem Src.string {P : Program} {w : World} {s : ByteArray} : Src P w 1 (.string s) s.size (bytesC s.toList) := by
  refine ⟨by rw [bytesC_length, toList_length, Nat.mul_one], fun w' hw => ⟨by simp [Builtin.lenOf], ?_⟩⟩
  have hx : s.extract 0 s.size = s := by
    apply ByteArray.ext
    rw [ByteArray.data_extract]
    show s.data.extract 0 s.data.size = s.data
    simp
  simp only [Builtin.firstCells, hx, Sem.run_pure]
  congr 1
  rw [ByteArray.toList_eq]
  simp [bytesC, bc, Array.ext_iff]

/-- append onto a slice of our own, whatever the source. -/
theorem run_append_mine_sl {P : Program} {w : World} {t u ty e e' : TypeId} {i : TypeInfo} {z : Value} {k m : Nat} {v x : Value} {xs news : List Value}
    (ht : P.underlying t = some (.slice e)) (hud : P.underlying u = some (.slice e')) (hi : P.info? e = some i) (hz : i.zero = some z) (hsize : i.size = k) (hzs : z.cells.size = k) (hk : 0 < k) (hbp : 0 < i.bytes)
    (hown : Own w e k v xs) (hsrc : Src P w k x m news) (h1 : ∀ u ∈ news, u.oneCell' = true) (hroom : (xs.length + m * k) * i.bytes ≤ 140737488355328 * k) :
    ∃ v' w', (Builtin.append_ #[t, u] ty #[v, x]).run P w = .ok v' w' ∧ Own w' e k v' (xs ++ news) ∧ Chg (fun g => v.ownBlock = some g) w w' ∧
      (v'.ownBlock = v.ownBlock ∨ ∀ g, v'.ownBlock = some g → w.heap.size ≤ g) := by
  subst hsize
  obtain ⟨hnl, hs⟩ := hsrc
  obtain ⟨A, n, c, rfl⟩ := hown.lens
  obtain ⟨hmem, hnone, hxl, hnc, hcm⟩ := hown.mem A n c rfl
  obtain ⟨_, hsv⟩ := Src.slice (P := P) (w := w) (k := i.size) (A := A) (m := n) (c := c) hxl hmem
  have hfit : (n + m) * i.bytes ≤ 140737488355328 := by
    have h2 : (xs.length + m * i.size) * i.bytes = ((n + m) * i.bytes) * i.size := by rw [hxl, ← Nat.add_mul, Nat.mul_assoc, Nat.mul_comm i.size, ← Nat.mul_assoc]
    rw [h2] at hroom
    exact Nat.le_of_mul_le_mul_right hroom hk
  have hmx : n + m ≤ 140737488355328 := Nat.le_trans (Nat.le_mul_of_pos_right _ hbp) hfit
  by_cases hr : n + m ≤ c
  · cases A with
    | none =>
      have h0 := hnone rfl
      subst h0
      rcases hown with ⟨h, rfl⟩ | ⟨g, n', cap, rest, fz, h, _⟩
      · injection h with _ _ hc
        subst hc
        have hm0 : m = 0 := by omega
        subst hm0
        have : news = [] := List.eq_nil_of_length_eq_zero (by simpa using hnl)
        subst this
        obtain ⟨hl1, hf1⟩ := hs w rfl
        exact ⟨.slice none 0 0, w, by simp [Builtin.append_, run_underlying ht, run_underlying hud, sizeOf, typeInfo, hi, hl1, hf1], by simpa using Own.nil, Chg.refl, .inl rfl⟩
      · cases h
    | some a =>
      rcases hown with ⟨h, _⟩ | ⟨g, n', cap, rest, fz, h, hh, hxl', hnc', hcm', hal, hfz⟩
      · cases h
      · injection h with h2 h3 h4
        injection h2 with h2
        subst h2; subst h3; subst h4
        obtain ⟨hl1, hf1⟩ := hs w rfl
        have hrest : rest.length = (c - n) * i.size := by
          rw [List.length_append, hxl, ] at hal
          rw [Nat.sub_mul]; omega
        have hle : news.length ≤ rest.length := by rw [hnl, hrest]; exact Nat.mul_le_mul_right _ (by omega)
        have hst := storeCells_own (P := P) g (n * i.size) e fz news 0 (xs ++ rest).toArray w hh (by simp; omega) h1 (fun p hp => hfz p (by simp at hp; simp at hal; omega))
        have hadd : (⟨g, 0, none⟩ : Addr).add (n * i.size) = ⟨g, n * i.size, none⟩ := by unfold Addr.add; split <;> simp_all
        have heq : ((xs ++ rest).toArray.toList.take (n * i.size + 0) ++ news ++ (xs ++ rest).toArray.toList.drop (n * i.size + 0 + news.length)).toArray = (xs ++ news ++ rest.drop news.length).toArray := by
          congr 1
          rw [List.toList_toArray, Nat.add_zero, ← hxl, List.take_left, List.drop_append]
          simp [List.drop_of_length_le]
        rw [heq] at hst
        refine ⟨.slice (some ⟨g, 0, none⟩) (n + m) c, _, ?_, .inr ⟨g, n + m, c, rest.drop news.length, fz, rfl, setRow_heap w g _ _ e fz hh, ?_, hr, hcm', ?_, hfz⟩,
          ⟨rfl, rfl, rfl, by simp, fun b hb hn => setRow_other w g b _ (fun e => hn (by rw [e]; rfl)), Nat.le_refl _⟩, .inl rfl⟩
        · simp [Builtin.append_, run_underlying ht, run_underlying hud, sizeOf, typeInfo, hi, hl1, hf1, hr, hadd, hst]
        · rw [List.length_append, hxl, hnl, Nat.add_mul]
        · rw [← hal]; simp; omega
  · have hn : ¬ (n + m ≤ c) := hr
    have h63' : ¬ (9223372036854775807 < ((n : Int) + (m : Int))) := by omega
    have h48' : ¬ (281474976710656 < Builtin.nextslicecap (n + m) c * i.bytes) := by
      have := growslice_fits (need := n + m) (old := c) (bytes := i.bytes) (by omega) hfit
      omega
    obtain ⟨hl1, _⟩ := hs w rfl
    obtain ⟨_, hf1⟩ := hs w.drew rfl
    obtain ⟨_, hf0⟩ := hsv w.drew rfl
    have hge := grownCap_ge w (n + m) c e
    have hcm2 : grownCap w (n + m) c e ≤ maxLen := grownCap_le_maxLen w (n + m) c e (by simp only [maxLen]; omega)
    refine ⟨.slice (some ⟨w.heap.size, 0, none⟩) (n + m) (grownCap w (n + m) c e),
      w.drew.alloc (.cells (xs ++ news ++ (Builtin.zeroCells z.cells (grownCap w (n + m) c e - (n + m))).toList).toArray e), ?_,
      .inr ⟨w.heap.size, n + m, grownCap w (n + m) c e, (Builtin.zeroCells z.cells (grownCap w (n + m) c e - (n + m))).toList, (0, 0), rfl, heap_alloc_new w.drew _, ?_, hge, hcm2, ?_, fun o _ => by simp⟩,
      Chg.drew.trans (Chg.alloc (S := fun _ => False) _) (fun _ _ f => f.elim), .inr (fun g hg => by simp [Value.ownBlock] at hg; omega)⟩
    · simp [Builtin.append_, run_underlying ht, run_underlying hud, sizeOf, typeInfo, zeroValue, hi, hz, hl1, hn, h63', h48', Question.forced, hf0, hf1, newRow, grownCap]
      congr 2
      apply Array.ext'
      simp
    · rw [List.length_append, hxl, hnl, Nat.add_mul]
    · simp only [List.length_append, hxl, hnl, Array.length_toList, size_zeroCells, hzs, ← Nat.add_mul]
      congr 1
      omega
/-- append onto a slice of our own, whatever the source. -/
theorem run_append_mine_str {P : Program} {w : World} {t u ty e : TypeId} {i : TypeInfo} {z : Value} {k m : Nat} {v x : Value} {xs news : List Value}
    (ht : P.underlying t = some (.slice e)) (hud : P.underlying u = some .string) (hi : P.info? e = some i) (hz : i.zero = some z) (hsize : i.size = k) (hzs : z.cells.size = k) (hk : 0 < k) (hbp : 0 < i.bytes)
    (hown : Own w e k v xs) (hsrc : Src P w k x m news) (h1 : ∀ u ∈ news, u.oneCell' = true) (hroom : (xs.length + m * k) * i.bytes ≤ 140737488355328 * k) :
    ∃ v' w', (Builtin.append_ #[t, u] ty #[v, x]).run P w = .ok v' w' ∧ Own w' e k v' (xs ++ news) ∧ Chg (fun g => v.ownBlock = some g) w w' ∧
      (v'.ownBlock = v.ownBlock ∨ ∀ g, v'.ownBlock = some g → w.heap.size ≤ g) := by
  subst hsize
  obtain ⟨hnl, hs⟩ := hsrc
  obtain ⟨A, n, c, rfl⟩ := hown.lens
  obtain ⟨hmem, hnone, hxl, hnc, hcm⟩ := hown.mem A n c rfl
  obtain ⟨_, hsv⟩ := Src.slice (P := P) (w := w) (k := i.size) (A := A) (m := n) (c := c) hxl hmem
  have hfit : (n + m) * i.bytes ≤ 140737488355328 := by
    have h2 : (xs.length + m * i.size) * i.bytes = ((n + m) * i.bytes) * i.size := by rw [hxl, ← Nat.add_mul, Nat.mul_assoc, Nat.mul_comm i.size, ← Nat.mul_assoc]
    rw [h2] at hroom
    exact Nat.le_of_mul_le_mul_right hroom hk
  have hmx : n + m ≤ 140737488355328 := Nat.le_trans (Nat.le_mul_of_pos_right _ hbp) hfit
  by_cases hr : n + m ≤ c
  · cases A with
    | none =>
      have h0 := hnone rfl
      subst h0
      rcases hown with ⟨h, rfl⟩ | ⟨g, n', cap, rest, fz, h, _⟩
      · injection h with _ _ hc
        subst hc
        have hm0 : m = 0 := by omega
        subst hm0
        have : news = [] := List.eq_nil_of_length_eq_zero (by simpa using hnl)
        subst this
        obtain ⟨hl1, hf1⟩ := hs w rfl
        exact ⟨.slice none 0 0, w, by simp [Builtin.append_, run_underlying ht, run_underlying hud, sizeOf, typeInfo, hi, hl1, hf1], by simpa using Own.nil, Chg.refl, .inl rfl⟩
      · cases h
    | some a =>
      rcases hown with ⟨h, _⟩ | ⟨g, n', cap, rest, fz, h, hh, hxl', hnc', hcm', hal, hfz⟩
      · cases h
      · injection h with h2 h3 h4
        injection h2 with h2
        subst h2; subst h3; subst h4
        obtain ⟨hl1, hf1⟩ := hs w rfl
        have hrest : rest.length = (c - n) * i.size := by
          rw [List.length_append, hxl, ] at hal
          rw [Nat.sub_mul]; omega
        have hle : news.length ≤ rest.length := by rw [hnl, hrest]; exact Nat.mul_le_mul_right _ (by omega)
        have hst := storeCells_own (P := P) g (n * i.size) e fz news 0 (xs ++ rest).toArray w hh (by simp; omega) h1 (fun p hp => hfz p (by simp at hp; simp at hal; omega))
        have hadd : (⟨g, 0, none⟩ : Addr).add (n * i.size) = ⟨g, n * i.size, none⟩ := by unfold Addr.add; split <;> simp_all
        have heq : ((xs ++ rest).toArray.toList.take (n * i.size + 0) ++ news ++ (xs ++ rest).toArray.toList.drop (n * i.size + 0 + news.length)).toArray = (xs ++ news ++ rest.drop news.length).toArray := by
          congr 1
          rw [List.toList_toArray, Nat.add_zero, ← hxl, List.take_left, List.drop_append]
          simp [List.drop_of_length_le]
        rw [heq] at hst
        refine ⟨.slice (some ⟨g, 0, none⟩) (n + m) c, _, ?_, .inr ⟨g, n + m, c, rest.drop news.length, fz, rfl, setRow_heap w g _ _ e fz hh, ?_, hr, hcm', ?_, hfz⟩,
          ⟨rfl, rfl, rfl, by simp, fun b hb hn => setRow_other w g b _ (fun e => hn (by rw [e]; rfl)), Nat.le_refl _⟩, .inl rfl⟩
        · simp [Builtin.append_, run_underlying ht, run_underlying hud, sizeOf, typeInfo, hi, hl1, hf1, hr, hadd, hst]
        · rw [List.length_append, hxl, hnl, Nat.add_mul]
        · rw [← hal]; simp; omega
  · have hn : ¬ (n + m ≤ c) := hr
    have h63' : ¬ (9223372036854775807 < ((n : Int) + (m : Int))) := by omega
    have h48' : ¬ (281474976710656 < Builtin.nextslicecap (n + m) c * i.bytes) := by
      have := growslice_fits (need := n + m) (old := c) (bytes := i.bytes) (by omega) hfit
      omega
    obtain ⟨hl1, _⟩ := hs w rfl
    obtain ⟨_, hf1⟩ := hs w.drew rfl
    obtain ⟨_, hf0⟩ := hsv w.drew rfl
    have hge := grownCap_ge w (n + m) c e
    have hcm2 : grownCap w (n + m) c e ≤ maxLen := grownCap_le_maxLen w (n + m) c e (by simp only [maxLen]; omega)
    refine ⟨.slice (some ⟨w.heap.size, 0, none⟩) (n + m) (grownCap w (n + m) c e),
      w.drew.alloc (.cells (xs ++ news ++ (Builtin.zeroCells z.cells (grownCap w (n + m) c e - (n + m))).toList).toArray e), ?_,
      .inr ⟨w.heap.size, n + m, grownCap w (n + m) c e, (Builtin.zeroCells z.cells (grownCap w (n + m) c e - (n + m))).toList, (0, 0), rfl, heap_alloc_new w.drew _, ?_, hge, hcm2, ?_, fun o _ => by simp⟩,
      Chg.drew.trans (Chg.alloc (S := fun _ => False) _) (fun _ _ f => f.elim), .inr (fun g hg => by simp [Value.ownBlock] at hg; omega)⟩
    · simp [Builtin.append_, run_underlying ht, run_underlying hud, sizeOf, typeInfo, zeroValue, hi, hz, hl1, hn, h63', h48', Question.forced, hf0, hf1, newRow, grownCap]
      congr 2
      apply Array.ext'
      simp
    · rw [List.length_append, hxl, hnl, Nat.add_mul]
    · simp only [List.length_append, hxl, hnl, Array.length_toList, size_zeroCells, hzs, ← Nat.add_mul]
      congr 1
      omega

/-! ## Operations that make memory, as rules -/
/-- The operation yields a value and leaves a world of which R tells. -/
def St (P : Program) (n : NN) (fr : Fr) (o : Op) (ty : TypeId) (w : World) (R : Value → World → Prop) : Prop :=
  ∀ a (o' : Oper), o'.op = o → o'.type = ty → Rep n a fr → ∃ v w', (execOp a.eval o').run P w = .ok (.value v) w' ∧ R v w'
section
variable {P : Program} {n : NN} {Φ : Exit → Fr → World → Prop} {fr : Fr} {w : World} {ty : TypeId} {R : Value → World → Prop}
theorem WL.st {ops : Array Oper} {rest : List Oper} {d : Nat} {o : Op} {pos : String} {aft : Array Edge}
    (hs : St P n fr o ty w R) (hd : d < n.1) (h : ∀ v w', R v w' → WL P ops n Φ rest ((d, v) :: fr) w') : WL P ops n Φ (⟨some d, o, ty, pos, aft, none⟩ :: rest) fr w := fun a ha =>
  wpList_plain rfl fun K hK => by
    obtain ⟨v, w', hr, hR⟩ := hs a ⟨some d, o, ty, pos, aft, none⟩ rfl rfl ha
    unfold Oper.wp
    rw [hr]
    exact hK _ _ (h v w' hR _ (ha.put hd v))
/-- What append wants to know of an element's type. -/
def AppInfo (P : Program) (e : TypeId) (k b : Nat) : Prop := ∃ i z, P.info? e = some i ∧ i.zero = some z ∧ i.size = k ∧ z.cells.size = k ∧ i.bytes = b ∧ 0 < k ∧ 0 < b
theorem St.append {s x : Operand} {v xv : Value} {t u e e' : TypeId} {k b m : Nat} {xs news : List Value}
    (ht : P.underlying t = some (.slice e)) (hud : P.underlying u = some (.slice e')) (hi : AppInfo P e k b) (hs : ev fr s = some v) (hx : ev fr x = some xv)
    (hown : Own w e k v xs) (hsrc : Src P w k xv m news) (h1 : ∀ u ∈ news, u.oneCell' = true) (hroom : (xs.length + m * k) * b ≤ 140737488355328 * k) :
    St P n fr (.call { callee := .builtin .append, args := #[s, x], argTypes := #[t, u] }) ty w (fun v' w' => Own w' e k v' (xs ++ news) ∧ Chg (fun g => v.ownBlock = some g) w w' ∧
      (v'.ownBlock = v.ownBlock ∨ ∀ g, v'.ownBlock = some g → w.heap.size ≤ g)) := fun a o' ho hty ha => by
  obtain ⟨i, z, hi, hz, hk, hzs, rfl, h0, hb⟩ := hi
  obtain ⟨v', w', hr, hR⟩ := run_append_mine_sl (P := P) (w := w) (ty := o'.type) ht hud hi hz hk hzs h0 hb hown hsrc h1 hroom
  exact ⟨v', w', by simp [execOp, ho, resolve, invoke, builtin, ha.ev hs, ha.ev hx, hr], hR⟩
theorem St.appendS {s x : Operand} {v : Value} {str : ByteArray} {t u e : TypeId} {b : Nat} {xs : List Value}
    (ht : P.underlying t = some (.slice e)) (hud : P.underlying u = some .string) (hi : AppInfo P e 1 b) (hs : ev fr s = some v) (hx : ev fr x = some (.string str))
    (hown : Own w e 1 v xs) (hroom : (xs.length + str.size) * b ≤ 140737488355328) :
    St P n fr (.call { callee := .builtin .append, args := #[s, x], argTypes := #[t, u] }) ty w (fun v' w' => Own w' e 1 v' (xs ++ bytesC str.toList) ∧ Chg (fun g => v.ownBlock = some g) w w' ∧
      (v'.ownBlock = v.ownBlock ∨ ∀ g, v'.ownBlock = some g → w.heap.size ≤ g)) := fun a o' ho hty ha => by
  obtain ⟨i, z, hi, hz, hk, hzs, rfl, h0, hb⟩ := hi
  obtain ⟨v', w', hr, hR⟩ := run_append_mine_str (P := P) (w := w) (ty := o'.type) ht hud hi hz hk hzs h0 hb hown Src.string one_bytesC (by simpa using hroom)
  exact ⟨v', w', by simp [execOp, ho, resolve, invoke, builtin, ha.ev hs, ha.ev hx, hr], hR⟩
def evp (fr : Fr) : List (Nat × Operand) → Option (List (Nat × Value))
  | [] => some []
  | (i, x) :: r => match ev fr x, evp fr r with
    | some v, some vs => some ((i, v) :: vs)
    | _, _ => none
theorem Rep.evp {a : Act} (h : Rep n a fr) : ∀ {xs : List (Nat × Operand)} {vs : List (Nat × Value)}, Fw.evp fr xs = some vs → xs.map (fun p => (p.1, a.eval p.2)) = vs
  | [], vs, e => by simpa [Fw.evp] using e
  | (i, x) :: r, vs, e => by
    simp only [Fw.evp] at e
    split at e
    · rename_i v us h1 h2
      simp only [Option.some.injEq] at e
      subst e
      simp only [List.map_cons, h.ev h1, h.evp h2]
    · cases e
theorem St.buildSlice {t e : TypeId} {len : Nat} {ps : List (Nat × Operand)} {vs : List (Nat × Value)} {cs : List Value} (hp : evp fr ps = some vs)
    (hr : ∀ w, (Instr.buildSlice t len vs.toArray).run P w = .ok (.slice (some ⟨w.heap.size, 0, none⟩) len len) (w.alloc (.cells cs.toArray e))) :
    St P n fr (.buildSlice t len ps.toArray) ty w (fun v w' => ∃ g, v = .slice (some ⟨g, 0, none⟩) len len ∧ w.heap.size ≤ g ∧ Blk w' g e cs ∧ Ext w w') := fun a o' ho hty ha => by
  have := ha.evp hp
  refine ⟨_, _, ?_, w.heap.size, rfl, Nat.le_refl _, Blk.new w e cs, Chg.alloc _⟩
  have h2 := hr w
  rw [← this] at h2
  simp only [execOp, ho]
  simp only [List.map_toArray, Sem.run_bind]
  rw [h2]
  rfl
theorem Y.build {t : TypeId} {ps : List (Nat × Operand)} {vs : List (Nat × Value)} {v : Value} (hp : evp fr ps = some vs) (hr : (Instr.build t vs.toArray).run P w = .ok v w) : Yw P n fr (.build t ps.toArray) ty w v w := fun a o' ho hty ha => by
  have := ha.evp hp
  rw [← this] at hr
  simp only [execOp, ho]
  simp only [List.map_toArray, Sem.run_bind]
  rw [hr]
  rfl
end

/-! ## A region whose order is open and that makes memory: whichever comes, of those that may -/
def RH (P : Program) (ops : Array Oper) (S : World → Prop) (n : NN) (Φ : Exit → Fr → World → Prop) (fuel : Nat) (listed : Array Bool) (fr : Fr) (w : World) : Prop :=
  ∀ a, Rep n a fr → wpAnyH P .any ops (lift n Φ) S fuel listed a w
/-- Operation i comes up. -/
def RS (P : Program) (ops : Array Oper) (S : World → Prop) (n : NN) (Φ : Exit → Fr → World → Prop) (fuel : Nat) (listed : Array Bool) (i : Nat) (fr : Fr) (w : World) : Prop :=
  ∀ a, Rep n a fr → wpOp P ops (lift n Φ) i (fun a' w' => S w' ∧ wpAnyH P .any ops (lift n Φ) S fuel (listed.setIfInBounds i true) a' w') a w
section rh
variable {P : Program} {ops : Array Oper} {S : World → Prop} {n : NN} {Φ : Exit → Fr → World → Prop} {fr : Fr} {w : World} {fuel : Nat} {listed : Array Bool}
theorem RH.done (hr : Region.ready .any ops listed = []) (h : Φ .normal fr w) : RH P ops S n Φ fuel listed fr w := fun a ha => wpAnyH_done hr ⟨fr, ha, h⟩ fuel
theorem RH.one (i : Nat) (hr : Region.ready .any ops listed = [i]) (h : RS P ops S n Φ fuel listed i fr w) : RH P ops S n Φ (fuel + 1) listed fr w := fun a ha =>
  wpAnyH_all hr (by simp) fun j hj => by
    simp at hj; subst hj; exact h a ha
theorem RH.two (i j : Nat) (hr : Region.ready .any ops listed = [i, j]) (h1 : RS P ops S n Φ fuel listed i fr w) (h2 : RS P ops S n Φ fuel listed j fr w) : RH P ops S n Φ (fuel + 1) listed fr w := fun a ha =>
  wpAnyH_all hr (by simp) fun k hk => by
    simp at hk
    rcases hk with rfl | rfl
    · exact h1 a ha
    · exact h2 a ha
theorem RH.cases {d : Nat} {c : Bool} (hg : fr.get d = some (.bool c))
    (ht : c = true → RH P ops S n Φ fuel listed ((d, .bool true) :: fr) w) (hf : c = false → RH P ops S n Φ fuel listed ((d, .bool false) :: fr) w) : RH P ops S n Φ fuel listed fr w := by
  intro a ha
  cases c with
  | true => exact ht rfl a (ha.weaken (Fr.le.cons hg Fr.le.refl))
  | false => exact hf rfl a (ha.weaken (Fr.le.cons hg Fr.le.refl))
theorem RH.casesD {d : Nat} {p : Prop} {inst : Decidable p} (hg : fr.get d = some (.bool (@decide p inst)))
    (ht : p → RH P ops S n Φ fuel listed ((d, .bool true) :: fr) w) (hf : ¬ p → RH P ops S n Φ fuel listed ((d, .bool false) :: fr) w) : RH P ops S n Φ fuel listed fr w :=
  RH.cases hg (fun h => ht (@of_decide_eq_true p inst h)) (fun h => hf (@of_decide_eq_false p inst h))
/-- What looks at no memory but what S keeps is taken first. -/
theorem RH.take (i : Nat) {d : Nat} {o : Op} {ty : TypeId} {pos : String} {aft : Array Edge} {v : Value}
    (hQ : ∀ c f f' w, Φ (.panic c) f w → Φ (.panic c) f' w) (hs : Region.noSelect ops = true) (hS : S w)
    (hi : ops[i]? = some ⟨some d, o, ty, pos, aft, none⟩) (hf : Region.free .any ops listed i = true) (hr : (Region.ready .any ops listed).contains i = true)
    (hy : ∀ w, S w → Yw P n fr o ty w v w) (hd : d < n.1) (h : RH P ops S n Φ fuel (listed.setIfInBounds i true) ((d, v) :: fr) w) : RH P ops S n Φ (fuel + 1) listed fr w := fun a ha =>
  wpAnyH_take hi hs hf hr (fun c a w ⟨f, hf, hp⟩ => ⟨[], Rep.nil (by simpa [Act.put] using hf.size) hf.defers, hQ c f [] w hp⟩)
    (.inl ⟨by simp [Region.wanted], fun w hw => hy w hw a _ rfl rfl ha⟩) hS (h _ (ha.put hd v))
theorem RH.gtake (i : Nat) {d j dj : Nat} {b : Bool} {o : Op} {ty : TypeId} {pos : String} {aft : Array Edge} {v : Value}
    (hQ : ∀ c f f' w, Φ (.panic c) f w → Φ (.panic c) f' w) (hs : Region.noSelect ops = true) (hS : S w)
    (hi : ops[i]? = some ⟨some d, o, ty, pos, aft, some (j, b)⟩) (hf : Region.free .any ops listed i = true) (hr : (Region.ready .any ops listed).contains i = true)
    (hj : (ops[j]?).bind (·.dst) = some dj) (hg : fr.get dj = some (.bool b))
    (hy : ∀ w, S w → Yw P n fr o ty w v w) (hd : d < n.1) (h : RH P ops S n Φ fuel (listed.setIfInBounds i true) ((d, v) :: fr) w) : RH P ops S n Φ (fuel + 1) listed fr w := fun a ha =>
  wpAnyH_take hi hs hf hr (fun c a w ⟨f, hf, hp⟩ => ⟨[], Rep.nil (by simpa [Act.put] using hf.size) hf.defers, hQ c f [] w hp⟩)
    (.inl ⟨by simp [Region.wanted, yielded_eq ha hj hg], fun w hw => hy w hw a _ rfl rfl ha⟩) hS (h _ (ha.put hd v))
theorem RH.goff (i : Nat) {d j dj : Nat} {b : Bool} {o : Op} {ty : TypeId} {pos : String} {aft : Array Edge}
    (hQ : ∀ c f f' w, Φ (.panic c) f w → Φ (.panic c) f' w) (hs : Region.noSelect ops = true) (hS : S w)
    (hi : ops[i]? = some ⟨some d, o, ty, pos, aft, some (j, b)⟩) (hf : Region.free .any ops listed i = true) (hr : (Region.ready .any ops listed).contains i = true)
    (hj : (ops[j]?).bind (·.dst) = some dj) (hg : fr.get dj = some (.bool (!b)))
    (hd : d < n.1) (h : RH P ops S n Φ fuel (listed.setIfInBounds i true) ((d, undef) :: fr) w) : RH P ops S n Φ (fuel + 1) listed fr w := fun a ha =>
  wpAnyH_take hi hs hf hr (fun c a w ⟨f, hf, hp⟩ => ⟨[], Rep.nil (by simpa [Act.put] using hf.size) hf.defers, hQ c f [] w hp⟩)
    (.inr ⟨by simp [Region.wanted, yielded_eq ha hj hg], rfl⟩) hS (h _ (ha.put hd undef))
theorem RH.goffU (i : Nat) {d j dj : Nat} {b : Bool} {o : Op} {ty : TypeId} {pos : String} {aft : Array Edge}
    (hQ : ∀ c f f' w, Φ (.panic c) f w → Φ (.panic c) f' w) (hs : Region.noSelect ops = true) (hS : S w)
    (hi : ops[i]? = some ⟨some d, o, ty, pos, aft, some (j, b)⟩) (hf : Region.free .any ops listed i = true) (hr : (Region.ready .any ops listed).contains i = true)
    (hj : (ops[j]?).bind (·.dst) = some dj) (hg : fr.get dj = some undef)
    (hd : d < n.1) (h : RH P ops S n Φ fuel (listed.setIfInBounds i true) ((d, undef) :: fr) w) : RH P ops S n Φ (fuel + 1) listed fr w := fun a ha =>
  wpAnyH_take hi hs hf hr (fun c a w ⟨f, hf, hp⟩ => ⟨[], Rep.nil (by simpa [Act.put] using hf.size) hf.defers, hQ c f [] w hp⟩)
    (.inr ⟨by simp [Region.wanted, yielded_undef ha hj hg], rfl⟩) hS (h _ (ha.put hd undef))
theorem RS.st {i d : Nat} {o : Op} {ty : TypeId} {pos : String} {aft : Array Edge} {R : Value → World → Prop}
    (hi : ops[i]? = some ⟨some d, o, ty, pos, aft, none⟩) (hs : St P n fr o ty w R) (hd : d < n.1)
    (h : ∀ v w', R v w' → S w' ∧ RH P ops S n Φ fuel (listed.setIfInBounds i true) ((d, v) :: fr) w') : RS P ops S n Φ fuel listed i fr w := fun a ha => by
  obtain ⟨v, w', hr, hR⟩ := hs a ⟨some d, o, ty, pos, aft, none⟩ rfl rfl ha
  obtain ⟨h1, h2⟩ := h v w' hR
  unfold wpOp
  rw [hi]
  simp only [Region.wanted, if_true]
  refine .inl ?_
  unfold Oper.wp
  rw [hr]
  exact ⟨h1, h2 _ (ha.put hd v)⟩
theorem RS.call {i : Nat} {d : Nat} {f : FuncId} {args : List Operand} {tys : Array TypeId} {ty : TypeId} {pos : String} {aft : Array Edge} {vs : List Value} {fn : Func} {R : Value → World → Prop} {g : Option (Nat × Bool)}
    (hi : ops[i]? = some ⟨some d, .call { callee := .value (.func f), args := args.toArray, argTypes := tys }, ty, pos, aft, g⟩)
    (hg : ∀ j b, g = some (j, b) → ∃ dj, (ops[j]?).bind (·.dst) = some dj ∧ fr.get dj = some (.bool b))
    (hf : P.funcs[f]? = some fn) (hb : fn.body.isNone = false) (hn : (fn.name == "runtime.NumGoroutine") = false)
    (he : evs fr args = some vs) (hC : Calls P f vs.toArray w (Ret R)) (hd : d < n.1)
    (h : ∀ v w', R v w' → S w' ∧ RH P ops S n Φ fuel (listed.setIfInBounds i true) ((d, v) :: fr) w') : RS P ops S n Φ fuel listed i fr w := fun a ha => by
  have hrun : (execOp a.eval ⟨some d, .call { callee := .value (.func f), args := args.toArray, argTypes := tys }, ty, pos, aft, g⟩).run P w = .ok (.enter f vs.toArray) w := by
    have := ha.evs he
    simp [execOp, resolve, invoke, Deferred.ofValue, Act.eval, this, run_callFunc hf hb hn]
  have hw : Region.wanted ⟨some d, .call { callee := .value (.func f), args := args.toArray, argTypes := tys }, ty, pos, aft, g⟩ (yielded ops a.tmps) = true := by
    cases g with
    | none => simp [Region.wanted]
    | some jb =>
      obtain ⟨j, b⟩ := jb
      obtain ⟨dj, h1, h2⟩ := hg j b rfl
      simp [Region.wanted, yielded_eq ha h1 h2]
  unfold wpOp
  rw [hi]
  simp only [hw, if_true]
  refine .inl ?_
  unfold Oper.wp
  rw [hrun]
  refine hC.mono fun e w' hr => ?_
  cases e with
  | returned v => obtain ⟨h1, h2⟩ := h v w' hr; exact ⟨h1, h2 _ (ha.put hd v)⟩
  | panicked ch => exact hr.elim
  | outgrown => exact hr.elim
end rh
theorem CW.held {P : Program} {n : NN} {Φ : Exit → Fr → World → Prop} {fr : Fr} {w : World} {id : Nat} {l : List Oper} (S : World → Prop) (hm : P.follows .mixedOrders = true) (m : Nat) (hl : l.length = m)
    (h : ∀ w', Ext w w' → RH P l.toArray S n Φ m (Array.replicate m false) fr w') (hR : Tame n l Φ := by first | exact .inl rfl | exact .inr ⟨rfl, fun _ _ h => h⟩) : CW P (.region id l.toArray true) n Φ fr w := fun a ha =>
  region_any hR hm (wpAny_of_held _ _ _ _ (by simp only [List.size_toArray, hl]; exact h w.drew Chg.drew a ha))
end Go.Fw

/- Maps as rules of the calculus: made, looked up, written, cut, counted. Keys of whatever type whose equality is known. No condition; no program. -/
namespace Go.Fw
open Go.RowKit

/-! ## Keys -/
/-- What a map's look-up wants to know of its keys: α as Lean has them, enc as the program does. -/
structure KeyEq (P : Program) (k : TypeId) {α : Type} [DecidableEq α] (enc : α → Value) : Prop where
  eq : ∀ (w : World) (a b : α), (Op.equal k (enc a) (enc b)).run P w = .ok (decide (a = b)) w
  check : ∀ (w : World) (em : Bool) (a : α), (Instr.checkKey em 10000 k (enc a)).run P w = .ok () w
  wide : (match P.underlying k with | some (.array _ _) | some (.struct _) => true | _ => false) = true
  same : ∀ a : α, Instr.sameBits 10000 (enc a) (enc a) = true

section
variable {P : Program} {k : TypeId} {α β : Type} [DecidableEq α] {enc : α → Value}
/-- The first of a list with this key, and its place. -/
def mfind (key : β → α) (a : α) : List β → Nat → Option (Nat × β)
  | [], _ => none
  | e :: r, i => if key e = a then some (i, e) else mfind key a r (i + 1)
theorem mfind_none {key : β → α} {a : α} : ∀ {l : List β} {i : Nat}, mfind key a l i = none → ∀ e ∈ l, key e ≠ a
  | [], _, _, e, he => by cases he
  | x :: r, i, h, e, he => by
    unfold mfind at h
    split at h
    · cases h
    · rename_i hne
      rcases List.mem_cons.1 he with rfl | he
      · exact hne
      · exact mfind_none h e he
theorem mfind_some {key : β → α} {a : α} : ∀ {l : List β} {i j : Nat} {e : β}, mfind key a l i = some (j, e) → i ≤ j ∧ l[j - i]? = some e ∧ key e = a
  | [], _, _, _, h => by cases h
  | x :: r, i, j, e, h => by
    unfold mfind at h
    split at h
    · rename_i hk
      cases h
      exact ⟨Nat.le_refl _, by simp, hk⟩
    · obtain ⟨h1, h2, h3⟩ := mfind_some h
      refine ⟨by omega, ?_, h3⟩
      rw [show j - i = (j - (i + 1)) + 1 by omega, List.getElem?_cons_succ]
      exact h2
theorem mfind_shift {key : β → α} {a : α} : ∀ {l : List β} {i : Nat}, (mfind key a l i).map (·.2) = l.find? (fun e => decide (key e = a))
  | [], _ => rfl
  | x :: r, i => by
    unfold mfind
    rw [List.find?_cons]
    by_cases h : key x = a
    · simp [h]
    · simp [h, mfind_shift (l := r) (i := i + 1)]
theorem run_findAsking (K : KeyEq P k enc) (w : World) (a : α) (key : β → α) (me : β → MapEntry) (hme : ∀ e, (me e).key = enc (key e)) : ∀ (l : List β) (i : Nat),
    (Instr.findAsking k (enc a) (l.map me) i).run P w = .ok ((mfind key a l i).map fun p => (p.1, (me p.2).val)) w
  | [], i => by simp [Instr.findAsking, mfind]
  | e :: r, i => by
    simp only [List.map_cons, Instr.findAsking, Sem.run_bind, hme, K.eq, Result.andThen_ok, mfind]
    by_cases h : key e = a
    · simp [h]
    · have h' : ¬ a = key e := fun x => h x.symm
      simp only [h, h', decide_false, Bool.false_eq_true, if_false]
      exact run_findAsking K w a key me hme r (i + 1)
theorem run_findKey (K : KeyEq P k enc) (w : World) (a : α) (key : β → α) (me : β → MapEntry) (hme : ∀ e, (me e).key = enc (key e)) (l : List β) :
    (Instr.findKey k (enc a) (l.map me)).run P w = .ok ((mfind key a l 0).map fun p => (p.1, (me p.2).val)) w := by
  rw [run_findKey_eq w K.wide]
  exact run_findAsking K w a key me hme l 0
end

/-- A look-up's value. -/
def mval {β : Type} (me : β → MapEntry) (z : Value) : Option (Nat × β) → Value
  | some p => (me p.2).val
  | none => z
/-- The map at r holds these entries. -/
def MapAt {β : Type} (w : World) (r : Nat) (me : β → MapEntry) (l : List β) (clock : Nat) : Prop := w.heap[r]? = some (.map (l.map me).toArray clock)
section
variable {β : Type} {w w' : World} {r : Nat} {me : β → MapEntry} {l : List β} {clock : Nat} {S : Nat → Prop}
theorem MapAt.lt (h : MapAt w r me l clock) : r < w.heap.size := (Array.getElem?_eq_some_iff.1 h).1
theorem MapAt.chg (h : MapAt w r me l clock) (hc : Chg S w w') (hs : ¬ S r) : MapAt w' r me l clock := (hc.block r h.lt hs).trans h
theorem MapAt.ext (h : MapAt w r me l clock) (hc : Ext w w') : MapAt w' r me l clock := h.chg hc (fun f => f)
end
theorem chg_setBlock {S : Nat → Prop} {w : World} {r : Nat} {o : Obj} (h : S r) : Chg S w { w with heap := w.heap.setIfInBounds r o } :=
  ⟨rfl, rfl, rfl, by simp, fun k hk hn => by
    have : r ≠ k := by rintro rfl; exact hn h
    simp [Array.getElem?_setIfInBounds, this], Nat.le_refl _⟩
theorem heap_setBlock {w : World} {r : Nat} {o : Obj} (h : r < w.heap.size) : ({ w with heap := w.heap.setIfInBounds r o } : World).heap[r]? = some o := by
  simp [Array.getElem?_setIfInBounds, h]

/-! ## The operations -/
/-- The operation hands back nothing that is kept, and leaves a world of which R tells. -/
def Su (P : Program) (n : NN) (fr : Fr) (o : Op) (ty : TypeId) (w : World) (R : World → Prop) : Prop :=
  ∀ a (o' : Oper), o'.op = o → o'.type = ty → Rep n a fr → ∃ w', ((execOp a.eval o').run P w = .ok .skip w' ∨ ∃ v, (execOp a.eval o').run P w = .ok (.value v) w') ∧ R w'
section
variable {P : Program} {n : NN} {Φ : Exit → Fr → World → Prop} {fr : Fr} {w : World} {ty : TypeId} {R : World → Prop}
theorem WL.su {ops : Array Oper} {rest : List Oper} {o : Op} {pos : String} {aft : Array Edge}
    (hs : Su P n fr o ty w R) (h : ∀ w', R w' → WL P ops n Φ rest fr w') : WL P ops n Φ (⟨none, o, ty, pos, aft, none⟩ :: rest) fr w := fun a ha =>
  wpList_plain rfl fun K hK => by
    obtain ⟨w', hr, hR⟩ := hs a ⟨none, o, ty, pos, aft, none⟩ rfl rfl ha
    unfold Oper.wp
    rcases hr with hr | ⟨v, hr⟩
    · rw [hr]; exact hK _ _ (h w' hR _ ha)
    · rw [hr]; exact hK _ _ (h w' hR _ ha)
theorem RS.su {ops : Array Oper} {S : World → Prop} {fuel : Nat} {listed : Array Bool} {i : Nat} {o : Op} {pos : String} {aft : Array Edge}
    (hi : ops[i]? = some ⟨none, o, ty, pos, aft, none⟩) (hs : Su P n fr o ty w R)
    (h : ∀ w', R w' → S w' ∧ RH P ops S n Φ fuel (listed.setIfInBounds i true) fr w') : RS P ops S n Φ fuel listed i fr w := fun a ha => by
  obtain ⟨w', hr, hR⟩ := hs a ⟨none, o, ty, pos, aft, none⟩ rfl rfl ha
  obtain ⟨h1, h2⟩ := h w' hR
  unfold wpOp
  rw [hi]
  simp only [Region.wanted, if_true]
  refine .inl ?_
  unfold Oper.wp
  rcases hr with hr | ⟨v, hr⟩
  · rw [hr]; exact ⟨h1, h2 _ ha⟩
  · rw [hr]; exact ⟨h1, h2 _ ha⟩
theorem St.makeMap {t : TypeId} : St P n fr (.makeMap t none) ty w (fun v w' => ∃ r, v = .map (some r) ∧ w.heap.size ≤ r ∧ (∀ (β : Type) (me : β → MapEntry), MapAt w' r me ([] : List β) 0) ∧ Ext w w') := fun a o' ho hty ha => by
  refine ⟨.map (some w.heap.size), w.alloc (.map #[] 0), ?_, w.heap.size, rfl, Nat.le_refl _, fun β me => ?_, Chg.alloc _⟩
  · simp [execOp, ho, Instr.makeMap, newObj, Sem.run]
  · exact heap_alloc_new w _
theorem St.makeMapN {t k e : TypeId} {x : Operand} {q : IntKind} {i : Int} (hT : P.underlying t = some (.map k e)) (hx : ev fr x = some (.int q i)) : St P n fr (.makeMap t (some x)) ty w (fun v w' => ∃ r, v = .map (some r) ∧ w.heap.size ≤ r ∧ (∀ (β : Type) (me : β → MapEntry), MapAt w' r me ([] : List β) 0) ∧ Ext w w') := fun a o' ho hty ha => by
  refine ⟨.map (some w.heap.size), w.alloc (.map #[] 0), ?_, w.heap.size, rfl, Nat.le_refl _, fun β me => ?_, Chg.alloc _⟩
  · simp [execOp, ho, Instr.makeMap, newObj, run_underlying hT, ha.ev hx, asInt, Sem.run]
    rfl
  · exact heap_alloc_new w _
theorem Y.len_map {x : Operand} {t k e : TypeId} {r clock : Nat} {β : Type} {me : β → MapEntry} {l : List β} (hT : P.underlying t = some (.map k e)) (hx : ev fr x = some (.map (some r))) (hm : MapAt w r me l clock) :
    Yw P n fr (.call { callee := .builtin .len, args := #[x], argTypes := #[t] }) ty w (.int .i64 (l.length : Int)) w := fun a o' ho _ ha => by
  have h1 := MapKept.run_getObj_map (P := P) hm
  simp [execOp, ho, resolve, invoke, builtin, ha.ev hx, Builtin.len_, run_underlying hT, h1, goInt]
section keyed
variable {α β : Type} [DecidableEq α] {enc : α → Value} {key : β → α} {me : β → MapEntry} {l : List β} {clock r : Nat} {t k e : TypeId}
theorem Y.lookupOk {x y : Operand} {a : α} {z : Value} (K : KeyEq P k enc) (hme : ∀ e, (me e).key = enc (key e)) (hT : P.underlying t = some (.map k e)) (hz : ∀ w, (zeroValue e).run P w = .ok z w)
    (hx : ev fr x = some (.map (some r))) (hy : ev fr y = some (enc a)) (hm : MapAt w r me l clock) :
    Yw P n fr (.lookup t x y true) ty w (.tuple #[mval me z (mfind key a l 0), .bool (mfind key a l 0).isSome]) w := fun b o' ho _ ha => by
  have h1 := MapKept.run_getObj_map (P := P) hm
  have h2 := run_findKey K w a key me hme l
  have h3 := fun em => K.check w em a
  cases hf : mfind key a l 0 with
  | none => rw [hf] at h2; simp [mval, execOp, ho, ha.ev hx, ha.ev hy, Instr.lookup, run_underlying hT, h1, h3, h2, hz]
  | some p => rw [hf] at h2; simp [mval, execOp, ho, ha.ev hx, ha.ev hy, Instr.lookup, run_underlying hT, h1, h3, h2]
theorem Y.lookup {x y : Operand} {a : α} {z : Value} (K : KeyEq P k enc) (hme : ∀ e, (me e).key = enc (key e)) (hT : P.underlying t = some (.map k e)) (hz : ∀ w, (zeroValue e).run P w = .ok z w)
    (hx : ev fr x = some (.map (some r))) (hy : ev fr y = some (enc a)) (hm : MapAt w r me l clock) :
    Yw P n fr (.lookup t x y false) ty w (mval me z (mfind key a l 0)) w := fun b o' ho _ ha => by
  have h1 := MapKept.run_getObj_map (P := P) hm
  have h2 := run_findKey K w a key me hme l
  have h3 := fun em => K.check w em a
  cases hf : mfind key a l 0 with
  | none => rw [hf] at h2; simp [mval, execOp, ho, ha.ev hx, ha.ev hy, Instr.lookup, run_underlying hT, h1, h3, h2, hz]
  | some p => rw [hf] at h2; simp [mval, execOp, ho, ha.ev hx, ha.ev hy, Instr.lookup, run_underlying hT, h1, h3, h2]
theorem Y.lookupAt {x y : Operand} {a : α} {v : Value} {p : Nat × β} (K : KeyEq P k enc) (hme : ∀ e, (me e).key = enc (key e)) (hT : P.underlying t = some (.map k e))
    (hx : ev fr x = some (.map (some r))) (hy : ev fr y = some (enc a)) (hm : MapAt w r me l clock) (hf : mfind key a l 0 = some p) (hv : (me p.2).val = v) :
    Yw P n fr (.lookup t x y false) ty w v w := fun b o' ho _ ha => by
  have h1 := MapKept.run_getObj_map (P := P) hm
  have h2 := run_findKey K w a key me hme l
  have h3 := fun em => K.check w em a
  rw [hf] at h2
  simp [execOp, ho, ha.ev hx, ha.ev hy, Instr.lookup, run_underlying hT, h1, h3, h2, hv]
/-- A new key: the entry comes last. -/
theorem Su.mapNew {x y z : Operand} {a : α} {v : Value} {b : β} (K : KeyEq P k enc) (hme : ∀ e, (me e).key = enc (key e)) (hT : P.underlying t = some (.map k e))
    (hx : ev fr x = some (.map (some r))) (hy : ev fr y = some (enc a)) (hzv : ev fr z = some v) (hm : MapAt w r me l clock) (hf : mfind key a l 0 = none) (hb : me b = { key := enc a, val := v, born := clock }) :
    Su P n fr (.mapUpdate t x y z) ty w (fun w' => MapAt w' r me (l ++ [b]) (clock + 1) ∧ Chg (· = r) w w') := fun c o' ho _ ha => by
  have h1 := MapKept.run_getObj_map (P := P) hm
  have h2 := run_findKey K w a key me hme l
  have h3 := fun em => K.check w em a
  rw [hf] at h2
  refine ⟨{ w with heap := w.heap.setIfInBounds r (.map ((l ++ [b]).map me).toArray (clock + 1)) }, .inl ?_, heap_setBlock hm.lt, chg_setBlock rfl⟩
  have h4 := MapKept.run_setObj_map (P := P) (.map ((l.map me).toArray.push { key := enc a, val := v, born := clock }) (clock + 1)) hm
  simp only [execOp, ho, ha.ev hx, ha.ev hy, ha.ev hzv, Instr.mapUpdate, Sem.run_bind, run_underlying hT, h1, Result.andThen_ok, h3, h2, Option.map_none, h4]
  simp [hb]
/-- A key that is there: its entry bears the new value. -/
theorem Su.mapOld {x y z : Operand} {a : α} {v : Value} {j : Nat} {b b' : β} (K : KeyEq P k enc) (hme : ∀ e, (me e).key = enc (key e)) (hT : P.underlying t = some (.map k e))
    (hx : ev fr x = some (.map (some r))) (hy : ev fr y = some (enc a)) (hzv : ev fr z = some v) (hm : MapAt w r me l clock) (hf : mfind key a l 0 = some (j, b)) (hb : me b' = { key := enc a, val := v, born := (me b).born }) :
    Su P n fr (.mapUpdate t x y z) ty w (fun w' => MapAt w' r me (l.set j b') clock ∧ Chg (· = r) w w') := fun c o' ho _ ha => by
  have h1 := MapKept.run_getObj_map (P := P) hm
  have h2 := run_findKey K w a key me hme l
  have h3 := fun em => K.check w em a
  obtain ⟨_, hj, hk⟩ := mfind_some hf
  rw [Nat.sub_zero] at hj
  rw [hf] at h2
  have hg : (l.map me).toArray[j]? = some (me b) := by simp [hj]
  have hst : (Instr.keyThatStays (me b).key (enc a)).run P w = .ok (enc a) w := by
    rw [hme, hk]; unfold Instr.keyThatStays; rw [if_pos (K.same a)]; rfl
  refine ⟨{ w with heap := w.heap.setIfInBounds r (.map ((l.set j b').map me).toArray clock) }, .inl ?_, heap_setBlock hm.lt, chg_setBlock rfl⟩
  have h4 := MapKept.run_setObj_map (P := P) (.map ((l.map me).toArray.modify j fun e => { e with key := enc a, val := v }) clock) hm
  simp only [execOp, ho, ha.ev hx, ha.ev hy, ha.ev hzv, Instr.mapUpdate, Sem.run_bind, run_underlying hT, h1, Result.andThen_ok, h3, h2, Option.map_some, hg, Option.getD_some, hst, h4]
  have : (l.map me).toArray.modify j (fun e => { e with key := enc a, val := v }) = ((l.set j b').map me).toArray := by
    apply Array.ext'
    apply List.ext_getElem?
    intro i
    have hjl : j < l.length := (List.getElem?_eq_some_iff.1 hj).1
    have hj' : l[j] = b := (List.getElem?_eq_some_iff.1 hj).2
    by_cases hi : j = i
    · subst hi
      simp [Array.toList_modify, List.getElem?_modify, hjl, hj', hb]
    · simp [Array.toList_modify, List.getElem?_modify, hi, List.getElem?_set]
  rw [this]
  rfl
theorem Su.mapDelete {x y : Operand} {a : α} {j : Nat} {b : β} {u : TypeId} (K : KeyEq P k enc) (hme : ∀ e, (me e).key = enc (key e)) (hT : P.underlying t = some (.map k e))
    (hx : ev fr x = some (.map (some r))) (hy : ev fr y = some (enc a)) (hm : MapAt w r me l clock) (hf : mfind key a l 0 = some (j, b)) :
    Su P n fr (.call { callee := .builtin .delete, args := #[x, y], argTypes := #[t, u] }) ty w (fun w' => MapAt w' r me (l.eraseIdx j) clock ∧ Chg (· = r) w w') := fun c o' ho _ ha => by
  have h1 := MapKept.run_getObj_map (P := P) hm
  have h2 := run_findKey K w a key me hme l
  have h3 := fun em => K.check w em a
  obtain ⟨_, hj, hk⟩ := mfind_some hf
  rw [Nat.sub_zero] at hj
  rw [hf] at h2
  refine ⟨{ w with heap := w.heap.setIfInBounds r (.map ((l.eraseIdx j).map me).toArray clock) }, .inr ⟨.tuple #[], ?_⟩, heap_setBlock hm.lt, chg_setBlock rfl⟩
  have h4 := MapKept.run_setObj_map (P := P) (.map ((l.map me).eraseIdx j).toArray clock) hm
  simp only [execOp, ho, resolve, invoke, builtin, List.map_toArray, List.map_cons, List.map_nil, ha.ev hx, ha.ev hy]
  rw [ChangeMaps.map_eraseIdx]
  simp [Builtin.delete_, run_underlying hT, h1, h3, h2, h4, Result.andThen]
end keyed
theorem Y.neq_nilmap {x : Operand} {r : Nat} {t t' k e : TypeId} (hT : P.underlying t = some (.map k e)) (hx : ev fr x = some (.map (some r))) :
    Yw P n fr (.binOp .neq t x (.const (.map none)) t') ty w (.bool true) w := fun a o' ho _ ha => by
  have h1 := ha.ev hx
  have h2 : a.eval (.const (.map none)) = .map none := rfl
  have h3 : ∀ d, (Op.equalIn (d + 1) t (.map (some r)) (.map none)).run P w = .ok false w := fun d => by simp [Op.equalIn, run_underlying hT]
  have h4 : (Op.equal t (.map (some r)) (.map none)).run P w = .ok false w := h3 9999
  simp [execOp, ho, h1, h2, eqGuard, binOp, h4]
end
end Go.Fw

/- Ranges over maps that the loop leaves alone, as rules of the calculus. No condition; no program. -/
namespace Go.Fw
open Go.RowKit
/-- A range over the map at b is under way, its iterator at r: these have come, in this order. -/
structure Going {β : Type} (w : World) (r b : Nat) (me : β → MapEntry) (l : List β) (cl : Nat) (vs : List β) : Prop where
  map : MapAt w b me l cl
  iter : w.heap[r]? = some (.mapIter (some b) cl (vs.map fun e => (me e).born).toArray cl)
  old : ∀ e ∈ l, (me e).born < cl
  born : (l.map fun e => (me e).born).Nodup
  sub : ∀ e ∈ vs, e ∈ l
  once : vs.Nodup
section
variable {β : Type} {w w' : World} {r b : Nat} {me : β → MapEntry} {l : List β} {cl : Nat} {vs : List β} {S : Nat → Prop}
theorem Going.lt (h : Going w r b me l cl vs) : r < w.heap.size ∧ b < w.heap.size := ⟨(Array.getElem?_eq_some_iff.1 h.iter).1, h.map.lt⟩
theorem Going.ne (h : Going w r b me l cl vs) : r ≠ b := by
  rintro rfl
  have := h.iter.symm.trans h.map
  cases this
theorem Going.chg (h : Going w r b me l cl vs) (hc : Chg S w w') (hr : ¬ S r) (hb : ¬ S b) : Going w' r b me l cl vs :=
  ⟨h.map.chg hc hb, (hc.block r h.lt.1 hr).trans h.iter, h.old, h.born, h.sub, h.once⟩
theorem Going.ext (h : Going w r b me l cl vs) (hc : Ext w w') : Going w' r b me l cl vs := h.chg hc (fun f => f) (fun f => f)
theorem Going.inj (h : Going w r b me l cl vs) {x y : β} (hx : x ∈ l) (hy : y ∈ l) (he : (me x).born = (me y).born) : x = y := by
  obtain ⟨i, hi⟩ := List.mem_iff_getElem?.1 hx
  obtain ⟨j, hj⟩ := List.mem_iff_getElem?.1 hy
  have h1 : (l.map fun e => (me e).born)[i]? = some (me x).born := by simp [hi]
  have h2 : (l.map fun e => (me e).born)[j]? = some (me x).born := by simp [hj, he]
  have hlt := (List.getElem?_eq_some_iff.1 h1).1
  have e := (List.getElem?_inj hlt h.born).1 (h1.trans h2.symm)
  subst e
  exact Option.some.inj (hi.symm.trans hj)
theorem Going.nodup (h : Going w r b me l cl vs) : l.Nodup := by
  have := h.born
  rw [List.Nodup, List.pairwise_map] at this
  exact this.imp fun hne e => hne (by rw [e])
theorem Going.perm (h : Going w r b me l cl vs) (ha : ∀ e ∈ l, e ∈ vs) : vs.Perm l := (List.perm_ext_iff_of_nodup h.once h.nodup).2 fun e => ⟨h.sub e, ha e⟩
theorem Going.few (h : Going w r b me l cl vs) : vs.length ≤ l.length := by
  obtain ⟨l', hp, hs⟩ : ∃ l', vs.Perm l' ∧ l'.Sublist l := by
    refine ⟨l.filter (fun e => @decide (e ∈ vs) (Classical.propDecidable _)), (List.perm_ext_iff_of_nodup h.once (h.nodup.sublist List.filter_sublist)).2 fun e => ?_, List.filter_sublist⟩
    simp only [List.mem_filter, decide_eq_true_eq]
    exact ⟨fun x => ⟨h.sub e x, x⟩, fun x => x.2⟩
  rw [hp.length_eq]
  exact hs.length_le
variable {P : Program} {n : NN} {fr : Fr} {ty : TypeId}
theorem St.range {x : Operand} {t k e : TypeId} (hT : P.underlying t = some (.map k e)) (hx : ev fr x = some (.map (some b))) (hm : MapAt w b me l cl) (ho : ∀ e ∈ l, (me e).born < cl) (hn : (l.map fun e => (me e).born).Nodup) :
    St P n fr (.range t x) ty w (fun v w' => ∃ r, v = .pointer (some ⟨r, 0, none⟩) ∧ w.heap.size ≤ r ∧ Going w' r b me l cl [] ∧ Ext w w') := fun a o' hop hty ha => by
  refine ⟨_, _, ?_, w.heap.size, rfl, Nat.le_refl _, ⟨hm.ext (Chg.alloc _), heap_alloc_new w _, ho, hn, (fun e h => by simp at h), List.nodup_nil⟩, Chg.alloc _⟩
  simp only [execOp, hop, ha.ev hx, Sem.run_bind]
  rw [run_range_map w t k e b _ cl hT hm]
  rfl
/-- The next one: some one that has not come; or there is none. -/
theorem St.next {x : Operand} (hx : ev fr x = some (.pointer (some ⟨r, 0, none⟩))) (hg : Going w r b me l cl vs) :
    St P n fr (.next x false) ty w (fun v w' => ∃ bt rest, v = .tuple (.bool bt :: rest).toArray ∧ Chg (· = r) w w' ∧
      ((bt = true ∧ ∃ e, e ∈ l ∧ e ∉ vs ∧ Going w' r b me l cl (vs ++ [e])) ∨ (bt = false ∧ (∀ e ∈ l, e ∈ vs) ∧ Going w' r b me l cl vs))) := fun a o' hop hty ha => by
  have hold : ∀ y ∈ (l.map me).toArray.toList, y.born < cl := by
    intro y hy
    simp only [List.mem_map] at hy
    obtain ⟨e, he, rfl⟩ := hy
    exact hg.old e he
  rcases run_next_at (P := P) w o'.type r b cl cl _ _ cl hg.iter hg.map hold (Nat.le_refl _) with ⟨h0, hrun⟩ | ⟨e, he, w1, hw1, hrun⟩
  · refine ⟨_, w, ?_, false, [], rfl, Chg.refl, .inr ⟨rfl, fun e he => ?_, hg⟩⟩
    · simp only [execOp, hop, ha.ev hx, Sem.run_bind]
      rw [hrun]; rfl
    · have := all_seen _ _ h0 (me e) (by simp only [List.mem_map]; exact ⟨e, he, rfl⟩)
      simp only [List.contains_toArray, List.contains_eq_mem, List.mem_map, decide_eq_true_eq] at this
      obtain ⟨y, hy, hyb⟩ := this
      have := hg.inj (hg.sub y hy) he hyb
      exact this ▸ hy
  · obtain ⟨hem, hes⟩ := mem_left he
    simp only [List.mem_map] at hem
    obtain ⟨x0, hx0, rfl⟩ := hem
    have hnv : x0 ∉ vs := fun h => by
      simp only [List.contains_toArray, List.contains_eq_mem, List.mem_map, decide_eq_false_iff_not] at hes
      exact hes ⟨x0, h, rfl⟩
    have hx1 : Ext w w1 := by rcases hw1 with rfl | rfl; exact Chg.refl; exact Chg.drew
    have hz1 : r < w1.heap.size := Nat.lt_of_lt_of_le hg.lt.1 hx1.size
    refine ⟨.tuple #[.bool true, (me x0).key, (me x0).val], { w1 with heap := w1.heap.setIfInBounds r (.mapIter (some b) cl ((vs.map fun e => (me e).born).toArray.push (me x0).born) cl) }, ?_, true, [(me x0).key, (me x0).val], rfl, hx1.chg.trans (T := fun k => k = r) (chg_setBlock rfl) (fun _ _ h => h), .inl ⟨rfl, x0, hx0, hnv, ?_⟩⟩
    · simp only [execOp, hop, ha.ev hx, Sem.run_bind]
      rw [hrun]; rfl
    · refine ⟨(hg.map.ext hx1).chg (chg_setBlock (S := fun k => k = r) rfl) (fun h => hg.ne (Eq.symm h)), ?_, hg.old, hg.born, fun e he => ?_, ?_⟩
      · have := heap_setBlock (w := w1) (o := .mapIter (some b) cl ((vs.map fun e => (me e).born).toArray.push (me x0).born) cl) hz1
        rw [List.map_append, List.map_cons, List.map_nil, ← List.push_toArray]
        exact this
      · rcases List.mem_append.1 he with h | h
        · exact hg.sub e h
        · simp at h; subst h; exact hx0
      · rw [List.nodup_append]
        refine ⟨hg.once, by simp, fun a ha c hc => ?_⟩
        simp at hc; subst hc
        exact fun e => hnv (e ▸ ha)
theorem Y.entry {x : Operand} {e : β} (hx : ev fr x = some (.pointer (some ⟨r, 0, none⟩))) (hg : Going w r b me l cl (vs ++ [e])) : Yw P n fr (.entry x) ty w (.tuple #[(me e).key, (me e).val]) w := fun a o' hop _ ha => by
  have hit := hg.iter
  rw [List.map_append, List.map_cons, List.map_nil, ← List.push_toArray] at hit
  have := run_entry_at (P := P) w r b cl _ _ cl (me e) hit hg.map (by simp only [List.mem_map]; exact ⟨e, hg.sub e (by simp), rfl⟩) (by
    have := hg.born
    simpa [List.map_map, Function.comp_def] using this)
  simp only [execOp, hop, ha.ev hx, Sem.run_bind]
  rw [this]; rfl
theorem Y.extractT {x : Operand} {v : Value} {vs : List Value} (hx : ev fr x = some (.tuple (v :: vs).toArray)) : Yw P n fr (.extract x 0) ty w v w := Y.extract hx (by simp)
end
end Go.Fw

/- Strings put together; the bytes of a string as a new slice. No condition. -/
namespace Go.Fw
open Go.RowKit
section
variable {P : Program} {n : NN} {fr : Fr} {w : World} {ty : TypeId}
theorem Y.addS {x y : Operand} {p q : ByteArray} {t t' : TypeId} (hx : ev fr x = some (.string p)) (hy : ev fr y = some (.string q)) (h : p.size + q.size ≤ 9223372036854775807) :
    Yw P n fr (.binOp .add t x y t') ty w (.string (p ++ q)) w := Y.bin hx hy (by simp [eqGuard_at_string]) (by
      have : ¬ (((p.size + q.size : Nat) : Int) > IntKind.i64.max) := by simp only [IntKind.max, IntKind.bits, IntKind.signed]; simp; omega
      simp only [binOp, Op.stringOp, this]
      rfl)
theorem St.strBytes {x : Operand} {s d e : TypeId} {str : ByteArray} (hs : P.underlying s = some .string) (hd : P.underlying d = some (.slice e)) (he : P.underlying e = some (.int .u8)) (hx : ev fr x = some (.string str)) (hr : str.size ≤ 140737488351232) :
    St P n fr (.convert s d x) ty w (fun v w' => Own w' e 1 v (bytesC str.toList) ∧ Ext w w' ∧ ∀ g, v.ownBlock = some g → w.heap.size ≤ g) := fun a o' ho hty ha => by
  have h1 := run_bytes_of_string (P := P) w s d e str hs hd he
  refine ⟨_, _, by simp only [execOp, ho, ha.ev hx]; rw [Sem.run_bind, h1]; rfl, ?_, ?_, ?_⟩
  · have hge := grownCap_ge w str.size 0 e
    have hle : grownCap w str.size 0 e ≤ maxLen := grownCap_le_maxLen w str.size 0 e (by simp only [maxLen]; omega)
    have hl := toList_length str
    have hc : (bytesC str.toList).length = str.size := by rw [bytesC_length, hl]
    have hrow : bytesRow str (grownCap w str.size 0 e) = (bytesC str.toList ++ List.replicate (grownCap w str.size 0 e - str.size) (Value.int .u8 0)).toArray := by
      apply Array.ext'
      simp [bytesRow, bytesC, ByteArray.toList_eq]
      exact fun _ _ => rfl
    refine .inr ⟨w.heap.size, str.size, grownCap w str.size 0 e, List.replicate (grownCap w str.size 0 e - str.size) (.int .u8 0), ((bytesRow str (grownCap w str.size 0 e)).size, (bytesRow str (grownCap w str.size 0 e)).size + 1), rfl, ?_, by omega, hge, hle, by simp [hc]; omega, ?_⟩
    · rw [← hrow]; exact heap_alloc_new _ _
    · intro o ho' h
      simp only [bytesRow, Array.size_append, Array.size_map, Array.size_replicate] at h
      have : str.data.size = str.size := rfl
      omega
  · exact Chg.drew.trans (Chg.alloc (S := fun _ => False) _) (fun _ _ f => f.elim)
  · intro g hg
    simp [Value.ownBlock] at hg
    omega
end
theorem bs_append (a b : List UInt8) : bs a ++ bs b = bs (a ++ b) := by
  apply ByteArray.ext
  simp [bs]
theorem bs_eq {a : ByteArray} {l : List UInt8} (h : a.toList = l) : a = bs l := by rw [← h, bs_of]
end Go.Fw
namespace Go.Fw
open Go.RowKit
section
variable {P : Program} {ops : Array Oper} {S : World → Prop} {n : NN} {Φ : Exit → Fr → World → Prop} {fr : Fr} {w : World} {fuel : Nat} {listed : Array Bool}
theorem RS.stG {i d : Nat} {o : Op} {ty : TypeId} {pos : String} {aft : Array Edge} {R : Value → World → Prop} {g : Option (Nat × Bool)}
    (hi : ops[i]? = some ⟨some d, o, ty, pos, aft, g⟩) (hg : ∀ j b, g = some (j, b) → ∃ dj, (ops[j]?).bind (·.dst) = some dj ∧ fr.get dj = some (.bool b)) (hs : St P n fr o ty w R) (hd : d < n.1)
    (h : ∀ v w', R v w' → S w' ∧ RH P ops S n Φ fuel (listed.setIfInBounds i true) ((d, v) :: fr) w') : RS P ops S n Φ fuel listed i fr w := fun a ha => by
  obtain ⟨v, w', hr, hR⟩ := hs a ⟨some d, o, ty, pos, aft, g⟩ rfl rfl ha
  obtain ⟨h1, h2⟩ := h v w' hR
  have hw : Region.wanted ⟨some d, o, ty, pos, aft, g⟩ (yielded ops a.tmps) = true := by
    cases g with
    | none => simp [Region.wanted]
    | some jb =>
      obtain ⟨j, b⟩ := jb
      obtain ⟨dj, h1, h2⟩ := hg j b rfl
      simp [Region.wanted, yielded_eq ha h1 h2]
  unfold wpOp
  rw [hi]
  simp only [hw, if_true]
  refine .inl ?_
  unfold Oper.wp
  rw [hr]
  exact ⟨h1, h2 _ (ha.put hd v)⟩
/-- A constant text as bytes: its block is marked behind its end. -/
theorem St.convBytes {ty : TypeId} {x : Operand} {t e : TypeId} {g m : Nat} {cs : List Value} (ht : P.underlying t = some (.slice e)) (he : P.underlying e = some (.int .u8)) (hx : ev fr x = some (.slice (some ⟨g, 0, none⟩) m m)) (hB : Blk w g e cs) (hl : cs.length = m) (hm : m ≤ maxLen) :
    St P n fr (.convert t t x) ty w (fun v w' => v = .slice (some ⟨g, 0, none⟩) m m ∧ Own w' e 1 v cs ∧ Chg (· = g) w w') := fun a o' ho hty ha => by
  have hsh : w.shape? g = some (e, cs.length) := by unfold World.shape?; rw [show w.heap[g]? = _ from hB]; simp
  have hfr : w.freeze ⟨g, cs.length, none⟩ 1 = { w with heap := w.heap.setIfInBounds g (.cells cs.toArray e (cs.length, cs.length + 1)) } := by
    unfold World.freeze
    rw [if_neg (by decide)]
    congr 1
    apply Array.ext'
    apply List.ext_getElem?
    intro i
    have hg := (Array.getElem?_eq_some_iff.1 (show w.heap[g]? = _ from hB))
    by_cases hi : g = i
    · subst hi
      obtain ⟨h1, h2⟩ := hg
      simp [Array.getElem?_modify, h1, h2]
    · simp [Array.getElem?_modify, hi, Array.getElem?_setIfInBounds, List.getElem?_set]
  refine ⟨.slice (some ⟨g, 0, none⟩) m m, { w with heap := w.heap.setIfInBounds g (.cells cs.toArray e (cs.length, cs.length + 1)) }, ?_, rfl, .inr ⟨g, m, m, [], (cs.length, cs.length + 1), rfl, ?_, by omega, Nat.le_refl _, hm, by simp [hl], fun o h => by omega⟩, ⟨rfl, rfl, rfl, by simp, fun k hk hn => ?_, Nat.le_refl _⟩⟩
  · rw [← hfr]
    simp [execOp, ho, ha.ev hx, convert, run_underlying ht, run_underlying he, markStringish, hsh]
  · simp [Array.getElem?_setIfInBounds, hB.lt]
  · have : g ≠ k := fun h => hn h.symm
    simp [Array.getElem?_setIfInBounds, this]
end
end Go.Fw
