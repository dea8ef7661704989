/- What a store is in memory: its block, its map, its entries. No condition. -/
import Derived.Test.YtkbmlnkoejlgmaaDoorMd
import Derived.Test.YtkbmlnkoejlgmaaDoorKg
set_option linter.unusedSimpArgs false
set_option linter.unusedVariables false
namespace Go.Fw
def storeC (r n : Nat) : List Value := [.map (some r), .int .i64 (n : Int)]
section
variable {w : World} {a : Addr} {r n : Nat} (h : Mem w a (storeC r n))
include h
theorem Mem.storeStore0 : w.cell? (a.add 0) = some (.map (some r)) := h.cell 0 rfl
theorem Mem.storeStore1 : w.cell? (a.add 1) = some (.int .i64 (n : Int)) := h.cell 1 rfl
end
end Go.Fw
namespace Go.Pl
open Go.Fw
/-- An entry: its digest, its bytes as a value, when it was laid, its bytes. -/
structure Ent where
  k : Dig
  v : Value
  born : Nat
  b : List UInt8
def Ent.me (e : Ent) : MapEntry := { key := digV e.k, val := e.v, born := e.born }
def total (l : List Ent) : Nat := (l.map fun e => e.b.length).sum
theorem total_app (l : List Ent) (e : Ent) : total (l ++ [e]) = total l + e.b.length := by simp [total]
theorem total_le {l : List Ent} {m : Nat} (h : ∀ e ∈ l, e.b.length ≤ m) : total l ≤ l.length * m := by
  induction l with
  | nil => simp [total]
  | cons e r ih =>
    have h1 := h e (by simp)
    have h2 := ih fun x hx => h x (by simp [hx])
    simp only [total, List.map_cons, List.sum_cons, List.length_cons, Nat.succ_mul] at h2 ⊢
    omega
theorem total_erase : ∀ {l : List Ent} {j : Nat} {e : Ent}, l[j]? = some e → total l = total (l.eraseIdx j) + e.b.length
  | [], j, e, h => by simp at h
  | x :: r, 0, e, h => by simp at h; subst h; simp [total]; omega
  | x :: r, j + 1, e, h => by
    have := total_erase (l := r) (j := j) (by simpa using h)
    simp only [total, List.eraseIdx_cons_succ, List.map_cons, List.sum_cons] at this ⊢
    omega
/-- Where the entry with a key stands. -/
abbrev at_ (l : List Ent) (d : Dig) : Option (Nat × Ent) := mfind Ent.k d l 0
theorem at_app_self {l : List Ent} {e : Ent} (h : at_ l e.k = none) : ∃ j, at_ (l ++ [e]) e.k = some (j, e) := by
  have key : ∀ (l : List Ent) (i : Nat), mfind Ent.k e.k l i = none → ∃ j, mfind Ent.k e.k (l ++ [e]) i = some (j, e) := by
    intro l
    induction l with
    | nil => intro i _; exact ⟨i, by simp [mfind]⟩
    | cons x r ih =>
      intro i hn
      unfold mfind at hn
      split at hn
      · cases hn
      · rename_i hne
        obtain ⟨j, hj⟩ := ih (i + 1) hn
        exact ⟨j, by rw [List.cons_append, mfind, if_neg hne]; exact hj⟩
  exact key l 0 h
/-- The keys are unlike. -/
abbrev Unlike (l : List Ent) : Prop := (l.map Ent.k).Nodup
theorem mfind_absent {l : List Ent} {d : Dig} : ∀ {i : Nat}, (∀ e ∈ l, e.k ≠ d) → mfind Ent.k d l i = none := by
  induction l with
  | nil => intro i _; rfl
  | cons x r ih =>
    intro i h
    rw [mfind, if_neg (h x (by simp))]
    exact ih fun e he => h e (by simp [he])
theorem unlike_app {l : List Ent} {e : Ent} (h : Unlike l) (hn : at_ l e.k = none) : Unlike (l ++ [e]) := by
  have := mfind_none hn
  simp only [Unlike, List.map_append, List.map_cons, List.map_nil, List.nodup_append]
  refine ⟨h, by simp, ?_⟩
  intro a ha b hb
  simp at hb; subst hb
  obtain ⟨x, hx, rfl⟩ := List.mem_map.1 ha
  exact this x hx
theorem unlike_erase {l : List Ent} {j : Nat} (h : Unlike l) : Unlike (l.eraseIdx j) := by
  have : (l.eraseIdx j).map Ent.k = (l.map Ent.k).eraseIdx j := ChangeMaps.map_eraseIdx _ _ _
  rw [Unlike, this]
  exact List.Nodup.sublist (List.eraseIdx_sublist _ _) h
theorem erase_none {l : List Ent} {d : Dig} {j : Nat} {e : Ent} (h : Unlike l) (hf : at_ l d = some (j, e)) : at_ (l.eraseIdx j) d = none := by
  obtain ⟨_, hj, hk⟩ := mfind_some hf
  rw [Nat.sub_zero] at hj
  refine mfind_absent fun x hx hxk => ?_
  obtain ⟨i, hi⟩ := List.mem_iff_getElem?.1 hx
  rw [List.getElem?_eraseIdx] at hi
  have hjl := (List.getElem?_eq_some_iff.1 hj).1
  split at hi
  · rename_i hlt
    have hil := (List.getElem?_eq_some_iff.1 hi).1
    have h1 : (l.map Ent.k)[i]? = some d := by simp [hi, hxk]
    have h2 : (l.map Ent.k)[j]? = some d := by simp [hj, hk]
    have := (List.getElem?_inj (by simpa using hil) h).1 (h1.trans h2.symm)
    omega
  · rename_i hge
    have hil := (List.getElem?_eq_some_iff.1 hi).1
    have h1 : (l.map Ent.k)[i + 1]? = some d := by simp [hi, hxk]
    have h2 : (l.map Ent.k)[j]? = some d := by simp [hj, hk]
    have := (List.getElem?_inj (by simpa using hil) h).1 (h1.trans h2.symm)
    omega
end Go.Pl
namespace Go.Proofs.YtkbmlnkoejlgmaaDoor
open Go.RowKit Go.Fw Go.Pl
abbrev TS_ : TypeId := 58
/-- The store at g, with its map at r, holds these entries. -/
structure StoreAt (w : World) (g r : Nat) (l : List Ent) : Prop where
  blk : Blk w g TS_ (storeC r (total l))
  map : ∃ cl, MapAt w r Ent.me l cl ∧ ∀ e ∈ l, e.born < cl
  born : (l.map Ent.born).Nodup
  vals : ∀ e ∈ l, By w e.v e.b
  low : ∀ e ∈ l, ∀ k, e.v.ownBlock = some k → k ≠ g ∧ k ≠ r ∧ k < w.heap.size
  keys : Unlike l
  few : l.length ≤ 500
  short : ∀ e ∈ l, e.b.length ≤ 131072
  ne : g ≠ r
section
variable {w w' : World} {g r : Nat} {l : List Ent} {S : Nat → Prop}
theorem StoreAt.chg (h : StoreAt w g r l) (hc : Chg S w w') (hg : ¬ S g) (hr : ¬ S r) (hv : ∀ e ∈ l, ∀ k, e.v.ownBlock = some k → ¬ S k) : StoreAt w' g r l where
  blk := h.blk.chg hc hg
  map := by obtain ⟨cl, h1, h2⟩ := h.map; exact ⟨cl, h1.chg hc hr, h2⟩
  born := h.born
  vals e he := (h.vals e he).chg hc fun _ k hk => hv e he k hk
  low e he k hk := by obtain ⟨h1, h2, h3⟩ := h.low e he k hk; exact ⟨h1, h2, Nat.lt_of_lt_of_le h3 hc.size⟩
  keys := h.keys
  few := h.few
  short := h.short
  ne := h.ne
theorem StoreAt.ext (h : StoreAt w g r l) (hc : Ext w w') : StoreAt w' g r l := h.chg hc (fun f => f) (fun f => f) (fun _ _ _ _ f => f)
theorem StoreAt.lt (h : StoreAt w g r l) : g < w.heap.size ∧ r < w.heap.size := ⟨h.blk.lt, by obtain ⟨_, h1, _⟩ := h.map; exact h1.lt⟩
/-- What is changed above a world keeps what lies below. -/
theorem StoreAt.far (h : StoreAt w g r l) (hc : Chg S w w') (hs : ∀ k, S k → w.heap.size ≤ k) : StoreAt w' g r l :=
  h.chg hc (fun x => by have := hs _ x; have := h.lt; omega) (fun x => by have := hs _ x; have := h.lt; omega) (fun e he k hk x => by have := hs _ x; have := h.low e he k hk; omega)
theorem StoreAt.size (h : StoreAt w g r l) : total l ≤ 65536000 := by
  have h1 := total_le h.short
  have h2 := h.few
  have : l.length * 131072 ≤ 500 * 131072 := Nat.mul_le_mul_right _ h2
  omega
end
/-- What the value of a look-up reads as. -/
def getB (l : List Ent) (d : Dig) : List UInt8 := match at_ l d with | some p => p.2.b | none => []
theorem at_none {l : List Ent} {d : Dig} (h : (mfind Ent.k d l 0).isSome = false) : at_ l d = none := by simpa using h
theorem StoreAt.look {w : World} {g r : Nat} {l : List Ent} (h : StoreAt w g r l) (d : Dig) : By w (mval Ent.me (.slice none 0 0) (mfind Ent.k d l 0)) (getB l d) := by
  unfold getB
  show By w _ (match mfind Ent.k d l 0 with | some p => p.2.b | none => [])
  cases hp : mfind Ent.k d l 0 with
  | none => exact Own.by (e := 0) (bs := []) Own.nil
  | some p =>
    obtain ⟨_, hj, _⟩ := mfind_some hp
    exact h.vals _ (List.mem_of_getElem? hj)
theorem StoreAt.push {w w' : World} {g r : Nat} {l : List Ent} {e : Ent} {S : Nat → Prop} (h : StoreAt w g r l) (hc : Chg S w w') (hS : ∀ k, S k → k = g ∨ k = r) (hB : Blk w' g TS_ (storeC r (total (l ++ [e]))))
    (hM : MapAt w' r Ent.me (l ++ [e]) (e.born + 1)) (hb : ∀ x ∈ l, x.born < e.born) (hv : By w' e.v e.b) (hl : ∀ k, e.v.ownBlock = some k → k ≠ g ∧ k ≠ r ∧ k < w'.heap.size) (hn : at_ l e.k = none) (hf : l.length < 500) (hs : e.b.length ≤ 131072) : StoreAt w' g r (l ++ [e]) where
  blk := hB
  map := ⟨_, hM, fun x hx => by
    rcases List.mem_append.1 hx with hx | hx
    · have := hb x hx; omega
    · simp at hx; subst hx; omega⟩
  born := by
    simp only [List.map_append, List.map_cons, List.map_nil, List.nodup_append]
    refine ⟨h.born, by simp, ?_⟩
    intro a ha c hc
    simp at hc; subst hc
    obtain ⟨x, hx, rfl⟩ := List.mem_map.1 ha
    have := hb x hx; omega
  vals x hx := by
    rcases List.mem_append.1 hx with hx | hx
    · exact (h.vals x hx).chg hc fun _ k hk hSk => by have := h.low x hx k hk; have := hS k hSk; omega
    · simp at hx; subst hx; exact hv
  low x hx k hk := by
    rcases List.mem_append.1 hx with hx | hx
    · obtain ⟨h1, h2, h3⟩ := h.low x hx k hk; exact ⟨h1, h2, Nat.lt_of_lt_of_le h3 hc.size⟩
    · simp at hx; subst hx; exact hl k hk
  keys := unlike_app h.keys hn
  few := by simp; omega
  short x hx := by
    rcases List.mem_append.1 hx with hx | hx
    · exact h.short x hx
    · simp at hx; subst hx; exact hs
  ne := h.ne
theorem StoreAt.erase {w w' : World} {g r : Nat} {l : List Ent} {j cl : Nat} {S : Nat → Prop} (h : StoreAt w g r l) (hc : Chg S w w') (hS : ∀ k, S k → k = g ∨ k = r) (hB : Blk w' g TS_ (storeC r (total (l.eraseIdx j))))
    (hM : MapAt w' r Ent.me (l.eraseIdx j) cl) (hb : ∀ x ∈ l, x.born < cl) : StoreAt w' g r (l.eraseIdx j) where
  blk := hB
  map := ⟨_, hM, fun x hx => hb x (List.mem_of_mem_eraseIdx hx)⟩
  born := by
    rw [show (l.eraseIdx j).map Ent.born = (l.map Ent.born).eraseIdx j from ChangeMaps.map_eraseIdx _ _ _]
    exact List.Nodup.sublist (List.eraseIdx_sublist _ _) h.born
  vals x hx := (h.vals x (List.mem_of_mem_eraseIdx hx)).chg hc fun _ k hk hSk => by have := h.low x (List.mem_of_mem_eraseIdx hx) k hk; have := hS k hSk; omega
  low x hx k hk := by obtain ⟨h1, h2, h3⟩ := h.low x (List.mem_of_mem_eraseIdx hx) k hk; exact ⟨h1, h2, Nat.lt_of_lt_of_le h3 hc.size⟩
  keys := unlike_erase h.keys
  few := by have := h.few; have := List.length_eraseIdx_le l j; omega
  short x hx := h.short x (List.mem_of_mem_eraseIdx hx)
  ne := h.ne
theorem sz0_suint8 : (Tryd.prog.info? 26).map (·.size) = some 1 := by kernel_rfl
theorem fo_storeStore0 : FieldOff Tryd.prog TS_ 0 0 := ⟨_, _, 1, Tryd.underlying58, rfl, by kernel_rfl, by decide, rfl⟩
theorem fo_storeStore1 : FieldOff Tryd.prog TS_ 1 1 := ⟨_, _, 1, Tryd.underlying58, rfl, sz_int, by decide, rfl⟩
theorem zero_bytes (w : World) : (zeroValue 26).run Tryd.prog w = .ok (.slice none 0 0) w := by
  have h : (Tryd.prog.info? 26).map (fun i => i.zero) = some (some (.slice none 0 0)) := by kernel_rfl
  cases hi : Tryd.prog.info? 26 with
  | none => simp [hi] at h
  | some i => simp [hi] at h; simp [zeroValue, typeInfo, hi, h]
end Go.Proofs.YtkbmlnkoejlgmaaDoor
