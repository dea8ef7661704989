/- A list turned about; what is seen, told by the views. Plain. -/
import Derived.Test.YtffkmlkdlhkkmaaQd
set_option linter.unusedSimpArgs false
set_option linter.unusedVariables false
namespace Go.Fu
open Go.Fw Go.Pl
/-- The first n of the list l, turned about, from its k-th on. -/
def rot {α : Type} (l : List α) (k : Nat) (n : Nat) : List α := (List.range n).filterMap fun i => l[l.length - 1 - (i + k) % l.length]?
section
variable {α : Type} {l : List α} {k : Nat}
theorem rot_at (i : Nat) (h : 0 < l.length) : l.length - 1 - (i + k) % l.length < l.length := by omega
theorem rot_succ {n : Nat} {x : α} (hx : l[l.length - 1 - (n + k) % l.length]? = some x) : rot l k (n + 1) = rot l k n ++ [x] := by
  rw [rot, List.range_succ, List.filterMap_append, List.filterMap_cons, hx]; rfl
theorem rot_length (h : 0 < l.length) : ∀ n, (rot l k n).length = n
  | 0 => rfl
  | n + 1 => by
    obtain ⟨x, hx⟩ : ∃ x, l[l.length - 1 - (n + k) % l.length]? = some x := ⟨_, List.getElem?_eq_getElem (rot_at n h)⟩
    rw [rot_succ hx, List.length_append, rot_length h n]; rfl
theorem rot_get (h : 0 < l.length) : ∀ n i, i < n → (rot l k n)[i]? = l[l.length - 1 - (i + k) % l.length]?
  | 0, i, hi => by omega
  | n + 1, i, hi => by
    obtain ⟨x, hx⟩ : ∃ x, l[l.length - 1 - (n + k) % l.length]? = some x := ⟨_, List.getElem?_eq_getElem (rot_at n h)⟩
    rw [rot_succ hx]
    by_cases hin : i < n
    · rw [List.getElem?_append_left (by rw [rot_length h]; exact hin), rot_get h n i hin]
    · have e : i = n := by omega
      subst e
      rw [List.getElem?_append_right (by rw [rot_length h]; exact Nat.le_refl _), rot_length h, Nat.sub_self, hx]; rfl
theorem rot_mem (h : 0 < l.length) (hk : k < l.length) {x : α} : x ∈ rot l k l.length ↔ x ∈ l := by
  constructor
  · intro hx
    obtain ⟨i, hi⟩ := List.mem_iff_getElem?.1 hx
    have hil := (List.getElem?_eq_some_iff.1 hi).1
    rw [rot_length h] at hil
    rw [rot_get h _ i hil] at hi
    exact List.mem_of_getElem? hi
  · intro hx
    obtain ⟨j, hj⟩ := List.mem_iff_getElem?.1 hx
    have hjl := (List.getElem?_eq_some_iff.1 hj).1
    refine List.mem_of_getElem? (i := (l.length - 1 - j + (l.length - k)) % l.length) ?_
    have hm : ((l.length - 1 - j + (l.length - k)) % l.length + k) % l.length = l.length - 1 - j := by
      rw [Nat.mod_add_mod, show l.length - 1 - j + (l.length - k) + k = l.length - 1 - j + l.length by omega, Nat.add_mod_right, Nat.mod_eq_of_lt (by omega)]
    rw [rot_get h _ _ (Nat.mod_lt _ h), hm, show l.length - 1 - (l.length - 1 - j) = j by omega]
    exact hj
theorem rot_nodup {β : Type} {f : α → β} (h : 0 < l.length) (hn : (l.map f).Nodup) : ((rot l k l.length).map f).Nodup := by
  refine List.pairwise_map.2 (List.pairwise_iff_getElem.2 fun i j hi hj hij => ?_)
  have hil := hi
  have hjl := hj
  rw [rot_length h] at hil hjl
  have h1 := rot_get (k := k) h _ i hil
  have h2 := rot_get (k := k) h _ j hjl
  rw [List.getElem?_eq_getElem hi] at h1
  rw [List.getElem?_eq_getElem hj] at h2
  obtain ⟨a1, e1⟩ := List.getElem?_eq_some_iff.1 h1.symm
  obtain ⟨a2, e2⟩ := List.getElem?_eq_some_iff.1 h2.symm
  rw [← e1, ← e2]
  intro he
  have hp := List.pairwise_iff_getElem.1 (List.pairwise_map.1 hn)
  have m1 := Nat.mod_lt (i + k) h
  have m2 := Nat.mod_lt (j + k) h
  rcases Nat.lt_trichotomy (l.length - 1 - (i + k) % l.length) (l.length - 1 - (j + k) % l.length) with hl | hl | hl
  · exact hp _ _ a1 a2 hl he
  · have hmm : (j + k) % l.length = (i + k) % l.length := by omega
    have := Nat.sub_mod_eq_zero_of_mod_eq hmm
    rw [show j + k - (i + k) = j - i by omega, Nat.mod_eq_of_lt (by omega)] at this
    omega
  · exact hp _ _ a2 a1 hl he.symm
end
end Go.Fu
namespace Go.Fu
open Go.Fw Go.Pl
theorem same_seen {e1 e2 : List El} (h : (orderE e1).map (viewE e1) = (orderE e2).map (viewE e2)) : (seenE e1).map (nm e1) = (seenE e2).map (nm e2) ∧ textE e1 = textE e2 := by
  have hv : (seenE e1).map (viewE e1) = (seenE e2).map (viewE e2) := by rw [seen_view, seen_view, h]
  have hn : ∀ e : List El, (seenE e).map (nm e) = ((seenE e).map (viewE e)).map (·.1) := fun e => by rw [List.map_map]; rfl
  have ht : ∀ e : List El, textE e = ((seenE e).map (viewE e)).map (·.2.2) := fun e => by
    rw [List.map_map, textE]
    refine List.map_congr_left fun i hi => ?_
    show _ = if goneAt e i = true then 0 else byteAt e i
    rw [seen_gone hi]; rfl
  exact ⟨by rw [hn, hn, hv], by rw [ht, ht, hv]⟩
end Go.Fu
