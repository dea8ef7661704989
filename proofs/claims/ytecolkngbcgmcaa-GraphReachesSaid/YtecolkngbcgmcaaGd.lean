/- Marks over a graph, as both sides make them; what a look at a graph is in memory. No condition. -/
import Derived.Test.YtecolkngbcgmcaaGc
import Derived.Test.YtecolkngbcgmcaaBo
import Derived.Test.YtecolkngbcgmcaaRg
set_option linter.unusedSimpArgs false
set_option linter.unusedVariables false
namespace Go.Pl
open Go.Fw
def ixN (l : List Nd) (d : Dig) : Nat := (idsL l).idxOf d
def setAll (l : List Nd) (S : List Bool) (ds : List Dig) : List Bool := ds.foldl (fun S d => S.set (ixN l d) true) S
def mark0 (l : List Nd) (ids : List Dig) : List Bool := setAll l (List.replicate l.length false) ids
def upd (l : List Nd) (S : List Bool) (i : Nat) : List Bool := match l[i]? with
  | some n => if S[i]? = some true then setAll l S n.ps else S
  | none => S
def markD (l : List Nd) : Nat → List Bool → List Bool
  | 0, S => S
  | i + 1, S => markD l i (upd l S i)
/-- Which nodes some stand above. -/
def markF (l : List Nd) (ids : List Dig) : List Bool := markD l l.length (mark0 l ids)
/-- The places gone over, from the last one down. -/
def reachD (l : List Nd) : Nat → List Bool → List Nat
  | 0, _ => []
  | i + 1, S => if S[i]? = some true then i :: reachD l i (upd l S i) else reachD l i S
def reachL (l : List Nd) (ids : List Dig) : List Nat := reachD l l.length (mark0 l ids)
theorem setAll_length {l : List Nd} : ∀ {ds : List Dig} {S : List Bool}, (setAll l S ds).length = S.length
  | [], _ => rfl
  | d :: ds, S => by
    have := setAll_length (l := l) (ds := ds) (S := S.set (ixN l d) true)
    rw [List.length_set] at this
    exact this
theorem setAll_app {l : List Nd} {S : List Bool} {ds : List Dig} {d : Dig} : setAll l S (ds ++ [d]) = (setAll l S ds).set (ixN l d) true := by simp [setAll, List.foldl_append]
theorem mark0_length {l : List Nd} {ids : List Dig} : (mark0 l ids).length = l.length := by rw [mark0, setAll_length, List.length_replicate]
theorem upd_length {l : List Nd} {S : List Bool} {i : Nat} : (upd l S i).length = S.length := by
  unfold upd
  split
  · split
    · exact setAll_length
    · rfl
  · rfl
theorem upd_no {l : List Nd} {S : List Bool} {i : Nat} (h : S[i]? ≠ some true) : upd l S i = S := by
  unfold upd
  split
  · rw [if_neg h]
  · rfl
theorem upd_yes {l : List Nd} {S : List Bool} {i : Nat} {n : Nd} (hn : l[i]? = some n) (h : S[i]? = some true) : upd l S i = setAll l S n.ps := by
  unfold upd
  rw [hn]
  simp only
  rw [if_pos h]
theorem fwrong_nil : ∀ {l : List Nd} {a : List Dig} {i : Nat}, (fwrong l a i).2 = 0 → ∀ (j : Nat) (n : Nd), l[j]? = some n → wrongE (a ++ idsL (l.take j)) n = 0
  | [], _, _, _, j, n, h => by simp at h
  | x :: r, a, i, h, j, n, hn => by
    rw [fwrong] at h
    split at h
    · rename_i hx
      cases j with
      | zero => simp at hn; subst hn; simpa using hx
      | succ j =>
        have := fwrong_nil (l := r) h j n (by simpa using hn)
        simpa [idsL] using this
    · rename_i hx; exact absurd h hx
theorem ok_len {l : List Nd} (h : (readE l).2 = 0) : l.length ≤ 200 := by
  unfold readE at h
  split at h
  · simp at h
  · omega
theorem ok_at {l : List Nd} (h : (readE l).2 = 0) {i : Nat} {n : Nd} (hi : l[i]? = some n) : wrongE (idsL (l.take i)) n = 0 := by
  have hl := ok_len h
  rw [readE, if_neg (by omega)] at h
  simpa using fwrong_nil h i n hi
theorem ok_par {l : List Nd} (h : (readE l).2 = 0) {i : Nat} {n : Nd} (hi : l[i]? = some n) {p : Dig} (hp : p ∈ n.ps) : p ∈ idsL (l.take i) := (wrong_ok (ok_at h hi)).2.2.2 p hp
theorem mem_idsTake {l : List Nd} {i : Nat} {p : Dig} (h : p ∈ idsL (l.take i)) : p ∈ idsL l := by
  obtain ⟨n, hn, he⟩ := List.mem_map.1 h
  exact List.mem_map.2 ⟨n, List.mem_of_mem_take hn, he⟩
theorem ixN_lt {l : List Nd} {d : Dig} (h : d ∈ idsL l) : ixN l d < l.length := by
  have := List.idxOf_lt_length_iff.2 h
  simpa [ixN] using this
theorem reachD_le {l : List Nd} : ∀ {k : Nat} {S : List Bool}, (reachD l k S).length ≤ k
  | 0, _ => Nat.le_refl _
  | k + 1, S => by
    rw [reachD]
    split
    · have := reachD_le (l := l) (k := k) (S := upd l S k); simp only [List.length_cons]; omega
    · have := reachD_le (l := l) (k := k) (S := S); omega
theorem reachD_lt {l : List Nd} : ∀ {k : Nat} {S : List Bool} {x : Nat}, x ∈ reachD l k S → x < k
  | 0, _, _, h => by cases h
  | k + 1, S, x, h => by
    rw [reachD] at h
    split at h
    · rcases List.mem_cons.1 h with h | h
      · omega
      · have := reachD_lt h; omega
    · have := reachD_lt h; omega
/-- These places, marked. -/
def setI (S : List Bool) (is : List Nat) : List Bool := is.foldl (fun S i => S.set i true) S
theorem setI_length : ∀ {is : List Nat} {S : List Bool}, (setI S is).length = S.length
  | [], _ => rfl
  | i :: is, S => by
    have := setI_length (is := is) (S := S.set i true)
    rw [List.length_set] at this
    exact this
theorem setI_app {S : List Bool} {is : List Nat} {i : Nat} : setI S (is ++ [i]) = (setI S is).set i true := by simp [setI, List.foldl_append]
def markS (l : List Nd) (ids : List Dig) : List Bool := setI (List.replicate l.length false) (reachL l ids)
/-- What a look-up of a place yields. -/
theorem placed_ix {l : List Nd} {d : Dig} (h : d ∈ idsL l) : ∃ j, mfind Prod.fst d (placed (idsL l)) 0 = some (j, (d, ixN l d)) := by
  cases hf : mfind Prod.fst d (placed (idsL l)) 0 with
  | none =>
    have := placed_isSome (d := d) (ids := idsL l) (k := 0) (i := 0)
    rw [show (idsL l).zipIdx 0 = placed (idsL l) from rfl, hf] at this
    simp [h] at this
  | some p =>
    obtain ⟨j, e⟩ := p
    obtain ⟨h1, h2, h3, h4⟩ := placed_some (k := 0) hf
    refine ⟨j, ?_⟩
    simp only [Nat.sub_zero] at h2 h4
    have h5 := findI_at (i := e.2) h2 h4
    rw [findI, if_pos h] at h5
    have h6 : ixN l d = e.2 := by unfold ixN; omega
    rw [← h1, h1, h6]
    have : e = (d, e.2) := by rw [← h1]
    rw [this]
end Go.Pl
namespace Go.Fw
section
variable {w : World} {a : Addr} {v0 v1 v2 : Value}
theorem Mem.graphlook0 (h : Mem w a [v0, v1, v2]) : w.cell? (a.add 0) = some v0 := h.cell 0 rfl
theorem Mem.graphlook1 (h : Mem w a [v0, v1, v2]) : w.cell? (a.add 1) = some v1 := h.cell 1 rfl
theorem Mem.graphlook2 (h : Mem w a [v0, v1, v2]) : w.cell? (a.add 2) = some v2 := h.cell 2 rfl
end
end Go.Fw
namespace Go.Proofs.Ytecolkngbcgmcaa
open Go.RowKit Go.Fw Go.Pl
abbrev TLk : TypeId := 61
abbrev TBo : TypeId := 4
/-- A look at the list that lies at u since w0: its block, the map of places, what has been seen. -/
structure LookAt (w0 w : World) (gk r sb : Nat) (u : Value) (l : List NdV) (S : List Bool) : Prop where
  nds : Nds w0 u l
  old : Ext w0 w
  new : w0.heap.size ≤ gk ∧ w0.heap.size ≤ r ∧ w0.heap.size ≤ sb
  ne : gk ≠ r ∧ gk ≠ sb ∧ r ≠ sb
  blk : Blk w gk TLk [u, .map (some r), .slice (some ⟨sb, 0, none⟩) l.length l.length]
  map : MapAt w r pme (placed (idsL (ndsL l))) l.length
  seen : Blk w sb TBo (boolC S)
  len : S.length = l.length
  ok : (readE (ndsL l)).2 = 0
section
variable {w0 w w' : World} {gk r sb : Nat} {u : Value} {l : List NdV} {S S' : List Bool} {T : Nat → Prop}
theorem LookAt.lt (h : LookAt w0 w gk r sb u l S) : gk < w.heap.size ∧ r < w.heap.size ∧ sb < w.heap.size := ⟨h.blk.lt, h.map.lt, h.seen.lt⟩
theorem LookAt.chg (h : LookAt w0 w gk r sb u l S) (hc : Chg T w w') (h1 : ¬ T gk) (h2 : ¬ T r) (h3 : ¬ T sb) (h4 : ∀ k, T k → w0.heap.size ≤ k) : LookAt w0 w' gk r sb u l S :=
  ⟨h.nds, h.old.step hc h4, h.new, h.ne, h.blk.chg hc h1, h.map.chg hc h2, h.seen.chg hc h3, h.len, h.ok⟩
theorem LookAt.ext (h : LookAt w0 w gk r sb u l S) (hc : Ext w w') : LookAt w0 w' gk r sb u l S := h.chg hc (fun f => f) (fun f => f) (fun f => f) (fun _ f => f.elim)
theorem LookAt.see (h : LookAt w0 w gk r sb u l S) (hc : Chg (· = sb) w w') (hB : Blk w' sb TBo (boolC S')) (hl : S'.length = l.length) : LookAt w0 w' gk r sb u l S' :=
  ⟨h.nds, h.old.step hc (fun k hk => by rw [hk]; exact h.new.2.2), h.new, h.ne, h.blk.chg hc h.ne.2.1, h.map.chg hc h.ne.2.2, hB, hl, h.ok⟩
theorem LookAt.list (h : LookAt w0 w gk r sb u l S) : Nds w u l := h.nds.ext h.old
end
end Go.Proofs.Ytecolkngbcgmcaa
