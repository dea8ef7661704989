/- Nodes of a graph, as data and in memory; what is wrong with a list of them. No condition. -/
import Derived.Test.YtecolkngbcgmcaaMd
import Derived.Test.YtecolkngbcgmcaaKg
set_option linter.unusedSimpArgs false
set_option linter.unusedVariables false
namespace Go.Pl
open Go.Fw
structure Nd where
  id : Dig
  ps : List Dig
/-- Do they rise? -/
def risB : List Dig → Bool
  | a :: b :: r => lessB a b && risB (b :: r)
  | _ => true
/-- What is wrong with a node behind these. -/
def wrongE (ahead : List Dig) (n : Nd) : Int := if 8 < n.ps.length then 4 else if risB n.ps = false then 7 else if n.id ∈ ahead then 6 else if ∃ p ∈ n.ps, p ∉ ahead then 5 else 0
def fwrong : List Nd → List Dig → Nat → Nat × Int
  | [], _, _ => (0, 0)
  | n :: r, ahead, i => if wrongE ahead n = 0 then fwrong r (ahead ++ [n.id]) (i + 1) else (i, wrongE ahead n)
/-- The first that may not be, and why. -/
def readE (l : List Nd) : Nat × Int := if 200 < l.length then (0, 4) else fwrong l [] 0
abbrev idsL (l : List Nd) : List Dig := l.map Nd.id
theorem risB_at : ∀ {l : List Dig}, (∀ i a b, l[i]? = some a → l[i + 1]? = some b → lessB a b = true) → risB l = true
  | [], _ => rfl
  | [_], _ => rfl
  | a :: b :: r, h => by
    rw [risB, h 0 a b rfl rfl, Bool.true_and]
    exact risB_at fun i x y hx hy => h (i + 1) x y (by simpa using hx) (by simpa using hy)
theorem risB_not : ∀ {l : List Dig} {i : Nat} {a b : Dig}, l[i]? = some a → l[i + 1]? = some b → lessB a b = false → risB l = false
  | [], _, _, _, h, _, _ => by simp at h
  | [_], i, _, _, _, h, _ => by simp at h
  | x :: y :: r, 0, a, b, h, k, hl => by
    simp at h k; subst h; subst k
    rw [risB, hl, Bool.false_and]
  | x :: y :: r, i + 1, a, b, h, k, hl => by
    rw [risB, risB_not (l := y :: r) (i := i) (by simpa using h) (by simpa using k) hl, Bool.and_false]
theorem wrong_ok {ahead : List Dig} {n : Nd} (h : wrongE ahead n = 0) : n.ps.length ≤ 8 ∧ risB n.ps = true ∧ n.id ∉ ahead ∧ ∀ p ∈ n.ps, p ∈ ahead := by
  unfold wrongE at h
  split at h
  · omega
  split at h
  · omega
  split at h
  · omega
  split at h
  · omega
  rename_i h1 h2 h3 h4
  refine ⟨by omega, by simpa using h2, h3, fun p hp => ?_⟩
  by_cases hm : p ∈ ahead
  · exact hm
  · exact absurd ⟨p, hp, hm⟩ h4
theorem fwrong_step {l : List Nd} {i : Nat} {n : Nd} (hi : l[i]? = some n) (h : wrongE (idsL (l.take i)) n = 0) : fwrong (l.drop i) (idsL (l.take i)) i = fwrong (l.drop (i + 1)) (idsL (l.take (i + 1))) (i + 1) := by
  have hlt := (List.getElem?_eq_some_iff.1 hi).1
  have hn := (List.getElem?_eq_some_iff.1 hi).2
  rw [List.drop_eq_getElem_cons hlt, hn, fwrong, if_pos h, take_succ hi]
  simp [idsL]
theorem fwrong_stop {l : List Nd} {i : Nat} {n : Nd} (hi : l[i]? = some n) (h : wrongE (idsL (l.take i)) n ≠ 0) : fwrong (l.drop i) (idsL (l.take i)) i = (i, wrongE (idsL (l.take i)) n) := by
  have hlt := (List.getElem?_eq_some_iff.1 hi).1
  have hn := (List.getElem?_eq_some_iff.1 hi).2
  rw [List.drop_eq_getElem_cons hlt, hn, fwrong, if_neg h]
/-- The map of places: the entries as they are laid. -/
abbrev placed (ids : List Dig) : List (Dig × Nat) := ids.zipIdx
def pme (e : Dig × Nat) : MapEntry := { key := digV e.1, val := .int .i64 (e.2 : Int), born := e.2 }
theorem placed_isSome {d : Dig} : ∀ {ids : List Dig} {k i : Nat}, (mfind Prod.fst d (ids.zipIdx k) i).isSome = decide (d ∈ ids)
  | [], _, _ => by simp [mfind]
  | x :: r, k, i => by
    rw [List.zipIdx_cons, mfind]
    by_cases h : x = d
    · simp [h]
    · have h' : ¬ d = x := fun e => h e.symm
      rw [if_neg h, placed_isSome (ids := r)]
      simp [h']
theorem placed_some {d : Dig} : ∀ {ids : List Dig} {k i j : Nat} {e : Dig × Nat}, mfind Prod.fst d (ids.zipIdx k) i = some (j, e) → e.1 = d ∧ ids[e.2 - k]? = some d ∧ k ≤ e.2 ∧ ∀ x, x < e.2 - k → ids[x]? ≠ some d
  | [], _, _, _, _, h => by simp [mfind] at h
  | x :: r, k, i, j, e, h => by
    rw [List.zipIdx_cons, mfind] at h
    split at h
    · rename_i hx
      cases h
      refine ⟨hx, by simpa using hx, Nat.le_refl _, fun y hy => by simp at hy⟩
    · rename_i hx
      obtain ⟨h1, h2, h3, h4⟩ := placed_some (ids := r) (k := k + 1) h
      have e1 : e.2 - k = (e.2 - (k + 1)) + 1 := by omega
      refine ⟨h1, by rw [e1, List.getElem?_cons_succ]; exact h2, by omega, fun y hy => ?_⟩
      cases y with
      | zero => simp only [List.getElem?_cons_zero]; intro he; cases he; exact hx rfl
      | succ y => rw [List.getElem?_cons_succ]; exact h4 y (by omega)
theorem placed_none {d : Dig} {ids : List Dig} (h : d ∉ ids) : mfind Prod.fst d (placed ids) 0 = none := by
  have := placed_isSome (d := d) (ids := ids) (k := 0) (i := 0)
  simpa [h] using this
theorem placed_app (ids : List Dig) (d : Dig) : placed (ids ++ [d]) = placed ids ++ [(d, ids.length)] := by simp [placed, List.zipIdx_append]
end Go.Pl
namespace Go.Fw
open Go.Pl
/-- A node as it lies: its parents' slice. -/
structure NdV where
  n : Nd
  A : Option Addr
  c : Nat
abbrev NdV.pv (x : NdV) : Value := .slice x.A x.n.ps.length x.c
def ndC (x : NdV) : List Value := digC x.n.id ++ [x.pv]
theorem ndC_length (x : NdV) : (ndC x).length = 33 := by simp [ndC, digC_length]
abbrev ndV (x : NdV) : Value := .agg (ndC x).toArray
theorem one_ndC {x : NdV} : ∀ u ∈ ndC x, u.oneCell' = true := by
  intro u hu
  simp only [ndC, List.mem_append, List.mem_singleton] at hu
  rcases hu with hu | rfl
  · exact one_digC u hu
  · rfl
theorem Y.subN {P : Program} {n : NN} {fr : Fr} {w : World} {ty : TypeId} {x y : Operand} {p q : Nat} {t t' : TypeId} (hx : ev fr x = some (.int .i64 (p : Int))) (hy : ev fr y = some (.int .i64 (q : Int))) (h : q ≤ p) (hb : p ≤ 9223372036854775807) :
    Yw P n fr (.binOp .sub t x y t') ty w (.int .i64 ((p - q : Nat) : Int)) w := by
  have := Y.sub (P := P) (n := n) (w := w) (ty := ty) (t := t) (t' := t') hx hy ⟨by omega, by omega⟩
  rwa [show (p : Int) - (q : Int) = ((p - q : Nat) : Int) by omega] at this
def NdV.zero : NdV := ⟨⟨Dig.zero, []⟩, none, 0⟩
section
variable {w : World} {a : Addr} {id : Dig} {ps : List Dig} {A : Option Addr} {c : Nat}
theorem Mem.node0 (h : Mem w a (ndC ⟨⟨id, ps⟩, A, c⟩)) : Mem w (a.add 0) (digC id) := h.sub 0 fun j v hj => by
  have hlt : j < (digC id).length := (List.getElem?_eq_some_iff.1 hj).1
  rw [Nat.zero_add, ndC, List.getElem?_append_left hlt]
  exact hj
theorem Mem.node1 (h : Mem w a (ndC ⟨⟨id, ps⟩, A, c⟩)) : w.cell? (a.add 32) = some (.slice A ps.length c) := h.cell 32 (by
  rw [ndC, List.getElem?_append_right (by rw [digC_length]; omega), digC_length]
  rfl)
end
/-- A list of nodes in memory. -/
structure Nds (w : World) (u : Value) (l : List NdV) : Prop where
  sl : Sl w ndC 33 u l
  ps : ∀ x ∈ l, Sl w digC 32 x.pv x.n.ps
theorem Nds.ext {w w' : World} {u : Value} {l : List NdV} (h : Nds w u l) (hc : Ext w w') : Nds w' u l := ⟨h.sl.ext hc, fun x hx => (h.ps x hx).ext hc⟩
abbrev ndsL (l : List NdV) : List Nd := l.map NdV.n
end Go.Fw
namespace Go.Proofs.Ytecolkngbcgmcaa
open Go.RowKit Go.Fw Go.Pl
abbrev TNo : TypeId := 48
theorem sz0_apiNode : (Try.prog.info? TNo).map (·.size) = some 33 := by kernel_rfl
theorem sz_apiNode (x : NdV) : (Try.prog.info? TNo).map (·.size) = some (ndC x).length := by rw [ndC_length]; exact sz0_apiNode
theorem sz_sDig_ : (Try.prog.info? 23).map (·.size) = some 1 := by kernel_rfl
theorem fo_apiNode0 : FieldOff Try.prog TNo 0 0 := ⟨_, _, 32, Try.underlying48, rfl, sz_dig, by decide, rfl⟩
theorem fo_apiNode1 : FieldOff Try.prog TNo 1 32 := ⟨_, _, 1, Try.underlying48, rfl, sz_sDig_, by decide, rfl⟩
theorem info_apiNode : ∃ i : TypeInfo, Try.prog.info? TNo = some i ∧ i.zero = some (ndV NdV.zero) ∧ i.size = 33 := by
  have h : (Try.prog.info? TNo).map (fun i => (i.zero, i.size)) = some (some (ndV NdV.zero), 33) := by kernel_rfl
  cases hi : Try.prog.info? TNo with
  | none => simp [hi] at h
  | some i => simp [hi] at h; exact ⟨i, rfl, h.1, h.2⟩
theorem zero_int (w : World) : (zeroValue 3).run Try.prog w = .ok (.int .i64 0) w := by
  have h : (Try.prog.info? 3).map (fun i => i.zero) = some (some (.int .i64 0)) := by kernel_rfl
  cases hi : Try.prog.info? 3 with
  | none => simp [hi] at h
  | some i => simp [hi] at h; simp [zeroValue, typeInfo, hi, h]
end Go.Proofs.Ytecolkngbcgmcaa
