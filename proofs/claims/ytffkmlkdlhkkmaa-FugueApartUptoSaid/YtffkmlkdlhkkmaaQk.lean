/- Building structs out of parts of several cells; what the api's references are built of. No condition. -/
import Derived.Test.YtffkmlkdlhkkmaaKg
import Derived.Test.YtffkmlkdlhkkmaaQa
set_option linter.unusedSimpArgs false
set_option linter.unusedVariables false
namespace Go.Fw
open Go.RowKit Go.Fu
def nodeC (x : El) (lv rv : Value) : List Value := refC x.name ++ [bc x.byte, .bool x.gone, lv, rv]
theorem nodeC_length (x : El) (lv rv : Value) : (nodeC x lv rv).length = 38 := by simp [nodeC, refC_length]
theorem one_nodeC {x : El} {lv rv : Value} (hl : lv.oneCell' = true) (hr : rv.oneCell' = true) : ∀ u ∈ nodeC x lv rv, u.oneCell' = true := by
  intro u hu
  simp only [nodeC, List.mem_append, List.mem_cons, List.not_mem_nil, or_false] at hu
  rcases hu with hu | rfl | rfl | rfl | rfl
  · exact one_refC u hu
  · rfl
  · rfl
  · exact hl
  · exact hr
def side (x : El) (s : Bool) : List Nat := cond s x.left x.right
theorem Sl.get {α : Type} {w : World} {enc : α → List Value} {k : Nat} {A : Option Addr} {m c : Nat} {xs : List α} (h : Sl w enc k (.slice A m c) xs) {i : Nat} {x : α} (hx : xs[i]? = some x) : ∃ a, A = some a ∧ Mem w (a.add (i * k)) (enc x) := by
  obtain ⟨A', m', c', e, _, _, _, hls⟩ := h
  injection e with e1
  subst e1
  exact hls i x hx
theorem Own.kind {w : World} {e : TypeId} {k : Nat} {v : Value} {xs : List Value} (h : Own w e k v xs) {g : Nat} (hg : v.ownBlock = some g) : ∃ cs fz, w.heap[g]? = some (.cells cs e fz) := by
  rcases h with ⟨rfl, _⟩ | ⟨g', n, cap, rest, fz, rfl, hh, _⟩
  · simp [Value.ownBlock] at hg
  · simp [Value.ownBlock] at hg; subst hg; exact ⟨_, _, hh⟩
theorem fold_set (off : Nat) : ∀ (new : List Value) (k : Nat) (pre old post : List Value), old.length = new.length → pre.length = off + k →
    (new.zipIdx k).foldl (fun (cs : Array Value) p => cs.setIfInBounds (off + p.2) p.1) (pre ++ old ++ post).toArray = (pre ++ new ++ post).toArray
  | [], k, pre, old, post, h, _ => by
    have : old = [] := List.length_eq_zero_iff.1 h
    subst this; rfl
  | v :: new, k, pre, [], post, h, _ => by simp at h
  | v :: new, k, pre, o :: old, post, h, hp => by
    rw [List.zipIdx_cons, List.foldl_cons]
    have e1 : (pre ++ (o :: old) ++ post).toArray.setIfInBounds (off + k) v = ((pre ++ [v]) ++ old ++ post).toArray := by
      rw [List.setIfInBounds_toArray, ← hp]; simp
    show List.foldl _ ((pre ++ (o :: old) ++ post).toArray.setIfInBounds (off + k) v) _ = _
    rw [e1, fold_set off new (k + 1) (pre ++ [v]) old post (by simpa using h) (by simp [hp]; omega)]
    simp
theorem fill_step {place : Nat → Option (Nat × Nat)} {i off : Nat} {v : Value} {rest : List (Nat × Value)} (pre old post new : List Value) (hp : place i = some (off, new.length)) (hv : v.cells = new.toArray) (hl : old.length = new.length) (ho : pre.length = off) :
    Instr.fill place (pre ++ old ++ post).toArray ((i, v) :: rest) = Instr.fill place (pre ++ new ++ post).toArray rest := by
  rw [Instr.fill, hp, hv]
  simp only
  rw [if_neg (by simp; omega)]
  congr 1
  have := fold_set off new 0 pre old post hl (by omega)
  rw [← this, ← Array.foldl_toList, Array.toList_zipIdx]
theorem Value.cells_agg (cs : List Value) : (Value.agg cs.toArray).cells = cs.toArray := rfl
end Go.Fw
namespace Go.Proofs.Ytffkmlkdlhkkmaa
open Go.RowKit Go.Fw
theorem built_ref (parts : List (Nat × Value)) : Try.prog.built 49 parts = Instr.fill (fun i => #[(0, 1), (1, 32), (33, 1)][i]?) (refC RefD.zero).toArray parts := by kernel_rfl
theorem build_ref2 (d : Dig) (n : Int) (w : World) : (Instr.build 49 [(1, digV d), (2, Value.int .i64 n)].toArray).run Try.prog w = .ok (refV ⟨false, d, n⟩) w := run_build w _ _ _ (by
  show Try.prog.built _ [(1, digV d), (2, Value.int .i64 n)] = _
  rw [built_ref]
  have e0 : refC RefD.zero = [Value.bool false] ++ digC Dig.zero ++ [.int .i64 0] := rfl
  rw [e0, fill_step [Value.bool false] (digC Dig.zero) [.int .i64 0] (digC d) (by rw [digC_length]; rfl) rfl (by rw [digC_length, digC_length]) rfl]
  have e1 : [Value.bool false] ++ digC d ++ [.int .i64 0] = ([Value.bool false] ++ digC d) ++ [.int .i64 0] ++ [] := by simp
  rw [e1, fill_step ([Value.bool false] ++ digC d) [.int .i64 0] [] [.int .i64 n] rfl rfl rfl (by rw [List.length_append, digC_length]; rfl), Instr.fill]
  simp [refV, refC])
end Go.Proofs.Ytffkmlkdlhkkmaa
