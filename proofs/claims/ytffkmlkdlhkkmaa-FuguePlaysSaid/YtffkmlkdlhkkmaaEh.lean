/- The document's tree: Copy, walked. No condition. -/
import Derived.Test.YtffkmlkdlhkkmaaFc
set_option linter.unusedSimpArgs false
set_option linter.unusedVariables false
namespace Go.Proofs.Ytffkmlkdlhkkmaa
open Go.RowKit Go.Fw Go.Fu Go.Pl
theorem one_digs {l : List Dig} : ∀ u ∈ flatD l, u.oneCell' = true := by
  intro u hu
  obtain ⟨cs, hcs, hu⟩ := List.mem_flatten.1 hu
  obtain ⟨x, _, rfl⟩ := List.mem_map.1 hcs
  exact one_digC u hu
theorem nil_own {g q : Nat} (h : (Value.slice (some ⟨g, 0, none⟩) 0 0).ownBlock = some q) : q = g := by
  injection h with h
  exact h.symm
theorem Own.srcI {P : Program} {w : World} {A : Option Addr} {m c : Nat} {l : List Nat} (h : Own w TI8 1 (.slice A m c) (intC l)) : Fw.Src P w 1 (.slice A m c) m (intC l) := by
  have hl := (int_map h).1
  rw [intC_flat] at h
  have := Own.srcTake (P := P) (k := 1) (fun _ => rfl) Nat.one_pos h (j := l.length) (Nat.le_refl _)
  rw [List.take_length, ← intC_flat] at this
  rwa [hl] at this
theorem info_elem8 : ∃ i : TypeInfo, Try.prog.info? TE8 = some i ∧ i.zero = some (.agg (nodeC ⟨RefD.zero, 0, false, [], []⟩ (.slice none 0 0) (.slice none 0 0)).toArray) ∧ i.size = 38 := by
  obtain ⟨i, z, hi, hz, hs, _⟩ := ai_elem
  have h : (Try.prog.info? TE8).map (fun i => i.zero) = some (some (.agg (nodeC ⟨RefD.zero, 0, false, [], []⟩ (.slice none 0 0) (.slice none 0 0)).toArray)) := by kernel_rfl
  rw [hi] at h
  exact ⟨i, hi, by simpa using h, hs⟩
theorem as_recensionref08Elem {n : NN} {Φ : Exit → Fr → World → Prop} {fr : Fr} {w : World} {ops : Array Oper} {rest : List Oper} {d : Nat} {x : Operand} {ty ty' : TypeId} {pos pos' : String} {aft aft' : Array Edge} {e : El} {lA rA : Option Addr} {lm lc rm rc : Nat}
    (hx : ev fr x = some (.agg (nodeC e (.slice lA lm lc) (.slice rA rm rc)).toArray)) (hxd : x ≠ .tmp d) (hd : d < n.1)
    (h : ∀ g w', Ext w w' → w.heap.size ≤ g → Blk w' g TE8 (nodeC e (.slice lA lm lc) (.slice rA rm rc)) → WL Try.prog ops n Φ rest ((d, .pointer (some ⟨g, 0, none⟩)) :: fr) w') :
    WL Try.prog ops n Φ (⟨some d, .alloc TE8, ty, pos, aft, none⟩ :: ⟨none, .store TE8 (.tmp d) x, ty', pos', aft', none⟩ :: rest) fr w := by
  obtain ⟨i, hi, hz, hs⟩ := info_elem8
  exact WL.allocStore (zs := nodeC ⟨RefD.zero, 0, false, [], []⟩ (.slice none 0 0) (.slice none 0 0)) hi hz rfl (by rw [hs, nodeC_length]) (by rw [nodeC_length, nodeC_length]) hx hxd rfl (one_nodeC rfl rfl) hd h

end Go.Proofs.Ytffkmlkdlhkkmaa
