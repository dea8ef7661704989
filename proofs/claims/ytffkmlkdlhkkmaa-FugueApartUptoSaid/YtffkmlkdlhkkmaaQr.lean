/- The document's trees in memory. No condition. -/
import Derived.Test.YtffkmlkdlhkkmaaQk
import Derived.Test.YtffkmlkdlhkkmaaIa
import Derived.Test.YtffkmlkdlhkkmaaQa
set_option linter.unusedSimpArgs false
set_option linter.unusedVariables false
namespace Go.Fw
open Go.Fu
section
variable {w : World} {a : Addr} {x : El} {lv rv : Value} (h : Mem w a (nodeC x lv rv))
include h
theorem Mem.recensionref08Elem0 : Mem w (a.add 0) (refC x.name) := h.sub 0 fun j v hj => by
  have hlt : j < (refC x.name).length := (List.getElem?_eq_some_iff.1 hj).1
  rw [Nat.zero_add, nodeC, List.getElem?_append_left hlt]; exact hj
theorem Mem.recensionref08Elem1 : w.cell? (a.add 34) = some (.int .u8 (x.byte.toNat : Int)) := h.cell 34 (by rw [nodeC, List.getElem?_append_right (by rw [refC_length]; omega), refC_length]; rfl)
theorem Mem.recensionref08Elem2 : w.cell? (a.add 35) = some (.bool x.gone) := h.cell 35 (by rw [nodeC, List.getElem?_append_right (by rw [refC_length]; omega), refC_length]; rfl)
theorem Mem.recensionref08Elem3 : w.cell? (a.add 36) = some lv := h.cell 36 (by rw [nodeC, List.getElem?_append_right (by rw [refC_length]; omega), refC_length]; rfl)
theorem Mem.recensionref08Elem4 : w.cell? (a.add 37) = some rv := h.cell 37 (by rw [nodeC, List.getElem?_append_right (by rw [refC_length]; omega), refC_length]; rfl)
end
section
variable {w : World} {a : Addr} {u v : Value} (h : Mem w a [u, v])
include h
theorem Mem.recensionref08Tree0 : w.cell? (a.add 0) = some u := h.cell 0 rfl
theorem Mem.recensionref08Tree1 : w.cell? (a.add 1) = some v := h.cell 1 rfl
end
/-- An element as it lies: its two slices. -/
structure Rn where
  el : El
  lv : Value
  rv : Value
def Rn.sv (x : Rn) (s : Bool) : Value := cond s x.lv x.rv
def rC (x : Rn) : List Value := nodeC x.el x.lv x.rv
theorem rC_length (x : Rn) : (rC x).length = 38 := nodeC_length _ _ _
abbrev rels (rs : List Rn) : List El := rs.map Rn.el
end Go.Fw
namespace Go.Proofs.Ytffkmlkdlhkkmaa
open Go.RowKit Go.Fw Go.Fu
abbrev TR8 : TypeId := 55
abbrev TE8 : TypeId := 51
abbrev TD8 : TypeId := 24
/-- The document's tree at g has these elements. -/
structure RtAt (w : World) (g : Nat) (ad : List Dig) (rs : List Rn) (av ev_ : Value) : Prop where
  blk : Blk w g TR8 [av, ev_]
  ads : Own w TD8 32 av (flatD ad)
  es : Own w TE8 38 ev_ ((rs.map rC).flatten)
  kids : ∀ x ∈ rs, ∀ s, Own w 3 1 (x.sv s) (intC (side x.el s))
def Rp (g : Nat) (rs : List Rn) (av ev_ : Value) (k : Nat) : Prop := k = g ∨ av.ownBlock = some k ∨ ev_.ownBlock = some k ∨ ∃ x ∈ rs, ∃ s, (x.sv s).ownBlock = some k
section
variable {w w' : World} {g : Nat} {ad : List Dig} {rs : List Rn} {av ev_ : Value} {S : Nat → Prop}
theorem RtAt.lt (h : RtAt w g ad rs av ev_) {k : Nat} (hk : Rp g rs av ev_ k) : k < w.heap.size := by
  rcases hk with rfl | hk | hk | ⟨x, hx, s, hk⟩
  · exact h.blk.lt
  · exact h.ads.lt k hk
  · exact h.es.lt k hk
  · exact (h.kids x hx s).lt k hk
theorem RtAt.chg (h : RtAt w g ad rs av ev_) (hc : Chg S w w') (hs : ∀ k, Rp g rs av ev_ k → ¬ S k) : RtAt w' g ad rs av ev_ where
  blk := h.blk.chg hc (hs g (.inl rfl))
  ads := h.ads.chg hc fun k hk => hs k (.inr (.inl hk))
  es := h.es.chg hc fun k hk => hs k (.inr (.inr (.inl hk)))
  kids x hx s := (h.kids x hx s).chg hc fun k hk => hs k (.inr (.inr (.inr ⟨x, hx, s, hk⟩)))
theorem RtAt.ext (h : RtAt w g ad rs av ev_) (hc : Ext w w') : RtAt w' g ad rs av ev_ := h.chg hc fun _ _ f => f
theorem RtAt.far (h : RtAt w g ad rs av ev_) (hc : Chg S w w') (hs : ∀ k, S k → w.heap.size ≤ k) : RtAt w' g ad rs av ev_ := h.chg hc fun k hk hS => by have := hs k hS; have := h.lt hk; omega
theorem RtAt.ne (h : RtAt w g ad rs av ev_) : (∀ k, av.ownBlock = some k → k ≠ g ∧ ev_.ownBlock ≠ some k) ∧ (∀ k, ev_.ownBlock = some k → k ≠ g) ∧ ∀ x ∈ rs, ∀ s k, (x.sv s).ownBlock = some k → k ≠ g ∧ av.ownBlock ≠ some k ∧ ev_.ownBlock ≠ some k := by
  have hb := h.blk
  unfold Blk at hb
  have kd : ∀ {k : Nat} {c1 c2 : Array Value} {t1 t2 : TypeId} {f1 f2 : Nat × Nat}, w.heap[k]? = some (.cells c1 t1 f1) → w.heap[k]? = some (.cells c2 t2 f2) → t1 = t2 := fun h1 h2 => by
    rw [h1] at h2; injection h2 with h2; injection h2
  refine ⟨fun k hk => ⟨?_, fun hk2 => ?_⟩, fun k hk => ?_, fun x hx s k hk => ⟨?_, fun hk2 => ?_, fun hk2 => ?_⟩⟩
  · rintro rfl
    obtain ⟨_, _, h1⟩ := h.ads.kind hk
    exact absurd (kd h1 hb) (by decide)
  · obtain ⟨_, _, h1⟩ := h.ads.kind hk
    obtain ⟨_, _, h2⟩ := h.es.kind hk2
    exact absurd (kd h1 h2) (by decide)
  · rintro rfl
    obtain ⟨_, _, h1⟩ := h.es.kind hk
    exact absurd (kd h1 hb) (by decide)
  · rintro rfl
    obtain ⟨_, _, h1⟩ := (h.kids x hx s).kind hk
    exact absurd (kd h1 hb) (by decide)
  · obtain ⟨_, _, h1⟩ := (h.kids x hx s).kind hk
    obtain ⟨_, _, h2⟩ := h.ads.kind hk2
    exact absurd (kd h1 h2) (by decide)
  · obtain ⟨_, _, h1⟩ := (h.kids x hx s).kind hk
    obtain ⟨_, _, h2⟩ := h.es.kind hk2
    exact absurd (kd h1 h2) (by decide)
theorem RtAt.sl (h : RtAt w g ad rs av ev_) : Sl w rC 38 ev_ rs := h.es.sl rC_length (by decide)
theorem RtAt.kid (h : RtAt w g ad rs av ev_) {x : Rn} (hx : x ∈ rs) (s : Bool) : Sl w (fun m : Nat => [Value.int .i64 (m : Int)]) 1 (x.sv s) (side x.el s) := by
  have e : intC (side x.el s) = ((side x.el s).map fun m : Nat => [Value.int .i64 (m : Int)]).flatten := by
    unfold intC
    induction side x.el s with
    | nil => rfl
    | cons a r ih => simp only [List.map_cons, List.flatten_cons, ih]; rfl
  have := h.kids x hx s
  rw [e] at this
  exact this.sl (fun _ => rfl) (by decide)
end
theorem sz0_recensionref08Elem : (Try.prog.info? TE8).map (·.size) = some 38 := by kernel_rfl
theorem sz_recensionref08Elem (x : El) (lv rv : Value) : (Try.prog.info? TE8).map (·.size) = some (nodeC x lv rv).length := by rw [nodeC_length]; exact sz0_recensionref08Elem
theorem sz_sInt : (Try.prog.info? 43).map (·.size) = some 1 := by kernel_rfl
theorem fo_recensionref08Tree0 : FieldOff Try.prog TR8 0 0 := ⟨_, _, 1, Try.underlying55, rfl, sz_sDig, by decide, rfl⟩
theorem fo_recensionref08Tree1 : FieldOff Try.prog TR8 1 1 := ⟨_, _, 1, Try.underlying55, rfl, by kernel_rfl, by decide, rfl⟩
theorem fo_recensionref08Elem0 : FieldOff Try.prog TE8 0 0 := ⟨_, _, 34, Try.underlying51, rfl, sz_ref, by decide, rfl⟩
theorem fo_recensionref08Elem1 : FieldOff Try.prog TE8 1 34 := ⟨_, _, 1, Try.underlying51, rfl, sz_uint8, by decide, rfl⟩
theorem fo_recensionref08Elem2 : FieldOff Try.prog TE8 2 35 := ⟨_, _, 1, Try.underlying51, rfl, sz_bool, by decide, rfl⟩
theorem fo_recensionref08Elem3 : FieldOff Try.prog TE8 3 36 := ⟨_, _, 1, Try.underlying51, rfl, sz_sInt, by decide, rfl⟩
theorem fo_recensionref08Elem4 : FieldOff Try.prog TE8 4 37 := ⟨_, _, 1, Try.underlying51, rfl, sz_sInt, by decide, rfl⟩
theorem built_elem (parts : List (Nat × Value)) : Try.prog.built TE8 parts = Instr.fill (fun i => #[(0, 34), (34, 1), (35, 1), (36, 1), (37, 1)][i]?) (nodeC ⟨RefD.zero, 0, false, [], []⟩ (.slice none 0 0) (.slice none 0 0)).toArray parts := by kernel_rfl
theorem build_elem0 (w : World) : (Instr.build TE8 [(2, Value.bool true)].toArray).run Try.prog w = .ok (.agg (nodeC El.root (.slice none 0 0) (.slice none 0 0)).toArray) w := run_build w _ _ _ (by kernel_rfl)
theorem build_elem (r : RefD) (b : UInt8) (w : World) : (Instr.build TE8 [(0, refV r), (1, Value.int .u8 (b.toNat : Int))].toArray).run Try.prog w = .ok (.agg (nodeC ⟨r, b, false, [], []⟩ (.slice none 0 0) (.slice none 0 0)).toArray) w := run_build w _ _ _ (by
  show Try.prog.built _ [(0, refV r), (1, Value.int .u8 (b.toNat : Int))] = _
  rw [built_elem]
  have e0 : nodeC ⟨RefD.zero, 0, false, [], []⟩ (.slice none 0 0) (.slice none 0 0) = [] ++ refC RefD.zero ++ [bc 0, .bool false, .slice none 0 0, .slice none 0 0] := rfl
  rw [e0, fill_step [] (refC RefD.zero) [bc 0, .bool false, .slice none 0 0, .slice none 0 0] (refC r) (by rw [refC_length]; rfl) rfl (by rw [refC_length, refC_length]) rfl]
  have e1 : [] ++ refC r ++ [bc 0, .bool false, .slice none 0 0, .slice none 0 0] = refC r ++ [bc 0] ++ [.bool false, .slice none 0 0, .slice none 0 0] := by simp
  rw [e1, fill_step (refC r) [bc 0] [.bool false, .slice none 0 0, .slice none 0 0] [.int .u8 (b.toNat : Int)] rfl rfl rfl (refC_length r), Instr.fill]
  simp [nodeC, bc])
theorem build_tree8 (u : Value) (h : u.cells = #[u]) (w : World) : (Instr.build TR8 [(1, u)].toArray).run Try.prog w = .ok (.agg [.slice none 0 0, u].toArray) w := run_build w _ _ _ (by
  have hb : ∀ parts, Try.prog.built TR8 parts = Instr.fill (fun i => #[(0, 1), (1, 1)][i]?) [Value.slice none 0 0, .slice none 0 0].toArray parts := fun parts => by kernel_rfl
  show Try.prog.built _ [(1, u)] = _
  rw [hb]
  have := fill_step (place := fun i => #[(0, 1), (1, 1)][i]?) (i := 1) (off := 1) (v := u) (rest := []) [Value.slice none 0 0] [.slice none 0 0] [] [u] rfl (by rw [h]) rfl rfl
  exact this)
theorem build_tree8a (u : Value) (h : u.cells = #[u]) (w : World) : (Instr.build TR8 [(0, u)].toArray).run Try.prog w = .ok (.agg [u, .slice none 0 0].toArray) w := run_build w _ _ _ (by
  have hb : ∀ parts, Try.prog.built TR8 parts = Instr.fill (fun i => #[(0, 1), (1, 1)][i]?) [Value.slice none 0 0, .slice none 0 0].toArray parts := fun parts => by kernel_rfl
  show Try.prog.built _ [(0, u)] = _
  rw [hb]
  have := fill_step (place := fun i => #[(0, 1), (1, 1)][i]?) (i := 0) (off := 0) (v := u) (rest := []) [] [Value.slice none 0 0] [.slice none 0 0] [u] rfl (by rw [h]) rfl rfl
  exact this)
theorem ai_elem : AppInfo Try.prog TE8 38 104 := by
  have h : (Try.prog.info? TE8).map (fun i => (i.size, i.bytes, i.zero)) = some (38, 104, some (.agg (nodeC ⟨RefD.zero, 0, false, [], []⟩ (.slice none 0 0) (.slice none 0 0)).toArray)) := by kernel_rfl
  obtain ⟨i, hi, h⟩ := Option.map_eq_some_iff.1 h
  injection h with h1 h2
  injection h2 with h2 h3
  exact ⟨i, _, hi, h3, h1, by show (nodeC _ _ _).toArray.size = 38; simp [nodeC_length], h2, by decide, by decide⟩
theorem bs1_elem (x : Rn) (w : World) : (Instr.buildSlice 53 1 [(0, Value.agg (rC x).toArray)].toArray).run Try.prog w = .ok (.slice (some ⟨w.heap.size, 0, none⟩) 1 1) (w.alloc (.cells (rC x).toArray TE8)) := by
  obtain ⟨i, z, hi, hz, hs, _, _, h0, _⟩ := ai_elem
  exact run_bs1 Try.underlying53 hi hz (by omega) (by omega) rfl (by rw [rC_length, hs]) w
end Go.Proofs.Ytffkmlkdlhkkmaa
