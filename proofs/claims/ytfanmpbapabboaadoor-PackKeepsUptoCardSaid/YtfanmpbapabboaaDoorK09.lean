/- Parts of a proof: what its last text leans on. No condition. -/
import Derived.Test.YtfanmpbapabboaaDoorK08
set_option linter.unusedSimpArgs false
set_option linter.unusedVariables false
/- What a store is in memory: its block, its map, its entries. No condition. -/
namespace Go.Fw
def storeC (r n : Nat) : List Value := [.map (some r), .int .i64 (n : Int)]
section
variable {w : World} {a : Addr} {r n : Nat} (h : Mem w a (storeC r n))
include h
theorem Mem.storeStore0 : w.cell? (a.add 0) = some (.map (some r)) := h.cell 0 rfl
theorem Mem.storeStore1 : w.cell? (a.add 1) = some (.int .i64 (n : Int)) := h.cell 1 rfl
end
end Go.Fw
namespace Go.Pl
open Go.Fw
structure Ent where
 k : Dig
 v : Value
 born : Nat
 b : List UInt8
def Ent.me (e : Ent) : MapEntry := { key := digV e.k, val := e.v, born := e.born }
def total (l : List Ent) : Nat := (l.map fun e => e.b.length).sum
theorem total_app (l : List Ent) (e : Ent) : total (l ++ [e]) = total l + e.b.length := by simp [total]
theorem total_le {l : List Ent} {m : Nat} (h : ∀ e ∈ l, e.b.length ≤ m) : total l ≤ l.length * m := by
 induction l with
 | nil => simp [total]
 | cons e r ih =>
  have h1 := h e (by simp)
  have h2 := ih fun x hx => h x (by simp [hx])
  simp only [total, List.map_cons, List.sum_cons, List.length_cons, Nat.succ_mul] at h2 ⊢
  omega
abbrev at_ (l : List Ent) (d : Dig) : Option (Nat × Ent) := mfind Ent.k d l 0
abbrev Unlike (l : List Ent) : Prop := (l.map Ent.k).Nodup
theorem mfind_absent {l : List Ent} {d : Dig} : ∀ {i : Nat}, (∀ e ∈ l, e.k ≠ d) → mfind Ent.k d l i = none := by
 induction l with
 | nil => intro i _; rfl
 | cons x r ih =>
  intro i h
  rw [mfind, if_neg (h x (by simp))]
  exact ih fun e he => h e (by simp [he])
theorem unlike_app {l : List Ent} {e : Ent} (h : Unlike l) (hn : at_ l e.k = none) : Unlike (l ++ [e]) := by
 have := mfind_none hn
 simp only [Unlike, List.map_append, List.map_cons, List.map_nil, List.nodup_append]
 refine ⟨h, by simp, ?_⟩
 intro a ha b hb
 simp at hb; subst hb
 obtain ⟨x, hx, rfl⟩ := List.mem_map.1 ha
 exact this x hx
theorem unlike_erase {l : List Ent} {j : Nat} (h : Unlike l) : Unlike (l.eraseIdx j) := by
 have : (l.eraseIdx j).map Ent.k = (l.map Ent.k).eraseIdx j := ChangeMaps.map_eraseIdx _ _ _
 rw [Unlike, this]
 exact List.Nodup.sublist (List.eraseIdx_sublist _ _) h
theorem erase_none {l : List Ent} {d : Dig} {j : Nat} {e : Ent} (h : Unlike l) (hf : at_ l d = some (j, e)) : at_ (l.eraseIdx j) d = none := by
 obtain ⟨_, hj, hk⟩ := mfind_some hf
 rw [Nat.sub_zero] at hj
 refine mfind_absent fun x hx hxk => ?_
 obtain ⟨i, hi⟩ := List.mem_iff_getElem?.1 hx
 rw [List.getElem?_eraseIdx] at hi
 have hjl := (List.getElem?_eq_some_iff.1 hj).1
 split at hi
 ·
  rename_i hlt
  have hil := (List.getElem?_eq_some_iff.1 hi).1
  have h1 : (l.map Ent.k)[i]? = some d := by simp [hi, hxk]
  have h2 : (l.map Ent.k)[j]? = some d := by simp [hj, hk]
  have := (List.getElem?_inj (by simpa using hil) h).1 (h1.trans h2.symm)
  omega
 ·
  rename_i hge
  have hil := (List.getElem?_eq_some_iff.1 hi).1
  have h1 : (l.map Ent.k)[i + 1]? = some d := by simp [hi, hxk]
  have h2 : (l.map Ent.k)[j]? = some d := by simp [hj, hk]
  have := (List.getElem?_inj (by simpa using hil) h).1 (h1.trans h2.symm)
  omega
end Go.Pl
namespace Go.Proofs.YtfanmpbapabboaaDoor
open Go.RowKit Go.Fw Go.Pl
abbrev TS_ : TypeId := 66
structure StoreAt (w : World) (g r : Nat) (l : List Ent) : Prop where
 blk : Blk w g TS_ (storeC r (total l))
 map : ∃ cl, MapAt w r Ent.me l cl ∧ ∀ e ∈ l, e.born < cl
 born : (l.map Ent.born).Nodup
 vals : ∀ e ∈ l, By w e.v e.b
 low : ∀ e ∈ l, ∀ k, e.v.ownBlock = some k → k ≠ g ∧ k ≠ r ∧ k < w.heap.size
 keys : Unlike l
 few : l.length ≤ 500
 short : ∀ e ∈ l, e.b.length ≤ 131072
 ne : g ≠ r
section
variable {w w' : World} {g r : Nat} {l : List Ent} {S : Nat → Prop}
theorem StoreAt.chg (h : StoreAt w g r l) (hc : Chg S w w') (hg : ¬ S g) (hr : ¬ S r) (hv : ∀ e ∈ l, ∀ k, e.v.ownBlock = some k → ¬ S k) : StoreAt w' g r l where
 blk := h.blk.chg hc hg
 map := by obtain ⟨cl, h1, h2⟩ := h.map; exact ⟨cl, h1.chg hc hr, h2⟩
 born := h.born
 vals e he := (h.vals e he).chg hc fun _ k hk => hv e he k hk
 low e he k hk := by obtain ⟨h1, h2, h3⟩ := h.low e he k hk; exact ⟨h1, h2, Nat.lt_of_lt_of_le h3 hc.size⟩
 keys := h.keys
 few := h.few
 short := h.short
 ne := h.ne
theorem StoreAt.ext (h : StoreAt w g r l) (hc : Ext w w') : StoreAt w' g r l := h.chg hc (fun f => f) (fun f => f) (fun _ _ _ _ f => f)
theorem StoreAt.lt (h : StoreAt w g r l) : g < w.heap.size ∧ r < w.heap.size := ⟨h.blk.lt, by obtain ⟨_, h1, _⟩ := h.map; exact h1.lt⟩
theorem StoreAt.size (h : StoreAt w g r l) : total l ≤ 65536000 := by
 have h1 := total_le h.short
 have h2 := h.few
 have : l.length * 131072 ≤ 500 * 131072 := Nat.mul_le_mul_right _ h2
 omega
end
def getB (l : List Ent) (d : Dig) : List UInt8 := match at_ l d with | some p => p.2.b | none => []
theorem at_none {l : List Ent} {d : Dig} (h : (mfind Ent.k d l 0).isSome = false) : at_ l d = none := by simpa using h
theorem StoreAt.look {w : World} {g r : Nat} {l : List Ent} (h : StoreAt w g r l) (d : Dig) : By w (mval Ent.me (.slice none 0 0) (mfind Ent.k d l 0)) (getB l d) := by
 unfold getB
 show By w _ (match mfind Ent.k d l 0 with | some p => p.2.b | none => [])
 cases hp : mfind Ent.k d l 0 with
 | none => exact Own.by (e := 0) (bs := []) Own.nil
 | some p =>
  obtain ⟨_, hj, _⟩ := mfind_some hp
  exact h.vals _ (List.mem_of_getElem? hj)
theorem StoreAt.push {w w' : World} {g r : Nat} {l : List Ent} {e : Ent} {S : Nat → Prop} (h : StoreAt w g r l) (hc : Chg S w w') (hS : ∀ k, S k → k = g ∨ k = r) (hB : Blk w' g TS_ (storeC r (total (l ++ [e]))))
  (hM : MapAt w' r Ent.me (l ++ [e]) (e.born + 1)) (hb : ∀ x ∈ l, x.born < e.born) (hv : By w' e.v e.b) (hl : ∀ k, e.v.ownBlock = some k → k ≠ g ∧ k ≠ r ∧ k < w'.heap.size) (hn : at_ l e.k = none) (hf : l.length < 500) (hs : e.b.length ≤ 131072) : StoreAt w' g r (l ++ [e]) where
 blk := hB
 map := ⟨_, hM, fun x hx => by
  rcases List.mem_append.1 hx with hx | hx
  ·
   have := hb x hx; omega
  ·
   simp at hx; subst hx; omega⟩
 born := by
  simp only [List.map_append, List.map_cons, List.map_nil, List.nodup_append]
  refine ⟨h.born, by simp, ?_⟩
  intro a ha c hc
  simp at hc; subst hc
  obtain ⟨x, hx, rfl⟩ := List.mem_map.1 ha
  have := hb x hx; omega
 vals x hx := by
  rcases List.mem_append.1 hx with hx | hx
  ·
   exact (h.vals x hx).chg hc fun _ k hk hSk => by have := h.low x hx k hk; have := hS k hSk; omega
  ·
   simp at hx; subst hx; exact hv
 low x hx k hk := by
  rcases List.mem_append.1 hx with hx | hx
  ·
   obtain ⟨h1, h2, h3⟩ := h.low x hx k hk; exact ⟨h1, h2, Nat.lt_of_lt_of_le h3 hc.size⟩
  ·
   simp at hx; subst hx; exact hl k hk
 keys := unlike_app h.keys hn
 few := by simp; omega
 short x hx := by
  rcases List.mem_append.1 hx with hx | hx
  ·
   exact h.short x hx
  ·
   simp at hx; subst hx; exact hs
 ne := h.ne
theorem StoreAt.erase {w w' : World} {g r : Nat} {l : List Ent} {j cl : Nat} {S : Nat → Prop} (h : StoreAt w g r l) (hc : Chg S w w') (hS : ∀ k, S k → k = g ∨ k = r) (hB : Blk w' g TS_ (storeC r (total (l.eraseIdx j))))
  (hM : MapAt w' r Ent.me (l.eraseIdx j) cl) (hb : ∀ x ∈ l, x.born < cl) : StoreAt w' g r (l.eraseIdx j) where
 blk := hB
 map := ⟨_, hM, fun x hx => hb x (List.mem_of_mem_eraseIdx hx)⟩
 born := by
  rw [show (l.eraseIdx j).map Ent.born = (l.map Ent.born).eraseIdx j from ChangeMaps.map_eraseIdx _ _ _]
  exact List.Nodup.sublist (List.eraseIdx_sublist _ _) h.born
 vals x hx := (h.vals x (List.mem_of_mem_eraseIdx hx)).chg hc fun _ k hk hSk => by have := h.low x (List.mem_of_mem_eraseIdx hx) k hk; have := hS k hSk; omega
 low x hx k hk := by obtain ⟨h1, h2, h3⟩ := h.low x (List.mem_of_mem_eraseIdx hx) k hk; exact ⟨h1, h2, Nat.lt_of_lt_of_le h3 hc.size⟩
 keys := unlike_erase h.keys
 few := by have := h.few; have := List.length_eraseIdx_le l j; omega
 short x hx := h.short x (List.mem_of_mem_eraseIdx hx)
 ne := h.ne
theorem sz0_suint8 : (Tryd.prog.info? 32).map (·.size) = some 1 := by kernel_rfl
theorem fo_storeStore0 : FieldOff Tryd.prog TS_ 0 0 := ⟨_, _, 1, Tryd.underlying66, rfl, by kernel_rfl, by decide, rfl⟩
theorem fo_storeStore1 : FieldOff Tryd.prog TS_ 1 1 := ⟨_, _, 1, Tryd.underlying66, rfl, sz_int, by decide, rfl⟩
theorem zero_bytes (w : World) : (zeroValue 32).run Tryd.prog w = .ok (.slice none 0 0) w := by
 have h : (Tryd.prog.info? 32).map (fun i => i.zero) = some (some (.slice none 0 0)) := by kernel_rfl
 cases hi : Tryd.prog.info? 32 with
 | none => simp [hi] at h
 | some i => simp [hi] at h; simp [zeroValue, typeInfo, hi, h]
end Go.Proofs.YtfanmpbapabboaaDoor
/- A store: New, made, Len, Size, Get, Has, walked; slices.Equal at bytes. No condition. -/
namespace Go.Proofs.YtfanmpbapabboaaDoor
open Go.RowKit Go.Fw Go.Pl
theorem eqIn_stp (d : Nat) (a : Addr) (w : World) : (Op.equalIn (d + 1) 36 (.pointer (some a)) (.pointer none)).run Tryd.prog w = .ok false w := by
 rw [Op.equalIn, Sem.run_bind, run_underlying Tryd.underlying36]
 rfl
section
variable {n : NN} {fr : Fr} {w : World} {ty : TypeId} {x y : Operand} {t' : TypeId}
theorem Y.neq_storeStore {a : Addr} (hx : ev fr x = some (.pointer (some a))) (hy : ev fr y = some (.pointer none)) : Yw Tryd.prog n fr (.binOp .neq 36 x y t') ty w (.bool true) w :=
 Y.bin hx hy (by simp [eqGuard]) (by
  simp only [binOp, Op.equal, Sem.run_bind]
  rw [show Op.maxDepth = 9999 + 1 from rfl, eqIn_stp 9999]
  rfl)
end
theorem build_store (r : Nat) (w : World) : (Instr.build TS_ [(0, Value.map (some r))].toArray).run Tryd.prog w = .ok (.agg (storeC r 0).toArray) w := run_build w _ _ _ kr_
abbrev UM := Tryd.underlying64
theorem bytes_part {xs ys : List UInt8} {i : Nat} {a b : UInt8} (ha : xs[i]? = some a) (hb : ys[i]? = some b) (h : (a.toNat : Int) ≠ b.toNat) : xs ≠ ys := by
 rintro rfl; rw [ha] at hb; injection hb with hb; subst hb; exact h rfl
theorem bytes_more {xs ys : List UInt8} {i : Nat} {a b : UInt8} (ht : xs.take i = ys.take i) (ha : xs[i]? = some a) (hb : ys[i]? = some b) (h : ¬ ((a.toNat : Int) ≠ b.toNat)) : xs.take (i + 1) = ys.take (i + 1) := by
 have : a = b := UInt8.toNat_inj.1 om_
 rw [take_succ ha, take_succ hb, ht, this]
theorem bytes_whole {α : Type} {xs ys : List α} {i : Nat} (hl : xs.length = ys.length) (hi : xs.length ≤ i) (ht : xs.take i = ys.take i) : xs = ys := by
 rwa [List.take_of_length_le hi, List.take_of_length_le om_] at ht
def getI (l : List Ent) (d : Dig) : Int := if (at_ l d).isSome then 0 else 5
theorem made_any (g r : Nat) (l : List Ent) (w : World) (hT : StoreAt w g r l) : Calls Tryd.prog 23 #[.pointer (some ⟨g, 0, none⟩)] w (Ret fun v w' => v = .bool true ∧ Ext w w') := by
 have hB0 := hT.blk
 refine calls_of_CW 12 [2] [(0, .pointer (some ⟨g, 0, none⟩))] Tryd.func23 rfl rfl rfl (by simp) args1 ?_
 have hE : Ext w w := Chg.refl
 refine CW.sr fun K1 hK1 => ?_
 refine WL.a rfl ?_
 refine WL.nil (hK1 _ _ ?_); try clear hK1
 refine CW.sr fun K2 hK2 => ?_
 refine WL.m rfl ?_
 refine WL.v (Y.neq_storeStore rfl rfl) ?_
 refine WL.m rfl ?_
 refine WL.know (d := 5) (u := .bool true) rfl (by rfl) ?_
 refine WL.g rfl rfl (Y.move rfl) ?_
 refine WL.g rfl rfl (Y.nilCheck rfl) ?_
 refine WL.g rfl rfl (Y.fieldAddr fo_storeStore0 rfl) ?_
 refine WL.g rfl rfl (Y.load1 Tryd.underlying64 rfl hB0.mem.storeStore0 rfl) ?_
 refine WL.g rfl rfl (Y.neq_nilmap Tryd.underlying64 rfl) ?_
 refine WL.v (Y.pick rfl rfl) ?_
 refine WL.a rfl ?_
 refine WL.nil (hK2 _ _ ?_); try clear hK2
 refine CW.ret ⟨_, rfl, ?_⟩
 exact ⟨rfl, hE⟩
theorem stNew_any (w : World) : Calls Tryd.prog 21 #[] w (Ret fun v w' => ∃ g r, v = .pointer (some ⟨g, 0, none⟩) ∧ w.heap.size ≤ g ∧ w.heap.size ≤ r ∧ StoreAt w' g r [] ∧ Ext w w') := by
 refine calls_of_CW 4 [0] [] Tryd.func21 rfl rfl rfl (by simp) args0 ?_
 have hE : Ext w w := Chg.refl
 refine CW.sr fun K1 hK1 => ?_
 refine WL.a rfl ?_
 refine WL.nil (hK1 _ _ ?_); try clear hK1
 refine CW.sr fun K2 hK2 => ?_
 refine WL.st (St.makeMap) de_ fun v1 w1 hR1 => ?_
 obtain ⟨r, rfl, hr, hMp, hx1⟩ := hR1
 have hz1 := hx1.size
 have hE := hE.thenExt hx1
 refine WL.v (Y.build rfl (build_store r _)) ?_
 refine WL.box rfl rfl de_ fun g3 w2 hx2 hg3 hB3 => ?_
 have hlt3 := hB3.lt; have hz2 := hx2.size
 have hM3 := hB3.mem; have hz2 := hx2.size; have hE := hE.thenExt hx2
 refine WL.a rfl ?_
 refine WL.nil (hK2 _ _ ?_); try clear hK2
 refine CW.ret ⟨_, rfl, ?_⟩
 exact ⟨g3, r, rfl, by omega, by omega, ⟨hB3, ⟨0, (hMp Ent Ent.me).ext hx2, fun e he => (nomatch he)⟩, List.nodup_nil, fun e he => (nomatch he), fun e he => (nomatch he), List.nodup_nil, Nat.zero_le _, fun e he => (nomatch he), (by have := (hMp Ent Ent.me).lt; omega)⟩, hE⟩
theorem stLen_any (g r : Nat) (l : List Ent) (w : World) (hT : StoreAt w g r l) : Calls Tryd.prog 29 #[.pointer (some ⟨g, 0, none⟩)] w (Ret fun v w' => v = .int .i64 (l.length : Int) ∧ Ext w w') := by
 have hB0 := hT.blk
 refine calls_of_CW 11 [2] [(0, .pointer (some ⟨g, 0, none⟩))] Tryd.func29 rfl rfl rfl (by simp) args1 ?_
 have hE : Ext w w := Chg.refl
 refine CW.sr fun K1 hK1 => ?_
 refine WL.a rfl ?_
 refine WL.nil (hK1 _ _ ?_); try clear hK1
 refine CW.seq fun K2 hK2 => ?_
 refine CW.sr fun K3 hK3 => ?_
 refine WL.m rfl ?_
 refine WL.call Tryd.func23 rfl rfl rfl (made_any g r l _ hT) (by simp) ?_; rintro v w1 ⟨rfl, hx1⟩; have hz1 := hx1.size; have hE := hE.thenExt hx1; have hT := hT.ext hx1; have hB0 := hB0.ext hx1
 refine WL.v (Y.not rfl) ?_
 refine WL.nil (hK3 _ _ ?_); try clear hK3
 (first | refine cd_ rfl ?_ ?_ | refine ce_ rfl ?_ ?_ | refine cn_ rfl ?_ ?_ | refine cb_ rfl ?_ ?_) <;> intro ht4
 ·
  -- then
  refine CW.sr fun K5 hK5 => ?_
  refine WL.a rfl ?_
  refine WL.nil (hK5 _ _ ?_); try clear hK5
  refine CW.ret ⟨_, rfl, ?_⟩
  exact absurd (show true = false by assumption) de_
 refine CW.skip ?_
 refine hK2 _ _ ?_; try clear hK2
 refine CW.sr fun K6 hK6 => ?_
 refine WL.m rfl ?_
 refine WL.v (Y.nilCheck rfl) ?_
 refine WL.v (Y.fieldAddr fo_storeStore0 rfl) ?_
 refine WL.v (Y.load1 Tryd.underlying64 rfl hB0.mem.storeStore0 rfl) ?_
 refine WL.v (Y.len_map Tryd.underlying64 rfl hT.map.choose_spec.1) ?_
 refine WL.a rfl ?_
 refine WL.nil (hK6 _ _ ?_); try clear hK6
 refine CW.ret ⟨_, rfl, ?_⟩
 exact ⟨rfl, hE⟩
theorem eqb_any (u v : Value) (xs ys : List UInt8) (w : World) (hu : By w u xs) (hv : By w v ys) : Calls Tryd.prog 38 #[u, v] w (Ret fun r w' => r = .bool (decide (xs = ys)) ∧ Ext w w') := by
 obtain ⟨A, m, c, rfl, hm, hmc, hcm, hxs, _⟩ := hu
 obtain ⟨B, n, d, rfl, hn, hnd, hdm, hys, _⟩ := hv
 unfold maxLen at hcm hdm
 refine calls_of_CW 26 [4] [(0, .slice A m c), (1, .slice B n d)] Tryd.func38 rfl rfl rfl (by simp) args2 ?_
 refine CW.sr fun K1 hK1 => ?_
 refine WL.a rfl ?_
 refine WL.nil (hK1 _ _ ?_); try clear hK1
 refine CW.seq fun K2 hK2 => ?_
 refine CW.sr fun K3 hK3 => ?_
 refine WL.m rfl ?_
 refine WL.v (Y.len_slice Tryd.underlying32 rfl) ?_
 refine WL.m rfl ?_
 refine WL.v (Y.len_slice Tryd.underlying32 rfl) ?_
 refine WL.v (Y.neq rfl rfl) ?_
 refine WL.nil (hK3 _ _ ?_); try clear hK3
 (first | refine cd_ rfl ?_ ?_ | refine ce_ rfl ?_ ?_ | refine cn_ rfl ?_ ?_ | refine cb_ rfl ?_ ?_) <;> intro ht4
 ·
  -- then
  refine CW.sr fun K5 hK5 => ?_
  refine WL.a rfl ?_
  refine WL.nil (hK5 _ _ ?_); try clear hK5
  refine CW.ret ⟨_, rfl, ?_⟩
  exact ⟨by rw [decide_eq_false (fun e => by subst e; omega)], Chg.refl⟩
 refine CW.skip ?_
 refine hK2 _ _ ?_; try clear hK2
 refine CW.seq fun K6 hK6 => ?_
 refine CW.sr fun K7 hK7 => ?_
 refine WL.m rfl ?_
 refine WL.v (Y.len_slice Tryd.underlying32 rfl) ?_
 refine WL.m rfl ?_
 refine WL.nil (hK7 _ _ ?_); try clear hK7
 refine CW.block ?_
 refine CW.loop (X := Nat) (fun x => [(0, .slice A m c), (1, .slice B n d), (12, .int .i64 (m : Int)), (13, .int .i64 (x : Int))]) (fun x w0 => x ≤ m ∧ xs.take x = ys.take x ∧ Ext w w0) (fun x => m - x) 0 Fr.ok ⟨Nat.zero_le _, rfl, Chg.refl⟩ ?_
 intro x w1 hl1
 obtain ⟨hi, htk, hL1⟩ := hl1
 refine CW.sr fun K8 hK8 => ?_
 refine WL.v (Y.lss rfl rfl) ?_
 refine WL.nil (hK8 _ _ ?_); try clear hK8
 refine CW.seq fun K9 hK9 => ?_
 (first | refine cd_ rfl ?_ ?_ | refine ce_ rfl ?_ ?_ | refine cn_ rfl ?_ ?_ | refine cb_ rfl ?_ ?_) <;> intro ht10
 ·
  -- then
  refine CW.skip ?_
  refine hK9 _ _ ?_; try clear hK9
  refine CW.seq fun K11 hK11 => ?_
  refine CW.block ?_
  refine CW.sr fun K12 hK12 => ?_
  refine WL.m rfl ?_
  refine WL.a rfl ?_
  refine WL.nil (hK12 _ _ ?_); try clear hK12
  refine CW.seq fun K13 hK13 => ?_
  obtain ⟨a, ha⟩ : ∃ a, xs[x]? = some a := ⟨_, List.getElem?_eq_getElem om_⟩
  obtain ⟨b, hb⟩ : ∃ b, ys[x]? = some b := ⟨_, List.getElem?_eq_getElem om_⟩
  obtain ⟨aa, rfl, hma⟩ := hxs om_
  obtain ⟨ab, rfl, hmb⟩ := hys om_
  refine CW.quiet (fun wq => Ext w1 wq) kr_ kr_ Chg.drew ?_
  refine QL.m rfl ?_
  refine QL.m rfl ?_
  refine QL.v (fun wq hq => Y.indexAddrN Tryd.underlying32 rfl rfl sz0_uint8 om_) ?_
  refine QL.v (fun wq hq => Y.load1 Tryd.underlying5 rfl ((hma.ext hL1).ext hq (x * 1) _ (by rw [Nat.mul_one]; exact bytesC_get ha)) rfl) ?_
  refine QL.m rfl ?_
  refine QL.m rfl ?_
  refine QL.v (fun wq hq => Y.indexAddrN Tryd.underlying32 rfl rfl sz0_uint8 om_) ?_
  refine QL.v (fun wq hq => Y.load1 Tryd.underlying5 rfl ((hmb.ext hL1).ext hq (x * 1) _ (by rw [Nat.mul_one]; exact bytesC_get hb)) rfl) ?_
  refine QL.v (fun wq hq => Y.neq rfl rfl) ?_
  refine QL.nil fun w2 hx2 => ?_
  refine hK13 _ _ ?_; try clear hK13
  (first | refine cd_ rfl ?_ ?_ | refine ce_ rfl ?_ ?_ | refine cn_ rfl ?_ ?_ | refine cb_ rfl ?_ ?_) <;> intro ht14
  ·
   -- then
   refine CW.sr fun K15 hK15 => ?_
   refine WL.a rfl ?_
   refine WL.nil (hK15 _ _ ?_); try clear hK15
   refine CW.ret ⟨_, rfl, ?_⟩
   exact ⟨by rw [decide_eq_false (bytes_part ha hb (by assumption))], (hL1.thenExt hx2)⟩
  refine CW.skip ?_
  refine hK11 _ _ ?_; try clear hK11
  refine CW.region ?_
  refine WL.v (Y.add rfl rfl o2_) ?_
  refine WL.m rfl ?_
  refine WL.nil ?_
  refine ⟨x + 1, by omega, Fr.ok, by omega, bytes_more htk ha hb (by assumption), (hL1.thenExt hx2)⟩
 refine CW.exit ?_
 refine hK6 _ _ ?_; try clear hK6
 refine CW.sr fun K16 hK16 => ?_
 refine WL.a rfl ?_
 refine WL.nil (hK16 _ _ ?_); try clear hK16
 refine CW.ret ⟨_, rfl, ?_⟩
 exact ⟨by rw [decide_eq_true (bytes_whole om_ om_ htk)], hL1⟩
theorem stGet_any (g r : Nat) (l : List Ent) (d : Dig) (w : World) (hT : StoreAt w g r l) : Calls Tryd.prog 12 #[.pointer (some ⟨g, 0, none⟩), digV d] w (Ret fun v w' => ∃ u, v = .tuple #[u, .int .i64 (getI l d)] ∧ Own w' 5 1 u (bytesC (getB l d)) ∧ (∀ k, u.ownBlock = some k → w.heap.size ≤ k) ∧ Ext w w') := by
 have hB0 := hT.blk
 refine calls_of_CW 25 [4, 5] [(0, .pointer (some ⟨g, 0, none⟩)), (1, digV d)] Tryd.func12 rfl rfl rfl (by simp) args2 ?_
 have hE : Ext w w := Chg.refl
 refine CW.sr fun K1 hK1 => ?_
 refine WL.box rfl rfl de_ fun g3 w1 hx1 hg3 hB3 => ?_
 have hlt3 := hB3.lt; have hz1 := hx1.size
 have hM3 := hB3.mem; have hz1 := hx1.size; have hE := hE.thenExt hx1; have hT := hT.ext hx1; have hB0 := hB0.ext hx1
 refine WL.a rfl ?_
 refine WL.a rfl ?_
 refine WL.nil (hK1 _ _ ?_); try clear hK1
 refine CW.seq fun K2 hK2 => ?_
 refine CW.sr fun K3 hK3 => ?_
 refine WL.m rfl ?_
 refine WL.call Tryd.func23 rfl rfl rfl (made_any g r l _ hT) (by simp) ?_; rintro v w2 ⟨rfl, hx2⟩; have hz2 := hx2.size; have hE := hE.thenExt hx2; have hT := hT.ext hx2; have hB0 := hB0.ext hx2; have hB3 := hB3.ext hx2
 refine WL.v (Y.not rfl) ?_
 refine WL.nil (hK3 _ _ ?_); try clear hK3
 (first | refine cd_ rfl ?_ ?_ | refine ce_ rfl ?_ ?_ | refine cn_ rfl ?_ ?_ | refine cb_ rfl ?_ ?_) <;> intro ht4
 ·
  -- then
  refine CW.sr fun K5 hK5 => ?_
  refine WL.a rfl ?_
  refine WL.a rfl ?_
  refine WL.nil (hK5 _ _ ?_); try clear hK5
  refine CW.ret ⟨_, rfl, ?_⟩
  exact absurd (show true = false by assumption) de_
 refine CW.skip ?_
 refine hK2 _ _ ?_; try clear hK2
 refine CW.seq fun K6 hK6 => ?_
 refine CW.quiet (fun wq => Ext w2 wq) kr_ kr_ Chg.drew ?_
 refine QL.m rfl ?_
 refine QL.v (fun wq hq => Y.nilCheck rfl) ?_
 refine QL.v (fun wq hq => Y.fieldAddr fo_storeStore0 rfl) ?_
 refine QL.v (fun wq hq => Y.load1 Tryd.underlying64 rfl (hB0.ext hq).mem.storeStore0 rfl) ?_
 refine QL.v (fun wq hq => Y.load Tryd.underlying30 rfl (hB3.ext hq).mem (sz_apiDigest _) rfl) ?_
 refine QL.v (fun wq hq => Y.lookupOk keyDig (fun _ => rfl) UM zero_bytes rfl rfl ((hT.ext hq).map.choose_spec.1)) ?_
 refine QL.m rfl ?_
 refine QL.v (fun wq hq => Y.extract rfl rfl) ?_
 refine QL.v (fun wq hq => Y.extract rfl rfl) ?_
 refine QL.a rfl ?_
 refine QL.a rfl ?_
 refine QL.nil fun w3 hx3 => ?_
 have hz3 := hx3.size
 have hE := hE.thenExt hx3
 have hT := hT.ext hx3
 have hB0 := hB0.ext hx3
 have hB3 := hB3.ext hx3
 refine hK6 _ _ ?_; try clear hK6
 refine CW.seq fun K7 hK7 => ?_
 refine CW.sr fun K8 hK8 => ?_
 refine WL.m rfl ?_
 refine WL.v (Y.not rfl) ?_
 refine WL.nil (hK8 _ _ ?_); try clear hK8
 (first | refine cd_ rfl ?_ ?_ | refine ce_ rfl ?_ ?_ | refine cn_ rfl ?_ ?_ | refine cb_ rfl ?_ ?_) <;> intro ht9
 ·
  -- then
  refine CW.sr fun K10 hK10 => ?_
  refine WL.a rfl ?_
  refine WL.a rfl ?_
  refine WL.nil (hK10 _ _ ?_); try clear hK10
  refine CW.ret ⟨_, rfl, ?_⟩
  have hn := at_none (l := l) (d := d) (by assumption)
  exact ⟨_, by rw [getI, hn]; rfl, by rw [getB, hn]; exact Own.nil, fun k hk => (by cases hk), hE⟩
 refine CW.skip ?_
 refine hK7 _ _ ?_; try clear hK7
 refine CW.sr fun K11 hK11 => ?_
 refine WL.st (St.buildSlice0 Tryd.underlying32 sz_uint8) de_ fun v22 w4 hR4 => ?_
 obtain ⟨g22, rfl, hg22, hO22, hx4⟩ := hR4
 have hz4 := hx4.size
 have hE := hE.thenExt hx4
 have hT := hT.ext hx4
 obtain ⟨p, hp⟩ : ∃ p, at_ l d = some p := Option.isSome_iff_exists.1 (by assumption)
 obtain ⟨_, hj, _⟩ := mfind_some hp
 have hel := List.mem_of_getElem? hj
 have hv := hT.vals _ hel
 have hsh := hT.short _ hel
 obtain ⟨Av, mv, cv, hev⟩ := hv.lens
 rw [hev] at hv
 have hvl := hv.len.1
 rw [show mfind Ent.k d l 0 = some p from hp]
 refine WL.m rfl ?_
 refine WL.st (St.app (xs := []) (ys := p.2.b) (xv := .slice Av mv cv) Tryd.underlying32 Tryd.underlying32 ai_u8 rfl (by rw [← hev]; rfl) hO22 (Src.by hv) (by simp only [List.length_nil]; omega)) de_ fun v24 w5 hR5 => ?_
 have hfr : ∀ k, v24.ownBlock = some k → w.heap.size ≤ k := by
  rcases hR5.2.2 with h | h
  ·
   intro k hk; rw [h] at hk; simp [Value.ownBlock] at hk; omega
  ·
   intro k hk; have := h k hk; omega
 have hE := hE.step hR5.2.1 (fun k h => by simp [Value.ownBlock] at h; omega)
 refine WL.a rfl ?_
 refine WL.a rfl ?_
 refine WL.nil (hK11 _ _ ?_); try clear hK11
 refine CW.ret ⟨_, rfl, ?_⟩
 exact ⟨_, by rw [getI, hp]; rfl, by rw [getB, hp]; simpa using hR5.1, hfr, hE⟩
end Go.Proofs.YtfanmpbapabboaaDoor
/- rem and quo of naturals, slices of strings, as rules. No condition; no program. -/
namespace Go.Fw
open Go.RowKit
section
variable {P : Program} {n : NN} {fr : Fr} {w : World} {ty : TypeId}
theorem Y.remN {x y : Operand} {k : IntKind} {p q : Nat} {t t' : TypeId} (hx : ev fr x = some (.int k (p : Int))) (hy : ev fr y = some (.int k (q : Int))) (h : q ≠ 0) : Yw P n fr (.binOp .rem t x y t') ty w (.int k ((p % q : Nat) : Int)) w := Y.rem hx hy om_
theorem Y.quoN {x y : Operand} {p q : Nat} {t t' : TypeId} (hx : ev fr x = some (.int .i64 (p : Int))) (hy : ev fr y = some (.int .i64 (q : Int))) (h : q ≠ 0) (hp : p ≤ 9223372036854775807 := by omega) : Yw P n fr (.binOp .quo t x y t') ty w (.int .i64 ((p / q : Nat) : Int)) w := by
 have h1 := Y.quo (P := P) (n := n) (w := w) (ty := ty) (t := t) (t' := t') hx hy om_
 have e : IntKind.i64.wrap ((p : Int).tdiv (q : Int)) = ((p / q : Nat) : Int) := by
  rw [← Int.ofNat_tdiv]
  have h2 := Nat.div_le_self p q
  generalize p / q = r at h2
  exact wrap_i64_in o2_
 rwa [e] at h1
end
end Go.Fw
/- SHA-256's small functions, walked: RotateLeft32, right, the reference's turn, digit, word. No condition. -/
namespace Go.Proofs.YtfanmpbapabboaaDoor
open Go.RowKit Go.Fw Go.Pl
theorem rot_a : ∀ n : Nat, n < 32 → 1 ≤ n → IntKind.u64.wrap ((BitVec.ofInt IntKind.u64.bits (IntKind.u64.wrap (IntKind.i64.wrap (0 - (n : Int)))) &&& BitVec.ofInt IntKind.u64.bits 31).toNat : Int) = ((32 - n : Nat) : Int) := by decide +kernel
theorem rot_b : ∀ n : Nat, n < 32 → 1 ≤ n → IntKind.u64.wrap (32 - ((32 - n : Nat) : Int)) = (n : Int) := by decide +kernel
theorem rotl_any (x : UInt32) (n : Nat) (w : World) (h1 : 1 ≤ n) (h2 : n < 32) : Calls Tryd.prog 66 #[wd x, .int .i64 (IntKind.i64.wrap (0 - (n : Int)))] w (Ret fun v w' => v = wd (rotr x n) ∧ Ext w w') := by
 refine calls_of_CW 17 [4] [(0, wd x), (1, .int .i64 (IntKind.i64.wrap (0 - (n : Int))))] Tryd.func66 rfl rfl rfl (by simp) args2 ?_
 have hE : Ext w w := Chg.refl
 refine CW.sr fun K1 hK1 => ?_
 refine WL.a rfl ?_
 refine WL.nil (hK1 _ _ ?_); try clear hK1
 refine CW.sr fun K2 hK2 => ?_
 refine WL.m rfl ?_
 refine WL.v (Y.conv_int Tryd.underlying3 Tryd.underlying94 rfl) ?_
 refine WL.v (Y.and_k rfl rfl (rot_a n h2 h1)) ?_
 refine WL.a rfl ?_
 refine WL.nil (hK2 _ _ ?_); try clear hK2
 refine CW.sr fun K3 hK3 => ?_
 refine WL.m rfl ?_
 refine WL.m rfl ?_
 refine WL.v (Y.shlW (32 - n) rfl rfl rfl om_) ?_
 refine WL.m rfl ?_
 refine WL.m rfl ?_
 refine WL.v (Y.sub_k rfl rfl) ?_
 refine WL.v (Y.shrW n rfl rfl (rot_b n h2 h1) om_) ?_
 refine WL.v (Y.orW rfl rfl) ?_
 refine WL.a rfl ?_
 refine WL.nil (hK3 _ _ ?_); try clear hK3
 refine CW.ret ⟨_, rfl, ?_⟩
 exact ⟨by rw [rotr, UInt32.or_comm], hE⟩
theorem rightW_any (x : UInt32) (n : Nat) (w : World) (h1 : 1 ≤ n) (h2 : n < 32) : Calls Tryd.prog 55 #[wd x, .int .i64 (n : Int)] w (Ret fun v w' => v = wd (rotr x n) ∧ Ext w w') := by
 refine calls_of_CW 9 [4] [(0, wd x), (1, .int .i64 (n : Int))] Tryd.func55 rfl rfl rfl (by simp) args2 ?_
 have hE : Ext w w := Chg.refl
 refine CW.sr fun K1 hK1 => ?_
 refine WL.a rfl ?_
 refine WL.nil (hK1 _ _ ?_); try clear hK1
 refine CW.sr fun K2 hK2 => ?_
 refine WL.m rfl ?_
 refine WL.m rfl ?_
 refine WL.v (Y.neg rfl) ?_
 refine WL.call Tryd.func66 rfl rfl rfl (rotl_any x n _ h1 h2) (by simp) ?_; rintro v w1 ⟨rfl, hx1⟩; have hz1 := hx1.size; have hE := hE.thenExt hx1
 refine WL.a rfl ?_
 refine WL.nil (hK2 _ _ ?_); try clear hK2
 refine CW.ret ⟨_, rfl, ?_⟩
 exact ⟨rfl, hE⟩
end Go.Proofs.YtfanmpbapabboaaDoor
