/- Several texts as one: Xa, Xb, Xc, Xd. -/
import Derived.Test.YtoncdfpohdchgaaDoorMd
import Derived.Test.YtoncdfpohdchgaaDoorKg
import Derived.Test.YtoncdfpohdchgaaDoorM1
import Derived.Test.YtoncdfpohdchgaaDoorTr
import Derived.Test.YtoncdfpohdchgaaDoorOc
set_option linter.unusedSimpArgs false
set_option linter.unusedVariables false
/- What a store is in memory: its block, its map, its entries. No condition. -/
namespace Go.Fw
def storeC (r n : Nat) : List Value := [.map (some r), .int .i64 (n : Int)]
section
variable {w : World} {a : Addr} {r n : Nat} (h : Mem w a (storeC r n))
include h
theorem Mem.storeStore0 : w.cell? (a.add 0) = some (.map (some r)) := h.cell 0 rfl
theorem Mem.storeStore1 : w.cell? (a.add 1) = some (.int .i64 (n : Int)) := h.cell 1 rfl
end
end Go.Fw
namespace Go.Pl
open Go.Fw
/-- An entry: its digest, its bytes as a value, when it was laid, its bytes. -/
structure Ent where
  k : Dig
  v : Value
  born : Nat
  b : List UInt8
def Ent.me (e : Ent) : MapEntry := { key := digV e.k, val := e.v, born := e.born }
def total (l : List Ent) : Nat := (l.map fun e => e.b.length).sum
theorem total_app (l : List Ent) (e : Ent) : total (l ++ [e]) = total l + e.b.length := by simp [total]
theorem total_le {l : List Ent} {m : Nat} (h : ∀ e ∈ l, e.b.length ≤ m) : total l ≤ l.length * m := by
  induction l with
  | nil => simp [total]
  | cons e r ih =>
    have h1 := h e (by simp)
    have h2 := ih fun x hx => h x (by simp [hx])
    simp only [total, List.map_cons, List.sum_cons, List.length_cons, Nat.succ_mul] at h2 ⊢
    omega
theorem total_erase : ∀ {l : List Ent} {j : Nat} {e : Ent}, l[j]? = some e → total l = total (l.eraseIdx j) + e.b.length
  | [], j, e, h => by simp at h
  | x :: r, 0, e, h => by simp at h; subst h; simp [total]; omega
  | x :: r, j + 1, e, h => by
    have := total_erase (l := r) (j := j) (by simpa using h)
    simp only [total, List.eraseIdx_cons_succ, List.map_cons, List.sum_cons] at this ⊢
    omega
/-- Where the entry with a key stands. -/
abbrev at_ (l : List Ent) (d : Dig) : Option (Nat × Ent) := mfind Ent.k d l 0
theorem at_app_self {l : List Ent} {e : Ent} (h : at_ l e.k = none) : ∃ j, at_ (l ++ [e]) e.k = some (j, e) := by
  have key : ∀ (l : List Ent) (i : Nat), mfind Ent.k e.k l i = none → ∃ j, mfind Ent.k e.k (l ++ [e]) i = some (j, e) := by
    intro l
    induction l with
    | nil => intro i _; exact ⟨i, by simp [mfind]⟩
    | cons x r ih =>
      intro i hn
      unfold mfind at hn
      split at hn
      · cases hn
      · rename_i hne
        obtain ⟨j, hj⟩ := ih (i + 1) hn
        exact ⟨j, by rw [List.cons_append, mfind, if_neg hne]; exact hj⟩
  exact key l 0 h
/-- The keys are unlike. -/
abbrev Unlike (l : List Ent) : Prop := (l.map Ent.k).Nodup
theorem mfind_absent {l : List Ent} {d : Dig} : ∀ {i : Nat}, (∀ e ∈ l, e.k ≠ d) → mfind Ent.k d l i = none := by
  induction l with
  | nil => intro i _; rfl
  | cons x r ih =>
    intro i h
    rw [mfind, if_neg (h x (by simp))]
    exact ih fun e he => h e (by simp [he])
theorem unlike_app {l : List Ent} {e : Ent} (h : Unlike l) (hn : at_ l e.k = none) : Unlike (l ++ [e]) := by
  have := mfind_none hn
  simp only [Unlike, List.map_append, List.map_cons, List.map_nil, List.nodup_append]
  refine ⟨h, by simp, ?_⟩
  intro a ha b hb
  simp at hb; subst hb
  obtain ⟨x, hx, rfl⟩ := List.mem_map.1 ha
  exact this x hx
theorem unlike_erase {l : List Ent} {j : Nat} (h : Unlike l) : Unlike (l.eraseIdx j) := by
  have : (l.eraseIdx j).map Ent.k = (l.map Ent.k).eraseIdx j := ChangeMaps.map_eraseIdx _ _ _
  rw [Unlike, this]
  exact List.Nodup.sublist (List.eraseIdx_sublist _ _) h
theorem erase_none {l : List Ent} {d : Dig} {j : Nat} {e : Ent} (h : Unlike l) (hf : at_ l d = some (j, e)) : at_ (l.eraseIdx j) d = none := by
  obtain ⟨_, hj, hk⟩ := mfind_some hf
  rw [Nat.sub_zero] at hj
  refine mfind_absent fun x hx hxk => ?_
  obtain ⟨i, hi⟩ := List.mem_iff_getElem?.1 hx
  rw [List.getElem?_eraseIdx] at hi
  have hjl := (List.getElem?_eq_some_iff.1 hj).1
  split at hi
  · rename_i hlt
    have hil := (List.getElem?_eq_some_iff.1 hi).1
    have h1 : (l.map Ent.k)[i]? = some d := by simp [hi, hxk]
    have h2 : (l.map Ent.k)[j]? = some d := by simp [hj, hk]
    have := (List.getElem?_inj (by simpa using hil) h).1 (h1.trans h2.symm)
    omega
  · rename_i hge
    have hil := (List.getElem?_eq_some_iff.1 hi).1
    have h1 : (l.map Ent.k)[i + 1]? = some d := by simp [hi, hxk]
    have h2 : (l.map Ent.k)[j]? = some d := by simp [hj, hk]
    have := (List.getElem?_inj (by simpa using hil) h).1 (h1.trans h2.symm)
    omega
end Go.Pl
namespace Go.Proofs.YtoncdfpohdchgaaDoor
open Go.RowKit Go.Fw Go.Pl
abbrev TS_ : TypeId := 85
/-- The store at g, with its map at r, holds these entries. -/
structure StoreAt (w : World) (g r : Nat) (l : List Ent) : Prop where
  blk : Blk w g TS_ (storeC r (total l))
  map : ∃ cl, MapAt w r Ent.me l cl ∧ ∀ e ∈ l, e.born < cl
  born : (l.map Ent.born).Nodup
  vals : ∀ e ∈ l, By w e.v e.b
  low : ∀ e ∈ l, ∀ k, e.v.ownBlock = some k → k ≠ g ∧ k ≠ r ∧ k < w.heap.size
  keys : Unlike l
  few : l.length ≤ 500
  short : ∀ e ∈ l, e.b.length ≤ 131072
  ne : g ≠ r
section
variable {w w' : World} {g r : Nat} {l : List Ent} {S : Nat → Prop}
theorem StoreAt.chg (h : StoreAt w g r l) (hc : Chg S w w') (hg : ¬ S g) (hr : ¬ S r) (hv : ∀ e ∈ l, ∀ k, e.v.ownBlock = some k → ¬ S k) : StoreAt w' g r l where
  blk := h.blk.chg hc hg
  map := by obtain ⟨cl, h1, h2⟩ := h.map; exact ⟨cl, h1.chg hc hr, h2⟩
  born := h.born
  vals e he := (h.vals e he).chg hc fun _ k hk => hv e he k hk
  low e he k hk := by obtain ⟨h1, h2, h3⟩ := h.low e he k hk; exact ⟨h1, h2, Nat.lt_of_lt_of_le h3 hc.size⟩
  keys := h.keys
  few := h.few
  short := h.short
  ne := h.ne
theorem StoreAt.ext (h : StoreAt w g r l) (hc : Ext w w') : StoreAt w' g r l := h.chg hc (fun f => f) (fun f => f) (fun _ _ _ _ f => f)
theorem StoreAt.lt (h : StoreAt w g r l) : g < w.heap.size ∧ r < w.heap.size := ⟨h.blk.lt, by obtain ⟨_, h1, _⟩ := h.map; exact h1.lt⟩
/-- What is changed above a world keeps what lies below. -/
theorem StoreAt.far (h : StoreAt w g r l) (hc : Chg S w w') (hs : ∀ k, S k → w.heap.size ≤ k) : StoreAt w' g r l :=
  h.chg hc (fun x => by have := hs _ x; have := h.lt; omega) (fun x => by have := hs _ x; have := h.lt; omega) (fun e he k hk x => by have := hs _ x; have := h.low e he k hk; omega)
theorem StoreAt.size (h : StoreAt w g r l) : total l ≤ 65536000 := by
  have h1 := total_le h.short
  have h2 := h.few
  have : l.length * 131072 ≤ 500 * 131072 := Nat.mul_le_mul_right _ h2
  omega
end
/-- What the value of a look-up reads as. -/
def getB (l : List Ent) (d : Dig) : List UInt8 := match at_ l d with | some p => p.2.b | none => []
theorem at_none {l : List Ent} {d : Dig} (h : (mfind Ent.k d l 0).isSome = false) : at_ l d = none := by simpa using h
theorem StoreAt.look {w : World} {g r : Nat} {l : List Ent} (h : StoreAt w g r l) (d : Dig) : By w (mval Ent.me (.slice none 0 0) (mfind Ent.k d l 0)) (getB l d) := by
  unfold getB
  show By w _ (match mfind Ent.k d l 0 with | some p => p.2.b | none => [])
  cases hp : mfind Ent.k d l 0 with
  | none => exact Own.by (e := 0) (bs := []) Own.nil
  | some p =>
    obtain ⟨_, hj, _⟩ := mfind_some hp
    exact h.vals _ (List.mem_of_getElem? hj)
theorem StoreAt.push {w w' : World} {g r : Nat} {l : List Ent} {e : Ent} {S : Nat → Prop} (h : StoreAt w g r l) (hc : Chg S w w') (hS : ∀ k, S k → k = g ∨ k = r) (hB : Blk w' g TS_ (storeC r (total (l ++ [e]))))
    (hM : MapAt w' r Ent.me (l ++ [e]) (e.born + 1)) (hb : ∀ x ∈ l, x.born < e.born) (hv : By w' e.v e.b) (hl : ∀ k, e.v.ownBlock = some k → k ≠ g ∧ k ≠ r ∧ k < w'.heap.size) (hn : at_ l e.k = none) (hf : l.length < 500) (hs : e.b.length ≤ 131072) : StoreAt w' g r (l ++ [e]) where
  blk := hB
  map := ⟨_, hM, fun x hx => by
    rcases List.mem_append.1 hx with hx | hx
    · have := hb x hx; omega
    · simp at hx; subst hx; omega⟩
  born := by
    simp only [List.map_append, List.map_cons, List.map_nil, List.nodup_append]
    refine ⟨h.born, by simp, ?_⟩
    intro a ha c hc
    simp at hc; subst hc
    obtain ⟨x, hx, rfl⟩ := List.mem_map.1 ha
    have := hb x hx; omega
  vals x hx := by
    rcases List.mem_append.1 hx with hx | hx
    · exact (h.vals x hx).chg hc fun _ k hk hSk => by have := h.low x hx k hk; have := hS k hSk; omega
    · simp at hx; subst hx; exact hv
  low x hx k hk := by
    rcases List.mem_append.1 hx with hx | hx
    · obtain ⟨h1, h2, h3⟩ := h.low x hx k hk; exact ⟨h1, h2, Nat.lt_of_lt_of_le h3 hc.size⟩
    · simp at hx; subst hx; exact hl k hk
  keys := unlike_app h.keys hn
  few := by simp; omega
  short x hx := by
    rcases List.mem_append.1 hx with hx | hx
    · exact h.short x hx
    · simp at hx; subst hx; exact hs
  ne := h.ne
theorem StoreAt.erase {w w' : World} {g r : Nat} {l : List Ent} {j cl : Nat} {S : Nat → Prop} (h : StoreAt w g r l) (hc : Chg S w w') (hS : ∀ k, S k → k = g ∨ k = r) (hB : Blk w' g TS_ (storeC r (total (l.eraseIdx j))))
    (hM : MapAt w' r Ent.me (l.eraseIdx j) cl) (hb : ∀ x ∈ l, x.born < cl) : StoreAt w' g r (l.eraseIdx j) where
  blk := hB
  map := ⟨_, hM, fun x hx => hb x (List.mem_of_mem_eraseIdx hx)⟩
  born := by
    rw [show (l.eraseIdx j).map Ent.born = (l.map Ent.born).eraseIdx j from ChangeMaps.map_eraseIdx _ _ _]
    exact List.Nodup.sublist (List.eraseIdx_sublist _ _) h.born
  vals x hx := (h.vals x (List.mem_of_mem_eraseIdx hx)).chg hc fun _ k hk hSk => by have := h.low x (List.mem_of_mem_eraseIdx hx) k hk; have := hS k hSk; omega
  low x hx k hk := by obtain ⟨h1, h2, h3⟩ := h.low x (List.mem_of_mem_eraseIdx hx) k hk; exact ⟨h1, h2, Nat.lt_of_lt_of_le h3 hc.size⟩
  keys := unlike_erase h.keys
  few := by have := h.few; have := List.length_eraseIdx_le l j; omega
  short x hx := h.short x (List.mem_of_mem_eraseIdx hx)
  ne := h.ne
theorem sz0_suint8 : (Tryd.prog.info? 33).map (·.size) = some 1 := by kernel_rfl
theorem fo_storeStore0 : FieldOff Tryd.prog TS_ 0 0 := ⟨_, _, 1, Tryd.underlying85, rfl, by kernel_rfl, by decide, rfl⟩
theorem fo_storeStore1 : FieldOff Tryd.prog TS_ 1 1 := ⟨_, _, 1, Tryd.underlying85, rfl, sz_int, by decide, rfl⟩
theorem zero_bytes (w : World) : (zeroValue 33).run Tryd.prog w = .ok (.slice none 0 0) w := by
  have h : (Tryd.prog.info? 33).map (fun i => i.zero) = some (some (.slice none 0 0)) := by kernel_rfl
  cases hi : Tryd.prog.info? 33 with
  | none => simp [hi] at h
  | some i => simp [hi] at h; simp [zeroValue, typeInfo, hi, h]
end Go.Proofs.YtoncdfpohdchgaaDoor

/- A store: New, made, Len, Size, Get, Has, walked; slices.Equal at bytes. No condition. -/
namespace Go.Proofs.YtoncdfpohdchgaaDoor
open Go.RowKit Go.Fw Go.Pl
theorem eqIn_stp (d : Nat) (a : Addr) (w : World) : (Op.equalIn (d + 1) 49 (.pointer (some a)) (.pointer none)).run Tryd.prog w = .ok false w := by
  rw [Op.equalIn, Sem.run_bind, run_underlying Tryd.underlying49]
  rfl
section
variable {n : NN} {fr : Fr} {w : World} {ty : TypeId} {x y : Operand} {t' : TypeId}
theorem Y.eql_storeStore {a : Addr} (hx : ev fr x = some (.pointer (some a))) (hy : ev fr y = some (.pointer none)) : Yw Tryd.prog n fr (.binOp .eql 49 x y t') ty w (.bool false) w :=
  Y.bin hx hy (by simp [eqGuard]) (by
    simp only [binOp, Op.equal, Sem.run_bind]
    rw [show Op.maxDepth = 9999 + 1 from rfl, eqIn_stp 9999]
    rfl)
theorem Y.neq_storeStore {a : Addr} (hx : ev fr x = some (.pointer (some a))) (hy : ev fr y = some (.pointer none)) : Yw Tryd.prog n fr (.binOp .neq 49 x y t') ty w (.bool true) w :=
  Y.bin hx hy (by simp [eqGuard]) (by
    simp only [binOp, Op.equal, Sem.run_bind]
    rw [show Op.maxDepth = 9999 + 1 from rfl, eqIn_stp 9999]
    rfl)
end
theorem build_store (r : Nat) (w : World) : (Instr.build TS_ [(0, Value.map (some r))].toArray).run Tryd.prog w = .ok (.agg (storeC r 0).toArray) w := run_build w _ _ _ (by kernel_rfl)
abbrev UM := Tryd.underlying83
theorem bytes_part {xs ys : List UInt8} {i : Nat} {a b : UInt8} (ha : xs[i]? = some a) (hb : ys[i]? = some b) (h : (a.toNat : Int) ≠ b.toNat) : xs ≠ ys := by
  rintro rfl; rw [ha] at hb; injection hb with hb; subst hb; exact h rfl
theorem bytes_more {xs ys : List UInt8} {i : Nat} {a b : UInt8} (ht : xs.take i = ys.take i) (ha : xs[i]? = some a) (hb : ys[i]? = some b) (h : ¬ ((a.toNat : Int) ≠ b.toNat)) : xs.take (i + 1) = ys.take (i + 1) := by
  have : a = b := UInt8.toNat_inj.1 (by omega)
  rw [take_succ ha, take_succ hb, ht, this]
theorem bytes_whole {α : Type} {xs ys : List α} {i : Nat} (hl : xs.length = ys.length) (hi : xs.length ≤ i) (ht : xs.take i = ys.take i) : xs = ys := by
  rwa [List.take_of_length_le hi, List.take_of_length_le (by omega)] at ht
def getI (l : List Ent) (d : Dig) : Int := if (at_ l d).isSome then 0 else 5

theorem made_any (g r : Nat) (l : List Ent) (w : World) (hT : StoreAt w g r l) : Calls Tryd.prog 42 #[.pointer (some ⟨g, 0, none⟩)] w (Ret fun v w' => v = .bool true ∧ Ext w w') := by
  have hB0 := hT.blk
  refine calls_of_CW 12 [2] [(0, .pointer (some ⟨g, 0, none⟩))] Tryd.func42 rfl rfl rfl (by simp) args1 ?_
  have hE : Ext w w := Chg.refl
  refine CW.seq fun K1 hK1 => ?_
  refine CW.region ?_   -- region 0
  refine WL.val (Y.assign rfl) (by decide) ?_   -- t2 := assign c(false)
  refine WL.nil ?_
  refine hK1 _ _ ?_; try clear hK1 K1
  refine CW.seq fun K2 hK2 => ?_
  refine CW.region ?_   -- region 1
  refine WL.val (Y.move rfl) (by decide) ?_   -- t3 := move t0
  refine WL.val (Y.neq_storeStore rfl rfl) (by decide) ?_   -- t4 := binOp neq 49 t3 c(['Go.Value.pointer', 'none']) 49
  refine WL.val (Y.move rfl) (by decide) ?_   -- t5 := move t4
  refine WL.know (d := 5) (u := .bool true) rfl (by rfl) ?_
  refine WL.gval rfl rfl (Y.move rfl) (by decide) ?_   -- t6 := move t0 [if 2=true]
  refine WL.gval rfl rfl (Y.nilCheck rfl) (by decide) ?_   -- t7 := nilCheck t6 [if 2=true]
  refine WL.gval rfl rfl (Y.fieldAddr fo_storeStore0 rfl) (by decide) ?_   -- t8 := fieldAddr 85 t7 0 [if 2=true]
  refine WL.gval rfl rfl (Y.load1 Tryd.underlying83 rfl hB0.mem.storeStore0 rfl) (by decide) ?_   -- t9 := load 83 t8 [if 2=true]
  refine WL.gval rfl rfl (Y.neq_nilmap Tryd.underlying83 rfl) (by decide) ?_   -- t10 := binOp neq 83 t9 c(['Go.Value.map', 'none']) 83 [if 2=true]
  refine WL.val (Y.pick rfl rfl) (by decide) ?_   -- t11 := pick t5 t10 c(false)
  refine WL.val (Y.assign rfl) (by decide) ?_   -- t2 := assign t11
  refine WL.nil ?_
  refine hK2 _ _ ?_; try clear hK2 K2
  refine CW.ret ⟨_, rfl, ?_⟩
  exact ⟨rfl, hE⟩
theorem stNew_any (w : World) : Calls Tryd.prog 39 #[] w (Ret fun v w' => ∃ g r, v = .pointer (some ⟨g, 0, none⟩) ∧ w.heap.size ≤ g ∧ w.heap.size ≤ r ∧ StoreAt w' g r [] ∧ Ext w w') := by
  refine calls_of_CW 4 [0] [] Tryd.func39 rfl rfl rfl (by simp) args0 ?_
  have hE : Ext w w := Chg.refl
  refine CW.seq fun K1 hK1 => ?_
  refine CW.region ?_   -- region 0
  refine WL.val (Y.assign rfl) (by decide) ?_   -- t0 := assign c(['Go.Value.pointer', 'none'])
  refine WL.nil ?_
  refine hK1 _ _ ?_; try clear hK1 K1
  refine CW.seq fun K2 hK2 => ?_
  refine CW.region ?_   -- region 1
  refine WL.st (St.makeMap) (by decide) fun v1 w1 hR1 => ?_   -- t1 := makeMap 83 none
  obtain ⟨r, rfl, hr, hMp, hx1⟩ := hR1
  have hz1 := hx1.size
  have hE := hE.thenExt hx1
  refine WL.val (Y.build rfl (build_store r _)) (by decide) ?_   -- t2 := build 85 [(0,t1)]
  refine WL.box rfl rfl (by decide) fun g3 w2 hx2 hg3 hB3 => ?_   -- t3 := box 85 t2
  have hlt3 := hB3.lt; have hz2 := hx2.size
  have hM3 := hB3.mem; have hz2 := hx2.size; have hE := hE.thenExt hx2
  refine WL.val (Y.assign rfl) (by decide) ?_   -- t0 := assign t3
  refine WL.nil ?_
  refine hK2 _ _ ?_; try clear hK2 K2
  refine CW.ret ⟨_, rfl, ?_⟩
  exact ⟨g3, r, rfl, by omega, by omega, ⟨hB3, ⟨0, (hMp Ent Ent.me).ext hx2, fun e he => (nomatch he)⟩, List.nodup_nil, fun e he => (nomatch he), fun e he => (nomatch he), List.nodup_nil, Nat.zero_le _, fun e he => (nomatch he), (by have := (hMp Ent Ent.me).lt; omega)⟩, hE⟩
theorem stLen_any (g r : Nat) (l : List Ent) (w : World) (hT : StoreAt w g r l) : Calls Tryd.prog 23 #[.pointer (some ⟨g, 0, none⟩)] w (Ret fun v w' => v = .int .i64 (l.length : Int) ∧ Ext w w') := by
  have hB0 := hT.blk
  refine calls_of_CW 11 [2] [(0, .pointer (some ⟨g, 0, none⟩))] Tryd.func23 rfl rfl rfl (by simp) args1 ?_
  have hE : Ext w w := Chg.refl
  refine CW.seq fun K1 hK1 => ?_
  refine CW.region ?_   -- region 0
  refine WL.val (Y.assign rfl) (by decide) ?_   -- t2 := assign c(0:i64)
  refine WL.nil ?_
  refine hK1 _ _ ?_; try clear hK1 K1
  refine CW.seq fun K2 hK2 => ?_
  refine CW.seq fun K3 hK3 => ?_
  refine CW.region ?_   -- region 1
  refine WL.val (Y.move rfl) (by decide) ?_   -- t3 := move t0
  refine WL.call Tryd.func42 rfl rfl rfl (made_any g r l _ hT) (by simp) ?_; rintro v w1 ⟨rfl, hx1⟩; have hz1 := hx1.size; have hE := hE.thenExt hx1; have hT := hT.ext hx1; have hB0 := hB0.ext hx1   -- t4 := call F42(t3) : 49
  refine WL.val (Y.not rfl) (by decide) ?_   -- t5 := unOp not 4 t4
  refine WL.nil ?_
  refine hK3 _ _ ?_; try clear hK3 K3
  first | refine CW.condD rfl (fun ht4 => ?_) (fun ht4 => ?_) | refine CW.condND rfl (fun ht4 => ?_) (fun ht4 => ?_) | refine CW.condN rfl (fun ht4 => ?_) (fun ht4 => ?_) | refine CW.cond rfl (fun ht4 => ?_) (fun ht4 => ?_)
  · -- then
    refine CW.seq fun K5 hK5 => ?_
    refine CW.region ?_   -- region 2
    refine WL.val (Y.assign rfl) (by decide) ?_   -- t2 := assign c(0:i64)
    refine WL.nil ?_
    refine hK5 _ _ ?_; try clear hK5 K5
    refine CW.ret ⟨_, rfl, ?_⟩
    exact absurd (show true = false by assumption) (by decide)
  -- else
  refine CW.skip ?_
  refine hK2 _ _ ?_; try clear hK2 K2
  refine CW.seq fun K6 hK6 => ?_
  refine CW.region ?_   -- region 3
  refine WL.val (Y.move rfl) (by decide) ?_   -- t6 := move t0
  refine WL.val (Y.nilCheck rfl) (by decide) ?_   -- t7 := nilCheck t6
  refine WL.val (Y.fieldAddr fo_storeStore0 rfl) (by decide) ?_   -- t8 := fieldAddr 85 t7 0
  refine WL.val (Y.load1 Tryd.underlying83 rfl hB0.mem.storeStore0 rfl) (by decide) ?_   -- t9 := load 83 t8
  refine WL.val (Y.len_map Tryd.underlying83 rfl hT.map.choose_spec.1) (by decide) ?_   -- t10 := call len(t9) : 83
  refine WL.val (Y.assign rfl) (by decide) ?_   -- t2 := assign t10
  refine WL.nil ?_
  refine hK6 _ _ ?_; try clear hK6 K6
  refine CW.ret ⟨_, rfl, ?_⟩
  exact ⟨rfl, hE⟩
theorem eqb_any (u v : Value) (xs ys : List UInt8) (w : World) (hu : By w u xs) (hv : By w v ys) : Calls Tryd.prog 56 #[u, v] w (Ret fun r w' => r = .bool (decide (xs = ys)) ∧ Ext w w') := by
  obtain ⟨A, m, c, rfl, hm, hmc, hcm, hxs, _⟩ := hu
  obtain ⟨B, n, d, rfl, hn, hnd, hdm, hys, _⟩ := hv
  unfold maxLen at hcm hdm
  refine calls_of_CW 26 [4] [(0, .slice A m c), (1, .slice B n d)] Tryd.func56 rfl rfl rfl (by simp) args2 ?_
  refine CW.seq fun K1 hK1 => ?_
  refine CW.region ?_   -- region 0
  refine WL.val (Y.assign rfl) (by decide) ?_   -- t4 := assign c(false)
  refine WL.nil ?_
  refine hK1 _ _ ?_; try clear hK1 K1
  refine CW.seq fun K2 hK2 => ?_
  refine CW.seq fun K3 hK3 => ?_
  refine CW.region ?_   -- region 1
  refine WL.val (Y.move rfl) (by decide) ?_   -- t6 := move t0
  refine WL.val (Y.len_slice Tryd.underlying33 rfl) (by decide) ?_   -- t7 := call len(t6) : 33
  refine WL.val (Y.move rfl) (by decide) ?_   -- t8 := move t1
  refine WL.val (Y.len_slice Tryd.underlying33 rfl) (by decide) ?_   -- t9 := call len(t8) : 33
  refine WL.val (Y.neq rfl rfl) (by decide) ?_   -- t10 := binOp neq 3 t7 t9 3
  refine WL.nil ?_
  refine hK3 _ _ ?_; try clear hK3 K3
  first | refine CW.condD rfl (fun ht4 => ?_) (fun ht4 => ?_) | refine CW.condND rfl (fun ht4 => ?_) (fun ht4 => ?_) | refine CW.condN rfl (fun ht4 => ?_) (fun ht4 => ?_) | refine CW.cond rfl (fun ht4 => ?_) (fun ht4 => ?_)
  · -- then
    refine CW.seq fun K5 hK5 => ?_
    refine CW.region ?_   -- region 2
    refine WL.val (Y.assign rfl) (by decide) ?_   -- t4 := assign c(false)
    refine WL.nil ?_
    refine hK5 _ _ ?_; try clear hK5 K5
    refine CW.ret ⟨_, rfl, ?_⟩
    exact ⟨by rw [decide_eq_false (fun e => by subst e; omega)], Chg.refl⟩
  -- else
  refine CW.skip ?_
  refine hK2 _ _ ?_; try clear hK2 K2
  refine CW.seq fun K6 hK6 => ?_
  refine CW.seq fun K7 hK7 => ?_
  refine CW.region ?_   -- region 3
  refine WL.val (Y.move rfl) (by decide) ?_   -- t11 := move t0
  refine WL.val (Y.len_slice Tryd.underlying33 rfl) (by decide) ?_   -- t12 := call len(t11) : 33
  refine WL.val (Y.move rfl) (by decide) ?_   -- t13 := move c(0:i64)
  refine WL.nil ?_
  refine hK7 _ _ ?_; try clear hK7 K7
  refine CW.block ?_   -- block 0
  refine CW.loop (X := Nat) (fun x => [(0, .slice A m c), (1, .slice B n d), (12, .int .i64 (m : Int)), (13, .int .i64 (x : Int))]) (fun x w0 => x ≤ m ∧ xs.take x = ys.take x ∧ Ext w w0) (fun x => m - x) 0 (by repeat (first | exact Fr.le.nil | refine Fr.le.cons rfl ?_)) ⟨Nat.zero_le _, rfl, Chg.refl⟩ ?_
  intro x w1 hl1
  obtain ⟨hi, htk, hL1⟩ := hl1
  refine CW.seq fun K8 hK8 => ?_
  refine CW.region ?_   -- region 4
  refine WL.val (Y.lss rfl rfl) (by decide) ?_   -- t14 := binOp lss 3 t13 t12 3
  refine WL.nil ?_
  refine hK8 _ _ ?_; try clear hK8 K8
  refine CW.seq fun K9 hK9 => ?_
  first | refine CW.condD rfl (fun ht10 => ?_) (fun ht10 => ?_) | refine CW.condND rfl (fun ht10 => ?_) (fun ht10 => ?_) | refine CW.condN rfl (fun ht10 => ?_) (fun ht10 => ?_) | refine CW.cond rfl (fun ht10 => ?_) (fun ht10 => ?_)
  · -- then
    refine CW.skip ?_
    refine hK9 _ _ ?_; try clear hK9 K9
    refine CW.seq fun K11 hK11 => ?_
    refine CW.block ?_   -- block 1
    refine CW.seq fun K12 hK12 => ?_
    refine CW.region ?_   -- region 5
    refine WL.val (Y.move rfl) (by decide) ?_   -- t15 := move t13
    refine WL.val (Y.assign rfl) (by decide) ?_   -- t5 := assign t15
    refine WL.nil ?_
    refine hK12 _ _ ?_; try clear hK12 K12
    refine CW.seq fun K13 hK13 => ?_
    obtain ⟨a, ha⟩ : ∃ a, xs[x]? = some a := ⟨_, List.getElem?_eq_getElem (by omega)⟩
    obtain ⟨b, hb⟩ : ∃ b, ys[x]? = some b := ⟨_, List.getElem?_eq_getElem (by omega)⟩
    obtain ⟨aa, rfl, hma⟩ := hxs (by omega)
    obtain ⟨ab, rfl, hmb⟩ := hys (by omega)
    refine CW.quiet (fun wq => Ext w1 wq) (by kernel_rfl) (by kernel_rfl) Chg.drew ?_
    refine QL.val (fun wq hq => Y.move rfl) (by decide) ?_   -- t16 := move t0
    refine QL.val (fun wq hq => Y.move rfl) (by decide) ?_   -- t17 := move t5
    refine QL.val (fun wq hq => Y.indexAddrN Tryd.underlying33 rfl rfl sz0_uint8 (by omega)) (by decide) ?_   -- t18 := indexAddr 33 t16 t17
    refine QL.val (fun wq hq => Y.load1 Tryd.underlying5 rfl ((hma.ext hL1).ext hq (x * 1) _ (by rw [Nat.mul_one]; exact bytesC_get ha)) rfl) (by decide) ?_   -- t19 := load 5 t18
    refine QL.val (fun wq hq => Y.move rfl) (by decide) ?_   -- t20 := move t1
    refine QL.val (fun wq hq => Y.move rfl) (by decide) ?_   -- t21 := move t5
    refine QL.val (fun wq hq => Y.indexAddrN Tryd.underlying33 rfl rfl sz0_uint8 (by omega)) (by decide) ?_   -- t22 := indexAddr 33 t20 t21
    refine QL.val (fun wq hq => Y.load1 Tryd.underlying5 rfl ((hmb.ext hL1).ext hq (x * 1) _ (by rw [Nat.mul_one]; exact bytesC_get hb)) rfl) (by decide) ?_   -- t23 := load 5 t22
    refine QL.val (fun wq hq => Y.neq rfl rfl) (by decide) ?_   -- t24 := binOp neq 5 t19 t23 5
    refine QL.nil fun w2 hx2 => ?_
    refine hK13 _ _ ?_; try clear hK13 K13
    first | refine CW.condD rfl (fun ht14 => ?_) (fun ht14 => ?_) | refine CW.condND rfl (fun ht14 => ?_) (fun ht14 => ?_) | refine CW.condN rfl (fun ht14 => ?_) (fun ht14 => ?_) | refine CW.cond rfl (fun ht14 => ?_) (fun ht14 => ?_)
    · -- then
      refine CW.seq fun K15 hK15 => ?_
      refine CW.region ?_   -- region 7
      refine WL.val (Y.assign rfl) (by decide) ?_   -- t4 := assign c(false)
      refine WL.nil ?_
      refine hK15 _ _ ?_; try clear hK15 K15
      refine CW.ret ⟨_, rfl, ?_⟩
      exact ⟨by rw [decide_eq_false (bytes_part ha hb (by assumption))], (hL1.thenExt hx2)⟩
    -- else
    refine CW.skip ?_
    refine hK11 _ _ ?_; try clear hK11 K11
    refine CW.region ?_   -- region 8
    refine WL.val (Y.add rfl rfl ⟨by omega, by omega⟩) (by decide) ?_   -- t25 := binOp add 3 t13 c(1:i64) 3
    refine WL.val (Y.move rfl) (by decide) ?_   -- t13 := move t25
    refine WL.nil ?_
    refine ⟨x + 1, by omega, (by repeat (first | exact Fr.le.nil | refine Fr.le.cons rfl ?_)), by omega, bytes_more htk ha hb (by assumption), (hL1.thenExt hx2)⟩
  -- else
  refine CW.exit ?_   -- exit 0
  refine hK6 _ _ ?_; try clear hK6 K6
  refine CW.seq fun K16 hK16 => ?_
  refine CW.region ?_   -- region 9
  refine WL.val (Y.assign rfl) (by decide) ?_   -- t4 := assign c(true)
  refine WL.nil ?_
  refine hK16 _ _ ?_; try clear hK16 K16
  refine CW.ret ⟨_, rfl, ?_⟩
  exact ⟨by rw [decide_eq_true (bytes_whole (by omega) (by omega) htk)], hL1⟩
theorem stGet_any (g r : Nat) (l : List Ent) (d : Dig) (w : World) (hT : StoreAt w g r l) : Calls Tryd.prog 37 #[.pointer (some ⟨g, 0, none⟩), digV d] w (Ret fun v w' => ∃ u, v = .tuple #[u, .int .i64 (getI l d)] ∧ Own w' 5 1 u (bytesC (getB l d)) ∧ (∀ k, u.ownBlock = some k → w.heap.size ≤ k) ∧ Ext w w') := by
  have hB0 := hT.blk
  refine calls_of_CW 25 [4, 5] [(0, .pointer (some ⟨g, 0, none⟩)), (1, digV d)] Tryd.func37 rfl rfl rfl (by simp) args2 ?_
  have hE : Ext w w := Chg.refl
  refine CW.seq fun K1 hK1 => ?_
  refine CW.region ?_   -- region 0
  refine WL.box rfl rfl (by decide) fun g3 w1 hx1 hg3 hB3 => ?_   -- t3 := box 31 t1
  have hlt3 := hB3.lt; have hz1 := hx1.size
  have hM3 := hB3.mem; have hz1 := hx1.size; have hE := hE.thenExt hx1; have hT := hT.ext hx1; have hB0 := hB0.ext hx1
  refine WL.val (Y.assign rfl) (by decide) ?_   -- t4 := assign c(nilslice)
  refine WL.val (Y.assign rfl) (by decide) ?_   -- t5 := assign c(0:i64)
  refine WL.nil ?_
  refine hK1 _ _ ?_; try clear hK1 K1
  refine CW.seq fun K2 hK2 => ?_
  refine CW.seq fun K3 hK3 => ?_
  refine CW.region ?_   -- region 1
  refine WL.val (Y.move rfl) (by decide) ?_   -- t8 := move t0
  refine WL.call Tryd.func42 rfl rfl rfl (made_any g r l _ hT) (by simp) ?_; rintro v w2 ⟨rfl, hx2⟩; have hz2 := hx2.size; have hE := hE.thenExt hx2; have hT := hT.ext hx2; have hB0 := hB0.ext hx2; have hB3 := hB3.ext hx2   -- t9 := call F42(t8) : 49
  refine WL.val (Y.not rfl) (by decide) ?_   -- t10 := unOp not 4 t9
  refine WL.nil ?_
  refine hK3 _ _ ?_; try clear hK3 K3
  first | refine CW.condD rfl (fun ht4 => ?_) (fun ht4 => ?_) | refine CW.condND rfl (fun ht4 => ?_) (fun ht4 => ?_) | refine CW.condN rfl (fun ht4 => ?_) (fun ht4 => ?_) | refine CW.cond rfl (fun ht4 => ?_) (fun ht4 => ?_)
  · -- then
    refine CW.seq fun K5 hK5 => ?_
    refine CW.region ?_   -- region 2
    refine WL.val (Y.assign rfl) (by decide) ?_   -- t4 := assign c(nilslice)
    refine WL.val (Y.assign rfl) (by decide) ?_   -- t5 := assign c(2:i64)
    refine WL.nil ?_
    refine hK5 _ _ ?_; try clear hK5 K5
    refine CW.ret ⟨_, rfl, ?_⟩
    exact absurd (show true = false by assumption) (by decide)
  -- else
  refine CW.skip ?_
  refine hK2 _ _ ?_; try clear hK2 K2
  refine CW.seq fun K6 hK6 => ?_
  refine CW.quiet (fun wq => Ext w2 wq) (by kernel_rfl) (by kernel_rfl) Chg.drew ?_
  refine QL.val (fun wq hq => Y.move rfl) (by decide) ?_   -- t12 := move t0
  refine QL.val (fun wq hq => Y.nilCheck rfl) (by decide) ?_   -- t13 := nilCheck t12
  refine QL.val (fun wq hq => Y.fieldAddr fo_storeStore0 rfl) (by decide) ?_   -- t14 := fieldAddr 85 t13 0
  refine QL.val (fun wq hq => Y.load1 Tryd.underlying83 rfl (hB0.ext hq).mem.storeStore0 rfl) (by decide) ?_   -- t15 := load 83 t14
  refine QL.val (fun wq hq => Y.load Tryd.underlying31 rfl (hB3.ext hq).mem (sz_apiDigest _) rfl) (by decide) ?_   -- t16 := load 31 t3
  refine QL.val (fun wq hq => Y.lookupOk keyDig (fun _ => rfl) UM zero_bytes rfl rfl ((hT.ext hq).map.choose_spec.1)) (by decide) ?_   -- t17 := lookup 83 t15 t16 true
  refine QL.val (fun wq hq => Y.move rfl) (by decide) ?_   -- t11 := move t17
  refine QL.val (fun wq hq => Y.extract rfl rfl) (by decide) ?_   -- t18 := extract t11 0
  refine QL.val (fun wq hq => Y.extract rfl rfl) (by decide) ?_   -- t19 := extract t11 1
  refine QL.val (fun wq hq => Y.assign rfl) (by decide) ?_   -- t6 := assign t18
  refine QL.val (fun wq hq => Y.assign rfl) (by decide) ?_   -- t7 := assign t19
  refine QL.nil fun w3 hx3 => ?_
  have hz3 := hx3.size
  have hE := hE.thenExt hx3
  have hT := hT.ext hx3
  have hB0 := hB0.ext hx3
  have hB3 := hB3.ext hx3
  refine hK6 _ _ ?_; try clear hK6 K6
  refine CW.seq fun K7 hK7 => ?_
  refine CW.seq fun K8 hK8 => ?_
  refine CW.region ?_   -- region 4
  refine WL.val (Y.move rfl) (by decide) ?_   -- t20 := move t7
  refine WL.val (Y.not rfl) (by decide) ?_   -- t21 := unOp not 4 t20
  refine WL.nil ?_
  refine hK8 _ _ ?_; try clear hK8 K8
  first | refine CW.condD rfl (fun ht9 => ?_) (fun ht9 => ?_) | refine CW.condND rfl (fun ht9 => ?_) (fun ht9 => ?_) | refine CW.condN rfl (fun ht9 => ?_) (fun ht9 => ?_) | refine CW.cond rfl (fun ht9 => ?_) (fun ht9 => ?_)
  · -- then
    refine CW.seq fun K10 hK10 => ?_
    refine CW.region ?_   -- region 5
    refine WL.val (Y.assign rfl) (by decide) ?_   -- t4 := assign c(nilslice)
    refine WL.val (Y.assign rfl) (by decide) ?_   -- t5 := assign c(5:i64)
    refine WL.nil ?_
    refine hK10 _ _ ?_; try clear hK10 K10
    refine CW.ret ⟨_, rfl, ?_⟩
    have hn := at_none (l := l) (d := d) (by assumption)
    exact ⟨_, by rw [getI, hn]; rfl, by rw [getB, hn]; exact Own.nil, fun k hk => (by cases hk), hE⟩
  -- else
  refine CW.skip ?_
  refine hK7 _ _ ?_; try clear hK7 K7
  refine CW.seq fun K11 hK11 => ?_
  refine CW.region ?_   -- region 6
  refine WL.st (St.buildSlice0 Tryd.underlying33 sz_uint8) (by decide) fun v22 w4 hR4 => ?_   -- t22 := buildSlice 33 0 []
  obtain ⟨g22, rfl, hg22, hO22, hx4⟩ := hR4
  have hz4 := hx4.size
  have hE := hE.thenExt hx4
  have hT := hT.ext hx4
  obtain ⟨p, hp⟩ : ∃ p, at_ l d = some p := Option.isSome_iff_exists.1 (by assumption)
  obtain ⟨_, hj, _⟩ := mfind_some hp
  have hel := List.mem_of_getElem? hj
  have hv := hT.vals _ hel
  have hsh := hT.short _ hel
  obtain ⟨Av, mv, cv, hev⟩ := hv.lens
  rw [hev] at hv
  have hvl := hv.len.1
  rw [show mfind Ent.k d l 0 = some p from hp]
  refine WL.val (Y.move rfl) (by decide) ?_   -- t23 := move t6
  refine WL.st (St.app (xs := []) (ys := p.2.b) (xv := .slice Av mv cv) Tryd.underlying33 Tryd.underlying33 ai_u8 rfl (by rw [← hev]; rfl) hO22 (Src.by hv) (by simp only [List.length_nil]; omega)) (by decide) fun v24 w5 hR5 => ?_   -- t24 := call append(t22, t23) : 33,33
  have hfr : ∀ k, v24.ownBlock = some k → w.heap.size ≤ k := by
    rcases hR5.2.2 with h | h
    · intro k hk; rw [h] at hk; simp [Value.ownBlock] at hk; omega
    · intro k hk; have := h k hk; omega
  have hE := hE.step hR5.2.1 (fun k h => by simp [Value.ownBlock] at h; omega)
  refine WL.val (Y.assign rfl) (by decide) ?_   -- t4 := assign t24
  refine WL.val (Y.assign rfl) (by decide) ?_   -- t5 := assign c(0:i64)
  refine WL.nil ?_
  refine hK11 _ _ ?_; try clear hK11 K11
  refine CW.ret ⟨_, rfl, ?_⟩
  exact ⟨_, by rw [getI, hp]; rfl, by rw [getB, hp]; simpa using hR5.1, hfr, hE⟩
end Go.Proofs.YtoncdfpohdchgaaDoor

/- A store: Put, Drop, walked. No condition. -/
namespace Go.Proofs.YtoncdfpohdchgaaDoor
open Go.RowKit Go.Fw Go.Pl
/-- What Put answers. -/
def putE (l : List Ent) (b : List UInt8) : Int := if 131072 < b.length then 3 else if (at_ l (shaD b)).isSome = true then (if getB l (shaD b) = b then 0 else 10) else if 500 ≤ l.length then 14 else 0
def putD (l : List Ent) (b : List UInt8) : Dig := if putE l b = 0 then shaD b else Dig.zero
/-- What Put leaves. -/
def PutL (l : List Ent) (b : List UInt8) (l' : List Ent) : Prop := if putE l b = 0 ∧ at_ l (shaD b) = none then ∃ e : Ent, l' = l ++ [e] ∧ e.k = shaD b ∧ e.b = b else l' = l
/-- What comes anew lies in new blocks. -/
def Fresh (w : World) (l l' : List Ent) : Prop := ∀ e ∈ l', e ∈ l ∨ ∀ k, e.v.ownBlock = some k → w.heap.size ≤ k
theorem Fresh.refl {w : World} {l : List Ent} : Fresh w l l := fun _ h => .inl h
theorem Fresh.app {w : World} {l : List Ent} {e : Ent} (h : ∀ k, e.v.ownBlock = some k → w.heap.size ≤ k) : Fresh w l (l ++ [e]) := fun x hx => by
  rcases List.mem_append.1 hx with hx | hx
  · exact .inl hx
  · simp at hx; subst hx; exact .inr h
/-- What Drop leaves. -/
def dropL (l : List Ent) (d : Dig) : List Ent := match at_ l d with | some p => l.eraseIdx p.1 | none => l
theorem dropL_mem {l : List Ent} {d : Dig} {e : Ent} (h : e ∈ dropL l d) : e ∈ l := by
  unfold dropL at h
  split at h
  · exact List.mem_of_mem_eraseIdx h
  · exact h
theorem dropL_none {l : List Ent} {d : Dig} (h : Unlike l) : at_ (dropL l d) d = none := by
  unfold dropL
  cases hp : at_ l d with
  | none => exact hp
  | some p => exact erase_none h (j := p.1) (e := p.2) hp
theorem dropL_same {l : List Ent} {d : Dig} (h : at_ l d = none) : dropL l d = l := by unfold dropL; rw [h]
theorem dropL_some {l : List Ent} {d : Dig} (h : (at_ l d).isSome = true) : l.length = (dropL l d).length + 1 ∧ total l = total (dropL l d) + (getB l d).length := by
  obtain ⟨⟨j, e⟩, hp⟩ := Option.isSome_iff_exists.1 h
  obtain ⟨_, hj, _⟩ := mfind_some hp
  rw [Nat.sub_zero] at hj
  have hjl := (List.getElem?_eq_some_iff.1 hj).1
  simp only [dropL, getB, hp]
  exact ⟨by rw [List.length_eraseIdx, if_pos hjl]; omega, total_erase hj⟩
theorem putE_cases (l : List Ent) (b : List UInt8) : putE l b = 0 ∨ putE l b = 3 ∨ putE l b = 10 ∨ putE l b = 14 := by
  unfold putE; (repeat' split) <;> simp
theorem putL_get {l l' : List Ent} {b : List UInt8} (he : putE l b = 0) (h : PutL l b l') : getI l' (shaD b) = 0 ∧ getB l' (shaD b) = b := by
  unfold PutL at h
  split at h
  · rename_i hn
    obtain ⟨e, rfl, hk, hb⟩ := h
    obtain ⟨j, hj⟩ := at_app_self (l := l) (e := e) (by rw [hk]; exact hn.2)
    rw [hk] at hj
    simp [getI, getB, hj, hb]
  · rename_i hn
    subst h
    cases hp : at_ l' (shaD b) with
    | none => exact absurd ⟨he, hp⟩ hn
    | some p =>
      have hs : (at_ l' (shaD b)).isSome = true := by rw [hp]; rfl
      have hl : ¬ 131072 < b.length := fun h => by rw [putE, if_pos h] at he; omega
      rw [putE, if_neg hl, if_pos hs] at he
      refine ⟨by simp [getI, hp], ?_⟩
      by_cases hb : getB l' (shaD b) = b
      · exact hb
      · rw [if_neg hb] at he; omega
theorem putL_same {l : List Ent} {b : List UInt8} (h : putE l b ≠ 0 ∨ (at_ l (shaD b)).isSome = true) : PutL l b l := by
  rw [PutL, if_neg (by rintro ⟨h1, h2⟩; rw [h2] at h; rcases h with h | h; exact h h1; cases h)]
theorem putL_new {l : List Ent} {b : List UInt8} {e : Ent} (h : putE l b = 0) (hp : at_ l (shaD b) = none) (hk : e.k = shaD b) (hb : e.b = b) : PutL l b (l ++ [e]) := by
  rw [PutL, if_pos ⟨h, hp⟩]; exact ⟨e, rfl, hk, hb⟩
theorem putD_no {l : List Ent} {b : List UInt8} (h : putE l b ≠ 0) : putD l b = Dig.zero := if_neg h
theorem putD_ok {l : List Ent} {b : List UInt8} (h : putE l b = 0) : putD l b = shaD b := if_pos h

set_option maxHeartbeats 1000000 in
theorem stPut_any (g r : Nat) (l : List Ent) (u : Value) (b : List UInt8) (w : World) (hT : StoreAt w g r l) (hK : Mem w ⟨0, 0, none⟩ (wds keysL)) (h0 : 0 < g ∧ 0 < r) (hb : By w u b) (hbl : b ≠ [] → ∀ k, u.ownBlock = some k → k < w.heap.size ∧ k ≠ g ∧ k ≠ r) : Calls Tryd.prog 40 #[.pointer (some ⟨g, 0, none⟩), u] w (Ret fun v w' => v = .tuple #[digV (putD l b), .int .i64 (putE l b)] ∧ (∃ l', (PutL l b l' ∧ Fresh w l l') ∧ StoreAt w' g r l') ∧ Chg (fun k => k = g ∨ k = r) w w') := by
  have hB0 := hT.blk
  have hT0 := hT
  have hlow := hT.low
  have hne := hT.ne
  have htot := hT.size
  have hlt0 := hT.lt
  have hk0 : (0 : Nat) < w.heap.size := hK.lt (fun h => by cases h)
  obtain ⟨A, m, c, rfl⟩ := hb.lens
  have hbm := hb.len.1
  obtain ⟨id, hid, hzd, _⟩ := info_apiDigest
  refine calls_of_CWct 66 4 32 [5] [(0, .pointer (some ⟨g, 0, none⟩)), (1, .slice A m c)] Tryd.func40 rfl rfl rfl Tryd.underlying31 rfl (by kernel_rfl) (by simp) args2 ?_
  have hE : Chg (fun k => k = g ∨ k = r) w w := Chg.refl
  refine CW.seq fun K1 hK1 => ?_
  refine CW.region ?_   -- region 0
  refine WL.alloc (hid) (hzd) rfl (by decide) fun g4 w1 hx1 hg4 hB4 => ?_   -- t4 := alloc 31
  have hlt4 := hB4.lt; have hz1 := hx1.size
  have hM4 := hB4.mem; have hz1 := hx1.size; have hE := hE.thenExt hx1; have hT := hT.ext hx1; have hB0 := hB0.ext hx1; have hK := hK.ext hx1; have hb := hb.ext hx1
  refine WL.val (Y.assign rfl) (by decide) ?_   -- t5 := assign c(0:i64)
  refine WL.nil ?_
  refine hK1 _ _ ?_; try clear hK1 K1
  refine CW.seq fun K2 hK2 => ?_
  refine CW.seq fun K3 hK3 => ?_
  refine CW.region ?_   -- region 1
  refine WL.val (Y.move rfl) (by decide) ?_   -- t9 := move t0
  refine WL.call Tryd.func42 rfl rfl rfl (made_any g r l _ hT) (by simp) ?_; rintro v w2 ⟨rfl, hx2⟩; have hz2 := hx2.size; have hE := hE.thenExt hx2; have hT := hT.ext hx2; have hB0 := hB0.ext hx2; have hK := hK.ext hx2; have hb := hb.ext hx2; have hB4 := hB4.ext hx2   -- t10 := call F42(t9) : 49
  refine WL.val (Y.not rfl) (by decide) ?_   -- t11 := unOp not 4 t10
  refine WL.nil ?_
  refine hK3 _ _ ?_; try clear hK3 K3
  first | refine CW.condD rfl (fun ht4 => ?_) (fun ht4 => ?_) | refine CW.condND rfl (fun ht4 => ?_) (fun ht4 => ?_) | refine CW.condN rfl (fun ht4 => ?_) (fun ht4 => ?_) | refine CW.cond rfl (fun ht4 => ?_) (fun ht4 => ?_)
  · -- then
    refine CW.seq fun K5 hK5 => ?_
    refine CW.region ?_   -- region 2
    refine WL.val (Y.build0 (build_apiDigest _)) (by decide) ?_   -- t12 := build 31 []
    refine WL.store (g := g4) (pre := []) (old := digC Dig.zero) (post := []) (new := digC Dig.zero) rfl rfl rfl rfl (sz_apiDigest _) (by simpa using hB4) (by first | rfl | (simp [digC_length, opC_length]; done) | (simp only [digC_length, opC_length]; omega)) (one_digC) (fun w3 hc3 hB3_ => ?_)   -- _ := store 31 t4 t12
    have hz3 := hc3.size; have hE := hE.stepO hc3 (fun k h => (by show (k = g ∨ k = r) ∨ _; omega)); have hT := hT.chg hc3 (fun h => by omega) (fun h => by omega) (fun e he k hk h => by have := hlow e he k hk; omega); have hB0 := hB0.chg hc3 (fun h => by omega); have hK := hK.chg hc3 (fun h => by change 0 = _ at h; omega); have hb := hb.chg hc3 (fun h0 k hk h => by have := hbl h0 k hk; omega)
    skip
    refine WL.val (Y.assign rfl) (by decide) ?_   -- t5 := assign c(2:i64)
    refine WL.nil ?_
    refine hK5 _ _ ?_; try clear hK5 K5
    refine CW.ret ?_
    exact absurd (show true = false by assumption) (by decide)
  -- else
  refine CW.skip ?_
  refine hK2 _ _ ?_; try clear hK2 K2
  refine CW.seq fun K6 hK6 => ?_
  refine CW.seq fun K7 hK7 => ?_
  refine CW.region ?_   -- region 3
  refine WL.val (Y.move rfl) (by decide) ?_   -- t13 := move t1
  refine WL.val (Y.len_slice Tryd.underlying33 rfl) (by decide) ?_   -- t14 := call len(t13) : 33
  refine WL.val (Y.gtr rfl rfl) (by decide) ?_   -- t15 := binOp gtr 3 t14 c(131072:i64) 3
  refine WL.nil ?_
  refine hK7 _ _ ?_; try clear hK7 K7
  first | refine CW.condD rfl (fun ht8 => ?_) (fun ht8 => ?_) | refine CW.condND rfl (fun ht8 => ?_) (fun ht8 => ?_) | refine CW.condN rfl (fun ht8 => ?_) (fun ht8 => ?_) | refine CW.cond rfl (fun ht8 => ?_) (fun ht8 => ?_)
  · -- then
    refine CW.seq fun K9 hK9 => ?_
    refine CW.region ?_   -- region 4
    refine WL.val (Y.build0 (build_apiDigest _)) (by decide) ?_   -- t16 := build 31 []
    refine WL.store (g := g4) (pre := []) (old := digC Dig.zero) (post := []) (new := digC (Dig.zero)) rfl rfl rfl rfl (sz_apiDigest _) (by simpa using hB4) (by first | rfl | (simp [digC_length, opC_length]; done) | (simp only [digC_length, opC_length]; omega)) (one_digC) (fun w4 hc4 hB4_ => ?_)   -- _ := store 31 t4 t16
    have hz4 := hc4.size; have hE := hE.stepO hc4 (fun k h => (by show (k = g ∨ k = r) ∨ _; omega)); have hT := hT.chg hc4 (fun h => by omega) (fun h => by omega) (fun e he k hk h => by have := hlow e he k hk; omega); have hB0 := hB0.chg hc4 (fun h => by omega); have hK := hK.chg hc4 (fun h => by change 0 = _ at h; omega); have hb := hb.chg hc4 (fun h0 k hk h => by have := hbl h0 k hk; omega)
    have hB4 : Blk w4 g4 TDi (digC (Dig.zero)) := by simpa using hB4_
    refine WL.val (Y.assign rfl) (by decide) ?_   -- t5 := assign c(3:i64)
    refine WL.nil ?_
    refine hK9 _ _ ?_; try clear hK9 K9
    refine CW.ret ?_
    have he : putE l b = 3 := by rw [putE, if_pos (by omega)]
    exact ⟨_, _, _, rfl, hB4.mem, digC_length _, rfl, ⟨by rw [putD_no (by rw [he]; decide), he], ⟨l, ⟨putL_same (.inl (by rw [he]; decide)), Fresh.refl⟩, hT⟩, hE⟩⟩
  -- else
  refine CW.skip ?_
  refine hK6 _ _ ?_; try clear hK6 K6
  refine CW.seq fun K10 hK10 => ?_
  refine CW.region ?_   -- region 5
  refine WL.val (Y.move rfl) (by decide) ?_   -- t17 := move t1
  refine WL.call Tryd.func12 rfl rfl rfl (sum_any _ b _ hb (fun h0 k hk => by have := hbl h0 k hk; omega) hK (by omega)) (by simp) ?_; rintro v w5 ⟨rfl, hx5⟩; have hz5 := hx5.size; have hE := hE.thenExt hx5; have hT := hT.ext hx5; have hB0 := hB0.ext hx5; have hK := hK.ext hx5; have hb := hb.ext hx5; have hB4 := hB4.ext hx5   -- t18 := call F12(t17) : 33
  refine as_apiDigest rfl (by simp) (by decide) fun g6 w6 hx6 hg6 hB6 => ?_   -- alloc 31; store 31 t6 t18
  have hlt6 := hB6.lt; have hz6 := hx6.size
  have hM6 := hB6.mem; have hz6 := hx6.size; have hE := hE.thenExt hx6; have hT := hT.ext hx6; have hB0 := hB0.ext hx6; have hK := hK.ext hx6; have hb := hb.ext hx6; have hB4 := hB4.ext hx6
  refine WL.nil ?_
  refine hK10 _ _ ?_; try clear hK10 K10
  refine CW.seq fun K11 hK11 => ?_
  refine CW.quiet (fun wq => Ext w6 wq) (by kernel_rfl) (by kernel_rfl) Chg.drew ?_
  refine QL.val (fun wq hq => Y.move rfl) (by decide) ?_   -- t20 := move t0
  refine QL.val (fun wq hq => Y.nilCheck rfl) (by decide) ?_   -- t21 := nilCheck t20
  refine QL.val (fun wq hq => Y.fieldAddr fo_storeStore0 rfl) (by decide) ?_   -- t22 := fieldAddr 85 t21 0
  refine QL.val (fun wq hq => Y.load1 Tryd.underlying83 rfl (hB0.ext hq).mem.storeStore0 rfl) (by decide) ?_   -- t23 := load 83 t22
  refine QL.val (fun wq hq => Y.load Tryd.underlying31 rfl (hB6.ext hq).mem (sz_apiDigest _) rfl) (by decide) ?_   -- t24 := load 31 t6
  refine QL.val (fun wq hq => Y.lookupOk keyDig (fun _ => rfl) UM zero_bytes rfl rfl ((hT.ext hq).map.choose_spec.1)) (by decide) ?_   -- t25 := lookup 83 t23 t24 true
  refine QL.val (fun wq hq => Y.move rfl) (by decide) ?_   -- t19 := move t25
  refine QL.val (fun wq hq => Y.extract rfl rfl) (by decide) ?_   -- t26 := extract t19 0
  refine QL.val (fun wq hq => Y.extract rfl rfl) (by decide) ?_   -- t27 := extract t19 1
  refine QL.val (fun wq hq => Y.assign rfl) (by decide) ?_   -- t7 := assign t26
  refine QL.val (fun wq hq => Y.assign rfl) (by decide) ?_   -- t8 := assign t27
  refine QL.nil fun w7 hx7 => ?_
  have hz7 := hx7.size
  have hE := hE.thenExt hx7
  have hT := hT.ext hx7
  have hB0 := hB0.ext hx7
  have hK := hK.ext hx7
  have hb := hb.ext hx7
  have hB4 := hB4.ext hx7
  have hB6 := hB6.ext hx7
  refine hK11 _ _ ?_; try clear hK11 K11
  refine CW.seq fun K12 hK12 => ?_
  refine CW.block ?_   -- block 0
  refine CW.seq_testE 28 ((at_ l (shaD b)).isSome = true ∧ getB l (shaD b) ≠ b) ?_ ?_
  · refine CW.region ?_
    refine WL.val (Y.move rfl) (by decide) ?_   -- t29 := move t8
    refine WL.val (Y.move rfl) (by decide) ?_   -- t30 := move t29
    first | refine WL.casesD (d := 30) rfl (fun hg30 => ?_) (fun hg30 => ?_) | refine WL.casesND (d := 30) rfl (fun hg30 => ?_) (fun hg30 => ?_) | refine WL.cases (d := 30) rfl (fun hg30 => ?_) (fun hg30 => ?_)
    · -- t30 = T
      refine WL.gval rfl rfl (Y.move rfl) (by decide) ?_   -- t31 := move t7 [if 1=true]
      refine WL.gval rfl rfl (Y.move rfl) (by decide) ?_   -- t32 := move t1 [if 1=true]
      refine WL.gcall rfl rfl Tryd.func56 rfl rfl rfl (eqb_any _ _ _ _ _ (hT.look (shaD b)) hb) (by decide) ?_; rintro v w8 ⟨rfl, hx8⟩; have hz8 := hx8.size; have hE := hE.thenExt hx8; have hT := hT.ext hx8; have hB0 := hB0.ext hx8; have hK := hK.ext hx8; have hb := hb.ext hx8; have hB4 := hB4.ext hx8; have hB6 := hB6.ext hx8   -- t33 := call F56(t31, t32) : 33,33 [if 1=true]
      refine WL.gval rfl rfl (Y.not rfl) (by decide) ?_   -- t34 := unOp not 4 t33 [if 1=true]
      refine WL.val (Y.pick rfl rfl) (by decide) ?_   -- t35 := pick t30 t34 c(false)
      refine WL.val (Y.assign rfl) (by decide) ?_   -- t28 := assign t35
      refine WL.nil ⟨⟨_, rfl, ?_⟩, hx8, (by repeat (first | exact Fr.le.refl | refine Fr.le.push rfl ?_))⟩
      first | (simp only [*, Int.natCast_inj, Bool.not_eq_true', decide_eq_false_iff_not, decide_eq_true_eq, not_true_eq_false, not_false_eq_true, true_and, false_and, and_true, and_false, false_or, or_false, true_or, or_true, iff_true, true_iff, iff_false, false_iff]; done) | (simp_all; done) | (refine congrArg Value.bool (Bool.eq_iff_iff.2 ?_); simp_all; done) | (simp_all; omega)
    · -- t30 = F
      refine WL.goff rfl rfl (by decide) ?_   -- t31 := move t7 [if 1=true]
      refine WL.goff rfl rfl (by decide) ?_   -- t32 := move t1 [if 1=true]
      refine WL.goff rfl rfl (by decide) ?_   -- t33 := call F56(t31, t32) : 33,33 [if 1=true]
      refine WL.goff rfl rfl (by decide) ?_   -- t34 := unOp not 4 t33 [if 1=true]
      refine WL.val (Y.pick rfl rfl) (by decide) ?_   -- t35 := pick t30 t34 c(false)
      refine WL.val (Y.assign rfl) (by decide) ?_   -- t28 := assign t35
      refine WL.nil ⟨⟨_, rfl, ?_⟩, Chg.refl, (by repeat (first | exact Fr.le.refl | refine Fr.le.push rfl ?_))⟩
      first | (simp only [*, Int.natCast_inj, Bool.not_eq_true', decide_eq_false_iff_not, decide_eq_true_eq, not_true_eq_false, not_false_eq_true, true_and, false_and, and_true, and_false, false_or, or_false, true_or, or_true, iff_true, true_iff, iff_false, false_iff]; done) | (simp_all; done) | (refine congrArg Value.bool (Bool.eq_iff_iff.2 ?_); simp_all; done) | (simp_all; omega)
  intro w9 hx9; have hz9 := hx9.size; have hE := hE.thenExt hx9; have hT := hT.ext hx9; have hB0 := hB0.ext hx9; have hK := hK.ext hx9; have hb := hb.ext hx9; have hB4 := hB4.ext hx9; have hB6 := hB6.ext hx9
  first | refine CW.condD rfl (fun ht13 => ?_) (fun ht13 => ?_) | refine CW.condND rfl (fun ht13 => ?_) (fun ht13 => ?_) | refine CW.condN rfl (fun ht13 => ?_) (fun ht13 => ?_) | refine CW.cond rfl (fun ht13 => ?_) (fun ht13 => ?_)
  · -- then
    refine CW.seq fun K14 hK14 => ?_
    refine CW.region ?_   -- region 8
    refine WL.val (Y.build0 (build_apiDigest _)) (by decide) ?_   -- t36 := build 31 []
    refine WL.store (g := g4) (pre := []) (old := digC Dig.zero) (post := []) (new := digC (Dig.zero)) rfl rfl rfl rfl (sz_apiDigest _) (by simpa using hB4) (by first | rfl | (simp [digC_length, opC_length]; done) | (simp only [digC_length, opC_length]; omega)) (one_digC) (fun w10 hc10 hB10_ => ?_)   -- _ := store 31 t4 t36
    have hz10 := hc10.size; have hE := hE.stepO hc10 (fun k h => (by show (k = g ∨ k = r) ∨ _; omega)); have hT := hT.chg hc10 (fun h => by omega) (fun h => by omega) (fun e he k hk h => by have := hlow e he k hk; omega); have hB0 := hB0.chg hc10 (fun h => by omega); have hK := hK.chg hc10 (fun h => by change 0 = _ at h; omega); have hb := hb.chg hc10 (fun h0 k hk h => by have := hbl h0 k hk; omega); have hB6 := hB6.chg hc10 (fun h => by omega)
    have hB4 : Blk w10 g4 TDi (digC (Dig.zero)) := by simpa using hB10_
    refine WL.val (Y.assign rfl) (by decide) ?_   -- t5 := assign c(10:i64)
    refine WL.nil ?_
    refine hK14 _ _ ?_; try clear hK14 K14
    refine CW.ret ?_
    have he : putE l b = 10 := by rw [putE, if_neg (by omega), if_pos (And.left (by assumption)), if_neg (And.right (by assumption))]
    exact ⟨_, _, _, rfl, hB4.mem, digC_length _, rfl, ⟨by rw [putD_no (by rw [he]; decide), he], ⟨l, ⟨putL_same (.inl (by rw [he]; decide)), Fresh.refl⟩, hT⟩, hE⟩⟩
  -- else
  refine CW.seq fun K15 hK15 => ?_
  refine CW.region ?_   -- region 9
  refine WL.val (Y.move rfl) (by decide) ?_   -- t38 := move t8
  refine WL.val (Y.assign rfl) (by decide) ?_   -- t37 := assign t38
  refine WL.nil ?_
  refine hK15 _ _ ?_; try clear hK15 K15
  first | refine CW.condD rfl (fun ht16 => ?_) (fun ht16 => ?_) | refine CW.condND rfl (fun ht16 => ?_) (fun ht16 => ?_) | refine CW.condN rfl (fun ht16 => ?_) (fun ht16 => ?_) | refine CW.cond rfl (fun ht16 => ?_) (fun ht16 => ?_)
  · -- then
    refine CW.seq fun K17 hK17 => ?_
    refine CW.region ?_   -- region 10
    refine WL.val (Y.load Tryd.underlying31 rfl hB6.mem (sz_apiDigest _) rfl) (by decide) ?_   -- t39 := load 31 t6
    refine WL.store (g := g4) (pre := []) (old := digC Dig.zero) (post := []) (new := digC (shaD b)) rfl rfl rfl rfl (sz_apiDigest _) (by simpa using hB4) (by first | rfl | (simp [digC_length, opC_length]; done) | (simp only [digC_length, opC_length]; omega)) (one_digC) (fun w11 hc11 hB11_ => ?_)   -- _ := store 31 t4 t39
    have hz11 := hc11.size; have hE := hE.stepO hc11 (fun k h => (by show (k = g ∨ k = r) ∨ _; omega)); have hT := hT.chg hc11 (fun h => by omega) (fun h => by omega) (fun e he k hk h => by have := hlow e he k hk; omega); have hB0 := hB0.chg hc11 (fun h => by omega); have hK := hK.chg hc11 (fun h => by change 0 = _ at h; omega); have hb := hb.chg hc11 (fun h0 k hk h => by have := hbl h0 k hk; omega); have hB6 := hB6.chg hc11 (fun h => by omega)
    have hB4 : Blk w11 g4 TDi (digC (shaD b)) := by simpa using hB11_
    refine WL.val (Y.assign rfl) (by decide) ?_   -- t5 := assign c(0:i64)
    refine WL.nil ?_
    refine hK17 _ _ ?_; try clear hK17 K17
    refine CW.ret ?_
    have he : putE l b = 0 := by
      have hs : (at_ l (shaD b)).isSome = true := by assumption
      rw [putE, if_neg (by omega), if_pos hs, if_pos (Decidable.not_not.1 fun x => (by assumption : ¬ ((at_ l (shaD b)).isSome = true ∧ getB l (shaD b) ≠ b)) ⟨hs, x⟩)]
    exact ⟨_, _, _, rfl, hB4.mem, digC_length _, rfl, ⟨by rw [putD_ok he, he], ⟨l, ⟨putL_same (.inr (by assumption)), Fresh.refl⟩, hT⟩, hE⟩⟩
  -- else
  refine CW.seq fun K18 hK18 => ?_
  refine CW.region ?_   -- region 11
  refine WL.val (Y.move rfl) (by decide) ?_   -- t41 := move t0
  refine WL.val (Y.nilCheck rfl) (by decide) ?_   -- t42 := nilCheck t41
  refine WL.val (Y.fieldAddr fo_storeStore0 rfl) (by decide) ?_   -- t43 := fieldAddr 85 t42 0
  refine WL.val (Y.load1 Tryd.underlying83 rfl hB0.mem.storeStore0 rfl) (by decide) ?_   -- t44 := load 83 t43
  refine WL.val (Y.len_map Tryd.underlying83 rfl hT.map.choose_spec.1) (by decide) ?_   -- t45 := call len(t44) : 83
  refine WL.val (Y.geq rfl rfl) (by decide) ?_   -- t46 := binOp geq 3 t45 c(500:i64) 3
  refine WL.val (Y.assign rfl) (by decide) ?_   -- t40 := assign t46
  refine WL.nil ?_
  refine hK18 _ _ ?_; try clear hK18 K18
  first | refine CW.condD rfl (fun ht19 => ?_) (fun ht19 => ?_) | refine CW.condND rfl (fun ht19 => ?_) (fun ht19 => ?_) | refine CW.condN rfl (fun ht19 => ?_) (fun ht19 => ?_) | refine CW.cond rfl (fun ht19 => ?_) (fun ht19 => ?_)
  · -- then
    refine CW.seq fun K20 hK20 => ?_
    refine CW.region ?_   -- region 12
    refine WL.val (Y.build0 (build_apiDigest _)) (by decide) ?_   -- t47 := build 31 []
    refine WL.store (g := g4) (pre := []) (old := digC Dig.zero) (post := []) (new := digC (Dig.zero)) rfl rfl rfl rfl (sz_apiDigest _) (by simpa using hB4) (by first | rfl | (simp [digC_length, opC_length]; done) | (simp only [digC_length, opC_length]; omega)) (one_digC) (fun w12 hc12 hB12_ => ?_)   -- _ := store 31 t4 t47
    have hz12 := hc12.size; have hE := hE.stepO hc12 (fun k h => (by show (k = g ∨ k = r) ∨ _; omega)); have hT := hT.chg hc12 (fun h => by omega) (fun h => by omega) (fun e he k hk h => by have := hlow e he k hk; omega); have hB0 := hB0.chg hc12 (fun h => by omega); have hK := hK.chg hc12 (fun h => by change 0 = _ at h; omega); have hb := hb.chg hc12 (fun h0 k hk h => by have := hbl h0 k hk; omega); have hB6 := hB6.chg hc12 (fun h => by omega)
    have hB4 : Blk w12 g4 TDi (digC (Dig.zero)) := by simpa using hB12_
    refine WL.val (Y.assign rfl) (by decide) ?_   -- t5 := assign c(14:i64)
    refine WL.nil ?_
    refine hK20 _ _ ?_; try clear hK20 K20
    refine CW.ret ?_
    have he : putE l b = 14 := by rw [putE, if_neg (by omega), if_neg (by rw [show (mfind Ent.k (shaD b) l 0).isSome = false by assumption]; decide), if_pos (by omega)]
    exact ⟨_, _, _, rfl, hB4.mem, digC_length _, rfl, ⟨by rw [putD_no (by rw [he]; decide), he], ⟨l, ⟨putL_same (.inl (by rw [he]; decide)), Fresh.refl⟩, hT⟩, hE⟩⟩
  -- else
  refine CW.skip ?_
  refine hK12 _ _ ?_; try clear hK12 K12
  refine CW.seq fun K21 hK21 => ?_
  refine CW.held (fun wq => Chg (fun k => k = r) w9 wq) (by kernel_rfl) 9 rfl fun w13 hx13 => ?_
  have hS : Chg (fun k => k = r) w9 w13 := hx13.chg
  obtain ⟨cl, hMp, hcl⟩ := hT.map
  have hMp := hMp.ext hx13
  have hz13 := hx13.size
  have hno := at_none (l := l) (d := shaD b) (by assumption)
  have he : putE l b = 0 := by rw [putE, if_neg (by omega), if_neg (by rw [hno]; decide), if_neg (by omega)]
  refine RH.take 0 (fun _ _ _ _ h => h) (by kernel_rfl) hS rfl (by kernel_rfl) (by kernel_rfl) (fun wq hq => Y.move rfl) (by decide) ?_   -- t48 := move t0
  refine RH.take 1 (fun _ _ _ _ h => h) (by kernel_rfl) hS rfl (by kernel_rfl) (by kernel_rfl) (fun wq hq => Y.nilCheck rfl) (by decide) ?_   -- t49 := nilCheck t48
  refine RH.take 2 (fun _ _ _ _ h => h) (by kernel_rfl) hS rfl (by kernel_rfl) (by kernel_rfl) (fun wq hq => Y.fieldAddr fo_storeStore0 rfl) (by decide) ?_   -- t50 := fieldAddr 85 t49 0
  refine RH.take 3 (fun _ _ _ _ h => h) (by kernel_rfl) hS rfl (by kernel_rfl) (by kernel_rfl) (fun wq hq => Y.load1 Tryd.underlying83 rfl (hB0.chg hq (fun h => by omega)).mem.storeStore0 rfl) (by decide) ?_   -- t51 := load 83 t50
  refine RH.take 4 (fun _ _ _ _ h => h) (by kernel_rfl) hS rfl (by kernel_rfl) (by kernel_rfl) (fun wq hq => Y.load Tryd.underlying31 rfl (hB6.chg hq (fun h => by omega)).mem (sz_apiDigest _) rfl) (by decide) ?_   -- t52 := load 31 t6
  refine RH.take 6 (fun _ _ _ _ h => h) (by kernel_rfl) hS rfl (by kernel_rfl) (by kernel_rfl) (fun wq hq => Y.move rfl) (by decide) ?_   -- t54 := move t1
  refine RH.one 5 (by kernel_rfl) ?_
  refine RS.st rfl (St.buildSlice0 Tryd.underlying33 sz_uint8) (by decide) fun v53 w14 hR14 => ?_   -- buildSlice 33 0 []
  obtain ⟨g53, rfl, hg53, hO53, hx14⟩ := hR14
  have hS := hS.thenExt hx14
  have hMp := hMp.ext hx14
  have hz14 := hx14.size
  refine ⟨hS, ?_⟩
  refine RH.one 7 (by kernel_rfl) ?_
  refine RS.st rfl (St.app (xs := []) (ys := b) Tryd.underlying33 Tryd.underlying33 ai_u8 rfl rfl hO53 (Src.by (hb.chg hS (fun h0 k hk h => by have := hbl h0 k hk; omega))) (by simp only [List.length_nil]; omega)) (by decide) fun v55 w15 hR15 => ?_   -- call append(t53, t54) : 33,33
  have hfr : ∀ k, v55.ownBlock = some k → w9.heap.size ≤ k := by
    rcases hR15.2.2 with h | h
    · intro k hk; rw [h] at hk; simp [Value.ownBlock] at hk; omega
    · intro k hk; have := h k hk; omega
  have hO55 : Own w15 5 1 v55 (bytesC b) := by simpa using hR15.1
  have hMp := hMp.chg hR15.2.1 (fun h => by simp [Value.ownBlock] at h; omega)
  have hS := hS.stepO hR15.2.1 (fun k h => .inr (by simp [Value.ownBlock] at h; omega))
  have hz15 := hR15.2.1.size
  refine ⟨hS, ?_⟩
  refine RH.one 8 (by kernel_rfl) ?_
  refine RS.su rfl (Su.mapNew (b := (⟨shaD b, v55, cl, b⟩ : Ent)) keyDig (fun _ => rfl) UM rfl rfl rfl hMp hno rfl) fun w16 hR16 => ?_   -- mapUpdate 83 t51 t52 t55
  obtain ⟨hMp, hc16⟩ := hR16
  have hO55 := hO55.chg hc16 (fun k hk h => by have := hfr k hk; omega)
  have hS := hS.trans hc16 (fun _ _ h => h)
  have hz16 := hc16.size
  refine ⟨hS, ?_⟩
  refine RH.done (by kernel_rfl) ?_
  have hE := hE.stepO hS (fun k h => .inl (.inr h))
  have hzS := hS.size
  have hB0 := hB0.chg hS (fun h => by omega)
  have hB4 := hB4.chg hS (fun h => by omega)
  have hB6 := hB6.chg hS (fun h => by omega)
  refine hK21 _ _ ?_; try clear hK21 K21
  refine CW.seq fun K22 hK22 => ?_
  refine CW.region ?_   -- region 14
  refine WL.val (Y.move rfl) (by decide) ?_   -- t56 := move t0
  refine WL.val (Y.nilCheck rfl) (by decide) ?_   -- t57 := nilCheck t56
  refine WL.val (Y.fieldAddr fo_storeStore1 rfl) (by decide) ?_   -- t58 := fieldAddr 85 t57 1
  refine WL.val (Y.load1 Tryd.underlying3 rfl hB0.mem.storeStore1 rfl) (by decide) ?_   -- t59 := load 3 t58
  refine WL.val (Y.move rfl) (by decide) ?_   -- t60 := move t1
  refine WL.val (Y.len_slice Tryd.underlying33 rfl) (by decide) ?_   -- t61 := call len(t60) : 33
  refine WL.val (Y.add rfl rfl ⟨by omega, by omega⟩) (by decide) ?_   -- t62 := binOp add 3 t59 t61 3
  refine WL.val (Y.nilCheck rfl) (by decide) ?_   -- t63 := nilCheck t56
  refine WL.val (Y.fieldAddr fo_storeStore1 rfl) (by decide) ?_   -- t64 := fieldAddr 85 t63 1
  refine WL.store (g := g) (pre := [.map (some r)]) (old := [.int .i64 (total l : Int)]) (post := []) (new := [.int .i64 ((total l : Int) + (m : Int))]) rfl rfl rfl rfl (by kernel_rfl) hB0 (by first | rfl | (simp [digC_length, opC_length]; done) | (simp only [digC_length, opC_length]; omega)) (one1 rfl) (fun w17 hc17 hB17_ => ?_)   -- _ := store 3 t64 t62
  have hz17 := hc17.size; have hE := hE.stepO hc17 (fun k h => (by show (k = g ∨ k = r) ∨ _; omega)); have hB4 := hB4.chg hc17 (fun h => by omega); have hB6 := hB6.chg hc17 (fun h => by omega)
  have hB0 : Blk w17 g TS_ (storeC r (total (l ++ [(⟨shaD b, v55, cl, b⟩ : Ent)]))) := by
    have e : ((total l + b.length : Nat) : Int) = (total l : Int) + (m : Int) := by omega
    rw [total_app]
    show Blk _ _ _ [_, .int .i64 ((total l + b.length : Nat) : Int)]
    rw [e]; exact hB17_
  have hMp := hMp.chg hc17 (fun h => by omega)
  have hO55 := hO55.chg hc17 (fun k hk h => by have := hfr k hk; omega)
  refine WL.nil ?_
  refine hK22 _ _ ?_; try clear hK22 K22
  refine CW.seq fun K23 hK23 => ?_
  refine CW.region ?_   -- region 15
  refine WL.val (Y.load Tryd.underlying31 rfl hB6.mem (sz_apiDigest _) rfl) (by decide) ?_   -- t65 := load 31 t6
  refine WL.store (g := g4) (pre := []) (old := digC Dig.zero) (post := []) (new := digC (shaD b)) rfl rfl rfl rfl (sz_apiDigest _) (by simpa using hB4) (by first | rfl | (simp [digC_length, opC_length]; done) | (simp only [digC_length, opC_length]; omega)) (one_digC) (fun w18 hc18 hB18_ => ?_)   -- _ := store 31 t4 t65
  have hz18 := hc18.size; have hE := hE.stepO hc18 (fun k h => (by show (k = g ∨ k = r) ∨ _; omega)); have hB0 := hB0.chg hc18 (fun h => by omega); have hB6 := hB6.chg hc18 (fun h => by omega)
  have hB4 : Blk w18 g4 TDi (digC (shaD b)) := by simpa using hB18_
  have hMp := hMp.chg hc18 (fun h => by omega)
  have hlt55 := hO55.lt
  have hO55 := hO55.chg hc18 (fun k hk h => by have := hfr k hk; omega)
  refine WL.val (Y.assign rfl) (by decide) ?_   -- t5 := assign c(0:i64)
  refine WL.nil ?_
  refine hK23 _ _ ?_; try clear hK23 K23
  refine CW.ret ?_
  exact ⟨_, _, _, rfl, hB4.mem, digC_length _, rfl, ⟨by rw [putD_ok he, he], ⟨_, ⟨putL_new (e := ⟨shaD b, v55, cl, b⟩) he hno rfl rfl, Fresh.app (fun k hk => by have := hfr k hk; omega)⟩, hT0.push hE (fun k h => h) hB0 hMp hcl hO55.by (fun k hk => by have := hfr k hk; have := hlt55 k hk; have := hc18.size; omega) hno (by omega) (by show b.length ≤ 131072; omega)⟩, hE⟩⟩
end Go.Proofs.YtoncdfpohdchgaaDoor

/- The store's laws: alive, StoreBack, walked. No condition. -/
namespace Go.Fw
open Go.RowKit
theorem By.lt {w : World} {v : Value} {b : List UInt8} (h : By w v b) (h0 : b ≠ []) : ∀ k, v.ownBlock = some k → k < w.heap.size := by
  obtain ⟨A, m, c, rfl, hl, _, _, hA, _⟩ := h
  intro k hk
  have : 0 < b.length := List.length_pos_iff.2 h0
  obtain ⟨a, rfl, hm⟩ := hA (by omega)
  have := hm.lt (by cases b with | nil => exact absurd rfl h0 | cons x r => simp [bytesC])
  simp [Value.ownBlock] at hk
  omega
/-- A slice of slices of bytes, read. -/
def Bss (w : World) (u : Value) (xs : List (Value × List UInt8)) : Prop := Sl w (fun x => [x.1]) 1 u xs ∧ ∀ (i : Nat) x, xs[i]? = some x → By w x.1 x.2 ∧ x.2.length ≤ 140737488351232
theorem tmod_pos {i : Int} {m : Nat} (h : 0 < m) : -(m : Int) < i.tmod m ∧ i.tmod m < m := by
  have h1 := Int.tmod_lt_of_pos i (b := (m : Int)) (by omega)
  have h2 := Int.lt_tmod_of_pos i (b := (m : Int)) (by omega)
  exact ⟨h2, h1⟩
theorem tmod_twice {i : Int} {m : Nat} (h : 0 < m) : ∃ k : Nat, (i.tmod m + m).tmod m = (k : Int) ∧ k < m := by
  obtain ⟨h1, h2⟩ := tmod_pos (i := i) h
  have h3 := Int.tmod_nonneg (a := i.tmod m + m) (m : Int) (by omega)
  obtain ⟨_, h4⟩ := tmod_pos (i := i.tmod m + m) h
  exact ⟨((i.tmod m + m).tmod m).toNat, by omega, by omega⟩
theorem Y.neq_bool {P : Program} {n : NN} {fr : Fr} {w : World} {ty : TypeId} {x y : Operand} {p q : Bool} {t t' : TypeId} (hT : P.underlying t = some .bool) (hx : ev fr x = some (.bool p)) (hy : ev fr y = some (.bool q)) :
    Yw P n fr (.binOp .neq t x y t') ty w (.bool (p != q)) w := Y.bin hx hy (by simp [eqGuard_at_bool]) (by
      have h := run_eql_bool (P := P) w t p q hT
      simp only [binOp, Sem.run_bind] at h ⊢
      cases hr : (Op.equal t (Value.bool p) (Value.bool q)).run P w with
      | ok v w2 => rw [hr] at h; simp at h ⊢; obtain ⟨h1, h2⟩ := h; subst h1; subst h2; simp [bne]
      | halt x w2 => rw [hr] at h; simp [Result.andThen] at h)
end Go.Fw
namespace Go.Proofs.YtoncdfpohdchgaaDoor
open Go.RowKit Go.Fw Go.Pl
abbrev True_ (w : World) (v : Value) (w' : World) : Prop := v = .bool true ∧ Ext w w'
set_option maxRecDepth 100000 in
theorem sha_a : ¬ shaD [97] = Dig.zero := by decide +kernel
theorem putE_nil : putE [] [97] = 0 := by simp [putE, mfind]
theorem putL_nil {l : List Ent} (h : PutL [] [97] l) : ∃ e, l = [e] ∧ e.k = shaD [97] ∧ e.b = [97] := by
  rw [PutL, if_pos ⟨putE_nil, rfl⟩] at h
  obtain ⟨e, rfl, h1, h2⟩ := h
  exact ⟨e, rfl, h1, h2⟩
theorem at_one {e : Ent} {d : Dig} (h : e.k = d) : at_ [e] d = some (0, e) := by simp [mfind, h]
theorem putE_one {e : Ent} (h : e.k = shaD [97]) (hb : e.b = [97]) : putE [e] [97] = 0 := by
  rw [putE, if_neg (by decide), if_pos (by rw [at_one h]; rfl), if_pos (by simp only [getB, at_one h, hb])]
theorem putL_one {e : Ent} {l : List Ent} (h : e.k = shaD [97]) (hp : PutL [e] [97] l) : l = [e] := by
  rw [PutL, if_neg (by rw [at_one h]; rintro ⟨_, h⟩; cases h)] at hp
  exact hp

end Go.Proofs.YtoncdfpohdchgaaDoor
