/- Several texts as one: Ac, Ad, Xt, Ae, Xu. -/
import Derived.Test.YtkbmlnkoejlgmaaDoorXa
import Derived.Test.YtkbmlnkoejlgmaaDoorR1
import Derived.Test.YtkbmlnkoejlgmaaDoorXf
set_option linter.unusedSimpArgs false
set_option linter.unusedVariables false
/- A call of a script, as data and cells. No condition; no program run. -/
namespace Go.Fw
def actC (z : Int) (two : Bool) (D : Option Addr) (q e : Nat) : List Value := [.int .i64 z, .bool two, .slice D q e]
abbrev actV (z : Int) (two : Bool) (D : Option Addr) (q e : Nat) : Value := .agg (actC z two D q e).toArray
theorem actC_length (z : Int) (two : Bool) (D : Option Addr) (q e : Nat) : (actC z two D q e).length = 3 := rfl
section
variable {w : World} {a : Addr} {z : Int} {two : Bool} {D : Option Addr} {q e : Nat} (h : Mem w a (actC z two D q e))
include h
theorem Mem.recensionlaw11Act0 : w.cell? (a.add 0) = some (.int .i64 z) := h.cell 0 rfl
theorem Mem.recensionlaw11Act1 : w.cell? (a.add 1) = some (.bool two) := h.cell 1 rfl
theorem Mem.recensionlaw11Act2 : w.cell? (a.add 2) = some (.slice D q e) := h.cell 2 rfl
end
end Go.Fw
namespace Go.Proofs.YtkbmlnkoejlgmaaDoor
open Go.RowKit Go.Fw Go.Pl
abbrev TAct : TypeId := 51
theorem fo_recensionlaw11Act0 : FieldOff Tryd.prog TAct 0 0 := ⟨_, _, 1, Tryd.underlying51, rfl, by kernel_rfl, by decide, rfl⟩
theorem fo_recensionlaw11Act1 : FieldOff Tryd.prog TAct 1 1 := ⟨_, _, 1, Tryd.underlying51, rfl, by kernel_rfl, by decide, rfl⟩
theorem fo_recensionlaw11Act2 : FieldOff Tryd.prog TAct 2 2 := ⟨_, _, 1, Tryd.underlying51, rfl, by kernel_rfl, by decide, rfl⟩
end Go.Proofs.YtkbmlnkoejlgmaaDoor

/- A store and the reference's store, side by side, apart from one another: plain facts on memory. No condition; no program run. -/
namespace Go.Proofs.YtkbmlnkoejlgmaaDoor
open Go.RowKit Go.Fw Go.Pl Go.Sort
/-- A store (its block, its map, its entries) and the reference's (its block, its two lists, what they hold). -/
structure Place where
  g : Nat
  r : Nat
  l : List Ent
  q : Nat
  u : Value
  v : Value
  rs : RL
/-- The blocks that are written when one of the two is. -/
def Place.mine (p : Place) (k : Nat) : Prop := k = p.g ∨ k = p.r ∨ k = p.q ∨ p.u.ownBlock = some k ∨ p.v.ownBlock = some k
/-- The blocks that hold the entries' bytes. -/
def Place.vals (p : Place) (k : Nat) : Prop := ∃ e ∈ p.l, e.v.ownBlock = some k
structure Pair (w : World) (p : Place) : Prop where
  st : StoreAt w p.g p.r p.l
  rf : RAt w p.q p.u p.v p.rs
  like : Like p.l p.rs
  ne : p.q ≠ p.g ∧ p.q ≠ p.r
  nu : ∀ k, p.u.ownBlock = some k → k ≠ p.g ∧ k ≠ p.r
  nv : ∀ k, p.v.ownBlock = some k → k ≠ p.g ∧ k ≠ p.r
  apart : ∀ e ∈ p.l, ∀ k, e.v.ownBlock = some k → k ≠ p.q ∧ p.u.ownBlock ≠ some k ∧ p.v.ownBlock ≠ some k
  pos : ∀ k, p.mine k → 0 < k
section
variable {w w' w'' : World} {p q : Place} {S : Nat → Prop}
theorem Pair.mineLt (h : Pair w p) : ∀ k, p.mine k → k < w.heap.size := by
  rintro k (rfl | rfl | rfl | hk | hk)
  · exact h.st.lt.1
  · exact h.st.lt.2
  · exact h.rf.blk.lt
  · exact h.rf.ids.lt k hk
  · exact h.rf.objs.lt k hk
theorem Pair.valsLt (h : Pair w p) : ∀ k, p.vals k → k < w.heap.size := by
  rintro k ⟨e, he, hk⟩
  exact (h.st.low e he k hk).2.2
theorem Pair.chg (h : Pair w p) (hc : Chg S w w') (hm : ∀ k, p.mine k → ¬ S k) (hv : ∀ k, p.vals k → ¬ S k) : Pair w' p where
  st := h.st.chg hc (hm _ (.inl rfl)) (hm _ (.inr (.inl rfl))) fun e he k hk => hv k ⟨e, he, hk⟩
  rf := h.rf.chg hc (hm _ (.inr (.inr (.inl rfl)))) (fun k hk => hm k (.inr (.inr (.inr (.inl hk))))) fun k hk => hm k (.inr (.inr (.inr (.inr hk))))
  like := h.like
  ne := h.ne
  nu := h.nu
  nv := h.nv
  apart := h.apart
  pos := h.pos
theorem Pair.ext (h : Pair w p) (hc : Ext w w') : Pair w' p := h.chg hc (fun _ _ f => f) fun _ _ f => f
/-- What changes only blocks that are new. -/
theorem Pair.far (h : Pair w p) (hc : Chg S w w') (hs : ∀ k, S k → w.heap.size ≤ k) : Pair w' p :=
  h.chg hc (fun k hk x => by have := h.mineLt k hk; have := hs k x; omega) fun k hk x => by have := h.valsLt k hk; have := hs k x; omega
/-- A call of the store, then one of the reference's. -/
theorem Pair.next {g r x : Nat} {l l' : List Ent} {u v u' v' : Value} {rs rs' : RL} (h : Pair w ⟨g, r, l, x, u, v, rs⟩) (hs : w.heap.size ≤ w'.heap.size) (hT : StoreAt w'' g r l') (hl : ∀ e ∈ l', ∀ k, e.v.ownBlock = some k → k < w'.heap.size)
    (hF : Fresh w l l') (hR : RAt w'' x u' v' rs') (hu : ∀ k, u'.ownBlock = some k → u.ownBlock = some k ∨ w'.heap.size ≤ k) (hv : ∀ k, v'.ownBlock = some k → v.ownBlock = some k ∨ w'.heap.size ≤ k) (hL : Like l' rs') : Pair w'' ⟨g, r, l', x, u', v', rs'⟩ := by
  have hm := h.mineLt
  have hg := hm g (.inl rfl)
  have hr := hm r (.inr (.inl rfl))
  have hq := hm x (.inr (.inr (.inl rfl)))
  refine ⟨hT, hR, hL, h.ne, fun k hk => ?_, fun k hk => ?_, fun e he k hk => ?_, ?_⟩
  · rcases hu k hk with h1 | h1
    · exact h.nu k h1
    · dsimp only; omega
  · rcases hv k hk with h1 | h1
    · exact h.nv k h1
    · dsimp only; omega
  · have hlk := hl e he k hk
    have key : k ≠ x ∧ u.ownBlock ≠ some k ∧ v.ownBlock ≠ some k := by
      rcases hF e he with h1 | h1
      · exact h.apart e h1 k hk
      · have := h1 k hk
        exact ⟨by omega, fun h2 => by have := hm k (.inr (.inr (.inr (.inl h2)))); omega, fun h2 => by have := hm k (.inr (.inr (.inr (.inr h2)))); omega⟩
    refine ⟨key.1, fun h2 => ?_, fun h2 => ?_⟩
    · rcases hu k h2 with h1 | h1
      · exact key.2.1 h1
      · omega
    · rcases hv k h2 with h1 | h1
      · exact key.2.2 h1
      · omega
  · rintro k (hk | hk | hk | hk | hk)
    · exact h.pos k (.inl hk)
    · exact h.pos k (.inr (.inl hk))
    · exact h.pos k (.inr (.inr (.inl hk)))
    · rcases hu k hk with h1 | h1
      · exact h.pos k (.inr (.inr (.inr (.inl h1))))
      · omega
    · rcases hv k hk with h1 | h1
      · exact h.pos k (.inr (.inr (.inr (.inr h1))))
      · omega
/-- What a call may do to a place. -/
def Grown (w : World) (p q : Place) : Prop := q.g = p.g ∧ q.r = p.r ∧ q.q = p.q ∧ (∀ k, q.mine k → p.mine k ∨ w.heap.size ≤ k) ∧ ∀ k, q.vals k → p.vals k ∨ w.heap.size ≤ k
theorem Grown.of {g r x : Nat} {l l' : List Ent} {u v u' v' : Value} {rs rs' : RL} (hF : Fresh w l l') (hu : ∀ k, u'.ownBlock = some k → u.ownBlock = some k ∨ w.heap.size ≤ k) (hv : ∀ k, v'.ownBlock = some k → v.ownBlock = some k ∨ w.heap.size ≤ k) :
    Grown w ⟨g, r, l, x, u, v, rs⟩ ⟨g, r, l', x, u', v', rs'⟩ := by
  refine ⟨rfl, rfl, rfl, ?_, ?_⟩
  · rintro k (h | h | h | h | h)
    · exact .inl (.inl h)
    · exact .inl (.inr (.inl h))
    · exact .inl (.inr (.inr (.inl h)))
    · rcases hu k h with h | h
      · exact .inl (.inr (.inr (.inr (.inl h))))
      · exact .inr h
    · rcases hv k h with h | h
      · exact .inl (.inr (.inr (.inr (.inr h))))
      · exact .inr h
  · rintro k ⟨e, he, hk⟩
    rcases hF e he with h | h
    · exact .inl ⟨e, h, hk⟩
    · exact .inr (h k hk)
theorem Grown.refl : Grown w p p := ⟨rfl, rfl, rfl, fun _ h => .inl h, fun _ h => .inl h⟩
/-- Two places that a call of one of them leaves apart. -/
structure Apart (p q : Place) : Prop where
  mm : ∀ k, p.mine k → ¬ q.mine k
  mv : ∀ k, p.mine k → ¬ q.vals k
  vm : ∀ k, p.vals k → ¬ q.mine k
theorem Apart.symm (h : Apart p q) : Apart q p := ⟨fun k a b => h.mm k b a, fun k a b => h.vm k b a, fun k a b => h.mv k b a⟩
theorem Apart.grown {p' : Place} (h : Apart p q) (hq : Pair w q) (hg : Grown w p p') : Apart p' q := by
  obtain ⟨_, _, _, h1, h2⟩ := hg
  refine ⟨fun k a b => ?_, fun k a b => ?_, fun k a b => ?_⟩
  · rcases h1 k a with h3 | h3
    · exact h.mm k h3 b
    · have := hq.mineLt k b; omega
  · rcases h1 k a with h3 | h3
    · exact h.mv k h3 b
    · have := hq.valsLt k b; omega
  · rcases h2 k a with h3 | h3
    · exact h.vm k h3 b
    · have := hq.mineLt k b; omega
theorem Pair.beside (hq : Pair w q) (ha : Apart p q) (hc : Chg p.mine w w') : Pair w' q := hq.chg hc (fun k a b => ha.mm k b a) fun k a b => ha.mv k b a
end
end Go.Proofs.YtkbmlnkoejlgmaaDoor

/- does: a call against the reference's, walked. No condition. -/
namespace Go.Proofs.YtkbmlnkoejlgmaaDoor
open Go.RowKit Go.Fw Go.Pl Go.Sort

set_option maxRecDepth 100000 in
set_option maxHeartbeats 4000000 in
theorem does_any (g r g2 : Nat) (u v : Value) (l : List Ent) (rs : RL) (z : Int) (two : Bool) (D : Option Addr) (q e : Nat) (b : List UInt8) (w : World) (hPr : Pair w ⟨g, r, l, g2, u, v, rs⟩) (hK : Mem w ⟨0, 0, none⟩ (wds keysL)) (hb : By w (.slice D q e) b) (hbl : b ≠ [] → ∀ k, (Value.slice D q e).ownBlock = some k → k < w.heap.size ∧ ¬ Place.mine ⟨g, r, l, g2, u, v, rs⟩ k) (hbr : b.length ≤ 140737488351232) : Calls Tryd.prog 20 #[.pointer (some ⟨g, 0, none⟩), .pointer (some ⟨g2, 0, none⟩), actV z two D q e] w (Ret fun x w' => x = .bool true ∧ (∃ l' u' v' rs', Pair w' ⟨g, r, l', g2, u', v', rs'⟩ ∧ Fresh w l l' ∧ (∀ k, u'.ownBlock = some k → u.ownBlock = some k ∨ w.heap.size ≤ k) ∧ ∀ k, v'.ownBlock = some k → v.ownBlock = some k ∨ w.heap.size ≤ k) ∧ Chg (fun k => k = g ∨ k = r ∨ k = g2 ∨ u.ownBlock = some k ∨ v.ownBlock = some k) w w') := by
  have hT : StoreAt w g r l := hPr.st
  have hR : RAt w g2 u v rs := hPr.rf
  have hL : Like l rs := hPr.like
  have hlow := hT.low
  have hul := hR.ids.lt
  have hvl := hR.objs.lt
  have hgr := hT.lt
  have hg2l := hR.blk.lt
  obtain ⟨hng, hnr⟩ : g2 ≠ g ∧ g2 ≠ r := hPr.ne
  have hnu : ∀ k, u.ownBlock = some k → k ≠ g ∧ k ≠ r := hPr.nu
  have hnv : ∀ k, v.ownBlock = some k → k ≠ g ∧ k ≠ r := hPr.nv
  have hap : ∀ e ∈ l, ∀ k, e.v.ownBlock = some k → k ≠ g2 ∧ u.ownBlock ≠ some k ∧ v.ownBlock ≠ some k := hPr.apart
  have hpos : ∀ k, (k = g ∨ k = r ∨ k = g2 ∨ u.ownBlock = some k ∨ v.ownBlock = some k) → 0 < k := hPr.pos
  have hg0 := hpos g (.inl rfl)
  have hr0 := hpos r (.inr (.inl rfl))
  have hgs : ((at_ l (shaD b)).isSome == decide (rGetI rs (shaD b) = 0)) = true := by rw [← hL.getI]; cases h : at_ l (shaD b) <;> simp [getI, h]
  have hk0 : (0 : Nat) < w.heap.size := hK.lt (fun h => by cases h)
  have hbm := hb.len.1
  have hbn : b ≠ [] → ∀ k, (Value.slice D q e).ownBlock = some k → k ≠ g ∧ k ≠ r ∧ k ≠ g2 ∧ u.ownBlock ≠ some k ∧ v.ownBlock ≠ some k := fun h0 k hk => ⟨fun x => (hbl h0 k hk).2 (.inl x), fun x => (hbl h0 k hk).2 (.inr (.inl x)), fun x => (hbl h0 k hk).2 (.inr (.inr (.inl x))), fun x => (hbl h0 k hk).2 (.inr (.inr (.inr (.inl x)))), fun x => (hbl h0 k hk).2 (.inr (.inr (.inr (.inr x))))⟩
  replace hbl := fun h0 k hk => (hbl h0 k hk).1
  refine calls_of_CW 123 [6] [(0, .pointer (some ⟨g, 0, none⟩)), (1, .pointer (some ⟨g2, 0, none⟩)), (2, actV z two D q e)] Tryd.func20 rfl rfl rfl (by simp) args3 ?_
  have hE : Chg (fun k => k = g ∨ k = r ∨ k = g2 ∨ u.ownBlock = some k ∨ v.ownBlock = some k) w w := Chg.refl
  refine CW.seq fun K1 hK1 => ?_
  refine CW.region ?_   -- region 0
  refine WL.box rfl rfl (by decide) fun g5 w1 hx1 hg5 hB5 => ?_   -- t5 := box 51 t2
  have hlt5 := hB5.lt; have hz1 := hx1.size
  have hM5 := hB5.mem; have hz1 := hx1.size; have hE := hE.thenExt hx1; have hT := hT.ext hx1; have hR := hR.ext hx1; have hK := hK.ext hx1; have hb := hb.ext hx1
  refine WL.val (Y.assign rfl) (by decide) ?_   -- t6 := assign c(false)
  refine WL.nil ?_
  refine hK1 _ _ ?_; try clear hK1 K1
  refine CW.seq fun K2 hK2 => ?_
  refine CW.region ?_   -- region 1
  refine WL.val (Y.fieldAddr fo_recensionlaw11Act2 rfl) (by decide) ?_   -- t20 := fieldAddr 51 t5 2
  refine WL.val (Y.load1 Tryd.underlying26 rfl hB5.mem.recensionlaw11Act2 rfl) (by decide) ?_   -- t21 := load 26 t20
  refine WL.call Tryd.func29 rfl rfl rfl (rSum_any _ b _ hb (by omega)) (by simp) ?_; rintro v w2 ⟨rfl, hx2⟩; have hz2 := hx2.size; have hE := hE.thenExt hx2; have hT := hT.ext hx2; have hR := hR.ext hx2; have hK := hK.ext hx2; have hb := hb.ext hx2; have hB5 := hB5.ext hx2   -- t22 := call F29(t21) : 26
  refine as_apiDigest rfl (by simp) (by decide) fun g7 w3 hx3 hg7 hB7 => ?_   -- alloc 28; store 28 t7 t22
  have hlt7 := hB7.lt; have hz3 := hx3.size
  have hM7 := hB7.mem; have hz3 := hx3.size; have hE := hE.thenExt hx3; have hT := hT.ext hx3; have hR := hR.ext hx3; have hK := hK.ext hx3; have hb := hb.ext hx3; have hB5 := hB5.ext hx3
  refine WL.nil ?_
  refine hK2 _ _ ?_; try clear hK2 K2
  refine CW.seq fun K3 hK3 => ?_
  refine CW.seq fun K4 hK4 => ?_
  refine CW.region ?_   -- region 2
  refine WL.val (Y.fieldAddr fo_recensionlaw11Act0 rfl) (by decide) ?_   -- t23 := fieldAddr 51 t5 0
  refine WL.val (Y.load1 Tryd.underlying3 rfl hB5.mem.recensionlaw11Act0 rfl) (by decide) ?_   -- t24 := load 3 t23
  refine WL.nil ?_
  refine hK4 _ _ ?_; try clear hK4 K4
  refine CW.block ?_   -- block 0
  refine CW.seq fun K5 hK5 => ?_
  refine CW.region ?_   -- region 3
  refine WL.val (Y.eql rfl rfl) (by decide) ?_   -- t26 := binOp eql 3 t24 c(0:i64) 3
  refine WL.val (Y.assign rfl) (by decide) ?_   -- t25 := assign t26
  refine WL.nil ?_
  refine hK5 _ _ ?_; try clear hK5 K5
  first | refine CW.condD rfl (fun ht6 => ?_) (fun ht6 => ?_) | refine CW.condND rfl (fun ht6 => ?_) (fun ht6 => ?_) | refine CW.condN rfl (fun ht6 => ?_) (fun ht6 => ?_) | refine CW.cond rfl (fun ht6 => ?_) (fun ht6 => ?_)
  · -- then
    refine CW.seq fun K7 hK7 => ?_
    refine CW.region ?_   -- region 4
    refine WL.st (St.buildSlice0 Tryd.underlying26 sz_uint8) (by decide) fun v27 w4 hR4 => ?_   -- t27 := buildSlice 26 0 []
    obtain ⟨g27, rfl, hg27, hO27, hx4⟩ := hR4
    have hz4 := hx4.size
    have hE := hE.thenExt hx4
    have hT := hT.ext hx4
    have hR := hR.ext hx4
    have hK := hK.ext hx4
    have hb := hb.ext hx4
    have hB5 := hB5.ext hx4
    have hB7 := hB7.ext hx4
    refine WL.val (Y.fieldAddr fo_recensionlaw11Act2 rfl) (by decide) ?_   -- t28 := fieldAddr 51 t5 2
    refine WL.val (Y.load1 Tryd.underlying26 rfl hB5.mem.recensionlaw11Act2 rfl) (by decide) ?_   -- t29 := load 26 t28
    refine WL.st (St.app (xs := []) (ys := b) Tryd.underlying26 Tryd.underlying26 ai_u8 rfl rfl hO27 (Src.by hb) (by simp only [List.length_nil]; omega)) (by decide) fun v30 w5 hR5 => ?_   -- t30 := call append(t27, t29) : 26,26
    obtain ⟨hO30, hc5, hf5⟩ := hR5
    have hc5 := hc5.mono (T := fun k => k = g27) (fun k _ h => by simp [Value.ownBlock] at h; exact h.symm)
    have hz5 := hc5.size
    have hfr : ∀ k, v30.ownBlock = some k → w3.heap.size ≤ k := by
      rcases hf5 with h | h
      · intro k hk; rw [h] at hk; simp [Value.ownBlock] at hk; omega
      · intro k hk; have := h k hk; omega
    have hO30 : Own w5 TU8 1 v30 (bytesC b) := by simpa using hO30
    have hE := hE.stepO hc5 (fun k h => .inr (by omega))
    have hT := hT.chg hc5 (fun h => by omega) (fun h => by omega) (fun e he k hk h => by have := hlow e he k hk; omega)
    have hR := hR.chg hc5 (fun h => by omega) (fun k hk h => by have := hul k hk; omega) (fun k hk h => by have := hvl k hk; omega)
    have hK := hK.chg hc5 (fun h => by change 0 = _ at h; omega)
    have hb := hb.chg hc5 (fun h0 k hk h => by have := hbl h0 k hk; omega)
    have hB5 := hB5.chg hc5 (fun h => by omega)
    have hB7 := hB7.chg hc5 (fun h => by omega)
    obtain ⟨A30, m30, c30, rfl⟩ := hO30.lens
    have h30lt := hO30.lt
    have h30l := hO30.by.len.1
    refine WL.val (Y.assign rfl) (by decide) ?_   -- t8 := assign t30
    refine WL.nil ?_
    refine hK7 _ _ ?_; try clear hK7 K7
    refine CW.seq fun K8 hK8 => ?_
    refine CW.region ?_   -- region 5
    refine WL.val (Y.move rfl) (by decide) ?_   -- t32 := move t0
    refine WL.val (Y.move rfl) (by decide) ?_   -- t33 := move t8
    refine WL.call Tryd.func9 rfl rfl rfl (stPut_any g r l _ b _ hT hK ⟨hg0, hr0⟩ hO30.by (fun _ k hk => by have := hfr k hk; have := h30lt k hk; omega)) (by simp) ?_; rintro v34 w6 hR6   -- t34 := call F9(t32, t33) : 23,26
    obtain ⟨rfl, ⟨l2, ⟨hP, hF⟩, hT⟩, hc6⟩ := hR6
    have hz6 := hc6.size
    have hE := hE.stepO hc6 (fun k h => .inl (by rcases h with h | h; exact .inl h; exact .inr (.inl h)))
    have hR := hR.chg hc6 (fun h => by omega) (fun k hk h => by have := hnu k hk; omega) (fun k hk h => by have := hnv k hk; omega)
    have hK := hK.chg hc6 (fun h => by change 0 = _ ∨ 0 = _ at h; omega)
    have hb := hb.chg hc6 (fun h0 k hk h => by have := hbn h0 k hk; omega)
    have hB5 := hB5.chg hc6 (fun h => by omega)
    have hB7 := hB7.chg hc6 (fun h => by omega)
    have hO30 := hO30.chg hc6 (fun k hk h => by have := hfr k hk; omega)
    have hlow6 := hT.low
    have hfull : ∀ e ∈ l2, ∀ k, e.v.ownBlock = some k → k ≠ g2 ∧ u.ownBlock ≠ some k ∧ v.ownBlock ≠ some k := by
      intro e he k hk
      rcases hF e he with h1 | h1
      · exact hap e h1 k hk
      · have h2 := h1 k hk
        exact ⟨by omega, fun h => by have := hul k h; omega, fun h => by have := hvl k h; omega⟩
    have hne30 : ∀ e ∈ l2, ∀ k, e.v.ownBlock = some k → (Value.slice A30 m30 c30).ownBlock ≠ some k := by
      intro e he k hk h
      have h3 := hfr k h
      have h4 := h30lt k h
      rcases hF e he with h1 | h1
      · have := hlow e h1 k hk; omega
      · have := h1 k hk; omega
    refine WL.val (Y.move rfl) (by decide) ?_   -- t31 := move t34
    refine WL.val (Y.extract rfl rfl) (by decide) ?_   -- t35 := extract t31 0
    refine WL.val (Y.extract rfl rfl) (by decide) ?_   -- t36 := extract t31 1
    refine as_apiDigest rfl (by simp) (by decide) fun g9 w7 hx7 hg9 hB9 => ?_   -- alloc 28; store 28 t9 t35
    have hlt9 := hB9.lt; have hz7 := hx7.size
    have hM9 := hB9.mem; have hz7 := hx7.size; have hE := hE.thenExt hx7; have hT := hT.ext hx7; have hR := hR.ext hx7; have hK := hK.ext hx7; have hb := hb.ext hx7; have hB5 := hB5.ext hx7; have hB7 := hB7.ext hx7
    refine WL.val (Y.assign rfl) (by decide) ?_   -- t10 := assign t36
    refine WL.nil ?_
    refine hK8 _ _ ?_; try clear hK8 K8
    refine CW.seq fun K9 hK9 => ?_
    refine CW.region ?_   -- region 6
    refine WL.val (Y.move rfl) (by decide) ?_   -- t38 := move t1
    refine WL.val (Y.fieldAddr fo_recensionlaw11Act2 rfl) (by decide) ?_   -- t39 := fieldAddr 51 t5 2
    refine WL.val (Y.load1 Tryd.underlying26 rfl hB5.mem.recensionlaw11Act2 rfl) (by decide) ?_   -- t40 := load 26 t39
    refine WL.val (Y.bytes_string Tryd.underlying26 Tryd.underlying5 Tryd.underlying9 rfl hb.len.1 hb.mem.1 hb.mem.2) (by decide) ?_   -- t41 := convert 26 9 t40
    refine WL.call Tryd.func30 rfl rfl rfl (rPut_any g2 u v rs b _ hR) (by simp) ?_; rintro v42 w8 hR8   -- t42 := call F30(t38, t41) : 45,9
    obtain ⟨rfl, ⟨u2, v2, hR, hu2, hv2⟩, hc8⟩ := hR8
    have hz8 := hc8.size
    have hE := hE.stepO hc8 (fun k h => .inl (.inr (.inr h)))
    have hT := hT.chg hc8 (fun h => by rcases h with h | h | h; omega; exact (hnu _ h).1 rfl; exact (hnv _ h).1 rfl) (fun h => by rcases h with h | h | h; omega; exact (hnu _ h).2 rfl; exact (hnv _ h).2 rfl) (fun e he k hk h => by have h5 := hfull e he k hk; rcases h with h | h | h; exact h5.1 h; exact h5.2.1 h; exact h5.2.2 h)
    have hUV : ∀ k, (k = g2 ∨ u.ownBlock = some k ∨ v.ownBlock = some k) → k < w.heap.size := by
      rintro k (h | h | h)
      · omega
      · exact hul k h
      · exact hvl k h
    have hK := hK.chg hc8 (fun h => by have := hpos 0 (.inr (.inr h)); omega)
    have hb := hb.chg hc8 (fun h0 k hk h => by have h5 := hbn h0 k hk; rcases h with h | h | h; exact h5.2.2.1 h; exact h5.2.2.2.1 h; exact h5.2.2.2.2 h)
    have hB5 := hB5.chg hc8 (fun h => by have := hUV _ h; omega)
    have hB7 := hB7.chg hc8 (fun h => by have := hUV _ h; omega)
    have hB9 := hB9.chg hc8 (fun h => by have := hUV _ h; omega)
    have hO30 := (hO30.ext hx7).chg hc8 (fun k hk h => by have := hfr k hk; have := hUV k h; omega)
    have hnu30 : ∀ k, u2.ownBlock = some k → (Value.slice A30 m30 c30).ownBlock ≠ some k := by
      intro k hk h
      have h3 := hfr k h
      have h4 := h30lt k h
      rcases hu2 k hk with h1 | h1
      · have := hul k h1; omega
      · omega
    have hnv30 : ∀ k, v2.ownBlock = some k → (Value.slice A30 m30 c30).ownBlock ≠ some k := by
      intro k hk h
      have h3 := hfr k h
      have h4 := h30lt k h
      rcases hv2 k hk with h1 | h1
      · have := hvl k h1; omega
      · omega
    refine WL.val (Y.move rfl) (by decide) ?_   -- t37 := move t42
    refine WL.val (Y.extract rfl rfl) (by decide) ?_   -- t43 := extract t37 0
    refine WL.val (Y.extract rfl rfl) (by decide) ?_   -- t44 := extract t37 1
    refine as_apiDigest rfl (by simp) (by decide) fun g11 w9 hx9 hg11 hB11 => ?_   -- alloc 28; store 28 t11 t43
    have hlt11 := hB11.lt; have hz9 := hx9.size
    have hM11 := hB11.mem; have hz9 := hx9.size; have hE := hE.thenExt hx9; have hT := hT.ext hx9; have hR := hR.ext hx9; have hK := hK.ext hx9; have hb := hb.ext hx9; have hB5 := hB5.ext hx9; have hB7 := hB7.ext hx9; have hB9 := hB9.ext hx9
    refine WL.val (Y.assign rfl) (by decide) ?_   -- t12 := assign t44
    refine WL.nil ?_
    refine hK9 _ _ ?_; try clear hK9 K9
    refine CW.seq fun K10 hK10 => ?_
    refine CW.seq fun K11 hK11 => ?_
    refine CW.region ?_   -- region 7
    refine WL.val (Y.move rfl) (by decide) ?_   -- t45 := move t8
    refine WL.val (Y.len_slice Tryd.underlying26 rfl) (by decide) ?_   -- t46 := call len(t45) : 26
    refine WL.val (Y.move rfl) (by decide) ?_   -- t47 := move c(0:i64)
    refine WL.nil ?_
    refine hK11 _ _ ?_; try clear hK11 K11
    refine CW.block ?_   -- block 1
    refine CW.loop (X := Nat × List UInt8) (fun x => [(8, .slice A30 m30 c30), (9, .pointer (some ⟨g9, 0, none⟩)), (10, .int .i64 (putE l b)), (11, .pointer (some ⟨g11, 0, none⟩)), (12, .int .i64 (rPutE rs b)), (46, .int .i64 (m30 : Int)), (47, .int .i64 (x.1 : Int))]) (fun x w0 => x.1 ≤ m30 ∧ x.2.length = m30 ∧ Own w0 TU8 1 (Value.slice A30 m30 c30) (bytesC x.2) ∧ Chg (fun k => (Value.slice A30 m30 c30).ownBlock = some k) w9 w0) (fun x => m30 - x.1) (0, b) (by repeat (first | exact Fr.le.nil | refine Fr.le.cons rfl ?_)) ⟨Nat.zero_le _, by have := (hO30.ext hx9).by.len.1; omega, (hO30.ext hx9), Chg.refl⟩ ?_
    intro x w10 hl10
    obtain ⟨x, ys⟩ := x
    dsimp only at hl10 ⊢
    obtain ⟨hx, hyl, hO30, hCb⟩ := hl10
    have hzb := hCb.size
    have hE := hE.stepO hCb (fun k h => .inr (by have := hfr k h; omega))
    have hT := hT.chg hCb (fun h => by have := hfr _ h; omega) (fun h => by have := hfr _ h; omega) (fun e he k hk h => hne30 e he k hk h)
    have hR := hR.chg hCb (fun h => by have := hfr _ h; omega) (fun k hk h => hnu30 k hk h) (fun k hk h => hnv30 k hk h)
    have hK := hK.chg hCb (fun h => by have := hfr _ h; change _ ≤ 0 at this; omega)
    have hb := hb.chg hCb (fun h0 k hk h => by have := hbl h0 k hk; have := hfr k h; omega)
    have hB5 := hB5.chg hCb (fun h => by first | (have := hfr _ h; omega) | (have := h30lt _ h; omega))
    have hB7 := hB7.chg hCb (fun h => by first | (have := hfr _ h; omega) | (have := h30lt _ h; omega))
    have hB9 := hB9.chg hCb (fun h => by first | (have := hfr _ h; omega) | (have := h30lt _ h; omega))
    have hB11 := hB11.chg hCb (fun h => by first | (have := hfr _ h; omega) | (have := h30lt _ h; omega))
    refine CW.seq fun K12 hK12 => ?_
    refine CW.region ?_   -- region 8
    refine WL.val (Y.lss rfl rfl) (by decide) ?_   -- t48 := binOp lss 3 t47 t46 3
    refine WL.nil ?_
    refine hK12 _ _ ?_; try clear hK12 K12
    refine CW.seq fun K13 hK13 => ?_
    first | refine CW.condD rfl (fun ht14 => ?_) (fun ht14 => ?_) | refine CW.condND rfl (fun ht14 => ?_) (fun ht14 => ?_) | refine CW.condN rfl (fun ht14 => ?_) (fun ht14 => ?_) | refine CW.cond rfl (fun ht14 => ?_) (fun ht14 => ?_)
    · -- then
      refine CW.skip ?_
      refine hK13 _ _ ?_; try clear hK13 K13
      refine CW.seq fun K15 hK15 => ?_
      refine CW.block ?_   -- block 2
      refine CW.seq fun K16 hK16 => ?_
      refine CW.region ?_   -- region 9
      refine WL.val (Y.move rfl) (by decide) ?_   -- t49 := move t47
      refine WL.val (Y.assign rfl) (by decide) ?_   -- t13 := assign t49
      refine WL.nil ?_
      refine hK16 _ _ ?_; try clear hK16 K16
      obtain ⟨y, hy⟩ : ∃ y, ys[x]? = some y := ⟨_, List.getElem?_eq_getElem (by omega)⟩
      obtain ⟨gx, rfl⟩ := own_block hO30 (by omega)
      obtain ⟨_, he, hma⟩ := hO30.by.mem.1 (by omega)
      cases he
      have hgxo := hfr gx rfl
      have hgxl := h30lt gx rfl
      refine CW.region ?_   -- region 10
      refine WL.val (Y.move rfl) (by decide) ?_   -- t50 := move t8
      refine WL.val (Y.move rfl) (by decide) ?_   -- t51 := move t13
      refine WL.val (Y.indexAddrN Tryd.underlying26 rfl rfl sz0_uint8 (by omega)) (by decide) ?_   -- t52 := indexAddr 26 t50 t51
      refine WL.val (Y.load1 Tryd.underlying5 rfl (hma (x * 1) _ (by rw [Nat.mul_one]; exact bytesC_get hy)) rfl) (by decide) ?_   -- t53 := load 5 t52
      refine WL.val (Y.add_k rfl rfl) (by decide) ?_   -- t54 := binOp add 5 t53 c(1:u8) 5
      refine WL.val (Y.indexAddrN Tryd.underlying26 rfl rfl sz0_uint8 (by omega)) (by decide) ?_   -- t55 := indexAddr 26 t50 t51
      refine WL.storeO (g := gx) (pre := bytesC (ys.take x)) (old := [bc y]) (post := bytesC (ys.drop (x + 1))) (new := [bc (y + 1)]) rfl (by rw [add_zero', bytesC_length, List.length_take]; congr 1; omega) (by rw [u8_inc]; rfl) rfl (by kernel_rfl) (by rw [split_at hy]; exact hO30) (by first | rfl | (simp [digC_length, opC_length]; done) | (simp only [digC_length, opC_length]; omega)) (one1 rfl) (fun w11 hc11 hB11_ => ?_)   -- _ := store 5 t55 t54
      have hz11 := hc11.size; have hE := hE.stepO hc11 (fun k h => (by show (k = g ∨ k = r ∨ k = g2 ∨ u.ownBlock = some k ∨ v.ownBlock = some k) ∨ _; omega)); have hT := hT.chg hc11 (fun h => by omega) (fun h => by omega) (fun e he k hk h => hne30 e he k hk (by rw [h]; rfl)); have hR := hR.chg hc11 (fun h => by omega) (fun k hk h => hnu30 k hk (by rw [h]; rfl)) (fun k hk h => hnv30 k hk (by rw [h]; rfl)); have hK := hK.chg hc11 (fun h => by change 0 = _ at h; omega); have hb := hb.chg hc11 (fun h0 k hk h => by have := hbl h0 k hk; omega); have hB5 := hB5.chg hc11 (fun h => by omega); have hB7 := hB7.chg hc11 (fun h => by omega); have hB9 := hB9.chg hc11 (fun h => by omega); have hB11 := hB11.chg hc11 (fun h => by omega)
      skip
      refine WL.nil ?_
      refine hK15 _ _ ?_; try clear hK15 K15
      refine CW.region ?_   -- region 11
      refine WL.val (Y.add rfl rfl ⟨by omega, by omega⟩) (by decide) ?_   -- t56 := binOp add 3 t47 c(1:i64) 3
      refine WL.val (Y.move rfl) (by decide) ?_   -- t47 := move t56
      refine WL.nil ?_
      refine ⟨(x + 1, ys.take x ++ [y + 1] ++ ys.drop (x + 1)), by show m30 - (x + 1) < m30 - x; omega, (by repeat (first | exact Fr.le.nil | refine Fr.le.cons rfl ?_)), by show x + 1 ≤ m30; omega, ?_, ?_, ?_⟩
      · simp only [List.length_append, List.length_take, List.length_drop, List.length_singleton]; omega
      · show Own _ _ _ _ (bytesC (ys.take x ++ [y + 1] ++ ys.drop (x + 1)))
        simpa [bytesC] using hB11_
      · exact hCb.trans hc11 (fun k _ h => by rw [h]; rfl)
    -- else
    refine CW.exit ?_   -- exit 1
    refine hK10 _ _ ?_; try clear hK10 K10
    refine CW.seq fun K17 hK17 => ?_
    refine CW.region ?_   -- region 12
    refine WL.val (Y.load Tryd.underlying28 rfl hB9.mem (sz_apiDigest _) rfl) (by decide) ?_   -- t57 := load 28 t9
    refine WL.val (Y.load Tryd.underlying28 rfl hB11.mem (sz_apiDigest _) rfl) (by decide) ?_   -- t58 := load 28 t11
    refine WL.val (Y.eql_apiDigest rfl rfl) (by decide) ?_   -- t59 := binOp eql 28 t57 t58 28
    refine WL.val (Y.move rfl) (by decide) ?_   -- t60 := move t59
    refine WL.know (d := 60) (u := .bool true) rfl (by rw [decide_eq_true (hL.putD b)]) ?_
    refine WL.gval rfl rfl (Y.move rfl) (by decide) ?_   -- t61 := move t10 [if 3=true]
    refine WL.gval rfl rfl (Y.move rfl) (by decide) ?_   -- t62 := move t12 [if 3=true]
    refine WL.gval rfl rfl (Y.eql rfl rfl) (by decide) ?_   -- t63 := binOp eql 3 t61 t62 3 [if 3=true]
    refine WL.val (Y.pick rfl rfl) (by decide) ?_   -- t64 := pick t60 t63 c(false)
    refine WL.val (Y.assign rfl) (by decide) ?_   -- t6 := assign t64
    refine WL.nil ?_
    refine hK17 _ _ ?_; try clear hK17 K17
    refine CW.ret ⟨_, rfl, ?_⟩
    exact ⟨by rw [decide_eq_true (hL.putE b)], ⟨l2, u2, v2, _, hPr.next (w' := w7) (by omega) hT (fun e he k hk => by have := hlow6 e he k hk; omega) (fun e he => (hF e he).imp id (fun h k hk => by have := h k hk; omega)) hR hu2 hv2 (hL.put hT.keys hP), (fun e he => (hF e he).imp id (fun h k hk => by have := h k hk; omega)), (fun k h => (hu2 k h).imp id (fun h => by omega)), (fun k h => (hv2 k h).imp id (fun h => by omega))⟩, hE⟩
  -- else
  refine CW.seq fun K18 hK18 => ?_
  refine CW.region ?_   -- region 13
  refine WL.val (Y.eql rfl rfl) (by decide) ?_   -- t66 := binOp eql 3 t24 c(1:i64) 3
  refine WL.val (Y.assign rfl) (by decide) ?_   -- t65 := assign t66
  refine WL.nil ?_
  refine hK18 _ _ ?_; try clear hK18 K18
  first | refine CW.condD rfl (fun ht19 => ?_) (fun ht19 => ?_) | refine CW.condND rfl (fun ht19 => ?_) (fun ht19 => ?_) | refine CW.condN rfl (fun ht19 => ?_) (fun ht19 => ?_) | refine CW.cond rfl (fun ht19 => ?_) (fun ht19 => ?_)
  · -- then
    refine CW.seq fun K20 hK20 => ?_
    refine CW.region ?_   -- region 14
    refine WL.val (Y.move rfl) (by decide) ?_   -- t68 := move t0
    refine WL.val (Y.load Tryd.underlying28 rfl hB7.mem (sz_apiDigest _) rfl) (by decide) ?_   -- t69 := load 28 t7
    refine WL.call Tryd.func10 rfl rfl rfl (stGet_any g r l (shaD b) _ hT) (by simp) ?_; rintro v70 w12 hR12   -- t70 := call F10(t68, t69) : 23,28
    obtain ⟨v71, rfl, hO71, hfr, hx12⟩ := hR12
    have hz12 := hx12.size
    have hE := hE.thenExt hx12
    have hT := hT.ext hx12
    have hR := hR.ext hx12
    have hK := hK.ext hx12
    have hb := hb.ext hx12
    have hB5 := hB5.ext hx12
    have hB7 := hB7.ext hx12
    obtain ⟨A71, m71, c71, rfl⟩ := hO71.lens
    have h30lt := hO71.lt
    have h71l := hO71.by.len.1
    have h71b := getB_le hT (shaD b)
    have hne30 : ∀ e ∈ l, ∀ k, e.v.ownBlock = some k → (Value.slice A71 m71 c71).ownBlock ≠ some k := fun e he k hk h => by have := hlow e he k hk; have := hfr k h; omega
    have hnu30 : ∀ k, u.ownBlock = some k → (Value.slice A71 m71 c71).ownBlock ≠ some k := fun k hk h => by have := hul k hk; have := hfr k h; omega
    have hnv30 : ∀ k, v.ownBlock = some k → (Value.slice A71 m71 c71).ownBlock ≠ some k := fun k hk h => by have := hvl k hk; have := hfr k h; omega
    refine WL.val (Y.move rfl) (by decide) ?_   -- t67 := move t70
    refine WL.val (Y.extract rfl rfl) (by decide) ?_   -- t71 := extract t67 0
    refine WL.val (Y.extract rfl rfl) (by decide) ?_   -- t72 := extract t67 1
    refine WL.val (Y.assign rfl) (by decide) ?_   -- t14 := assign t71
    refine WL.val (Y.assign rfl) (by decide) ?_   -- t15 := assign t72
    refine WL.nil ?_
    refine hK20 _ _ ?_; try clear hK20 K20
    refine CW.seq fun K21 hK21 => ?_
    refine CW.region ?_   -- region 15
    refine WL.val (Y.move rfl) (by decide) ?_   -- t74 := move t1
    refine WL.val (Y.load Tryd.underlying28 rfl hB7.mem (sz_apiDigest _) rfl) (by decide) ?_   -- t75 := load 28 t7
    refine WL.call Tryd.func31 rfl rfl rfl (rGet_any g2 rs (shaD b) _ ⟨_, _, hR⟩) (by simp) ?_; rintro v w13 ⟨rfl, hx13⟩; have hz13 := hx13.size; have hE := hE.thenExt hx13; have hT := hT.ext hx13; have hR := hR.ext hx13; have hK := hK.ext hx13; have hb := hb.ext hx13; have hB5 := hB5.ext hx13; have hB7 := hB7.ext hx13   -- t76 := call F31(t74, t75) : 45,28
    refine WL.val (Y.move rfl) (by decide) ?_   -- t73 := move t76
    refine WL.val (Y.extract rfl rfl) (by decide) ?_   -- t77 := extract t73 0
    refine WL.val (Y.extract rfl rfl) (by decide) ?_   -- t78 := extract t73 1
    refine WL.val (Y.assign rfl) (by decide) ?_   -- t16 := assign t77
    refine WL.val (Y.assign rfl) (by decide) ?_   -- t17 := assign t78
    refine WL.nil ?_
    refine hK21 _ _ ?_; try clear hK21 K21
    refine CW.seq_testE 18 (True) ?_ ?_
    · refine CW.region ?_
      refine WL.val (Y.move rfl) (by decide) ?_   -- t79 := move t14
      refine WL.val (Y.bytes_string Tryd.underlying26 Tryd.underlying5 Tryd.underlying9 rfl hO71.by.len.1 (hO71.ext hx13).by.mem.1 hO71.by.mem.2) (by decide) ?_   -- t80 := convert 26 9 t79
      refine WL.val (Y.move rfl) (by decide) ?_   -- t81 := move t16
      refine WL.val (Y.eql_string rfl rfl) (by decide) ?_   -- t82 := binOp eql 9 t80 t81 9
      refine WL.val (Y.move rfl) (by decide) ?_   -- t83 := move t82
      refine WL.know (d := 83) (u := .bool true) rfl (by rw [hL.getB, beq_self_eq_true]) ?_
      refine WL.gval rfl rfl (Y.move rfl) (by decide) ?_   -- t84 := move t15 [if 4=true]
      refine WL.gval rfl rfl (Y.move rfl) (by decide) ?_   -- t85 := move t17 [if 4=true]
      refine WL.gval rfl rfl (Y.eql rfl rfl) (by decide) ?_   -- t86 := binOp eql 3 t84 t85 3 [if 4=true]
      refine WL.val (Y.pick rfl rfl) (by decide) ?_   -- t87 := pick t83 t86 c(false)
      refine WL.val (Y.move rfl) (by decide) ?_   -- t88 := move t87
      refine WL.know (d := 88) (u := .bool true) rfl (by rw [decide_eq_true (hL.getI _)]) ?_
      refine WL.gval rfl rfl (Y.move rfl) (by decide) ?_   -- t89 := move t0 [if 9=true]
      refine WL.gval rfl rfl (Y.load Tryd.underlying28 rfl hB7.mem (sz_apiDigest _) rfl) (by decide) ?_   -- t90 := load 28 t7 [if 9=true]
      refine WL.gcall rfl rfl Tryd.func13 rfl rfl rfl (stHas_any g r l (shaD b) _ hT) (by decide) ?_; rintro v w14 ⟨rfl, hx14⟩; have hz14 := hx14.size; have hE := hE.thenExt hx14; have hT := hT.ext hx14; have hR := hR.ext hx14; have hK := hK.ext hx14; have hb := hb.ext hx14; have hB5 := hB5.ext hx14; have hB7 := hB7.ext hx14   -- t91 := call F13(t89, t90) : 23,28 [if 9=true]
      refine WL.gval rfl rfl (Y.move rfl) (by decide) ?_   -- t92 := move t17 [if 9=true]
      refine WL.gval rfl rfl (Y.eql rfl rfl) (by decide) ?_   -- t93 := binOp eql 3 t92 c(0:i64) 3 [if 9=true]
      refine WL.gval rfl rfl (Y.eql_bool Tryd.underlying4 rfl rfl) (by decide) ?_   -- t94 := binOp eql 4 t91 t93 4 [if 9=true]
      refine WL.val (Y.pick rfl rfl) (by decide) ?_   -- t95 := pick t88 t94 c(false)
      refine WL.val (Y.assign rfl) (by decide) ?_   -- t18 := assign t95
      refine WL.nil ⟨⟨_, rfl, ?_⟩, hx14, (by repeat (first | exact Fr.le.refl | refine Fr.le.push rfl ?_))⟩
      first | (simp only [*, Int.natCast_inj, Bool.not_eq_true', decide_eq_false_iff_not, decide_eq_true_eq, not_true_eq_false, not_false_eq_true, true_and, false_and, and_true, and_false, false_or, or_false, true_or, or_true, iff_true, true_iff, iff_false, false_iff]; done) | (simp_all; done) | (refine congrArg Value.bool (Bool.eq_iff_iff.2 ?_); simp_all; done) | (simp_all; omega)
    intro w15 hx15; have hz15 := hx15.size; have hE := hE.thenExt hx15; have hT := hT.ext hx15; have hR := hR.ext hx15; have hK := hK.ext hx15; have hb := hb.ext hx15; have hB5 := hB5.ext hx15; have hB7 := hB7.ext hx15
    refine CW.seq fun K22 hK22 => ?_
    refine CW.seq fun K23 hK23 => ?_
    refine CW.region ?_   -- region 17
    refine WL.val (Y.move rfl) (by decide) ?_   -- t96 := move t14
    refine WL.val (Y.len_slice Tryd.underlying26 rfl) (by decide) ?_   -- t97 := call len(t96) : 26
    refine WL.val (Y.move rfl) (by decide) ?_   -- t98 := move c(0:i64)
    refine WL.nil ?_
    refine hK23 _ _ ?_; try clear hK23 K23
    refine CW.block ?_   -- block 3
    refine CW.loop (X := Nat × List UInt8) (fun x => [(14, .slice A71 m71 c71), (18, .bool (@decide True (Classical.propDecidable True))), (97, .int .i64 (m71 : Int)), (98, .int .i64 (x.1 : Int))]) (fun x w0 => x.1 ≤ m71 ∧ x.2.length = m71 ∧ Own w0 TU8 1 (Value.slice A71 m71 c71) (bytesC x.2) ∧ Chg (fun k => (Value.slice A71 m71 c71).ownBlock = some k) w15 w0) (fun x => m71 - x.1) (0, getB l (shaD b)) (by repeat (first | exact Fr.le.nil | refine Fr.le.cons rfl ?_)) ⟨Nat.zero_le _, by have := ((hO71.ext hx13).ext hx15).by.len.1; omega, ((hO71.ext hx13).ext hx15), Chg.refl⟩ ?_
    intro x w16 hl16
    obtain ⟨x, ys⟩ := x
    dsimp only at hl16 ⊢
    obtain ⟨hx, hyl, hO30, hCb⟩ := hl16
    have hzb := hCb.size
    have hE := hE.stepO hCb (fun k h => .inr (by have := hfr k h; omega))
    have hT := hT.chg hCb (fun h => by have := hfr _ h; omega) (fun h => by have := hfr _ h; omega) (fun e he k hk h => hne30 e he k hk h)
    have hR := hR.chg hCb (fun h => by have := hfr _ h; omega) (fun k hk h => hnu30 k hk h) (fun k hk h => hnv30 k hk h)
    have hK := hK.chg hCb (fun h => by have := hfr _ h; change _ ≤ 0 at this; omega)
    have hb := hb.chg hCb (fun h0 k hk h => by have := hbl h0 k hk; have := hfr k h; omega)
    have hB5 := hB5.chg hCb (fun h => by first | (have := hfr _ h; omega) | (have := h30lt _ h; omega))
    have hB7 := hB7.chg hCb (fun h => by first | (have := hfr _ h; omega) | (have := h30lt _ h; omega))
    refine CW.seq fun K24 hK24 => ?_
    refine CW.region ?_   -- region 18
    refine WL.val (Y.lss rfl rfl) (by decide) ?_   -- t99 := binOp lss 3 t98 t97 3
    refine WL.nil ?_
    refine hK24 _ _ ?_; try clear hK24 K24
    refine CW.seq fun K25 hK25 => ?_
    first | refine CW.condD rfl (fun ht26 => ?_) (fun ht26 => ?_) | refine CW.condND rfl (fun ht26 => ?_) (fun ht26 => ?_) | refine CW.condN rfl (fun ht26 => ?_) (fun ht26 => ?_) | refine CW.cond rfl (fun ht26 => ?_) (fun ht26 => ?_)
    · -- then
      refine CW.skip ?_
      refine hK25 _ _ ?_; try clear hK25 K25
      refine CW.seq fun K27 hK27 => ?_
      refine CW.block ?_   -- block 4
      refine CW.seq fun K28 hK28 => ?_
      refine CW.region ?_   -- region 19
      refine WL.val (Y.move rfl) (by decide) ?_   -- t100 := move t98
      refine WL.val (Y.assign rfl) (by decide) ?_   -- t19 := assign t100
      refine WL.nil ?_
      refine hK28 _ _ ?_; try clear hK28 K28
      obtain ⟨y, hy⟩ : ∃ y, ys[x]? = some y := ⟨_, List.getElem?_eq_getElem (by omega)⟩
      obtain ⟨gx, rfl⟩ := own_block hO30 (by omega)
      obtain ⟨_, he, hma⟩ := hO30.by.mem.1 (by omega)
      cases he
      have hgxo := hfr gx rfl
      have hgxl := h30lt gx rfl
      refine CW.region ?_   -- region 20
      refine WL.val (Y.move rfl) (by decide) ?_   -- t101 := move t14
      refine WL.val (Y.move rfl) (by decide) ?_   -- t102 := move t19
      refine WL.val (Y.indexAddrN Tryd.underlying26 rfl rfl sz0_uint8 (by omega)) (by decide) ?_   -- t103 := indexAddr 26 t101 t102
      refine WL.val (Y.load1 Tryd.underlying5 rfl (hma (x * 1) _ (by rw [Nat.mul_one]; exact bytesC_get hy)) rfl) (by decide) ?_   -- t104 := load 5 t103
      refine WL.val (Y.add_k rfl rfl) (by decide) ?_   -- t105 := binOp add 5 t104 c(1:u8) 5
      refine WL.val (Y.indexAddrN Tryd.underlying26 rfl rfl sz0_uint8 (by omega)) (by decide) ?_   -- t106 := indexAddr 26 t101 t102
      refine WL.storeO (g := gx) (pre := bytesC (ys.take x)) (old := [bc y]) (post := bytesC (ys.drop (x + 1))) (new := [bc (y + 1)]) rfl (by rw [add_zero', bytesC_length, List.length_take]; congr 1; omega) (by rw [u8_inc]; rfl) rfl (by kernel_rfl) (by rw [split_at hy]; exact hO30) (by first | rfl | (simp [digC_length, opC_length]; done) | (simp only [digC_length, opC_length]; omega)) (one1 rfl) (fun w17 hc17 hB17_ => ?_)   -- _ := store 5 t106 t105
      have hz17 := hc17.size; have hE := hE.stepO hc17 (fun k h => (by show (k = g ∨ k = r ∨ k = g2 ∨ u.ownBlock = some k ∨ v.ownBlock = some k) ∨ _; omega)); have hT := hT.chg hc17 (fun h => by omega) (fun h => by omega) (fun e he k hk h => hne30 e he k hk (by rw [h]; rfl)); have hR := hR.chg hc17 (fun h => by omega) (fun k hk h => hnu30 k hk (by rw [h]; rfl)) (fun k hk h => hnv30 k hk (by rw [h]; rfl)); have hK := hK.chg hc17 (fun h => by change 0 = _ at h; omega); have hb := hb.chg hc17 (fun h0 k hk h => by have := hbl h0 k hk; omega); have hB5 := hB5.chg hc17 (fun h => by omega); have hB7 := hB7.chg hc17 (fun h => by omega)
      skip
      refine WL.nil ?_
      refine hK27 _ _ ?_; try clear hK27 K27
      refine CW.region ?_   -- region 21
      refine WL.val (Y.add rfl rfl ⟨by omega, by omega⟩) (by decide) ?_   -- t107 := binOp add 3 t98 c(1:i64) 3
      refine WL.val (Y.move rfl) (by decide) ?_   -- t98 := move t107
      refine WL.nil ?_
      refine ⟨(x + 1, ys.take x ++ [y + 1] ++ ys.drop (x + 1)), by show m71 - (x + 1) < m71 - x; omega, (by repeat (first | exact Fr.le.nil | refine Fr.le.cons rfl ?_)), by show x + 1 ≤ m71; omega, ?_, ?_, ?_⟩
      · simp only [List.length_append, List.length_take, List.length_drop, List.length_singleton]; omega
      · show Own _ _ _ _ (bytesC (ys.take x ++ [y + 1] ++ ys.drop (x + 1)))
        simpa [bytesC] using hB17_
      · exact hCb.trans hc17 (fun k _ h => by rw [h]; rfl)
    -- else
    refine CW.exit ?_   -- exit 3
    refine hK22 _ _ ?_; try clear hK22 K22
    refine CW.seq fun K29 hK29 => ?_
    refine CW.region ?_   -- region 22
    refine WL.val (Y.move rfl) (by decide) ?_   -- t108 := move t18
    refine WL.val (Y.assign rfl) (by decide) ?_   -- t6 := assign t108
    refine WL.nil ?_
    refine hK29 _ _ ?_; try clear hK29 K29
    refine CW.ret ⟨_, rfl, ?_⟩
    exact ⟨by rw [@decide_eq_true True (Classical.propDecidable True) trivial], ⟨l, u, v, rs, hPr.next (Nat.le_refl _) hT (fun e he k hk => (hlow e he k hk).2.2) Fresh.refl hR (fun k h => .inl h) (fun k h => .inl h) hL, Fresh.refl, fun k h => .inl h, fun k h => .inl h⟩, hE⟩
  -- else
  refine CW.seq fun K30 hK30 => ?_
  refine CW.region ?_   -- region 23
  refine WL.val (Y.eql rfl rfl) (by decide) ?_   -- t110 := binOp eql 3 t24 c(2:i64) 3
  refine WL.val (Y.assign rfl) (by decide) ?_   -- t109 := assign t110
  refine WL.nil ?_
  refine hK30 _ _ ?_; try clear hK30 K30
  first | refine CW.condD rfl (fun ht31 => ?_) (fun ht31 => ?_) | refine CW.condND rfl (fun ht31 => ?_) (fun ht31 => ?_) | refine CW.condN rfl (fun ht31 => ?_) (fun ht31 => ?_) | refine CW.cond rfl (fun ht31 => ?_) (fun ht31 => ?_)
  · -- then
    refine CW.seq fun K32 hK32 => ?_
    refine CW.held (fun wq => Chg (fun k => k = g ∨ k = r ∨ k = g2) w3 wq) (by kernel_rfl) 8 rfl fun w18 hx18 => ?_
    have hS : Chg (fun k => k = g ∨ k = r ∨ k = g2) w3 w18 := hx18.chg
    have hz18 := hx18.size
    have hT := hT.ext hx18
    have hR := hR.ext hx18
    refine RH.take 0 (fun _ _ _ _ h => h) (by kernel_rfl) hS rfl (by kernel_rfl) (by kernel_rfl) (fun wq hq => Y.move rfl) (by decide) ?_   -- t111 := move t0
    refine RH.take 1 (fun _ _ _ _ h => h) (by kernel_rfl) hS rfl (by kernel_rfl) (by kernel_rfl) (fun wq hq => Y.load Tryd.underlying28 rfl (hB7.chg hq (fun h => by omega)).mem (sz_apiDigest _) rfl) (by decide) ?_   -- t112 := load 28 t7
    refine RH.take 3 (fun _ _ _ _ h => h) (by kernel_rfl) hS rfl (by kernel_rfl) (by kernel_rfl) (fun wq hq => Y.move rfl) (by decide) ?_   -- t114 := move t1
    refine RH.take 4 (fun _ _ _ _ h => h) (by kernel_rfl) hS rfl (by kernel_rfl) (by kernel_rfl) (fun wq hq => Y.load Tryd.underlying28 rfl (hB7.chg hq (fun h => by omega)).mem (sz_apiDigest _) rfl) (by decide) ?_   -- t115 := load 28 t7
    refine RH.one 2 (by kernel_rfl) ?_
    refine RS.call rfl (fun _ _ h => by cases h) Tryd.func15 rfl rfl rfl (stDrop_any g r l (shaD b) _ hT) (by decide) fun v113 w19 hR19 => ?_   -- call F15(t111, t112) : 23,28
    obtain ⟨rfl, hT, hc19⟩ := hR19
    have hz19 := hc19.size
    have hS := hS.trans hc19 (fun k _ h => by rcases h with h | h; exact .inl h; exact .inr (.inl h))
    have hR := hR.chg hc19 (fun h => by omega) (fun k hk h => by have := hnu k hk; omega) (fun k hk h => by have := hnv k hk; omega)
    refine ⟨hS, ?_⟩
    refine RH.one 5 (by kernel_rfl) ?_
    refine RS.call rfl (fun _ _ h => by cases h) Tryd.func32 rfl rfl rfl (rDrop_any g2 u v rs (shaD b) _ hR) (by decide) fun v116 w20 hR20 => ?_   -- call F32(t114, t115) : 45,28
    obtain ⟨rfl, ⟨u2, v2, hR, hu2, hv2⟩, hc20⟩ := hR20
    have hz20 := hc20.size
    have hS := hS.trans hc20 (fun k _ h => .inr (.inr h))
    have hT := hT.chg hc20 (fun h => by omega) (fun h => by omega) (fun e he k hk h => (hap e (dropL_mem he) k hk).1 h)
    refine ⟨hS, ?_⟩
    refine RH.take 6 (fun _ _ _ _ h => h) (by kernel_rfl) hS rfl (by kernel_rfl) (by kernel_rfl) (fun wq hq => Y.eql_bool Tryd.underlying4 rfl rfl) (by decide) ?_   -- t117 := binOp eql 4 t113 t116 4
    refine RH.take 7 (fun _ _ _ _ h => h) (by kernel_rfl) hS rfl (by kernel_rfl) (by kernel_rfl) (fun wq hq => Y.assign rfl) (by decide) ?_   -- t6 := assign t117
    refine RH.done (by kernel_rfl) ?_
    have hE := hE.stepO hS (fun k h => .inl (by rcases h with h | h | h; exact .inl h; exact .inr (.inl h); exact .inr (.inr (.inl h))))
    refine hK32 _ _ ?_; try clear hK32 K32
    refine CW.ret ⟨_, rfl, ?_⟩
    exact ⟨by rw [show (at_ l (shaD b)).isSome = decide (0 ≤ rFind rs (shaD b)) from by rw [Bool.eq_iff_iff, decide_eq_true_iff]; exact hL.isSome _, beq_self_eq_true], ⟨dropL l (shaD b), u2, v2, _, hPr.next (Nat.le_refl _) hT (fun e he k hk => (hlow e (dropL_mem he) k hk).2.2) (fun e he => .inl (dropL_mem he)) hR (fun k h => .inr (by have := hu2 k h; omega)) (fun k h => .inr (by have := hv2 k h; omega)) (hL.drop _), (fun e he => .inl (dropL_mem he)), (fun k h => .inr (by have := hu2 k h; omega)), (fun k h => .inr (by have := hv2 k h; omega))⟩, hE⟩
  -- else
  refine CW.seq fun K33 hK33 => ?_
  refine CW.region ?_   -- region 25
  refine WL.val (Y.eql rfl rfl) (by decide) ?_   -- t119 := binOp eql 3 t24 c(3:i64) 3
  refine WL.val (Y.assign rfl) (by decide) ?_   -- t118 := assign t119
  refine WL.nil ?_
  refine hK33 _ _ ?_; try clear hK33 K33
  first | refine CW.condD rfl (fun ht34 => ?_) (fun ht34 => ?_) | refine CW.condND rfl (fun ht34 => ?_) (fun ht34 => ?_) | refine CW.condN rfl (fun ht34 => ?_) (fun ht34 => ?_) | refine CW.cond rfl (fun ht34 => ?_) (fun ht34 => ?_)
  · -- then
    refine CW.seq fun K35 hK35 => ?_
    refine CW.region ?_   -- region 26
    refine WL.val (Y.move rfl) (by decide) ?_   -- t120 := move t0
    refine WL.val (Y.move rfl) (by decide) ?_   -- t121 := move t1
    refine WL.call Tryd.func21 rfl rfl rfl (stands_any g r g2 u v l rs _ hT hR hL) (by simp) ?_; rintro v w21 ⟨rfl, hx21⟩; have hz21 := hx21.size; have hE := hE.thenExt hx21; have hT := hT.ext hx21; have hR := hR.ext hx21; have hK := hK.ext hx21; have hb := hb.ext hx21; have hB5 := hB5.ext hx21; have hB7 := hB7.ext hx21   -- t122 := call F21(t120, t121) : 23,45
    refine WL.val (Y.assign rfl) (by decide) ?_   -- t6 := assign t122
    refine WL.nil ?_
    refine hK35 _ _ ?_; try clear hK35 K35
    refine CW.ret ⟨_, rfl, ?_⟩
    exact ⟨rfl, ⟨l, u, v, rs, hPr.next (Nat.le_refl _) hT (fun e he k hk => (hlow e he k hk).2.2) Fresh.refl hR (fun k h => .inl h) (fun k h => .inl h) hL, Fresh.refl, fun k h => .inl h, fun k h => .inl h⟩, hE⟩
  -- else
  refine CW.skip ?_
  refine hK3 _ _ ?_; try clear hK3 K3
  refine CW.seq fun K36 hK36 => ?_
  refine CW.region ?_   -- region 27
  refine WL.val (Y.assign rfl) (by decide) ?_   -- t6 := assign c(true)
  refine WL.nil ?_
  refine hK36 _ _ ?_; try clear hK36 K36
  refine CW.ret ⟨_, rfl, ?_⟩
  exact ⟨rfl, ⟨l, u, v, rs, hPr.next (Nat.le_refl _) hT (fun e he k hk => (hlow e he k hk).2.2) Fresh.refl hR (fun k h => .inl h) (fun k h => .inl h) hL, Fresh.refl, fun k h => .inl h, fun k h => .inl h⟩, hE⟩
end Go.Proofs.YtkbmlnkoejlgmaaDoor

/- Two places for two stores, as StorePlays holds them; its script as an argument. No condition; no program run. -/
namespace Go.Fw
open Go.RowKit
theorem run_bs2 {P : Program} {t e : TypeId} {ie : TypeInfo} {z : Value} {u v : Value} (hu : P.underlying t = some (.slice e)) (hi : P.info? e = some ie) (hz : ie.zero = some z) (h0 : ie.size = 1) (hcu : u.cells = #[u]) (hcv : v.cells = #[v]) (w : World) :
    (Instr.buildSlice t 2 [(0, u), (1, v)].toArray).run P w = .ok (.slice (some ⟨w.heap.size, 0, none⟩) 2 2) (w.alloc (.cells [u, v].toArray e)) := by
  refine run_buildSlice w t e 2 _ _ ie z hu hi hz (by omega) (by omega) ?_
  have h := Go.Great.fill_whole (s := ie.size) (by omega) [u, v] ((Array.range (2 * ie.size)).map (z.cells[· % z.cells.size]!)) (by intro x hx; simp at hx; rcases hx with rfl | rfl; rw [hcu, h0]; rfl; rw [hcv, h0]; rfl) (by simp)
  simpa [hcu, hcv] using h
/-- A call of a script. -/
structure ActD where
  z : Int
  two : Bool
  D : Option Addr
  q : Nat
  e : Nat
  b : List UInt8
abbrev encA (x : ActD) : List Value := actC x.z x.two x.D x.q x.e
theorem encA_length (x : ActD) : (encA x).length = 3 := rfl
theorem one_encA {x : ActD} : ∀ u ∈ encA x, u.oneCell' = true := by
  intro u hu
  simp [encA, actC] at hu
  rcases hu with rfl | rfl | rfl <;> rfl
end Go.Fw
namespace Go.Proofs.YtkbmlnkoejlgmaaDoor
open Go.RowKit Go.Fw Go.Pl Go.Sort Go.WideShapes Go.ChangeShapes
theorem sz_recensionlaw11Act (x : ActD) : (Tryd.prog.info? TAct).map (·.size) = some (encA x).length := by
  have h : (Tryd.prog.info? TAct).map (·.size) = some 3 := by kernel_rfl
  exact h
theorem sz0_recensionlaw11Act : (Tryd.prog.info? 51).map (·.size) = some 3 := by kernel_rfl
theorem sz0_storeStore : (Tryd.prog.info? 23).map (·.size) = some 1 := by kernel_rfl
theorem sz0_recensionref11Store : (Tryd.prog.info? 45).map (·.size) = some 1 := by kernel_rfl
theorem build_recensionref11Store (w : World) : (Instr.build TRS #[]).run Tryd.prog w = .ok (.agg [Value.slice none 0 0, Value.slice none 0 0].toArray) w := run_build w _ _ _ (by kernel_rfl)
theorem info_act : ∃ i : TypeInfo, Tryd.prog.info? TAct = some i ∧ i.zero = some (.agg (encA ⟨0, false, none, 0, 0, []⟩).toArray) ∧ i.size = 3 := by
  have h : (Tryd.prog.info? TAct).map (fun i => (i.zero, i.size)) = some (some (.agg (encA ⟨0, false, none, 0, 0, []⟩).toArray), 3) := by kernel_rfl
  cases hi : Tryd.prog.info? TAct with
  | none => simp [hi] at h
  | some i => simp [hi] at h; exact ⟨i, rfl, h.1, h.2⟩
theorem as_recensionlaw11Act {n : NN} {Φ : Exit → Fr → World → Prop} {fr : Fr} {w : World} {ops : Array Oper} {rest : List Oper} {d : Nat} {x : Operand} {ty ty' : TypeId} {pos pos' : String} {aft aft' : Array Edge} {v : ActD}
    (hx : ev fr x = some (.agg (encA v).toArray)) (hxd : x ≠ .tmp d) (hd : d < n.1)
    (h : ∀ g w', Ext w w' → w.heap.size ≤ g → Blk w' g TAct (encA v) → WL Tryd.prog ops n Φ rest ((d, .pointer (some ⟨g, 0, none⟩)) :: fr) w') :
    WL Tryd.prog ops n Φ (⟨some d, .alloc TAct, ty, pos, aft, none⟩ :: ⟨none, .store TAct (.tmp d) x, ty', pos', aft', none⟩ :: rest) fr w := by
  obtain ⟨i, hi, hz, hs⟩ := info_act
  exact WL.allocStore (zs := encA ⟨0, false, none, 0, 0, []⟩) (cs := encA v) hi hz rfl (by rw [hs]; rfl) rfl hx hxd rfl one_encA hd h
abbrev TPs : TypeId := 23
abbrev TPr : TypeId := 45
theorem bs2_st (a b : Addr) (w : World) : (Instr.buildSlice 44 2 [(0, Value.pointer (some a)), (1, Value.pointer (some b))].toArray).run Tryd.prog w = .ok (.slice (some ⟨w.heap.size, 0, none⟩) 2 2) (w.alloc (.cells [Value.pointer (some a), Value.pointer (some b)].toArray TPs)) := by
  have h : (Tryd.prog.info? TPs).map (fun i => (i.zero, i.size)) = some (some (.pointer none), 1) := by kernel_rfl
  obtain ⟨i, hi, h⟩ := Option.map_eq_some_iff.1 h
  obtain ⟨h1, h2⟩ := Prod.mk.inj h
  exact run_bs2 Tryd.underlying44 hi h1 h2 rfl rfl w
theorem bs2_ref (a b : Addr) (w : World) : (Instr.buildSlice 49 2 [(0, Value.pointer (some a)), (1, Value.pointer (some b))].toArray).run Tryd.prog w = .ok (.slice (some ⟨w.heap.size, 0, none⟩) 2 2) (w.alloc (.cells [Value.pointer (some a), Value.pointer (some b)].toArray TPr)) := by
  have h : (Tryd.prog.info? TPr).map (fun i => (i.zero, i.size)) = some (some (.pointer none), 1) := by kernel_rfl
  obtain ⟨i, hi, h⟩ := Option.map_eq_some_iff.1 h
  obtain ⟨h1, h2⟩ := Prod.mk.inj h
  exact run_bs2 Tryd.underlying49 hi h1 h2 rfl rfl w
/-! ## The script as an argument -/
/-- A script, read. -/
def Acts (w : World) (u : Value) (xs : List ActD) : Prop := Sl w encA 3 u xs ∧ ∀ (i : Nat) x, xs[i]? = some x → By w (.slice x.D x.q x.e) x.b ∧ x.b.length ≤ 140737488351232
theorem RdW.act {P : Program} {t eb : TypeId} {f0 f1 f2 : Field} (ht : P.underlying t = some (.struct #[f0, f1, f2])) (hct : P.cellsOf t = 3)
    (u0 : P.underlying f0.type = some (.int .i64)) (u1 : P.underlying f1.type = some .bool) (u2 : P.underlying f2.type = some (.slice eb)) (cb : P.cellsOf eb = 1) (ub : P.underlying eb = some (.int .u8)) (bb : P.bytesOf eb = 1)
    (o0 : f0.offset = 0) (o1 : f1.offset = 1) (o2 : f2.offset = 2) (c0 : P.cellsOf f0.type = 1) (c1 : P.cellsOf f1.type = 1) (c2 : P.cellsOf f2.type = 1) :
    RdW P t (fun w cs => ∃ x : ActD, cs = encA x ∧ By w (.slice x.D x.q x.e) x.b ∧ x.b.length ≤ reachBytes) :=
  (RdW.struct ht (fun i w cs => match i with
      | 0 => ∃ i, cs = [.int .i64 i] ∧ InI64 i
      | 1 => ∃ b, cs = [.bool b]
      | _ => ∃ v xs, cs = [v] ∧ Sl w (fun b => [bc b]) 1 v xs ∧ xs.length * P.bytesOf eb ≤ reachBytes ∧ ∀ (i : Nat) x, xs[i]? = some x → True) (fun i f hf => by
    match i, hf with
    | 0, hf => simp at hf; subst hf; exact RdW.int u0
    | 1, hf => simp at hf; subst hf; exact RdW.bool u1
    | 2, hf => simp at hf; subst hf; exact RdW.slice (Q := fun _ _ => True) u2 cb (fun _ => rfl) ((RdW.u8 ub).mono fun w cs ⟨b, h⟩ => ⟨b, h, trivial⟩)
    | i + 3, hf => simp at hf)).mono fun w cs ⟨hl, hg⟩ => by
      obtain ⟨z, h0, _⟩ := hg 0 f0 rfl
      obtain ⟨tw, h1⟩ := hg 1 f1 rfl
      obtain ⟨v, xs, h2, hs, hb, _⟩ := hg 2 f2 rfl
      rw [o0, c0] at h0; rw [o1, c1] at h1; rw [o2, c2] at h2
      obtain ⟨A, q, e, rfl⟩ := hs.by.lens
      refine ⟨⟨z, tw, A, q, e, xs⟩, ?_, hs.by, by rw [bb] at hb; show xs.length ≤ _; omega⟩
      have e1 : cs = cs.take (1 + 1 + 1) := by rw [List.take_of_length_le (by omega)]
      rw [e1, list_split, list_split, h1, h2]
      rw [List.drop_zero] at h0
      rw [h0]; rfl
theorem rd_acts : RdW Tryd.prog 43 (fun w cs => ∃ v xs, cs = [v] ∧ Sl w encA 3 v xs ∧ xs.length * Tryd.prog.bytesOf TAct ≤ reachBytes ∧ ∀ (i : Nat) x, xs[i]? = some x → By w (.slice x.D x.q x.e) x.b ∧ x.b.length ≤ reachBytes) :=
  RdW.slice (enc := encA) (Q := fun w x => By w (.slice x.D x.q x.e) x.b ∧ x.b.length ≤ reachBytes) Tryd.underlying43 (by kernel_rfl) encA_length
    (RdW.act Tryd.underlying51 (by kernel_rfl) Tryd.underlying3 Tryd.underlying4 Tryd.underlying26 (by kernel_rfl) Tryd.underlying5 bytes_u8 rfl rfl rfl (by kernel_rfl) (by kernel_rfl) (by kernel_rfl))
theorem bytes_act : Tryd.prog.bytesOf TAct = 40 := by kernel_rfl
set_option maxRecDepth 100000 in
theorem arg_acts {H : Type} {en : TypeId × Value → H} {w : World} {v : Value} {d : DataW H} {ps : List MemPlace} {base : Nat} (hv : Value.okWide Tryd.prog w .any base 43 v) (h : DataW.Trod en Tryd.prog w 0 (fun _ => true) true 43 v d ps) (hw : ∀ n ∈ d.weights Tryd.prog 43, n ≤ reachBytes) :
    ∃ xs, Acts w v xs := by
  obtain ⟨u, xs, hs, hb, hl, hq⟩ := rd_acts.arg h hw
  obtain ⟨a, m, c, rfl⟩ := okWide_slice Tryd.underlying43 hv
  simp [Value.cells] at hs
  subst hs
  exact ⟨xs, hb, fun i x hx => ⟨(hq i x hx).1, by have := (hq i x hx).2; rw [reach_is] at this; exact this⟩⟩
/-! ## Two places -/
def sel (k : Nat) (p q : Place) : Place := if k = 0 then p else q
structure Two (b : Nat) (w : World) (gs gr : Nat) (p q : Place) : Prop where
  a : Pair w p
  c : Pair w q
  ap : Apart p q
  hs : Blk w gs TPs [.pointer (some ⟨p.g, 0, none⟩), .pointer (some ⟨q.g, 0, none⟩)]
  hr : Blk w gr TPr [.pointer (some ⟨p.q, 0, none⟩), .pointer (some ⟨q.q, 0, none⟩)]
  off : ∀ k, p.mine k ∨ q.mine k ∨ p.vals k ∨ q.vals k → b ≤ k ∧ k ≠ gs ∧ k ≠ gr
  lo : b ≤ gs ∧ b ≤ gr ∧ gs ≠ gr
section
variable {b : Nat} {w w' : World} {gs gr : Nat} {p q n : Place}
theorem Two.ext (h : Two b w gs gr p q) (hc : Ext w w') : Two b w' gs gr p q := ⟨h.a.ext hc, h.c.ext hc, h.ap, h.hs.ext hc, h.hr.ext hc, h.off, h.lo⟩
theorem Two.at (h : Two b w gs gr p q) (k : Nat) (hk : k < 2) : Pair w (sel k p q) := by
  unfold sel; split
  · exact h.a
  · exact h.c
theorem Two.cs (h : Two b w gs gr p q) (k : Nat) (hk : k < 2) : w.cell? ((⟨gs, 0, none⟩ : Addr).add (k * 1)) = some (.pointer (some ⟨(sel k p q).g, 0, none⟩)) := by
  match k, hk with
  | 0, _ => exact h.hs.mem.cell 0 rfl
  | 1, _ => exact h.hs.mem.cell 1 rfl
theorem Two.cr (h : Two b w gs gr p q) (k : Nat) (hk : k < 2) : w.cell? ((⟨gr, 0, none⟩ : Addr).add (k * 1)) = some (.pointer (some ⟨(sel k p q).q, 0, none⟩)) := by
  match k, hk with
  | 0, _ => exact h.hr.mem.cell 0 rfl
  | 1, _ => exact h.hr.mem.cell 1 rfl
theorem Two.mine (h : Two b w gs gr p q) (k : Nat) : ∀ j, (sel k p q).mine j → b ≤ j ∧ j ≠ gs ∧ j ≠ gr ∧ j < w.heap.size := by
  unfold sel; split
  · intro j hj; have := h.off j (.inl hj); exact ⟨this.1, this.2.1, this.2.2, h.a.mineLt j hj⟩
  · intro j hj; have := h.off j (.inr (.inl hj)); exact ⟨this.1, this.2.1, this.2.2, h.c.mineLt j hj⟩
theorem Two.valsNe (h : Two b w gs gr p q) (k : Nat) : ∀ j, (sel k p q).vals j → b ≤ j ∧ j ≠ gs ∧ j ≠ gr := by
  unfold sel; split
  · intro j hj; exact h.off j (.inr (.inr (.inl hj)))
  · intro j hj; exact h.off j (.inr (.inr (.inr hj)))
/-- One of the two is called. -/
theorem Two.call (h : Two b w gs gr p q) (k : Nat) (hk : k < 2) (hc : Chg (sel k p q).mine w w') (hP : Pair w' n) (hG : Grown w (sel k p q) n) : ∃ p' q', Two b w' gs gr p' q' := by
  have hgs := h.hs.lt
  have hgr := h.hr.lt
  have hlo := h.lo
  obtain ⟨e1, e2, e3, h1, h2⟩ := id hG
  match k, hk with
  | 0, _ =>
    have hoff : ∀ k, n.mine k ∨ n.vals k → b ≤ k ∧ k ≠ gs ∧ k ≠ gr := by
      rintro k (hk | hk)
      · rcases h1 k hk with h3 | h3
        · exact h.off k (.inl h3)
        · omega
      · rcases h2 k hk with h3 | h3
        · exact h.off k (.inr (.inr (.inl h3)))
        · omega
    refine ⟨n, q, hP, h.c.beside h.ap hc, h.ap.grown h.c hG, ?_, ?_, ?_, h.lo⟩
    · rw [e1]; exact h.hs.chg hc fun x => (h.off _ (.inl x)).2.1 rfl
    · rw [e3]; exact h.hr.chg hc fun x => (h.off _ (.inl x)).2.2 rfl
    · rintro k (hk | hk | hk | hk)
      · exact hoff k (.inl hk)
      · exact h.off k (.inr (.inl hk))
      · exact hoff k (.inr hk)
      · exact h.off k (.inr (.inr (.inr hk)))
  | 1, _ =>
    have hoff : ∀ k, n.mine k ∨ n.vals k → b ≤ k ∧ k ≠ gs ∧ k ≠ gr := by
      rintro k (hk | hk)
      · rcases h1 k hk with h3 | h3
        · exact h.off k (.inr (.inl h3))
        · omega
      · rcases h2 k hk with h3 | h3
        · exact h.off k (.inr (.inr (.inr h3)))
        · omega
    refine ⟨p, n, h.a.beside h.ap.symm hc, hP, (h.ap.symm.grown h.a hG).symm, ?_, ?_, ?_, h.lo⟩
    · rw [e1]; exact h.hs.chg hc fun x => (h.off _ (.inr (.inl x))).2.1 rfl
    · rw [e3]; exact h.hr.chg hc fun x => (h.off _ (.inr (.inl x))).2.2 rfl
    · rintro k (hk | hk | hk | hk)
      · exact h.off k (.inl hk)
      · exact hoff k (.inl hk)
      · exact h.off k (.inr (.inr (.inl hk)))
      · exact hoff k (.inr hk)
theorem Pair.self (h : Pair w p) : ∀ k, p.mine k → ¬ p.vals k := by
  rintro k hm ⟨e, he, hk⟩
  have h1 := h.st.low e he k hk
  have h2 := h.apart e he k hk
  rcases hm with h3 | h3 | h3 | h3 | h3
  · exact h1.1 h3
  · exact h1.2.1 h3
  · exact h2.1 h3
  · exact h2.2.1 h3
  · exact h2.2.2 h3
/-- What stands at one place comes to stand at the other one too. -/
theorem Apart.copied (h : Pair w p) (hm : ∀ k, n.mine k → w.heap.size ≤ k) (hv : ∀ k, n.vals k → p.vals k) : Apart p n :=
  ⟨fun k x y => by have := h.mineLt k x; have := hm k y; omega, fun k x y => h.self k x (hv k y), fun k x y => by have := h.valsLt k x; have := hm k y; omega⟩
/-- The two lists with one pointer set. -/
abbrev setP (k : Nat) (x y : Nat) (z : Nat) : List Value := if k = 0 then [.pointer (some ⟨x, 0, none⟩), .pointer (some ⟨z, 0, none⟩)] else [.pointer (some ⟨z, 0, none⟩), .pointer (some ⟨y, 0, none⟩)]
theorem Two.copy (h : Two b w gs gr p q) (k : Nat) (hk : k < 2) (hc : Chg (fun j => j = gs ∨ j = gr) w w') (hP : Pair w' n) (hm : ∀ j, n.mine j → w.heap.size ≤ j) (hv : ∀ j, n.vals j → (sel k p q).vals j)
    (hs : Blk w' gs TPs (setP k p.g q.g n.g)) (hr : Blk w' gr TPr (setP k p.q q.q n.q)) : ∃ p' q', Two b w' gs gr p' q' := by
  have hgs := h.hs.lt
  have hgr := h.hr.lt
  have hlo := h.lo
  match k, hk with
  | 0, _ =>
    refine ⟨p, n, h.a.chg hc (fun k hk x => ?_) (fun k hk x => ?_), hP, Apart.copied h.a hm hv, hs, hr, ?_, h.lo⟩
    · have := h.off k (.inl hk); omega
    · have := h.off k (.inr (.inr (.inl hk))); omega
    · rintro k (hk | hk | hk | hk)
      · exact h.off k (.inl hk)
      · have := hm k hk; omega
      · exact h.off k (.inr (.inr (.inl hk)))
      · exact h.off k (.inr (.inr (.inl (hv k hk))))
  | 1, _ =>
    refine ⟨n, q, hP, h.c.chg hc (fun k hk x => ?_) (fun k hk x => ?_), (Apart.copied h.c hm hv).symm, hs, hr, ?_, h.lo⟩
    · have := h.off k (.inr (.inl hk)); omega
    · have := h.off k (.inr (.inr (.inr hk))); omega
    · rintro k (hk | hk | hk | hk)
      · have := hm k hk; omega
      · exact h.off k (.inr (.inl hk))
      · exact h.off k (.inr (.inr (.inr (hv k hk))))
      · exact h.off k (.inr (.inr (.inr hk)))
/-- Two places at the beginning. -/
theorem Pair.new {g r x : Nat} (hT : StoreAt w g r []) (hB : Blk w x TRS [.slice none 0 0, .slice none 0 0]) (hx : x ≠ g ∧ x ≠ r) (h0 : 0 < g ∧ 0 < r ∧ 0 < x) : Pair w ⟨g, r, [], x, .slice none 0 0, .slice none 0 0, []⟩ where
  st := hT
  rf := ⟨hB, Own.nil, Own.nil, fun k hk => (by cases hk), fun k hk => (by cases hk), Nat.zero_le _, fun p hp => (by cases hp)⟩
  like := Like.nil
  ne := hx
  nu k hk := by cases hk
  nv k hk := by cases hk
  apart e he := by cases he
  pos := by
    rintro k (h | h | h | h | h)
    · exact h ▸ h0.1
    · exact h ▸ h0.2.1
    · exact h ▸ h0.2.2
    · cases h
    · cases h
/-- The copy of a place. -/
theorem Pair.copy {w1 w2 : World} {g r x : Nat} {l : List Ent} {u v : Value} (h : Pair w p) (h1 : w.heap.size ≤ w1.heap.size) (hk : (l.map Ent.kvb).Perm (p.l.map Ent.kvb)) (hT1 : StoreAt w1 g r l) (hT : StoreAt w2 g r l) (hR : RAt w2 x u v p.rs)
    (hg : w.heap.size ≤ g ∧ w.heap.size ≤ r) (hx : w1.heap.size ≤ x) (hu : ∀ k, u.ownBlock = some k → w1.heap.size ≤ k) (hv : ∀ k, v.ownBlock = some k → w1.heap.size ≤ k) : Pair w2 ⟨g, r, l, x, u, v, p.rs⟩ ∧ (∀ k, Place.mine ⟨g, r, l, x, u, v, p.rs⟩ k → w.heap.size ≤ k) ∧ ∀ k, Place.vals ⟨g, r, l, x, u, v, p.rs⟩ k → p.vals k := by
  have hlt := hT1.lt
  have h0 : 0 < w.heap.size := by have := h.st.lt; omega
  have hvals : ∀ k, Place.vals ⟨g, r, l, x, u, v, p.rs⟩ k → p.vals k := by
    rintro k ⟨e, he, hk'⟩
    obtain ⟨f, hf, hfe⟩ := List.mem_map.1 (hk.mem_iff.1 (List.mem_map.2 ⟨e, he, rfl⟩))
    refine ⟨f, hf, ?_⟩
    have : f.v = e.v := by have := congrArg (fun y => y.2.1) hfe; exact this
    rw [this]; exact hk'
  have hmine : ∀ k, Place.mine ⟨g, r, l, x, u, v, p.rs⟩ k → w.heap.size ≤ k := by
    rintro k (h2 | h2 | h2 | h2 | h2)
    · dsimp only at h2; omega
    · dsimp only at h2; omega
    · dsimp only at h2; omega
    · have := hu k h2; omega
    · have := hv k h2; omega
  refine ⟨⟨hT, hR, h.like.copy hT.keys hk, ⟨by dsimp only; omega, by dsimp only; omega⟩, fun k hk => ?_, fun k hk => ?_, fun e he k hk => ?_, fun k hk => ?_⟩, hmine, hvals⟩
  · have := hu k hk; dsimp only; omega
  · have := hv k hk; dsimp only; omega
  · have := h.valsLt k (hvals k ⟨e, he, hk⟩)
    exact ⟨by dsimp only; omega, fun h2 => by have := hu k h2; omega, fun h2 => by have := hv k h2; omega⟩
  · have := hmine k hk; omega
end
end Go.Proofs.YtkbmlnkoejlgmaaDoor

/- StorePlays, walked. No condition. -/
namespace Go.Proofs.YtkbmlnkoejlgmaaDoor
open Go.RowKit Go.Fw Go.Pl Go.Sort

set_option maxRecDepth 100000 in
set_option maxHeartbeats 4000000 in
theorem storePlays_any (u : Value) (xs : List ActD) (w : World) (hu : Acts w u xs) (hK : Mem w ⟨0, 0, none⟩ (wds keysL)) : Calls Tryd.prog 6 #[u] w (Ret (True_ w)) := by
  have hK0 := hK
  have hk0 : (0 : Nat) < w.heap.size := hK.lt (fun h => by cases h)
  obtain ⟨⟨A, m, c, rfl, hm, hmc, hcm, hux⟩, huq⟩ := hu
  unfold maxLen at hcm
  refine calls_of_CW 93 [2] [(0, .slice A m c)] Tryd.func6 rfl rfl rfl (by simp) args1 ?_
  have hE : Ext w w := Chg.refl
  refine CW.seq fun K1 hK1 => ?_
  refine CW.region ?_   -- region 0
  refine WL.val (Y.assign rfl) (by decide) ?_   -- t2 := assign c(false)
  refine WL.nil ?_
  refine hK1 _ _ ?_; try clear hK1 K1
  refine CW.seq fun K2 hK2 => ?_
  refine CW.region ?_   -- region 1
  refine WL.call Tryd.func7 rfl rfl rfl (stNew_any _) (by simp) ?_; rintro v8 w1 hR1   -- t8 := call F7() : 
  obtain ⟨ga1, ra1, rfl, hga1, hra1, hT1, hx1⟩ := hR1
  have hz1 := hx1.size
  have hE := hE.thenExt hx1
  have hK := hK.ext hx1
  have hgr1 := hT1.lt
  refine WL.call Tryd.func7 rfl rfl rfl (stNew_any _) (by simp) ?_; rintro v9 w2 hR2   -- t9 := call F7() : 
  obtain ⟨ga2, ra2, rfl, hga2, hra2, hT2, hx2⟩ := hR2
  have hz2 := hx2.size
  have hE := hE.thenExt hx2
  have hK := hK.ext hx2
  have hgr2 := hT2.lt
  have hT1 := hT1.ext hx2
  refine WL.st (St.buildSlice rfl (bs2_st _ _)) (by decide) fun v10 w3 hR3 => ?_   -- t10 := buildSlice 44 2 [(0,t8), (1,t9)]
  obtain ⟨gs, rfl, hgs, hBs, hx3⟩ := hR3
  have hz3 := hx3.size
  have hE := hE.thenExt hx3
  have hK := hK.ext hx3
  have hgsl := hBs.lt
  refine WL.val (Y.assign rfl) (by decide) ?_   -- t3 := assign t10
  refine WL.nil ?_
  refine hK2 _ _ ?_; try clear hK2 K2
  refine CW.seq fun K3 hK3 => ?_
  refine CW.region ?_   -- region 2
  refine WL.val (Y.build0 (build_recensionref11Store _)) (by decide) ?_   -- t11 := build 48 []
  refine WL.box rfl rfl (by decide) fun g12 w4 hx4 hg12 hB12 => ?_   -- t12 := box 48 t11
  have hlt12 := hB12.lt; have hz4 := hx4.size
  have hM12 := hB12.mem; have hz4 := hx4.size; have hE := hE.thenExt hx4; have hK := hK.ext hx4
  refine WL.val (Y.build0 (build_recensionref11Store _)) (by decide) ?_   -- t13 := build 48 []
  refine WL.box rfl rfl (by decide) fun g14 w5 hx5 hg14 hB14 => ?_   -- t14 := box 48 t13
  have hlt14 := hB14.lt; have hz5 := hx5.size
  have hM14 := hB14.mem; have hz5 := hx5.size; have hE := hE.thenExt hx5; have hK := hK.ext hx5; have hB12 := hB12.ext hx5
  refine WL.st (St.buildSlice rfl (bs2_ref _ _)) (by decide) fun v15 w6 hR6 => ?_   -- t15 := buildSlice 49 2 [(0,t12), (1,t14)]
  obtain ⟨gr, rfl, hgr, hBr, hx6⟩ := hR6
  have hz6 := hx6.size
  have hE := hE.thenExt hx6
  have hK := hK.ext hx6
  have hB12 := hB12.ext hx6
  have hB14 := hB14.ext hx6
  have hxx := (hx4.thenExt hx5).thenExt hx6
  have hTwo : Two w.heap.size w6 gs gr ⟨ga1, ra1, [], g12, .slice none 0 0, .slice none 0 0, []⟩ ⟨ga2, ra2, [], g14, .slice none 0 0, .slice none 0 0, []⟩ := by
    refine ⟨Pair.new ((hT1.ext hx3).ext hxx) hB12 (by omega) (by omega), Pair.new ((hT2.ext hx3).ext hxx) hB14 (by omega) (by omega), ⟨?_, ?_, ?_⟩, hBs.ext hxx, hBr, ?_, by omega⟩
    · rintro k (h | h | h | h | h) (h2 | h2 | h2 | h2 | h2) <;> first | (cases h; done) | (cases h2; done) | (dsimp only at h h2; omega)
    · rintro k _ ⟨e, he, _⟩; cases he
    · rintro k ⟨e, he, _⟩; cases he
    · rintro k ((h | h | h | h | h) | (h | h | h | h | h) | ⟨e, he, _⟩ | ⟨e, he, _⟩) <;> first | (cases h; done) | (cases he; done) | (dsimp only at h; omega)
  refine WL.val (Y.assign rfl) (by decide) ?_   -- t4 := assign t15
  refine WL.nil ?_
  refine hK3 _ _ ?_; try clear hK3 K3
  refine CW.seq fun K4 hK4 => ?_
  refine CW.seq_testE 29 (False) ?_ ?_
  · refine CW.region ?_
    refine WL.val (Y.move rfl) (by decide) ?_   -- t16 := move t3
    refine WL.val (Y.indexAddrN (i := 0) Tryd.underlying44 rfl rfl sz0_storeStore (by omega)) (by decide) ?_   -- t17 := indexAddr 44 t16 c(0:i64)
    refine WL.val (Y.load1 Tryd.underlying23 rfl ((hBs.ext hxx).mem.cell 0 rfl) rfl) (by decide) ?_   -- t18 := load 23 t17
    refine WL.val (Y.eql_storeStore rfl rfl) (by decide) ?_   -- t19 := binOp eql 23 t18 c(['Go.Value.pointer', 'none']) 23
    refine WL.val (Y.move rfl) (by decide) ?_   -- t20 := move t19
    first | refine WL.casesD (d := 20) rfl (fun hg20 => ?_) (fun hg20 => ?_) | refine WL.casesND (d := 20) rfl (fun hg20 => ?_) (fun hg20 => ?_) | refine WL.cases (d := 20) rfl (fun hg20 => ?_) (fun hg20 => ?_)
    · -- t20 = T
      refine WL.goff rfl rfl (by decide) ?_   -- t21 := move t3 [if 4=false]
      refine WL.goff rfl rfl (by decide) ?_   -- t22 := indexAddr 44 t21 c(1:i64) [if 4=false]
      refine WL.goff rfl rfl (by decide) ?_   -- t23 := load 23 t22 [if 4=false]
      refine WL.goff rfl rfl (by decide) ?_   -- t24 := binOp eql 23 t23 c(['Go.Value.pointer', 'none']) 23 [if 4=false]
      refine WL.val (Y.pick rfl rfl) (by decide) ?_   -- t25 := pick t20 c(true) t24
      refine WL.val (Y.move rfl) (by decide) ?_   -- t26 := move t25
      refine WL.goff rfl rfl (by decide) ?_   -- t27 := call F8() :  [if 10=false]
      refine WL.goff rfl rfl (by decide) ?_   -- t28 := unOp not 4 t27 [if 10=false]
      refine WL.val (Y.pick rfl rfl) (by decide) ?_   -- t29 := pick t26 c(true) t28
      refine WL.nil ⟨⟨_, rfl, ?_⟩, Chg.refl, (by repeat (first | exact Fr.le.refl | refine Fr.le.push rfl ?_))⟩
      first | (simp only [*, Int.natCast_inj, Bool.not_eq_true', decide_eq_false_iff_not, decide_eq_true_eq, not_true_eq_false, not_false_eq_true, true_and, false_and, and_true, and_false, false_or, or_false, true_or, or_true, iff_true, true_iff, iff_false, false_iff]; done) | (simp_all; done) | (refine congrArg Value.bool (Bool.eq_iff_iff.2 ?_); simp_all; done) | (simp_all; omega)
    · -- t20 = F
      refine WL.gval rfl rfl (Y.move rfl) (by decide) ?_   -- t21 := move t3 [if 4=false]
      refine WL.gval rfl rfl (Y.indexAddrN (i := 1) Tryd.underlying44 rfl rfl sz0_storeStore (by omega)) (by decide) ?_   -- t22 := indexAddr 44 t21 c(1:i64) [if 4=false]
      refine WL.gval rfl rfl (Y.load1 Tryd.underlying23 rfl ((hBs.ext hxx).mem.cell 1 rfl) rfl) (by decide) ?_   -- t23 := load 23 t22 [if 4=false]
      refine WL.gval rfl rfl (Y.eql_storeStore rfl rfl) (by decide) ?_   -- t24 := binOp eql 23 t23 c(['Go.Value.pointer', 'none']) 23 [if 4=false]
      refine WL.val (Y.pick rfl rfl) (by decide) ?_   -- t25 := pick t20 c(true) t24
      refine WL.val (Y.move rfl) (by decide) ?_   -- t26 := move t25
      first | refine WL.casesD (d := 26) rfl (fun hg26 => ?_) (fun hg26 => ?_) | refine WL.casesND (d := 26) rfl (fun hg26 => ?_) (fun hg26 => ?_) | refine WL.cases (d := 26) rfl (fun hg26 => ?_) (fun hg26 => ?_)
      · -- t26 = T
        refine WL.goff rfl rfl (by decide) ?_   -- t27 := call F8() :  [if 10=false]
        refine WL.goff rfl rfl (by decide) ?_   -- t28 := unOp not 4 t27 [if 10=false]
        refine WL.val (Y.pick rfl rfl) (by decide) ?_   -- t29 := pick t26 c(true) t28
        refine WL.nil ⟨⟨_, rfl, ?_⟩, Chg.refl, (by repeat (first | exact Fr.le.refl | refine Fr.le.push rfl ?_))⟩
        first | (simp only [*, Int.natCast_inj, Bool.not_eq_true', decide_eq_false_iff_not, decide_eq_true_eq, not_true_eq_false, not_false_eq_true, true_and, false_and, and_true, and_false, false_or, or_false, true_or, or_true, iff_true, true_iff, iff_false, false_iff]; done) | (simp_all; done) | (refine congrArg Value.bool (Bool.eq_iff_iff.2 ?_); simp_all; done) | (simp_all; omega)
      · -- t26 = F
        refine WL.gcall rfl rfl Tryd.func8 rfl rfl rfl (alive_any _ hK) (by decide) ?_; rintro v w7 ⟨rfl, hx7⟩; have hz7 := hx7.size; have hE := hE.thenExt hx7; have hK := hK.ext hx7; have hB12 := hB12.ext hx7; have hB14 := hB14.ext hx7   -- t27 := call F8() :  [if 10=false]
        refine WL.gval rfl rfl (Y.not rfl) (by decide) ?_   -- t28 := unOp not 4 t27 [if 10=false]
        refine WL.val (Y.pick rfl rfl) (by decide) ?_   -- t29 := pick t26 c(true) t28
        refine WL.nil ⟨⟨_, rfl, ?_⟩, hx7, (by repeat (first | exact Fr.le.refl | refine Fr.le.push rfl ?_))⟩
        first | (simp only [*, Int.natCast_inj, Bool.not_eq_true', decide_eq_false_iff_not, decide_eq_true_eq, not_true_eq_false, not_false_eq_true, true_and, false_and, and_true, and_false, false_or, or_false, true_or, or_true, iff_true, true_iff, iff_false, false_iff]; done) | (simp_all; done) | (refine congrArg Value.bool (Bool.eq_iff_iff.2 ?_); simp_all; done) | (simp_all; omega)
  intro w8 hx8; have hz8 := hx8.size; have hE := hE.thenExt hx8; have hK := hK.ext hx8; have hB12 := hB12.ext hx8; have hB14 := hB14.ext hx8
  first | refine CW.condD rfl (fun ht5 => ?_) (fun ht5 => ?_) | refine CW.condND rfl (fun ht5 => ?_) (fun ht5 => ?_) | refine CW.condN rfl (fun ht5 => ?_) (fun ht5 => ?_) | refine CW.cond rfl (fun ht5 => ?_) (fun ht5 => ?_)
  · -- then
    refine CW.seq fun K6 hK6 => ?_
    refine CW.region ?_   -- region 4
    refine WL.val (Y.assign rfl) (by decide) ?_   -- t2 := assign c(false)
    refine WL.nil ?_
    refine hK6 _ _ ?_; try clear hK6 K6
    refine CW.ret ⟨_, rfl, ?_⟩
    exact False.elim (by assumption)
  -- else
  refine CW.skip ?_
  refine hK4 _ _ ?_; try clear hK4 K4
  refine CW.seq fun K7 hK7 => ?_
  refine CW.seq fun K8 hK8 => ?_
  refine CW.region ?_   -- region 5
  refine WL.val (Y.move rfl) (by decide) ?_   -- t30 := move t0
  refine WL.val (Y.len_slice Tryd.underlying43 rfl) (by decide) ?_   -- t31 := call len(t30) : 43
  refine WL.val (Y.move rfl) (by decide) ?_   -- t32 := move c(0:i64)
  refine WL.nil ?_
  refine hK8 _ _ ?_; try clear hK8 K8
  refine CW.block ?_   -- block 0
  refine CW.loop (X := Nat × Place × Place) (fun x => [(3, .slice (some ⟨gs, 0, none⟩) 2 2), (4, .slice (some ⟨gr, 0, none⟩) 2 2), (30, .slice A m c), (31, .int .i64 (m : Int)), (32, .int .i64 (x.1 : Int))]) (fun x w0 => x.1 ≤ m ∧ Two w.heap.size w0 gs gr x.2.1 x.2.2 ∧ Ext w w0) (fun x => m - x.1) (0, _, _) (by repeat (first | exact Fr.le.nil | refine Fr.le.cons rfl ?_)) ⟨Nat.zero_le _, hTwo.ext hx8, hE⟩ ?_
  intro x w9 hl9
  clear hTwo
  obtain ⟨x, p0, p1⟩ := x
  dsimp only at hl9 ⊢
  obtain ⟨hx, hTwo, hE⟩ := hl9
  have hK := hK0.ext hE
  have hzE := hE.size
  have hB12 : Ext w9 w9 := Chg.refl
  have hB14 : Ext w9 w9 := Chg.refl
  have hlo := hTwo.lo
  have hgs9 := hTwo.hs.lt
  have hgr9 := hTwo.hr.lt
  refine CW.seq fun K9 hK9 => ?_
  refine CW.region ?_   -- region 6
  refine WL.val (Y.lss rfl rfl) (by decide) ?_   -- t33 := binOp lss 3 t32 t31 3
  refine WL.nil ?_
  refine hK9 _ _ ?_; try clear hK9 K9
  refine CW.seq fun K10 hK10 => ?_
  first | refine CW.condD rfl (fun ht11 => ?_) (fun ht11 => ?_) | refine CW.condND rfl (fun ht11 => ?_) (fun ht11 => ?_) | refine CW.condN rfl (fun ht11 => ?_) (fun ht11 => ?_) | refine CW.cond rfl (fun ht11 => ?_) (fun ht11 => ?_)
  · -- then
    refine CW.skip ?_
    refine hK10 _ _ ?_; try clear hK10 K10
    refine CW.seq fun K12 hK12 => ?_
    refine CW.block ?_   -- block 1
    refine CW.seq fun K13 hK13 => ?_
    obtain ⟨a, ha⟩ : ∃ y, xs[x]? = some y := ⟨_, List.getElem?_eq_getElem (by omega)⟩
    obtain ⟨A0, rfl, hma⟩ := hux _ _ ha
    obtain ⟨hab, hal⟩ := huq _ _ ha
    refine CW.region ?_   -- region 7
    refine WL.val (Y.indexAddrN Tryd.underlying43 rfl rfl sz0_recensionlaw11Act (by omega)) (by decide) ?_   -- t34 := indexAddr 43 t30 t32
    refine WL.val (Y.load Tryd.underlying51 rfl (hma.ext hE) (sz_recensionlaw11Act _) rfl) (by decide) ?_   -- t35 := load 51 t34
    refine as_recensionlaw11Act rfl (by simp) (by decide) fun g6 w10 hx10 hg6 hB6 => ?_   -- alloc 51; store 51 t6 t35
    have hlt6 := hB6.lt; have hz10 := hx10.size
    have hM6 := hB6.mem; have hz10 := hx10.size; have hE := hE.thenExt hx10; have hK := hK.ext hx10; have hB12 := hB12.ext hx10; have hB14 := hB14.ext hx10
    refine WL.nil ?_
    refine hK13 _ _ ?_; try clear hK13 K13
    refine CW.seq fun K14 hK14 => ?_
    refine CW.region ?_   -- region 8
    refine WL.val (Y.assign rfl) (by decide) ?_   -- t7 := assign c(0:i64)
    refine WL.nil ?_
    refine hK14 _ _ ?_; try clear hK14 K14
    refine CW.seq_to (X := Unit) (fun _ => [(3, .slice (some ⟨gs, 0, none⟩) 2 2), (4, .slice (some ⟨gr, 0, none⟩) 2 2), (30, .slice (some A0) m c), (31, .int .i64 (m : Int)), (32, .int .i64 (x : Int)), (6, .pointer (some ⟨g6, 0, none⟩)), (7, .int .i64 ((if a.two then 1 else 0 : Nat) : Int))]) (fun _ w0 => w0 = w10) ?_ ?_
    · skip
      refine CW.seq fun K16 hK16 => ?_
      refine CW.region ?_   -- region 9
      refine WL.val (Y.fieldAddr fo_recensionlaw11Act1 rfl) (by decide) ?_   -- t36 := fieldAddr 51 t6 1
      refine WL.val (Y.load1 Tryd.underlying4 rfl hB6.mem.recensionlaw11Act1 rfl) (by decide) ?_   -- t37 := load 4 t36
      refine WL.nil ?_
      refine hK16 _ _ ?_; try clear hK16 K16
      first | refine CW.condD rfl (fun ht17 => ?_) (fun ht17 => ?_) | refine CW.condND rfl (fun ht17 => ?_) (fun ht17 => ?_) | refine CW.condN rfl (fun ht17 => ?_) (fun ht17 => ?_) | refine CW.cond rfl (fun ht17 => ?_) (fun ht17 => ?_)
      · -- then
        refine CW.region ?_   -- region 10
        refine WL.val (Y.assign rfl) (by decide) ?_   -- t7 := assign c(1:i64)
        refine WL.nil ?_
        exact ⟨(), by rw [show a.two = true by assumption]; exact (by repeat (first | exact Fr.le.nil | refine Fr.le.cons rfl ?_)), rfl⟩
      -- else
      refine CW.skip ?_
      exact ⟨(), by rw [show a.two = false by assumption]; exact (by repeat (first | exact Fr.le.nil | refine Fr.le.cons rfl ?_)), rfl⟩
    rintro u w11 hj11
    subst hj11
    obtain ⟨kk, hkk⟩ : ∃ kk : Nat, kk = (if a.two then 1 else 0) := ⟨_, rfl⟩
    have hk2 : kk < 2 := by rw [hkk]; split <;> omega
    have hk01 : kk = 0 ∨ kk = 1 := by omega
    rw [← hkk]
    clear hkk
    have hTwo := hTwo.ext hx10
    have hzE := hE.size
    obtain ⟨pk, hpk⟩ : ∃ pk, pk = sel kk p0 p1 := ⟨_, rfl⟩
    have hPk := hTwo.at kk hk2
    have hcs := hTwo.cs kk hk2
    have hcr := hTwo.cr kk hk2
    have hmine := hTwo.mine kk
    rw [← hpk] at hPk hcs hcr hmine
    obtain ⟨g, r, l, q, uu, vv, rs⟩ := pk
    dsimp only at hcs hcr
    refine CW.seq_to (X := Place × Place) (fun y => [(3, .slice (some ⟨gs, 0, none⟩) 2 2), (4, .slice (some ⟨gr, 0, none⟩) 2 2), (30, .slice (some A0) m c), (31, .int .i64 (m : Int)), (32, .int .i64 (x : Int)), (6, .pointer (some ⟨g6, 0, none⟩)), (7, .int .i64 ((kk : Nat) : Int))]) (fun y w0 => Two w.heap.size w0 gs gr y.1 y.2 ∧ Ext w w0 ∧ Blk w0 g6 TAct (encA a)) ?_ ?_
    · skip
      refine CW.seq fun K19 hK19 => ?_
      refine CW.region ?_   -- region 11
      refine WL.val (Y.fieldAddr fo_recensionlaw11Act0 rfl) (by decide) ?_   -- t38 := fieldAddr 51 t6 0
      refine WL.val (Y.load1 Tryd.underlying3 rfl hB6.mem.recensionlaw11Act0 rfl) (by decide) ?_   -- t39 := load 3 t38
      refine WL.val (Y.eql rfl rfl) (by decide) ?_   -- t40 := binOp eql 3 t39 c(4:i64) 3
      refine WL.nil ?_
      refine hK19 _ _ ?_; try clear hK19 K19
      first | refine CW.condD rfl (fun ht20 => ?_) (fun ht20 => ?_) | refine CW.condND rfl (fun ht20 => ?_) (fun ht20 => ?_) | refine CW.condN rfl (fun ht20 => ?_) (fun ht20 => ?_) | refine CW.cond rfl (fun ht20 => ?_) (fun ht20 => ?_)
      · -- then
        refine CW.seq fun K21 hK21 => ?_
        refine CW.held (fun wq => Chg (fun j => j = gs ∨ j = gr) w11 wq ∧ wq.cell? ((⟨gs, 0, none⟩ : Addr).add (kk * 1)) = some (.pointer (some ⟨g, 0, none⟩)) ∧ wq.cell? ((⟨gr, 0, none⟩ : Addr).add (kk * 1)) = some (.pointer (some ⟨q, 0, none⟩))) (by kernel_rfl) 20 rfl fun w12 hx12 => ?_
        have hS : Chg (fun j => j = gs ∨ j = gr) w11 w12 ∧ w12.cell? ((⟨gs, 0, none⟩ : Addr).add (kk * 1)) = some (.pointer (some ⟨g, 0, none⟩)) ∧ w12.cell? ((⟨gr, 0, none⟩ : Addr).add (kk * 1)) = some (.pointer (some ⟨q, 0, none⟩)) := ⟨hx12.chg, (by have := (hTwo.ext hx12).cs kk hk2; rw [← hpk] at this; exact this), (by have := (hTwo.ext hx12).cr kk hk2; rw [← hpk] at this; exact this)⟩
        have hPk := hPk.ext hx12
        have hPk0 := hPk
        have hz12 := hx12.size
        have hgk : (sel kk p0 p1).g = g := by rw [← hpk]
        have hqk : (sel kk p0 p1).q = q := by rw [← hpk]
        have hvg := hTwo.valsNe kk
        rw [← hpk] at hvg
        have hBs := hTwo.hs.ext hx12
        have hBr := hTwo.hr.ext hx12
        refine RH.take 0 (fun _ _ _ _ h => h) (by kernel_rfl) hS rfl (by kernel_rfl) (by kernel_rfl) (fun wq hq => Y.move rfl) (by decide) ?_   -- t41 := move t3
        refine RH.take 1 (fun _ _ _ _ h => h) (by kernel_rfl) hS rfl (by kernel_rfl) (by kernel_rfl) (fun wq hq => Y.move rfl) (by decide) ?_   -- t42 := move t7
        refine RH.take 2 (fun _ _ _ _ h => h) (by kernel_rfl) hS rfl (by kernel_rfl) (by kernel_rfl) (fun wq hq => Y.sub rfl rfl ⟨by omega, by omega⟩) (by decide) ?_   -- t43
        rw [show (1 : Int) - (kk : Int) = ((1 - kk : Nat) : Int) from by omega]
        refine RH.take 3 (fun _ _ _ _ h => h) (by kernel_rfl) hS rfl (by kernel_rfl) (by kernel_rfl) (fun wq hq => Y.move rfl) (by decide) ?_   -- t44 := move t4
        refine RH.take 4 (fun _ _ _ _ h => h) (by kernel_rfl) hS rfl (by kernel_rfl) (by kernel_rfl) (fun wq hq => Y.move rfl) (by decide) ?_   -- t45 := move t7
        refine RH.take 5 (fun _ _ _ _ h => h) (by kernel_rfl) hS rfl (by kernel_rfl) (by kernel_rfl) (fun wq hq => Y.sub rfl rfl ⟨by omega, by omega⟩) (by decide) ?_   -- t46
        rw [show (1 : Int) - (kk : Int) = ((1 - kk : Nat) : Int) from by omega]
        refine RH.take 6 (fun _ _ _ _ h => h) (by kernel_rfl) hS rfl (by kernel_rfl) (by kernel_rfl) (fun wq hq => Y.move rfl) (by decide) ?_   -- t47 := move t3
        refine RH.take 7 (fun _ _ _ _ h => h) (by kernel_rfl) hS rfl (by kernel_rfl) (by kernel_rfl) (fun wq hq => Y.move rfl) (by decide) ?_   -- t48 := move t7
        refine RH.take 8 (fun _ _ _ _ h => h) (by kernel_rfl) hS rfl (by kernel_rfl) (by kernel_rfl) (fun wq hq => Y.indexAddrN Tryd.underlying44 rfl rfl sz0_storeStore (by omega)) (by decide) ?_   -- t49 := indexAddr 44 t47 t48
        refine RH.take 9 (fun _ _ _ _ h => h) (by kernel_rfl) hS rfl (by kernel_rfl) (by kernel_rfl) (fun wq hq => Y.load1 Tryd.underlying23 rfl hq.2.1 rfl) (by decide) ?_   -- t50 := load 23 t49
        refine RH.take 11 (fun _ _ _ _ h => h) (by kernel_rfl) hS rfl (by kernel_rfl) (by kernel_rfl) (fun wq hq => Y.move rfl) (by decide) ?_   -- t52 := move t4
        refine RH.take 12 (fun _ _ _ _ h => h) (by kernel_rfl) hS rfl (by kernel_rfl) (by kernel_rfl) (fun wq hq => Y.move rfl) (by decide) ?_   -- t53 := move t7
        refine RH.take 13 (fun _ _ _ _ h => h) (by kernel_rfl) hS rfl (by kernel_rfl) (by kernel_rfl) (fun wq hq => Y.indexAddrN Tryd.underlying49 rfl rfl sz0_recensionref11Store (by omega)) (by decide) ?_   -- t54 := indexAddr 49 t52 t53
        refine RH.take 14 (fun _ _ _ _ h => h) (by kernel_rfl) hS rfl (by kernel_rfl) (by kernel_rfl) (fun wq hq => Y.load1 Tryd.underlying45 rfl hq.2.2 rfl) (by decide) ?_   -- t55 := load 45 t54
        refine RH.one 10 (by kernel_rfl) ?_
        refine RS.call rfl (fun _ _ h => by cases h) Tryd.func18 rfl rfl rfl (stCopy_any g r l _ hPk.st) (by decide) fun v51 w13 hR13 => ?_   -- call F18(t50) : 23
        obtain ⟨g2, r2, l2, rfl, hg2, hr2, hT2, hp2, hx13⟩ := hR13
        have hz13 := hx13.size
        have hS : Chg (fun j => j = gs ∨ j = gr) w11 w13 ∧ w13.cell? ((⟨gs, 0, none⟩ : Addr).add (kk * 1)) = some (.pointer (some ⟨g, 0, none⟩)) ∧ w13.cell? ((⟨gr, 0, none⟩ : Addr).add (kk * 1)) = some (.pointer (some ⟨q, 0, none⟩)) := ⟨hS.1.thenExt hx13, hx13.cell hS.2.1 (fun f => f), hx13.cell hS.2.2 (fun f => f)⟩
        have hPk := hPk.ext hx13
        have hBs := hBs.ext hx13
        have hBr := hBr.ext hx13
        refine ⟨hS, ?_⟩
        refine RH.one 15 (by kernel_rfl) ?_
        refine RS.call rfl (fun _ _ h => by cases h) Tryd.func19 rfl rfl rfl (rCopy_any q uu vv rs _ hPk.rf) (by decide) fun v56 w14 hR14 => ?_   -- call F19(t55) : 45
        obtain ⟨q2, u2, v2, rfl, hq2, hR2, hu2, hv2, hx14⟩ := hR14
        have hz14 := hx14.size
        have hS : Chg (fun j => j = gs ∨ j = gr) w11 w14 ∧ w14.cell? ((⟨gs, 0, none⟩ : Addr).add (kk * 1)) = some (.pointer (some ⟨g, 0, none⟩)) ∧ w14.cell? ((⟨gr, 0, none⟩ : Addr).add (kk * 1)) = some (.pointer (some ⟨q, 0, none⟩)) := ⟨hS.1.thenExt hx14, hx14.cell hS.2.1 (fun f => f), hx14.cell hS.2.2 (fun f => f)⟩
        have hBs := hBs.ext hx14
        have hBr := hBr.ext hx14
        obtain ⟨hPn, hmn, hvn⟩ := hPk0.copy hz13 hp2 hT2 (hT2.ext hx14) hR2 ⟨hg2, hr2⟩ hq2 hu2 hv2
        refine ⟨hS, ?_⟩
        refine RH.take 16 (fun _ _ _ _ h => h) (by kernel_rfl) hS rfl (by kernel_rfl) (by kernel_rfl) (fun wq hq => Y.indexAddrN Tryd.underlying44 rfl rfl sz0_storeStore (by omega)) (by decide) ?_   -- t57 := indexAddr 44 t41 t43
        refine RH.one 17 (by kernel_rfl) ?_
        refine RS.store rfl (g := gs) (pre := if kk = 0 then [.pointer (some ⟨p0.g, 0, none⟩)] else []) (old := [.pointer (some ⟨if kk = 0 then p1.g else p0.g, 0, none⟩)]) (post := if kk = 0 then [] else [.pointer (some ⟨p1.g, 0, none⟩)]) (new := [.pointer (some ⟨g2, 0, none⟩)]) rfl (by rcases hk01 with rfl | rfl <;> rfl) rfl rfl (by kernel_rfl) (by rcases hk01 with rfl | rfl <;> exact hBs) rfl (one1 rfl) (fun w15 hc15 hB15_ => ?_)   -- store 23 t57 t51
        have hz15 := hc15.size
        have hS : Chg (fun j => j = gs ∨ j = gr) w11 w15 ∧ w15.cell? ((⟨gs, 0, none⟩ : Addr).add (kk * 1)) = some (.pointer (some ⟨g, 0, none⟩)) ∧ w15.cell? ((⟨gr, 0, none⟩ : Addr).add (kk * 1)) = some (.pointer (some ⟨q, 0, none⟩)) := ⟨hS.1.trans hc15 (fun j _ h => .inl h), by rcases hk01 with rfl | rfl; exact hgk ▸ hB15_.mem.cell 0 rfl; exact hgk ▸ hB15_.mem.cell 1 rfl, hc15.cell hS.2.2 (by rw [block_add]; intro h; have h : gr = gs := h; omega)⟩
        have hBr := hBr.chg hc15 (fun h => by omega)
        have hPn := hPn.chg hc15 (fun k hk h => by have := hmn k hk; have h : k = gs := h; omega) (fun k hk h => by have := hvg k (hvn k hk); have h : k = gs := h; omega)
        refine ⟨hS, ?_⟩
        refine RH.take 18 (fun _ _ _ _ h => h) (by kernel_rfl) hS rfl (by kernel_rfl) (by kernel_rfl) (fun wq hq => Y.indexAddrN Tryd.underlying49 rfl rfl sz0_recensionref11Store (by omega)) (by decide) ?_   -- t58 := indexAddr 49 t44 t46
        refine RH.one 19 (by kernel_rfl) ?_
        refine RS.store rfl (g := gr) (pre := if kk = 0 then [.pointer (some ⟨p0.q, 0, none⟩)] else []) (old := [.pointer (some ⟨if kk = 0 then p1.q else p0.q, 0, none⟩)]) (post := if kk = 0 then [] else [.pointer (some ⟨p1.q, 0, none⟩)]) (new := [.pointer (some ⟨q2, 0, none⟩)]) rfl (by rcases hk01 with rfl | rfl <;> rfl) rfl rfl (by kernel_rfl) (by rcases hk01 with rfl | rfl <;> exact hBr) rfl (one1 rfl) (fun w16 hc16 hB16_ => ?_)   -- store 45 t58 t56
        have hz16 := hc16.size
        have hS : Chg (fun j => j = gs ∨ j = gr) w11 w16 ∧ w16.cell? ((⟨gs, 0, none⟩ : Addr).add (kk * 1)) = some (.pointer (some ⟨g, 0, none⟩)) ∧ w16.cell? ((⟨gr, 0, none⟩ : Addr).add (kk * 1)) = some (.pointer (some ⟨q, 0, none⟩)) := ⟨hS.1.trans hc16 (fun j _ h => .inr h), hc16.cell hS.2.1 (by rw [block_add]; intro h; have h : gs = gr := h; omega), by rcases hk01 with rfl | rfl; exact hqk ▸ hB16_.mem.cell 0 rfl; exact hqk ▸ hB16_.mem.cell 1 rfl⟩
        have hBsN := hB15_.chg hc16 (fun h => by omega)
        have hPn := hPn.chg hc16 (fun k hk h => by have := hmn k hk; have h : k = gr := h; omega) (fun k hk h => by have := hvg k (hvn k hk); have h : k = gr := h; omega)
        refine ⟨hS, ?_⟩
        refine RH.done (by kernel_rfl) ?_
        have hE := hE.step hS.1 (fun k h => by rcases h with h | h <;> omega)
        have hK := hK0.ext hE
        have hB6 := hB6.chg hS.1 (fun h => by rcases h with h | h <;> omega)
        obtain ⟨pa, pb, hTwo⟩ := hTwo.copy kk hk2 hS.1 hPn (fun j hj => by have := hmn j hj; omega) (fun j hj => by rw [← hpk]; exact hvn j hj) (by rcases hk01 with rfl | rfl <;> exact hBsN) (by rcases hk01 with rfl | rfl <;> exact hB16_)
        refine hK21 _ _ ?_; try clear hK21 K21
        refine CW.seq fun K22 hK22 => ?_
        refine CW.region ?_   -- region 13
        refine WL.val (Y.move rfl) (by decide) ?_   -- t59 := move t3
        refine WL.val (Y.move rfl) (by decide) ?_   -- t60 := move t7
        refine WL.val (Y.sub rfl rfl ⟨by omega, by omega⟩) (by decide) ?_   -- t61
        rw [show (1 : Int) - (kk : Int) = ((1 - kk : Nat) : Int) from by omega]
        refine WL.val (Y.indexAddrN Tryd.underlying44 rfl rfl sz0_storeStore (by omega)) (by decide) ?_   -- t62 := indexAddr 44 t59 t61
        refine WL.val (Y.load1 Tryd.underlying23 rfl (hTwo.cs (1 - kk) (by omega)) rfl) (by decide) ?_   -- t63 := load 23 t62
        refine WL.val (Y.eql_storeStore rfl rfl) (by decide) ?_   -- t64 := binOp eql 23 t63 c(['Go.Value.pointer', 'none']) 23
        refine WL.nil ?_
        refine hK22 _ _ ?_; try clear hK22 K22
        first | refine CW.condD rfl (fun ht23 => ?_) (fun ht23 => ?_) | refine CW.condND rfl (fun ht23 => ?_) (fun ht23 => ?_) | refine CW.condN rfl (fun ht23 => ?_) (fun ht23 => ?_) | refine CW.cond rfl (fun ht23 => ?_) (fun ht23 => ?_)
        · -- then
          refine CW.seq fun K24 hK24 => ?_
          refine CW.region ?_   -- region 14
          refine WL.val (Y.assign rfl) (by decide) ?_   -- t2 := assign c(false)
          refine WL.nil ?_
          refine hK24 _ _ ?_; try clear hK24 K24
          refine CW.ret ⟨_, rfl, ?_⟩
          exact absurd (show false = true by assumption) (by decide)
        -- else
        refine CW.skip ?_
        exact ⟨(pa, pb), (by repeat (first | exact Fr.le.nil | refine Fr.le.cons rfl ?_)), hTwo, hE, hB6⟩
      -- else
      refine CW.skip ?_
      exact ⟨(p0, p1), (by repeat (first | exact Fr.le.nil | refine Fr.le.cons rfl ?_)), hTwo, hE, hB6⟩
    rintro u w17 hj17
    clear hPk hcs hcr hpk hTwo hE hK hB6
    obtain ⟨p0, p1⟩ := u
    dsimp only at hj17 ⊢
    obtain ⟨hTwo, hE, hB6⟩ := hj17
    have hK := hK0.ext hE
    have hzE := hE.size
    have hB12 : Ext w17 w17 := Chg.refl
    have hB14 : Ext w17 w17 := Chg.refl
    obtain ⟨pk, hpk⟩ : ∃ pk, pk = sel kk p0 p1 := ⟨_, rfl⟩
    have hPk := hTwo.at kk hk2
    have hcs := hTwo.cs kk hk2
    have hcr := hTwo.cr kk hk2
    have hmine := hTwo.mine kk
    rw [← hpk] at hPk hcs hcr hmine
    obtain ⟨g, r, l, q, uu, vv, rs⟩ := pk
    dsimp only at hcs hcr
    refine CW.seq fun K25 hK25 => ?_
    refine CW.head 9 (by kernel_rfl) (by kernel_rfl) fun w18 hx18 => ?_   -- region 15
    skip; have hz18 := hx18.size; have hE := hE.thenExt hx18; have hK := hK.ext hx18; have hB12 := hB12.ext hx18; have hB14 := hB14.ext hx18; have hB6 := hB6.ext hx18
    refine HL.val (Y.move rfl) (by decide) ?_   -- t65 := move t3
    refine HL.val (Y.move rfl) (by decide) ?_   -- t66 := move t7
    refine HL.val (Y.indexAddrN Tryd.underlying44 rfl rfl sz0_storeStore (by omega)) (by decide) ?_   -- t67 := indexAddr 44 t65 t66
    refine HL.val (Y.load1 Tryd.underlying23 rfl (by have := (hTwo.ext hx18).cs kk hk2; rw [← hpk] at this; exact this) rfl) (by decide) ?_   -- t68 := load 23 t67
    refine HL.val (Y.move rfl) (by decide) ?_   -- t69 := move t4
    refine HL.val (Y.move rfl) (by decide) ?_   -- t70 := move t7
    refine HL.val (Y.indexAddrN Tryd.underlying49 rfl rfl sz0_recensionref11Store (by omega)) (by decide) ?_   -- t71 := indexAddr 49 t69 t70
    refine HL.val (Y.load1 Tryd.underlying45 rfl (by have := (hTwo.ext hx18).cr kk hk2; rw [← hpk] at this; exact this) rfl) (by decide) ?_   -- t72 := load 45 t71
    refine HL.val (Y.load Tryd.underlying51 rfl hB6.mem (sz_recensionlaw11Act _) rfl) (by decide) ?_   -- t73 := load 51 t6
    refine HL.nil ?_
    refine WL.call Tryd.func20 rfl rfl rfl (does_any g r q uu vv l rs a.z a.two a.D a.q a.e a.b _ (hPk.ext hx18) hK (hab.ext hE) (fun h0 k hk => by have h1 := hab.lt h0 k hk; have h2 := hE.size; exact ⟨by omega, fun h3 => by have := hmine k h3; omega⟩) hal) (by simp) ?_; rintro v74 w19 hR19   -- t74 := call F20(t68, t72, t73) : 23,45,51
    obtain ⟨rfl, ⟨l2, u2, v2, rs2, hP2, hF2, hu2, hv2⟩, hc19⟩ := hR19
    have hz19 := hc19.size
    have hE := hE.step hc19 (fun k h => (hmine k h).1)
    obtain ⟨pa, pb, hTwo2⟩ := (hTwo.ext hx18).call kk hk2 (by rw [← hpk]; exact hc19) hP2 (by rw [← hpk]; exact Grown.of hF2 hu2 hv2)
    refine WL.val (Y.not rfl) (by decide) ?_   -- t75 := unOp not 4 t74
    refine WL.nil ?_
    refine hK25 _ _ ?_; try clear hK25 K25
    first | refine CW.condD rfl (fun ht26 => ?_) (fun ht26 => ?_) | refine CW.condND rfl (fun ht26 => ?_) (fun ht26 => ?_) | refine CW.condN rfl (fun ht26 => ?_) (fun ht26 => ?_) | refine CW.cond rfl (fun ht26 => ?_) (fun ht26 => ?_)
    · -- then
      refine CW.seq fun K27 hK27 => ?_
      refine CW.region ?_   -- region 16
      refine WL.val (Y.assign rfl) (by decide) ?_   -- t2 := assign c(false)
      refine WL.nil ?_
      refine hK27 _ _ ?_; try clear hK27 K27
      refine CW.ret ⟨_, rfl, ?_⟩
      exact absurd (show true = false by assumption) (by decide)
    -- else
    refine CW.skip ?_
    refine hK12 _ _ ?_; try clear hK12 K12
    refine CW.region ?_   -- region 17
    refine WL.val (Y.add rfl rfl ⟨by omega, by omega⟩) (by decide) ?_   -- t76 := binOp add 3 t32 c(1:i64) 3
    refine WL.val (Y.move rfl) (by decide) ?_   -- t32 := move t76
    refine WL.nil ?_
    exact ⟨(x + 1, pa, pb), by show m - (x + 1) < m - x; omega, (by repeat (first | exact Fr.le.nil | refine Fr.le.cons rfl ?_)), by show x + 1 ≤ m; omega, hTwo2, hE⟩
  -- else
  refine CW.exit ?_   -- exit 0
  refine hK7 _ _ ?_; try clear hK7 K7
  refine CW.seq fun K28 hK28 => ?_
  refine CW.quiet (fun wq => Ext w9 wq) (by kernel_rfl) (by kernel_rfl) Chg.drew ?_
  refine QL.val (fun wq hq => Y.move rfl) (by decide) ?_   -- t77 := move t3
  refine QL.val (fun wq hq => Y.indexAddrN (i := 0) Tryd.underlying44 rfl rfl sz0_storeStore (by omega)) (by decide) ?_   -- t78 := indexAddr 44 t77 c(0:i64)
  refine QL.val (fun wq hq => Y.load1 Tryd.underlying23 rfl ((hTwo.ext hq).cs 0 (by omega)) rfl) (by decide) ?_   -- t79 := load 23 t78
  refine QL.val (fun wq hq => Y.move rfl) (by decide) ?_   -- t80 := move t4
  refine QL.val (fun wq hq => Y.indexAddrN (i := 0) Tryd.underlying49 rfl rfl sz0_recensionref11Store (by omega)) (by decide) ?_   -- t81 := indexAddr 49 t80 c(0:i64)
  refine QL.val (fun wq hq => Y.load1 Tryd.underlying45 rfl ((hTwo.ext hq).cr 0 (by omega)) rfl) (by decide) ?_   -- t82 := load 45 t81
  refine QL.call Tryd.func21 rfl rfl rfl (fun wq hq => ret_ext (stands_any p0.g p0.r p0.q p0.u p0.v p0.l p0.rs _ (hTwo.a.ext hq).st (hTwo.a.ext hq).rf hTwo.a.like) hq) (by simp) ?_   -- t83 := call F21(t79, t82) : 23,45
  refine QL.val (fun wq hq => Y.move rfl) (by decide) ?_   -- t84 := move t83
  first | refine QL.casesD (d := 84) rfl (fun hg84 => ?_) (fun hg84 => ?_) | refine QL.casesND (d := 84) rfl (fun hg84 => ?_) (fun hg84 => ?_) | refine QL.cases (d := 84) rfl (fun hg84 => ?_) (fun hg84 => ?_)
  · -- t84 = T
    refine QL.gval rfl rfl (fun wq hq => Y.move rfl) (by decide) ?_   -- t85 := move t3 [if 7=true]
    refine QL.gval rfl rfl (fun wq hq => Y.indexAddrN (i := 1) Tryd.underlying44 rfl rfl sz0_storeStore (by omega)) (by decide) ?_   -- t86 := indexAddr 44 t85 c(1:i64) [if 7=true]
    refine QL.gval rfl rfl (fun wq hq => Y.load1 Tryd.underlying23 rfl ((hTwo.ext hq).cs 1 (by omega)) rfl) (by decide) ?_   -- t87 := load 23 t86 [if 7=true]
    refine QL.gval rfl rfl (fun wq hq => Y.move rfl) (by decide) ?_   -- t88 := move t4 [if 7=true]
    refine QL.gval rfl rfl (fun wq hq => Y.indexAddrN (i := 1) Tryd.underlying49 rfl rfl sz0_recensionref11Store (by omega)) (by decide) ?_   -- t89 := indexAddr 49 t88 c(1:i64) [if 7=true]
    refine QL.gval rfl rfl (fun wq hq => Y.load1 Tryd.underlying45 rfl ((hTwo.ext hq).cr 1 (by omega)) rfl) (by decide) ?_   -- t90 := load 45 t89 [if 7=true]
    refine QL.gcall rfl rfl Tryd.func21 rfl rfl rfl (fun wq hq => ret_ext (stands_any p1.g p1.r p1.q p1.u p1.v p1.l p1.rs _ (hTwo.c.ext hq).st (hTwo.c.ext hq).rf hTwo.c.like) hq) (by decide) ?_   -- t91 := call F21(t87, t90) : 23,45 [if 7=true]
    refine QL.val (fun wq hq => Y.pick rfl rfl) (by decide) ?_   -- t92 := pick t84 t91 c(false)
    refine QL.val (fun wq hq => Y.assign rfl) (by decide) ?_   -- t2 := assign t92
    refine QL.nil fun w20 hx20 => ?_
    have hz20 := hx20.size
    have hE := hE.thenExt hx20
    have hK := hK.ext hx20
    have hB12 := hB12.ext hx20
    have hB14 := hB14.ext hx20
    refine hK28 _ _ ?_; try clear hK28 K28
    refine CW.ret ⟨_, rfl, ?_⟩
    exact ⟨rfl, hE⟩
  · -- t84 = F
    refine QL.goff rfl rfl (by decide) ?_   -- t85 := move t3 [if 7=true]
    refine QL.goff rfl rfl (by decide) ?_   -- t86 := indexAddr 44 t85 c(1:i64) [if 7=true]
    refine QL.goff rfl rfl (by decide) ?_   -- t87 := load 23 t86 [if 7=true]
    refine QL.goff rfl rfl (by decide) ?_   -- t88 := move t4 [if 7=true]
    refine QL.goff rfl rfl (by decide) ?_   -- t89 := indexAddr 49 t88 c(1:i64) [if 7=true]
    refine QL.goff rfl rfl (by decide) ?_   -- t90 := load 45 t89 [if 7=true]
    refine QL.goff rfl rfl (by decide) ?_   -- t91 := call F21(t87, t90) : 23,45 [if 7=true]
    refine QL.val (fun wq hq => Y.pick rfl rfl) (by decide) ?_   -- t92 := pick t84 t91 c(false)
    refine QL.val (fun wq hq => Y.assign rfl) (by decide) ?_   -- t2 := assign t92
    refine QL.nil fun w21 hx21 => ?_
    have hz21 := hx21.size
    have hE := hE.thenExt hx21
    have hK := hK.ext hx21
    have hB12 := hB12.ext hx21
    have hB14 := hB14.ext hx21
    refine hK28 _ _ ?_; try clear hK28 K28
    refine CW.ret ⟨_, rfl, ?_⟩
    exact absurd (show true = false by assumption) (by decide)
end Go.Proofs.YtkbmlnkoejlgmaaDoor
