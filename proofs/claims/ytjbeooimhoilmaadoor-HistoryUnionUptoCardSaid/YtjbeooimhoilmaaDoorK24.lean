/- Parts of a proof: what its last text leans on. No condition. -/
import Derived.Test.YtjbeooimhoilmaaDoorK06
import Derived.Test.YtjbeooimhoilmaaDoorK11
import Derived.Test.YtjbeooimhoilmaaDoorK22
import Derived.Test.YtjbeooimhoilmaaDoorK23
set_option linter.unusedSimpArgs false
set_option linter.unusedVariables false
/- A range over a function, where the one who goes round keeps what the iterator reads. No condition, no program. -/
namespace Go.Fw
open Go.RowKit
def IterN {σ α : Type} (P : Program) (gf : Nat) (lb : List Value) (w : World) (Setup : World → σ → World → Prop) (xs : σ → List α) (encs : α → List Value) (T0 : Nat → Prop) (Keep : σ → Nat → Nat → Prop) (At : σ → Nat → World → Prop) (Fin : World → Prop) (N : σ → Nat → World → Prop) : Prop :=
  ∀ (l : Nat) (w1 : World) (J : σ → Nat → World → Prop) (Jx : World → Prop), Ext w w1 →
    (∀ s V, Chg T0 w1 V → Setup w1 s V → J s 0 V) →
    (∀ s i V V', J s i V → Chg T0 V V' → J s i V') →
    (∀ V V', Jx V → Chg T0 V V' → Jx V') →
    (∀ s i V, J s i V → N s i V) →
    (∀ s i x V, J s i V → (xs s)[i]? = some x → At s i V →
      YieldAt (FX none) 0 P l (encs x).toArray V (fun e V' => ∃ b, e = .returned (.bool b) ∧ ((b = true ∧ J s (i + 1) V' ∧ Chg (fun k => ¬ Keep s i k) V V') ∨ (b = false ∧ Jx V' ∧ Chg (fun k => ¬ Keep s i k) V V')))) →
    Calls P gf (.func (.yield l) #[] #[] :: lb).toArray w1 (Ret fun _ V => ((∃ s, J s (xs s).length V) ∨ Jx V) ∧ Fin V)
theorem CN.rangeN {P : Program} {m : Nat} {ds : List Deferred} {Φ : Exit → List Deferred → Fr → World → Prop} {fr : Fr} {w : World} {σ α : Type} {g : Operand} {ps : List Nat} {assign body : Code} {gf : Nat} {lb : List Value} {fn : Func}
    {Setup : World → σ → World → Prop} {xs : σ → List α} {encs : α → List Value} {T0 : Nat → Prop} {Keep : σ → Nat → Nat → Prop} {At : σ → Nat → World → Prop} {Fin : World → Prop} {N : σ → Nat → World → Prop}
    (hg : ev fr g = some (.func (.func gf) #[] lb.toArray)) (hf : P.funcs[gf]? = some fn) (hb : fn.body.isNone = false) (hn : (fn.name == "runtime.NumGoroutine") = false)
    (hit : IterN P gf lb w Setup xs encs T0 Keep At Fin N) (hps : ∀ x, (encs x).length = ps.length) (hpm : ∀ p ∈ ps, p < m)
    (hT0 : ∀ k, T0 k → k < w.heap.size) (hK : ∀ w1 s V, w.heap.size + 2 ≤ w1.heap.size → Setup w1 s V → ∀ i, ¬ Keep s i (w.heap.size + 1))
    (I : σ → Nat → World → Prop) (Ix : σ → Exit → World → Prop)
    (h0 : ∀ w1 s V, Ext w w1 → w.heap.size + 2 ≤ w1.heap.size → Chg T0 w1 V → Setup w1 s V → I s 0 V)
    (hI : ∀ s i V V', I s i V → Chg (fun k => T0 k ∨ k = w.heap.size + 1) V V' → I s i V')
    (hIx : ∀ s e V V', Ix s e V → Chg (fun k => T0 k ∨ k = w.heap.size + 1) V V' → Ix s e V')
    (hN : ∀ s i V, I s i V → N s i V)
    (hround : ∀ s i x V, I s i V → (xs s)[i]? = some x → At s i V → w.heap.size + 2 ≤ V.heap.size →
      CW P assign (m, [], some (w.heap.size + 1)) (thenF (fun f V1 => Ext V V1 ∧ ∀ V2, Chg (fun k => k = w.heap.size + 1) V1 V2 →
        CW P body (m, [], some (w.heap.size + 1)) (RoundF (w.heap.size + 1) w.heap.size (Keep s i) (I s (i + 1)) (Ix s) V2) f V2) (fun _ _ _ => False)) (zipF ps (encs x) fr) V)
    (hdone : ∀ s V, I s (xs s).length V → V.heap[w.heap.size]? = some (.deferred (some [])) → (∃ V0, Fin V0 ∧ Chg (fun k => k = w.heap.size + 1) V0 V) → Φ .normal (mark w.heap.size :: ds) fr V)
    (hleave : ∀ s e V, Ix s e V → V.heap[w.heap.size]? = some (.deferred (some [])) → (∃ V0, Fin V0 ∧ Chg (fun k => k = w.heap.size + 1) V0 V) → e = .ret ∨ (∃ id, e = .exit id) ∨ (∃ t, e = .goto t) → Φ e (mark w.heap.size :: ds) fr V) :
    CN P (.rangeFunc g ps.toArray assign body) m none ds Φ fr w := by
  intro a ha
  refine wpIn_rangeFunc fun fn0 _ => ?_
  obtain ⟨rec, hrec⟩ : ∃ rec : LoopState → Option Code → Loop, rec = fun st pe => { state := st, pending := pe, fn := fn0, tmps := a.tmps, params := ps.toArray, assign, body, defers := w.heap.size } := ⟨_, rfl⟩
  obtain ⟨W1, hW1⟩ : ∃ W1, (w.alloc (.deferred (some []))).alloc (.loop (rec .ready none)) = W1 := ⟨_, rfl⟩
  have hx1 : Ext w W1 := by rw [← hW1]; exact (Chg.alloc _).trans (Chg.alloc (S := fun _ => False) _) (fun _ _ f => f)
  have hz1 : W1.heap.size = w.heap.size + 2 := by rw [← hW1]; simp
  have hL1 : W1.heap[w.heap.size + 1]? = some (.loop (rec .ready none)) := by
    rw [← hW1]; have := World.alloc_heap_new (w.alloc (.deferred (some []))) (.loop (rec .ready none)); rwa [World.size_alloc] at this
  have hD1 : W1.heap[w.heap.size]? = some (.deferred (some [])) := by
    rw [← hW1]; exact (Below.heap_alloc _ _ _ (by simp)).trans (World.alloc_heap_new w _)
  refine ⟨w.heap.size + 1, [mark w.heap.size], W1, { target := .fn (.func gf) lb.toArray, args := #[.func (.yield (w.heap.size + 1)) #[] #[]] }, W1, gf,
    #[.func (.yield (w.heap.size + 1)) #[] #[]] ++ lb.toArray, W1, ?_, ?_, fun _ _ => trivial, ?_, fun hx => (by simp [FX] at hx), ?_⟩
  · rw [← hW1, hrec]; exact run_enterLoop_outer _ _ _ _ _
  · have e := ha.ev hg
    simp only [resolve, e]
    simp [Deferred.ofValue, Act.eval]
  · simp [invoke, run_callFunc hf hb hn]
  · refine callsIn_FX.2 ?_
    have hdef : ∀ V : World, (a.defers = ds) → Rep (m, mark w.heap.size :: ds, none) { a with defers := mark w.heap.size :: a.defers } fr := fun V hd => ⟨ha.size, by rw [hd], ha.get⟩
    have hend : ∀ (st : LoopState) (pe : Option Code) (V : World), st ≠ .busy → V.heap[w.heap.size + 1]? = some (.loop (rec st pe)) →
        (Instr.endLoop (w.heap.size + 1)).run P V = .ok pe (V.putObj (w.heap.size + 1) (.loop (rec .exhausted pe))) := fun st pe V hs hv => by
      have := run_endLoop (P := P) hv (by rw [hrec]; exact hs)
      rw [hrec] at this ⊢
      exact this
    have key := hit (w.heap.size + 1) W1
      (fun s i V => I s i V ∧ V.heap[w.heap.size + 1]? = some (.loop (rec .ready none)) ∧ V.heap[w.heap.size]? = some (.deferred (some [])) ∧ w.heap.size + 2 ≤ V.heap.size ∧ ∀ i, ¬ Keep s i (w.heap.size + 1))
      (fun V => ∃ s e c, Ix s e V ∧ V.heap[w.heap.size + 1]? = some (.loop (rec .done (some c))) ∧ V.heap[w.heap.size]? = some (.deferred (some [])) ∧ w.heap.size + 2 ≤ V.heap.size ∧
        ((e = .ret ∧ c = .ret) ∨ (∃ id, e = .exit id ∧ c = .exit id) ∨ (∃ t, e = .goto t ∧ c = .goto t))) hx1
      (fun s V hc hs => ⟨h0 W1 s V hx1 (by omega) hc hs, (hc.block _ (by omega) (fun h => by have := hT0 _ h; omega)).trans hL1, (hc.block _ (by omega) (fun h => by have := hT0 _ h; omega)).trans hD1, by have := hc.size; omega, hK W1 s V (by omega) hs⟩)
      (fun s i V V' hJ hc => ⟨hI s i V V' hJ.1 (hc.mono fun _ _ h => .inl h), (hc.block _ (by omega) (fun h => by have := hT0 _ h; omega)).trans hJ.2.1, (hc.block _ (by omega) (fun h => by have := hT0 _ h; omega)).trans hJ.2.2.1, by have := hc.size; omega, hJ.2.2.2.2⟩)
      (fun V V' hJ hc => by
        obtain ⟨s, e, c, h1, h2, h3, h4, h5⟩ := hJ
        exact ⟨s, e, c, hIx s e V V' h1 (hc.mono fun _ _ h => .inl h), (hc.block _ (by omega) (fun h => by have := hT0 _ h; omega)).trans h2, (hc.block _ (by omega) (fun h => by have := hT0 _ h; omega)).trans h3, by have := hc.size; omega, h5⟩)
      (fun s i V hJ => hN s i V hJ.1)
      (fun s i x V hJ hx hAt => by
        obtain ⟨hi, hl, hD, hz, hk⟩ := hJ
        have hy := run_yield (P := P) (args := (encs x).toArray) hl (by rw [hrec]; simp [hps x])
        rw [hrec] at hy
        refine ⟨fn0, _, assign, body, hy, roundIn_of_wpIn trivial ?_⟩
        have hrep : Rep (m, [], some (w.heap.size + 1)) { tmps := (ps.toArray.zip (encs x).toArray).foldl (fun t (p, v) => t.setIfInBounds p v) a.tmps, defers := [] } (zipF ps (encs x) fr) := by
          have h1 : Rep (m, [], some (w.heap.size + 1)) { tmps := a.tmps, defers := [] } fr := ⟨ha.size, rfl, ha.get⟩
          have := Rep.zip (vs := encs x) hpm h1
          simpa using this
        refine wpIn_mono (hround s i x V hi hx hAt hz _ hrep) ?_
        rintro e a1 V1 ⟨f, hf1, hp⟩
        cases e with
        | normal =>
          obtain ⟨hx2, hbody⟩ := hp
          have hl1 := (hx2.block _ (by omega) (fun h => h)).trans hl
          have hD1 := (hx2.block _ (by omega) (fun h => h)).trans hD
          refine ⟨_, run_beginRound hl1 (by rw [hrec]), ?_⟩
          have hlt : w.heap.size + 1 < V1.heap.size := by have := hx2.size; omega
          have hl2 : (V1.putObj (w.heap.size + 1) (.loop { rec .ready none with state := .busy })).heap[w.heap.size + 1]? = some (.loop { rec .ready none with state := .busy }) := World.putObj_heap_same hlt
          have hD2 : (V1.putObj (w.heap.size + 1) (.loop { rec .ready none with state := .busy })).heap[w.heap.size]? = some (.deferred (some [])) := (World.putObj_heap_other (by omega)).trans hD1
          have hc2 : Chg (fun k => k = w.heap.size + 1) V1 (V1.putObj (w.heap.size + 1) (.loop { rec .ready none with state := .busy })) := Chg.putObj _ rfl
          have fin : ∀ (jump : Option Code) (V3 : World), Chg (fun k => k ≠ w.heap.size + 1 ∧ k ≠ w.heap.size) (V1.putObj (w.heap.size + 1) (.loop { rec .ready none with state := .busy })) V3 →
              (Instr.endRound (w.heap.size + 1) jump).run P V3 = .ok (.bool jump.isNone) (V3.putObj (w.heap.size + 1) (.loop (rec (if jump.isNone then .ready else .done) jump))) ∧
              (V3.putObj (w.heap.size + 1) (.loop (rec (if jump.isNone then .ready else .done) jump))).heap[w.heap.size + 1]? = some (.loop (rec (if jump.isNone then .ready else .done) jump)) ∧
              (V3.putObj (w.heap.size + 1) (.loop (rec (if jump.isNone then .ready else .done) jump))).heap[w.heap.size]? = some (.deferred (some [])) ∧ w.heap.size + 2 ≤ (V3.putObj (w.heap.size + 1) (.loop (rec (if jump.isNone then .ready else .done) jump))).heap.size := fun jump V3 hk3 => by
            have hl3 := (hk3.block _ (Array.getElem?_eq_some_iff.1 hl2).1 (fun h => h.1 rfl)).trans hl2
            have hD3 := (hk3.block _ (Array.getElem?_eq_some_iff.1 hD2).1 (fun h => h.2 rfl)).trans hD2
            have hz3 := hk3.size
            have := run_endRound (P := P) jump hl3
            rw [hrec] at this ⊢
            refine ⟨this, World.putObj_heap_same (Array.getElem?_eq_some_iff.1 hl3).1, (World.putObj_heap_other (by omega)).trans hD3, ?_⟩
            simp only [World.putObj_size] at hz3 ⊢
            have := hx2.size
            omega
          have chg : ∀ (V3 : World) (o : Obj), Chg (fun k => ¬ Keep s i k ∧ k ≠ w.heap.size + 1 ∧ k ≠ w.heap.size) (V1.putObj (w.heap.size + 1) (.loop { rec .ready none with state := .busy })) V3 → Chg (fun k => ¬ Keep s i k) V (V3.putObj (w.heap.size + 1) o) := fun V3 o hk3 =>
            ((hx2.chg.trans (hc2.mono (T := fun k => ¬ Keep s i k) fun k _ h => by rw [h]; exact hk i) (fun _ _ h => h)).trans (hk3.mono (T := fun k => ¬ Keep s i k) fun _ _ h => h.1) (fun _ _ h => h)).trans (Chg.putObj (S := fun k => ¬ Keep s i k) _ (hk i)) (fun _ _ h => h)
          refine wpIn_mono (hbody _ hc2 a1 hf1) ?_
          rintro e3 a3 V3 ⟨f3, hf3, hp3⟩
          cases e3 with
          | normal =>
            obtain ⟨hi3, hk3⟩ := hp3
            obtain ⟨hr, hl4, hD4, hz4⟩ := fin none V3 (hk3.mono fun _ _ h => ⟨h.2.1, h.2.2⟩)
            refine ⟨_, _, hr, true, rfl, .inl ⟨rfl, ⟨hI _ _ _ _ hi3 (Chg.putObj _ (.inr rfl)), hl4, hD4, hz4, hk⟩, ?_⟩⟩
            exact chg V3 _ hk3
          | ret =>
            obtain ⟨hi3, hk3⟩ := hp3
            obtain ⟨hr, hl4, hD4, hz4⟩ := fin (some .ret) V3 (hk3.mono fun _ _ h => ⟨h.2.1, h.2.2⟩)
            exact ⟨_, _, hr, false, rfl, .inr ⟨rfl, ⟨s, .ret, .ret, hIx _ _ _ _ hi3 (Chg.putObj _ (.inr rfl)), hl4, hD4, hz4, .inl ⟨rfl, rfl⟩⟩, chg V3 _ hk3⟩⟩
          | exit id =>
            obtain ⟨hi3, hk3⟩ := hp3
            obtain ⟨hr, hl4, hD4, hz4⟩ := fin (some (.exit id)) V3 (hk3.mono fun _ _ h => ⟨h.2.1, h.2.2⟩)
            exact ⟨_, _, hr, false, rfl, .inr ⟨rfl, ⟨s, .exit id, .exit id, hIx _ _ _ _ hi3 (Chg.putObj _ (.inr rfl)), hl4, hD4, hz4, .inr (.inl ⟨id, rfl, rfl⟩)⟩, chg V3 _ hk3⟩⟩
          | goto t =>
            obtain ⟨hi3, hk3⟩ := hp3
            obtain ⟨hr, hl4, hD4, hz4⟩ := fin (some (.goto t)) V3 (hk3.mono fun _ _ h => ⟨h.2.1, h.2.2⟩)
            exact ⟨_, _, hr, false, rfl, .inr ⟨rfl, ⟨s, .goto t, .goto t, hIx _ _ _ _ hi3 (Chg.putObj _ (.inr rfl)), hl4, hD4, hz4, .inr (.inr ⟨t, rfl, rfl⟩)⟩, chg V3 _ hk3⟩⟩
          | panic c => exact hp3.elim
          | outgrown => exact hp3.elim
        | exit id => exact hp.elim
        | goto t => exact hp.elim
        | ret => exact hp.elim
        | panic c => exact hp.elim
        | outgrown => exact hp.elim)
    have hlist : (Value.func (.yield (w.heap.size + 1)) #[] #[] :: lb).toArray = #[Value.func (.yield (w.heap.size + 1)) #[] #[]] ++ lb.toArray := by simp
    rw [hlist] at key
    refine key.mono ?_
    rintro e V hR
    cases e with
    | returned v =>
      obtain ⟨hR, hfin⟩ := hR
      rcases hR with ⟨s, hi, hl, hD, hz, _⟩ | ⟨s, e, c, hi, hl, hD, hz, hec⟩
      · refine ⟨none, _, hend .ready none V (by simp) hl, _, fr, hdef V ha.defers, ?_⟩
        exact hdone s _ (hI _ _ _ _ hi (Chg.putObj _ (.inr rfl))) ((World.putObj_heap_other (by omega)).trans hD) ⟨V, hfin, Chg.putObj _ rfl⟩
      · refine ⟨some c, _, hend .done (some c) V (by simp) hl, ?_⟩
        have hi' := hIx _ _ _ _ hi (Chg.putObj (r := w.heap.size + 1) (.loop (rec .exhausted (some c))) (.inr rfl))
        have hD' : (V.putObj (w.heap.size + 1) (.loop (rec .exhausted (some c)))).heap[w.heap.size]? = some (.deferred (some [])) := (World.putObj_heap_other (by omega)).trans hD
        have hw := hleave s e _ hi' hD' ⟨V, hfin, Chg.putObj _ rfl⟩ (by rcases hec with ⟨h, _⟩ | ⟨id, h, _⟩ | ⟨t, h, _⟩ <;> simp [h])
        rcases hec with ⟨rfl, rfl⟩ | ⟨id, rfl, rfl⟩ | ⟨t, rfl, rfl⟩
        · exact wpIn_ret ⟨_, fr, hdef V ha.defers, hw⟩
        · exact wpIn_exit ⟨_, fr, hdef V ha.defers, hw⟩
        · exact wpIn_goto ⟨_, fr, hdef V ha.defers, hw⟩
    | panicked ch => exact hR.elim
    | outgrown => exact hR.elim
end Go.Fw
/- All, walked, in: walked. No condition. -/
namespace Go.Proofs.YtjbeooimhoilmaaDoor
open Go.RowKit Go.Fw Go.Fu Go.Pl
structure AllS where
  lo : Nat
  hi : Nat
def AllSetup8 (w1 : World) (s : AllS) (V : World) : Prop := w1.heap.size ≤ s.lo ∧ s.lo ≤ s.hi ∧ s.hi ≤ V.heap.size
def allXs8 (e : List El) (_ : AllS) : List (RefD × UInt8) := (seenE e).map fun q => (nm e q, byteAt e q)
def allEnc8 (x : RefD × UInt8) : List Value := [refV x.1, bc x.2]
def allKeep8 (s : AllS) (_ : Nat) (k : Nat) : Prop := s.lo ≤ k ∧ k < s.hi
def AllN (ns : List Nn) (e : List El) (V : World) : Prop := ∀ q ∈ seenE e, ∃ gn lv rv, Blk V (gOf ns q) TN (nodeC ⟨nm e q, byteAt e q, gn, [], []⟩ lv rv)
theorem FtAt.allN {w : World} {g rb ra : Nat} {ad : List Dig} {ns : List Nn} (h : FtAt w g rb ra ad ns) (hG : Fu.Good (Fw.els ns)) : AllN ns (Fw.els ns) w := fun q hq => by
  have hel : (Fw.els ns).length = ns.length := List.length_map _
  have hl := seen_lt hG.down hq
  obtain ⟨z, hz⟩ : ∃ z, ns[q]? = some z := ⟨_, List.getElem?_eq_getElem (by omega)⟩
  have hze : (Fw.els ns)[q]? = some z.el := by rw [List.getElem?_map, hz]; rfl
  exact ⟨z.el.gone, z.lv, z.rv, by rw [gOf_at hz, nm_at hze, byteAt_at hze]; exact h.node q z hz⟩
theorem ai_ref : AppInfo Tryd.prog 50 34 48 := by
  have h : (Tryd.prog.info? 50).map (fun i => (i.size, i.bytes, i.zero)) = some (34, 48, some (.agg (refC RefD.zero).toArray)) := by kernel_rfl
  obtain ⟨i, hi, h⟩ := Option.map_eq_some_iff.1 h
  injection h with h1 h2
  injection h2 with h2 h3
  exact ⟨i, _, hi, h3, h1, by show (refC RefD.zero).toArray.size = 34; simp [refC_length], h2, by decide, by decide⟩
theorem bs1_ref (r : RefD) (w : World) : (Instr.buildSlice 45 1 [(0, refV r)].toArray).run Tryd.prog w = .ok (.slice (some ⟨w.heap.size, 0, none⟩) 1 1) (w.alloc (.cells (refC r).toArray 50)) := by
  obtain ⟨i, z, hi, hz, hk, _⟩ := ai_ref
  exact run_bs1 Tryd.underlying45 hi hz (by omega) (by omega) rfl (by rw [refC_length, hk]) w
theorem fall_any (u : Addr) (w : World) : Calls Tryd.prog 30 #[.pointer (some u)] w (Ret fun v w' => ∃ b, v = .func (.func 43) #[] #[.pointer (some ⟨b, 0, none⟩)] ∧ w.heap.size ≤ b ∧ Blk w' b 42 [.pointer (some u)] ∧ Ext w w') := by
  refine calls_of_CW 4 [2] [(0, .pointer (some u))] Tryd.func30 rfl rfl rfl (by simp) args1 ?_
  have hE : Ext w w := Chg.refl
  refine CW.seq fun K1 hK1 => ?_
  refine CW.region ?_
  refine WL.box rfl rfl (by decide) fun g1 w1 hx1 hg1 hB1 => ?_
  have hlt1 := hB1.lt; have hz1 := hx1.size
  have hM1 := hB1.mem; have hz1 := hx1.size; have hE := hE.thenExt hx1
  refine WL.val (Y.assign rfl) (by decide) ?_
  refine WL.nil ?_
  refine hK1 _ _ ?_; try clear hK1 K1
  refine CW.seq fun K2 hK2 => ?_
  refine CW.region ?_
  refine WL.val (Y.makeFunc rfl) (by decide) ?_
  refine WL.val (Y.assign rfl) (by decide) ?_
  refine WL.nil ?_
  refine hK2 _ _ ?_; try clear hK2 K2
  refine CW.ret ⟨_, rfl, ?_⟩
  exact ⟨g1, rfl, hg1, hB1, hE⟩
set_option maxRecDepth 100000 in
set_option maxHeartbeats 1000000 in
theorem fall1_any (g rb ra : Nat) (ad : List Dig) (ns : List Nn) (b : Nat) (w_ : World) (hT_ : FtAt w_ g rb ra ad ns) (hG : Fu.Good (Fw.els ns)) (hn : ns.length ≤ 400001) (hB_ : Blk w_ b 42 [.pointer (some ⟨g, 0, none⟩)]) : IterN Tryd.prog 43 [.pointer (some ⟨b, 0, none⟩)] w_ AllSetup8 (allXs8 (Fw.els ns)) allEnc8 (fun _ => False) allKeep8 (fun _ _ _ => True) (fun _ => True) (fun _ _ V => AllN ns (Fw.els ns) V) := by
  intro ln w J Jx hx0 hS hJ hJx hJN hR
  have hT := hT_.ext hx0
  have hB0 := hB_.ext hx0
  have hlv : (seenE (Fw.els ns)).length ≤ 400001 := by
    have h1 := List.countP_le_length (p := fun x : El => !x.gone) (l := Fw.els ns)
    rw [hG.seen_length]; rw [List.length_map] at h1; exact Nat.le_trans h1 hn
  refine calls_of_CW 24 [] [(0, .func (.yield ln) #[] #[]), (1, .pointer (some ⟨b, 0, none⟩))] Tryd.func43 rfl rfl rfl (by simp) args2 ?_
  have hE : Ext w w := Chg.refl
  refine CW.seq fun K1 hK1 => ?_
  refine CW.region ?_
  refine WL.val (Y.load1 Tryd.underlying42 rfl (hB0.ext hE).mem.cell0 rfl) (by decide) ?_
  refine WL.call Tryd.func31 rfl rfl rfl (flist_any g rb ra ad ns _ (hT.ext hE) hG hn) (by simp) ?_; rintro v6 w1 hR1
  obtain ⟨hO1, hf1, hx1⟩ := hR1
  have hz1 := hx1.size
  have hE := hE.thenExt hx1
  obtain ⟨A, m, c, rfl⟩ := hO1.lens
  obtain ⟨hlm, hlg⟩ := ptr_map hO1
  have hlt1 := hO1.lt
  have hcc := (hO1.mem A m c rfl).2.2.2
  unfold maxLen at hcc
  refine WL.val (Y.len_slice Tryd.underlying80 rfl) (by decide) ?_
  refine WL.val (Y.move rfl) (by decide) ?_
  refine WL.nil ?_
  refine hK1 _ _ ?_; try clear hK1 K1
  refine CW.block ?_
  refine CW.loop (X := Nat) (fun x => [(0, .func (.yield ln) #[] #[]), (1, .pointer (some ⟨b, 0, none⟩)), (6, .slice A m c), (7, .int .i64 (m : Int)), (8, .int .i64 (x : Int))]) (fun x w0 => x ≤ m ∧ J ⟨w.heap.size, w1.heap.size⟩ x w0 ∧ Own w0 TP 1 (.slice A m c) (ptrL ((seenE (Fw.els ns)).map (gOf ns))) ∧ w1.heap.size ≤ w0.heap.size) (fun x => m - x) 0 (by repeat (first | exact Fr.le.nil | refine Fr.le.cons rfl ?_)) ⟨Nat.zero_le _, hS _ _ hE ⟨Nat.le_refl _, hE.size, Nat.le_refl _⟩, hO1, Nat.le_refl _⟩ ?_
  intro x w2 hl2
  obtain ⟨hxm, hj, hO, hz2⟩ := hl2
  have hE : Ext w2 w2 := Chg.refl
  obtain ⟨_, hlg2⟩ := ptr_map hO
  refine CW.seq fun K2 hK2 => ?_
  refine CW.region ?_
  refine WL.val (Y.lss rfl rfl) (by decide) ?_
  refine WL.nil ?_
  refine hK2 _ _ ?_; try clear hK2 K2
  refine CW.seq fun K3 hK3 => ?_
  first | refine CW.condD rfl (fun ht4 => ?_) (fun ht4 => ?_) | refine CW.condND rfl (fun ht4 => ?_) (fun ht4 => ?_) | refine CW.condN rfl (fun ht4 => ?_) (fun ht4 => ?_) | refine CW.cond rfl (fun ht4 => ?_) (fun ht4 => ?_)
  · -- then
    refine CW.skip ?_
    refine hK3 _ _ ?_; try clear hK3 K3
    refine CW.seq fun K5 hK5 => ?_
    refine CW.block ?_
    refine CW.seq fun K6 hK6 => ?_
    obtain ⟨q, hq⟩ : ∃ q, (seenE (Fw.els ns))[x]? = some q := ⟨_, List.getElem?_eq_getElem (by omega)⟩
    obtain ⟨a, rfl, hma⟩ := hlg2 x q hq
    obtain ⟨gn, lv, rv, hbn⟩ := hJN _ _ _ hj q (List.mem_of_getElem? hq)
    refine CW.region ?_
    refine WL.val (Y.indexAddrN Tryd.underlying80 rfl rfl sz0_fuguenode (by omega)) (by decide) ?_
    refine WL.val (Y.load1 Tryd.underlying82 rfl hma.cell0 rfl) (by decide) ?_
    refine WL.val (Y.assign rfl) (by decide) ?_
    refine WL.nil ?_
    refine hK6 _ _ ?_; try clear hK6 K6
    refine CW.seq fun K7 hK7 => ?_
    refine CW.headI 9 (by kernel_rfl) (by kernel_rfl) fun w3 hx3 => ?_
    skip; have hz3 := hx3.size; have hE := hE.thenExt hx3
    refine HL.val (Y.move rfl) (by decide) ?_
    refine HL.val (Y.move rfl) (by decide) ?_
    refine HL.val (Y.nilCheck rfl) (by decide) ?_
    refine HL.val (Y.fieldAddr fo_fuguenode0 rfl) (by decide) ?_
    refine HL.val (Y.load Tryd.underlying50 rfl ((hbn.ext hE).mem.fuguenode0) (sz_apiRef _) rfl) (by decide) ?_
    refine HL.val (Y.move rfl) (by decide) ?_
    refine HL.val (Y.nilCheck rfl) (by decide) ?_
    refine HL.val (Y.fieldAddr fo_fuguenode1 rfl) (by decide) ?_
    refine HL.val (Y.load1 Tryd.underlying5 rfl ((hbn.ext hE).mem.fuguenode1) rfl) (by decide) ?_
    refine HL.nil ?_
    refine WI.yield rfl rfl (hR ⟨w.heap.size, w1.heap.size⟩ x (nm (Fw.els ns) q, byteAt (Fw.els ns) q) w3 (hJ _ _ _ _ hj hE) (by show ((seenE (Fw.els ns)).map _)[x]? = _; rw [List.getElem?_map, hq]; rfl) trivial) (by decide) (fun b21 w4 hR4 => ?_)
    skip
    refine WI.val (Y.not rfl) (by decide) ?_
    refine WI.nil ?_
    refine hK7 _ _ ?_; try clear hK7 K7
    first | refine CW.condD rfl (fun ht8 => ?_) (fun ht8 => ?_) | refine CW.condND rfl (fun ht8 => ?_) (fun ht8 => ?_) | refine CW.condN rfl (fun ht8 => ?_) (fun ht8 => ?_) | refine CW.cond rfl (fun ht8 => ?_) (fun ht8 => ?_)
    · -- then
      refine CW.ret ⟨_, rfl, ?_⟩
      rcases hR4 with ⟨hb, _⟩ | ⟨_, h, _⟩
      · simp_all
      · exact ⟨.inr h, trivial⟩
    refine CW.skip ?_
    refine hK5 _ _ ?_; try clear hK5 K5
    refine CW.region ?_
    refine WL.val (Y.add rfl rfl ⟨by omega, by omega⟩) (by decide) ?_
    refine WL.val (Y.move rfl) (by decide) ?_
    refine WL.nil ?_
    rcases hR4 with ⟨_, hj2, hc⟩ | ⟨hb, _⟩
    · have hz4 := hc.size
      exact ⟨x + 1, (by show m - (x + 1) < m - x; omega), (by repeat (first | exact Fr.le.nil | refine Fr.le.cons rfl ?_)), (by show x + 1 ≤ m; omega), hj2, (hO.ext hE).chg hc (fun k hk h => h ⟨hf1 k hk, hlt1 k hk⟩), by omega⟩
    · simp_all
  refine CW.exit ?_
  refine ⟨_, rfl, ?_⟩
  refine ⟨.inl ⟨⟨w.heap.size, w1.heap.size⟩, ?_⟩, trivial⟩
  have e : (allXs8 (Fw.els ns) ⟨w.heap.size, w1.heap.size⟩).length = x := by simp only [allXs8, List.length_map]; omega
  rw [e]
  exact hj
end Go.Proofs.YtjbeooimhoilmaaDoor
/- What must come: the texts of two versions, and of both together: alive, walked. No condition but the table of digest.keys. -/
namespace Go.Proofs.YtjbeooimhoilmaaDoor
open Go.RowKit Go.Fw Go.Pl Go.Sort Go.Fu
def dA : Dig := ⟨[103, 39, 190, 109, 200, 245, 252, 100, 35, 38, 142, 176, 228, 9, 156, 198, 222, 165, 110, 116, 50, 72, 108, 164, 4, 134, 240, 226, 20, 255, 95, 253], rfl⟩
def dB : Dig := ⟨[183, 161, 218, 127, 100, 98, 101, 28, 233, 117, 103, 220, 241, 160, 58, 232, 230, 141, 171, 228, 56, 15, 156, 48, 204, 71, 195, 34, 89, 101, 160, 172], rfl⟩
def dC : Dig := ⟨[79, 120, 251, 6, 28, 170, 97, 20, 196, 53, 156, 246, 141, 82, 128, 123, 94, 148, 139, 54, 6, 169, 175, 127, 89, 224, 99, 64, 52, 19, 220, 33], rfl⟩
def oA : List OpD := [⟨1, false, RefD.zero, 104⟩, ⟨1, false, ⟨true, Dig.zero, 1⟩, 105⟩]
def oB : List OpD := [⟨1, false, ⟨false, dA, 2⟩, 33⟩]
def oC : List OpD := [⟨2, false, ⟨false, dA, 1⟩, 0⟩]
def cA : ComD := ⟨[], ⟨#[97]⟩, ByteArray.empty, oA⟩
def cB : ComD := ⟨[dA], ⟨#[98]⟩, ByteArray.empty, oB⟩
def cC : ComD := ⟨[dA], ⟨#[99]⟩, ByteArray.empty, oC⟩
theorem id_cA : idD cA = dA := by decide +kernel
theorem id_cB : idD cB = dB := by decide +kernel
theorem id_cC : idD cC = dC := by decide +kernel
theorem may_cA : mayI cA = 0 := by decide +kernel
theorem may_cB : mayI cB = 0 := by decide +kernel
theorem may_cC : mayI cC = 0 := by decide +kernel
theorem hok_A : HOk [cA] := HOk.nil.snoc ⟨may_cA, (fun h => by cases h), (fun p h => by cases h), fun x hx hr => by
  simp only [cA, oA, List.mem_cons, List.not_mem_nil, or_false] at hx
  rcases hx with rfl | rfl <;> exact absurd hr (by decide)⟩
theorem far_A {m : List ComD} (hm : HOk m) (hl : m.length ≤ 200) (hA : cA ∈ m) (hin : dA ∈ idsH m) {n : Int} (h1 : n = 1 ∨ n = 2) : fndB m [dA] ⟨false, dA, n⟩ = true :=
  (fnd_iff hm hl (fun d hd => by simp at hd; subst hd; exact hin)).2 ⟨cA, hA, id_cA, ⟨dA, by simp, .refl _⟩, by rcases h1 with rfl | rfl <;> decide, by rcases h1 with rfl | rfl <;> decide⟩
theorem hok_B : HOk [cA, cB] := hok_A.snoc ⟨may_cB, (by
  rw [id_cB]; intro h; simp only [List.map_cons, List.map_nil, List.mem_cons, List.not_mem_nil, or_false, id_cA] at h; exact absurd h (by decide)), (fun p h => by
  simp only [cB, List.mem_cons, List.not_mem_nil, or_false] at h; subst h; simp [id_cA]), fun x hx hr => by
  simp only [cB, oB, List.mem_cons, List.not_mem_nil, or_false] at hx
  subst hx
  exact far_A hok_A (by decide) (by simp) (by simp [id_cA]) (.inr rfl)⟩
theorem hok_C : HOk [cA, cB, cC] := hok_B.snoc ⟨may_cC, (by
  rw [id_cC]; intro h; simp only [List.map_cons, List.map_nil, List.mem_cons, List.not_mem_nil, or_false, id_cA, id_cB] at h; exact absurd h (by decide)), (fun p h => by
  simp only [cC, List.mem_cons, List.not_mem_nil, or_false] at h; subst h; simp [id_cA]), fun x hx hr => by
  simp only [cC, oC, List.mem_cons, List.not_mem_nil, or_false] at hx
  subst hx
  exact far_A hok_B (by decide) (by simp) (by simp [id_cA]) (.inl rfl)⟩
theorem nds_C : ndsH [cA, cB, cC] = [⟨dA, []⟩, ⟨dB, [dA]⟩, ⟨dC, [dA]⟩] := by
  simp only [ndsH, List.map_cons, List.map_nil, ndH, id_cA, id_cB, id_cC]; rfl
theorem sortedD_is9 {l m : List Dig} (hl : l.Nodup) (hm : Up m) (h : ∀ x, x ∈ l ↔ x ∈ m) : sortedD l = m := up_eq (sortedD_up hl) hm fun x => by rw [sortedD_mem, h]
theorem hd_C : hdL (ndsH [cA, cB, cC]) [dB, dC] = [dC, dB] := by
  rw [nds_C]
  have h : headsD [⟨dA, []⟩, ⟨dB, [dA]⟩, ⟨dC, [dA]⟩] (mark0 [⟨dA, []⟩, ⟨dB, [dA]⟩, ⟨dC, [dA]⟩] [dB, dC]) 3 (List.replicate 3 false) [] = [dC, dB] := by decide +kernel
  show headsL _ _ = _
  rw [headsL]
  show sortedD (headsD _ _ 3 (List.replicate 3 false) []) = _
  rw [h]
  exact sortedD_is9 (by decide +kernel) (by decide +kernel) fun x => Iff.rfl
theorem tx_C {ids : List Dig} (h : ∀ d ∈ ids, d = dA ∨ d = dB ∨ d = dC) : txE [cA, cB, cC] ids = 0 := txE_ok.2 ⟨by decide, hok_C, fun d hd => by
  simp only [List.map_cons, List.map_nil, List.mem_cons, List.not_mem_nil, or_false, id_cA, id_cB, id_cC]
  exact h d hd⟩
theorem mg_C : mgE [cA, cB, cC] [dB] [dC] = 0 ∧ mgL [cA, cB, cC] [dB] [dC] = [dC, dB] := by
  have e : mgE [cA, cB, cC] [dB] [dC] = 0 := mgE_ok.2 ⟨tx_C fun d hd => by simp at hd; rcases hd with rfl | rfl <;> simp, by show (hdL (ndsH [cA, cB, cC]) [dB, dC]).length ≤ 8; rw [hd_C]; decide⟩
  refine ⟨e, ?_⟩
  rw [mgL, if_pos e]
  exact hd_C
theorem rd_A : (rdH [cA]).2 = 0 := rdH_ok.2 ⟨by decide, hok_A⟩
theorem rd_C : (rdH [cA, cB, cC]).2 = 0 := rdH_ok.2 ⟨by decide, hok_C⟩
abbrev TCo : TypeId := 37
abbrev TOp9 : TypeId := 63
theorem run_bs3 {P : Program} {t e : TypeId} {ie : TypeInfo} {z : Value} {a b c : Value} (hu : P.underlying t = some (.slice e)) (hi : P.info? e = some ie) (hz : ie.zero = some z) (h0 : 0 < ie.size) (hl : ie.size ≤ 4096) (ha : a.cells.size = ie.size) (hb : b.cells.size = ie.size) (hc : c.cells.size = ie.size) (w : World) :
    (Instr.buildSlice t 3 [(0, a), (1, b), (2, c)].toArray).run P w = .ok (.slice (some ⟨w.heap.size, 0, none⟩) 3 3) (w.alloc (.cells ([a, b, c].flatMap fun v => v.cells.toList).toArray e)) := by
  refine run_buildSlice w t e 3 _ _ ie z hu hi hz (by omega) (by omega) ?_
  have h := Go.Great.fill_whole (s := ie.size) h0 [a, b, c] ((Array.range (3 * ie.size)).map (z.cells[· % z.cells.size]!)) (by intro u hu; simp at hu; rcases hu with rfl | rfl | rfl <;> assumption) (by simp)
  simpa using h
theorem bs1_co (x : CoV) (w : World) : (Instr.buildSlice 22 1 [(0, coV x)].toArray).run Tryd.prog w = .ok (.slice (some ⟨w.heap.size, 0, none⟩) 1 1) (w.alloc (.cells (([x].map coC).flatten).toArray TCo)) := by
  obtain ⟨i, hi, hz, hs⟩ := info_apiCommitH
  have h := run_bs1 (P := Tryd.prog) (v := coV x) Tryd.underlying22 hi hz (by omega) (by omega) rfl (by rw [hs]; rfl) w
  simpa using h
theorem bs3_co (x y z : CoV) (w : World) : (Instr.buildSlice 22 3 [(0, coV x), (1, coV y), (2, coV z)].toArray).run Tryd.prog w = .ok (.slice (some ⟨w.heap.size, 0, none⟩) 3 3) (w.alloc (.cells (([x, y, z].map coC).flatten).toArray TCo)) := by
  obtain ⟨i, hi, hz, hs⟩ := info_apiCommitH
  have h1 : ∀ x : CoV, (coV x).cells.size = i.size := fun x => by rw [hs]; rfl
  exact run_bs3 (P := Tryd.prog) Tryd.underlying22 hi hz (by omega) (by omega) (h1 x) (h1 y) (h1 z) w
theorem bs1_op9 (x : OpD) (w : World) : (Instr.buildSlice 35 1 [(0, opV x)].toArray).run Tryd.prog w = .ok (.slice (some ⟨w.heap.size, 0, none⟩) 1 1) (w.alloc (.cells (opC x).toArray TOp9)) := by
  obtain ⟨i, z, hi, hz, hk, _⟩ := ai_op
  exact run_bs1 Tryd.underlying35 hi hz (by omega) (by omega) rfl (by rw [opC_length, hk]) w
theorem build_oA1 (w : World) : (Instr.build TOp9 [(0, .int .i64 1), (3, .int .u8 104)].toArray).run Tryd.prog w = .ok (opV ⟨1, false, RefD.zero, 104⟩) w := run_build w _ _ _ (by kernel_rfl)
theorem build_rA (w : World) : (Instr.build 50 [(0, .bool true), (2, .int .i64 1)].toArray).run Tryd.prog w = .ok (refV ⟨true, Dig.zero, 1⟩) w := run_build w _ _ _ (by kernel_rfl)
theorem build_oA2 (w : World) : (Instr.build TOp9 [(0, .int .i64 1), (3, .int .u8 105), (2, refV ⟨true, Dig.zero, 1⟩)].toArray).run Tryd.prog w = .ok (opV ⟨1, false, ⟨true, Dig.zero, 1⟩, 105⟩) w := run_build w _ _ _ (by kernel_rfl)
theorem build_cA (A : Option Addr) (w : World) : (Instr.build TCo [(1, .string ⟨#[97]⟩), (3, .slice A 2 2)].toArray).run Tryd.prog w = .ok (coV ⟨cA, none, 0, A, 2⟩) w := run_build w _ _ _ (by kernel_rfl)
theorem build_rD (n : Int) (w : World) : (Instr.build 50 [(1, digV dA), (2, .int .i64 n)].toArray).run Tryd.prog w = .ok (refV ⟨false, dA, n⟩) w := run_build w _ _ _ (by kernel_rfl)
theorem build_oB (w : World) : (Instr.build TOp9 [(0, .int .i64 1), (3, .int .u8 33), (2, refV ⟨false, dA, 2⟩)].toArray).run Tryd.prog w = .ok (opV ⟨1, false, ⟨false, dA, 2⟩, 33⟩) w := run_build w _ _ _ (by kernel_rfl)
theorem build_oC (w : World) : (Instr.build TOp9 [(0, .int .i64 2), (2, refV ⟨false, dA, 1⟩)].toArray).run Tryd.prog w = .ok (opV ⟨2, false, ⟨false, dA, 1⟩, 0⟩) w := run_build w _ _ _ (by kernel_rfl)
theorem build_cB (A B : Option Addr) (w : World) : (Instr.build TCo [(1, .string ⟨#[98]⟩), (0, .slice A 1 1), (3, .slice B 1 1)].toArray).run Tryd.prog w = .ok (coV ⟨cB, A, 1, B, 1⟩) w := run_build w _ _ _ (by kernel_rfl)
theorem build_cC (A B : Option Addr) (w : World) : (Instr.build TCo [(1, .string ⟨#[99]⟩), (0, .slice A 1 1), (3, .slice B 1 1)].toArray).run Tryd.prog w = .ok (coV ⟨cC, A, 1, B, 1⟩) w := run_build w _ _ _ (by kernel_rfl)
theorem Blk.own9 {w : World} {g k m : Nat} {t : TypeId} {cs : List Value} (h : Blk w g t cs) (hl : cs.length = m * k) (hm : m ≤ maxLen) : Own w t k (.slice (some ⟨g, 0, none⟩) m m) cs := .inr ⟨g, m, m, [], (0, 0), rfl, (by have h9 : w.heap[g]? = _ := h; simpa using h9), by simp [hl], by omega, hm, by simp [hl], fun o _ => by simp⟩
theorem Blk.sl9 {w : World} {g k m : Nat} {t : TypeId} {α : Type} {enc : α → List Value} {l : List α} (h : Blk w g t ((l.map enc).flatten)) (he : ∀ x, (enc x).length = k) (hl : l.length = m) (hm : m ≤ 100) (hk : 0 < k) : Sl w enc k (.slice (some ⟨g, 0, none⟩) m m) l :=
  (Blk.own9 h (by rw [flat_length he, hl]) (by unfold maxLen; omega)).sl he hk
theorem co_A {w : World} {g : Nat} (h : Blk w g TOp9 (opC ⟨1, false, RefD.zero, 104⟩ ++ opC ⟨1, false, ⟨true, Dig.zero, 1⟩, 105⟩)) : CoAt w ⟨cA, none, 0, some ⟨g, 0, none⟩, 2⟩ :=
  ⟨Sl.nil, Blk.sl9 (l := oA) (by simpa [oA] using h) opC_length rfl (Nat.le_of_ble_eq_true rfl) (by decide), by show cA.author.size ≤ maxLen; unfold maxLen; decide, by show cA.note.size ≤ maxLen; unfold maxLen; decide⟩
theorem co_B {w : World} {g g2 : Nat} (hd : Blk w g 48 (digC dA)) (h : Blk w g2 TOp9 (opC ⟨1, false, ⟨false, dA, 2⟩, 33⟩)) : CoAt w ⟨cB, some ⟨g, 0, none⟩, 1, some ⟨g2, 0, none⟩, 1⟩ :=
  ⟨Blk.sl9 (l := [dA]) (by simpa using hd) digC_length rfl (Nat.le_of_ble_eq_true rfl) (by decide), Blk.sl9 (l := oB) (by simpa [oB] using h) opC_length rfl (Nat.le_of_ble_eq_true rfl) (by decide), by show cB.author.size ≤ maxLen; unfold maxLen; decide, by show cB.note.size ≤ maxLen; unfold maxLen; decide⟩
theorem co_C {w : World} {g g2 : Nat} (hd : Blk w g 48 (digC dA)) (h : Blk w g2 TOp9 (opC ⟨2, false, ⟨false, dA, 1⟩, 0⟩)) : CoAt w ⟨cC, some ⟨g, 0, none⟩, 1, some ⟨g2, 0, none⟩, 1⟩ :=
  ⟨Blk.sl9 (l := [dA]) (by simpa using hd) digC_length rfl (Nat.le_of_ble_eq_true rfl) (by decide), Blk.sl9 (l := oC) (by simpa [oC] using h) opC_length rfl (Nat.le_of_ble_eq_true rfl) (by decide), by show cC.author.size ≤ maxLen; unfold maxLen; decide, by show cC.note.size ≤ maxLen; unfold maxLen; decide⟩
theorem ys_one {ys : List NdV} {n : Nd} (h : ndsL ys = [n]) : ∃ A c, ys = [⟨n, A, c⟩] := by
  match ys, h with
  | [⟨m, A, c⟩], h => simp at h; subst h; exact ⟨A, c, rfl⟩
  | [], h => simp at h
  | _ :: _ :: _, h => simp at h
theorem ys_three {ys : List NdV} {n m k : Nd} (h : ndsL ys = [n, m, k]) : ∃ A c B d C e, ys = [⟨n, A, c⟩, ⟨m, B, d⟩, ⟨k, C, e⟩] := by
  match ys, h with
  | [⟨_, A, c⟩, ⟨_, B, d⟩, ⟨_, C, e⟩], h => simp at h; obtain ⟨rfl, rfl, rfl⟩ := h; exact ⟨A, c, B, d, C, e, rfl⟩
  | [], h => simp at h
  | [_], h => simp at h
  | [_, _], h => simp at h
  | _ :: _ :: _ :: _ :: _, h => simp at h
theorem nds_A : ndsH [cA] = [⟨dA, []⟩] := by simp only [ndsH, List.map_cons, List.map_nil, ndH, id_cA]; rfl
theorem text_C : textE (addT (addT (addT Tr.new dA oA) dB oB) dC oC).e = [105, 33] := by decide +kernel
theorem txL_C : txL [cA, cB, cC] [dC, dB] = [105, 33] := by
  have hin : ∀ d ∈ [dC, dB], d = dA ∨ d = dB ∨ d = dC := fun d hd => by simp at hd; rcases hd with rfl | rfl <;> simp
  have t := tx_C hin
  rw [txL, if_pos t, trH]
  have step : ∀ x, x ∈ [dC, dB] → Under (ndsH [cA, cB, cC]) [dC, dB] x := fun x hx => ⟨x, hx, .refl _⟩
  have uA : Under (ndsH [cA, cB, cC]) [dC, dB] dA := ⟨dB, by simp, by
    rw [nds_C]
    exact .step (n := ⟨dB, [dA]⟩) (by simp) (by simp) (.refl _)⟩
  show textE (trK [cA, cB, cC] _ 3).e = _
  rw [trK_yes (c := cC) rfl (by rw [id_cC]; exact step _ (by simp)), trK_yes (c := cB) rfl (by rw [id_cB]; exact step _ (by simp)), trK_yes (c := cA) rfl (by rw [id_cA]; exact uA), id_cA, id_cB, id_cC]
  exact text_C
set_option maxRecDepth 100000 in
set_option maxHeartbeats 4000000 in
theorem halive_any (w : World) (hK : Mem w ⟨0, 0, none⟩ (wds keysL)) : Calls Tryd.prog 10 #[] w (Ret fun v w' => v = .bool true ∧ Ext w w') := by
  refine calls_of_CW 102 [0] [] Tryd.func10 rfl rfl rfl (by simp) args0 ?_
  have hE : Ext w w := Chg.refl
  refine CW.seq fun K1 hK1 => ?_
  refine CW.region ?_
  refine WL.val (Y.assign rfl) (by decide) ?_
  refine WL.nil ?_
  refine hK1 _ _ ?_; try clear hK1 K1
  refine CW.seq fun K2 hK2 => ?_
  refine CW.region ?_
  refine WL.val (Y.build rfl (build_oA1 _)) (by decide) ?_
  refine WL.val (Y.build rfl (build_rA _)) (by decide) ?_
  refine WL.val (Y.build rfl (build_oA2 _)) (by decide) ?_
  refine WL.st (St.buildSlice rfl (bs2_op _ _)) (by decide) fun v17 w1 hR1 => ?_
  obtain ⟨g17, rfl, hg17, hB17, hx1⟩ := hR1
  have hz1 := hx1.size
  have hE := hE.thenExt hx1
  refine WL.val (Y.build rfl (build_cA _ _)) (by decide) ?_
  refine as_apiCommit rfl (by simp) (by decide) fun g1 w2 hx2 hg1 hB1 => ?_
  have hlt1 := hB1.lt; have hz2 := hx2.size
  have hM1 := hB1.mem; have hz2 := hx2.size; have hE := hE.thenExt hx2
  refine WL.nil ?_
  refine hK2 _ _ ?_; try clear hK2 K2
  refine CW.seq fun K3 hK3 => ?_
  refine CW.region ?_
  refine WL.val (Y.load Tryd.underlying37 rfl hB1.mem (sz_apiCommit _ _ _ _) rfl) (by decide) ?_
  refine WL.st (St.buildSlice rfl (bs1_co (⟨cA, none, 0, some ⟨g17, 0, none⟩, 2⟩ : CoV))) (by decide) fun v21 w3 hR3 => ?_
  obtain ⟨g21, rfl, hg21, hB21, hx3⟩ := hR3
  have hz3 := hx3.size
  have hE := hE.thenExt hx3
  have hB1 := hB1.ext hx3
  have hB17 := (hB17.ext hx2).ext hx3
  have hl1 : Hcs w3 (.slice (some ⟨g21, 0, none⟩) 1 1) [(⟨cA, none, 0, some ⟨g17, 0, none⟩, 2⟩ : CoV)] := ⟨Blk.sl9 hB21 coC_length rfl (by decide) (by decide), fun x hx => by simp at hx; subst hx; exact co_A hB17⟩
  refine WL.call Tryd.func21 rfl rfl rfl (hnodes_any _ [(⟨cA, none, 0, some ⟨g17, 0, none⟩, 2⟩ : CoV)] _ hl1 (hK.ext hE)) (by simp) ?_; rintro v22 w4 hR4
  obtain ⟨A, c, ys, rfl, hQ, hys, hx4⟩ := hR4
  have hz4 := hx4.size
  have hE := hE.thenExt hx4
  have hB1 := hB1.ext hx4
  have hB17 := hB17.ext hx4
  rw [show (rdH (csL [(⟨cA, none, 0, some ⟨g17, 0, none⟩, 2⟩ : CoV)])).2 = 0 from rd_A] at hys ⊢
  rw [if_pos rfl, show ndsH (csL [(⟨cA, none, 0, some ⟨g17, 0, none⟩, 2⟩ : CoV)]) = [⟨dA, []⟩] from nds_A] at hys
  obtain ⟨yA, yc, rfl⟩ := ys_one hys
  obtain ⟨aN, rfl, hmN⟩ := hQ.nds.sl.at (i := 0) rfl
  refine WL.val (Y.move rfl) (by decide) ?_
  refine WL.val (Y.extract rfl rfl) (by decide) ?_
  refine WL.val (Y.extract rfl rfl) (by decide) ?_
  refine WL.val (Y.assign rfl) (by decide) ?_
  refine WL.val (Y.assign rfl) (by decide) ?_
  refine WL.nil ?_
  refine hK3 _ _ ?_; try clear hK3 K3
  refine CW.seq fun K4 hK4 => ?_
  refine CW.seq_test 31 (False) ?_ ?_
  · refine CW.region ?_
    refine WL.val (Y.move rfl) (by decide) ?_
    refine WL.val (Y.neq rfl rfl) (by decide) ?_
    refine WL.val (Y.move rfl) (by decide) ?_
    refine WL.know (d := 27) (u := .bool false) rfl (rfl) ?_
    refine WL.gval rfl rfl (Y.move rfl) (by decide) ?_
    refine WL.gval rfl rfl (Y.len_slice Tryd.underlying56 rfl) (by decide) ?_
    refine WL.gval rfl rfl (Y.neq rfl rfl) (by decide) ?_
    refine WL.val (Y.pick rfl rfl) (by decide) ?_
    refine WL.nil ⟨⟨_, rfl, ?_⟩, rfl, (by repeat (first | exact Fr.le.refl | refine Fr.le.push rfl ?_))⟩
    simp
  first | refine CW.condD rfl (fun ht5 => ?_) (fun ht5 => ?_) | refine CW.condND rfl (fun ht5 => ?_) (fun ht5 => ?_) | refine CW.condN rfl (fun ht5 => ?_) (fun ht5 => ?_) | refine CW.cond rfl (fun ht5 => ?_) (fun ht5 => ?_)
  · -- then
    refine CW.seq fun K6 hK6 => ?_
    refine CW.region ?_
    refine WL.val (Y.assign rfl) (by decide) ?_
    refine WL.nil ?_
    refine hK6 _ _ ?_; try clear hK6 K6
    refine CW.ret ⟨_, rfl, ?_⟩
    exact ht5.elim
  refine CW.skip ?_
  refine hK4 _ _ ?_; try clear hK4 K4
  refine CW.seq fun K7 hK7 => ?_
  refine CW.region ?_
  refine WL.val (Y.move rfl) (by decide) ?_
  refine WL.val (Y.indexAddrN (i := 0) Tryd.underlying56 rfl rfl sz0_apiNode (by simp)) (by decide) ?_
  refine WL.val (Y.fieldAddr fo_apiNode0 rfl) (by decide) ?_
  refine WL.val (Y.load Tryd.underlying48 rfl hmN.node0 (sz_apiDigest _) rfl) (by decide) ?_
  refine as_apiDigest rfl (by simp) (by decide) fun g4 w5 hx5 hg4 hB4 => ?_
  have hlt4 := hB4.lt; have hz5 := hx5.size
  have hM4 := hB4.mem; have hz5 := hx5.size; have hE := hE.thenExt hx5; have hB1 := hB1.ext hx5
  refine WL.nil ?_
  refine hK7 _ _ ?_; try clear hK7 K7
  refine CW.seq fun K8 hK8 => ?_
  refine CW.region ?_
  refine WL.val (Y.load Tryd.underlying48 rfl hB4.mem (sz_apiDigest _) rfl) (by decide) ?_
  refine WL.st (St.buildSlice rfl (bs1_dig dA)) (by decide) fun v37 w6 hR6 => ?_
  obtain ⟨g37, rfl, hg37, hB37, hx6⟩ := hR6
  have hz6 := hx6.size
  have hE := hE.thenExt hx6
  have hB1 := hB1.ext hx6
  have hB4 := hB4.ext hx6
  have hB17 := (hB17.ext hx5).ext hx6
  refine WL.val (Y.load Tryd.underlying48 rfl hB4.mem (sz_apiDigest _) rfl) (by decide) ?_
  refine WL.val (Y.build rfl (build_rD 2 _)) (by decide) ?_
  refine WL.val (Y.build rfl (build_oB _)) (by decide) ?_
  refine WL.st (St.buildSlice rfl (bs1_op9 _)) (by decide) fun v41 w7 hR7 => ?_
  obtain ⟨g41, rfl, hg41, hB41, hx7⟩ := hR7
  have hz7 := hx7.size
  have hE := hE.thenExt hx7
  have hB1 := hB1.ext hx7
  have hB4 := hB4.ext hx7
  have hB17 := hB17.ext hx7
  have hB37 := hB37.ext hx7
  refine WL.val (Y.build rfl (build_cB _ _ _)) (by decide) ?_
  refine as_apiCommit rfl (by simp) (by decide) fun g5 w8 hx8 hg5 hB5 => ?_
  have hlt5 := hB5.lt; have hz8 := hx8.size
  have hM5 := hB5.mem; have hz8 := hx8.size; have hE := hE.thenExt hx8; have hB1 := hB1.ext hx8; have hB4 := hB4.ext hx8
  refine WL.nil ?_
  refine hK8 _ _ ?_; try clear hK8 K8
  refine CW.seq fun K9 hK9 => ?_
  refine CW.region ?_
  refine WL.val (Y.load Tryd.underlying48 rfl hB4.mem (sz_apiDigest _) rfl) (by decide) ?_
  refine WL.st (St.buildSlice rfl (bs1_dig dA)) (by decide) fun v44 w9 hR9 => ?_
  obtain ⟨g44, rfl, hg44, hB44, hx9⟩ := hR9
  have hz9 := hx9.size
  have hE := hE.thenExt hx9
  have hB1 := hB1.ext hx9
  have hB4 := hB4.ext hx9
  have hB5 := hB5.ext hx9
  have hB17 := (hB17.ext hx8).ext hx9
  have hB37 := (hB37.ext hx8).ext hx9
  have hB41 := (hB41.ext hx8).ext hx9
  refine WL.val (Y.load Tryd.underlying48 rfl hB4.mem (sz_apiDigest _) rfl) (by decide) ?_
  refine WL.val (Y.build rfl (build_rD 1 _)) (by decide) ?_
  refine WL.val (Y.build rfl (build_oC _)) (by decide) ?_
  refine WL.st (St.buildSlice rfl (bs1_op9 _)) (by decide) fun v48 w10 hR10 => ?_
  obtain ⟨g48, rfl, hg48, hB48, hx10⟩ := hR10
  have hz10 := hx10.size
  have hE := hE.thenExt hx10
  have hB1 := hB1.ext hx10
  have hB4 := hB4.ext hx10
  have hB5 := hB5.ext hx10
  have hB17 := hB17.ext hx10
  have hB37 := hB37.ext hx10
  have hB41 := hB41.ext hx10
  have hB44 := hB44.ext hx10
  refine WL.val (Y.build rfl (build_cC _ _ _)) (by decide) ?_
  refine as_apiCommit rfl (by simp) (by decide) fun g6 w11 hx11 hg6 hB6 => ?_
  have hlt6 := hB6.lt; have hz11 := hx11.size
  have hM6 := hB6.mem; have hz11 := hx11.size; have hE := hE.thenExt hx11; have hB1 := hB1.ext hx11; have hB4 := hB4.ext hx11; have hB5 := hB5.ext hx11
  refine WL.nil ?_
  refine hK9 _ _ ?_; try clear hK9 K9
  refine CW.seq fun K10 hK10 => ?_
  refine CW.region ?_
  refine WL.val (Y.load Tryd.underlying37 rfl hB1.mem (sz_apiCommit _ _ _ _) rfl) (by decide) ?_
  refine WL.val (Y.load Tryd.underlying37 rfl hB5.mem (sz_apiCommit _ _ _ _) rfl) (by decide) ?_
  refine WL.val (Y.load Tryd.underlying37 rfl hB6.mem (sz_apiCommit _ _ _ _) rfl) (by decide) ?_
  refine WL.st (St.buildSlice rfl (bs3_co (⟨cA, none, 0, some ⟨g17, 0, none⟩, 2⟩ : CoV) (⟨cB, some ⟨g37, 0, none⟩, 1, some ⟨g41, 0, none⟩, 1⟩ : CoV) (⟨cC, some ⟨g44, 0, none⟩, 1, some ⟨g48, 0, none⟩, 1⟩ : CoV))) (by decide) fun v53 w12 hR12 => ?_
  obtain ⟨g53, rfl, hg53, hB53, hx12⟩ := hR12
  have hz12 := hx12.size
  have hE := hE.thenExt hx12
  have hB1 := hB1.ext hx12
  have hB4 := hB4.ext hx12
  have hB5 := hB5.ext hx12
  have hB6 := hB6.ext hx12
  have hB17 := (hB17.ext hx11).ext hx12
  have hB37 := (hB37.ext hx11).ext hx12
  have hB41 := (hB41.ext hx11).ext hx12
  have hB44 := (hB44.ext hx11).ext hx12
  have hB48 := (hB48.ext hx11).ext hx12
  have hl3 : Hcs w12 (.slice (some ⟨g53, 0, none⟩) 3 3) [(⟨cA, none, 0, some ⟨g17, 0, none⟩, 2⟩ : CoV), (⟨cB, some ⟨g37, 0, none⟩, 1, some ⟨g41, 0, none⟩, 1⟩ : CoV), (⟨cC, some ⟨g44, 0, none⟩, 1, some ⟨g48, 0, none⟩, 1⟩ : CoV)] := ⟨Blk.sl9 hB53 coC_length rfl (by decide) (by decide), fun x hx => by
    simp only [List.mem_cons, List.not_mem_nil, or_false] at hx
    rcases hx with rfl | rfl | rfl
    · exact co_A hB17
    · exact co_B hB37 hB41
    · exact co_C hB44 hB48⟩
  refine WL.val (Y.assign rfl) (by decide) ?_
  refine WL.nil ?_
  refine hK10 _ _ ?_; try clear hK10 K10
  refine CW.seq fun K11 hK11 => ?_
  refine CW.region ?_
  refine WL.val (Y.move rfl) (by decide) ?_
  refine WL.call Tryd.func21 rfl rfl rfl (hnodes_any _ [(⟨cA, none, 0, some ⟨g17, 0, none⟩, 2⟩ : CoV), (⟨cB, some ⟨g37, 0, none⟩, 1, some ⟨g41, 0, none⟩, 1⟩ : CoV), (⟨cC, some ⟨g44, 0, none⟩, 1, some ⟨g48, 0, none⟩, 1⟩ : CoV)] _ hl3 (hK.ext hE)) (by simp) ?_; rintro v56 w13 hR13
  obtain ⟨A3, c3, ys3, rfl, hQ3, hys3, hx13⟩ := hR13
  have hz13 := hx13.size
  have hE := hE.thenExt hx13
  have hB1 := hB1.ext hx13
  have hB4 := hB4.ext hx13
  have hB5 := hB5.ext hx13
  have hB6 := hB6.ext hx13
  have hl3 := hl3.ext hx13
  rw [show (rdH (csL [(⟨cA, none, 0, some ⟨g17, 0, none⟩, 2⟩ : CoV), (⟨cB, some ⟨g37, 0, none⟩, 1, some ⟨g41, 0, none⟩, 1⟩ : CoV), (⟨cC, some ⟨g44, 0, none⟩, 1, some ⟨g48, 0, none⟩, 1⟩ : CoV)])).2 = 0 from rd_C] at hys3 ⊢
  rw [if_pos rfl, show ndsH (csL [(⟨cA, none, 0, some ⟨g17, 0, none⟩, 2⟩ : CoV), (⟨cB, some ⟨g37, 0, none⟩, 1, some ⟨g41, 0, none⟩, 1⟩ : CoV), (⟨cC, some ⟨g44, 0, none⟩, 1, some ⟨g48, 0, none⟩, 1⟩ : CoV)]) = [⟨dA, []⟩, ⟨dB, [dA]⟩, ⟨dC, [dA]⟩] from nds_C] at hys3
  obtain ⟨yA1, yc1, yA2, yc2, yA3, yc3, rfl⟩ := ys_three hys3
  obtain ⟨aM, rfl, hmM⟩ := hQ3.nds.sl.at (i := 1) rfl
  obtain ⟨aM2, haM, hmM2⟩ := hQ3.nds.sl.at (i := 2) rfl
  cases haM
  refine WL.val (Y.move rfl) (by decide) ?_
  refine WL.val (Y.extract rfl rfl) (by decide) ?_
  refine WL.val (Y.extract rfl rfl) (by decide) ?_
  refine WL.val (Y.assign rfl) (by decide) ?_
  refine WL.val (Y.assign rfl) (by decide) ?_
  refine WL.nil ?_
  refine hK11 _ _ ?_; try clear hK11 K11
  refine CW.seq fun K12 hK12 => ?_
  refine CW.seq_test 65 (False) ?_ ?_
  · refine CW.region ?_
    refine WL.val (Y.move rfl) (by decide) ?_
    refine WL.val (Y.neq rfl rfl) (by decide) ?_
    refine WL.val (Y.move rfl) (by decide) ?_
    refine WL.know (d := 61) (u := .bool false) rfl (rfl) ?_
    refine WL.gval rfl rfl (Y.move rfl) (by decide) ?_
    refine WL.gval rfl rfl (Y.len_slice Tryd.underlying56 rfl) (by decide) ?_
    refine WL.gval rfl rfl (Y.neq rfl rfl) (by decide) ?_
    refine WL.val (Y.pick rfl rfl) (by decide) ?_
    refine WL.nil ⟨⟨_, rfl, ?_⟩, rfl, (by repeat (first | exact Fr.le.refl | refine Fr.le.push rfl ?_))⟩
    simp
  first | refine CW.condD rfl (fun ht13 => ?_) (fun ht13 => ?_) | refine CW.condND rfl (fun ht13 => ?_) (fun ht13 => ?_) | refine CW.condN rfl (fun ht13 => ?_) (fun ht13 => ?_) | refine CW.cond rfl (fun ht13 => ?_) (fun ht13 => ?_)
  · -- then
    refine CW.seq fun K14 hK14 => ?_
    refine CW.region ?_
    refine WL.val (Y.assign rfl) (by decide) ?_
    refine WL.nil ?_
    refine hK14 _ _ ?_; try clear hK14 K14
    refine CW.ret ⟨_, rfl, ?_⟩
    exact ht13.elim
  refine CW.skip ?_
  refine hK12 _ _ ?_; try clear hK12 K12
  refine CW.seq_to (X := Value) (fun v => [(7, .slice (some ⟨g53, 0, none⟩) 3 3), (10, v), (11, .int .i64 0)]) (fun v w0 => Own w0 TDg 32 v (flatD [dC, dB]) ∧ Ext w13 w0) ?_ ?_
  · skip
    refine CW.held (fun wq => Ext w13 wq) (by kernel_rfl) 17 rfl fun w14 hS => ?_
    refine RH.take 0 (fun _ _ _ _ h => h) (by kernel_rfl) hS rfl (by kernel_rfl) (by kernel_rfl) (fun wq hq => Y.move rfl) (by decide) ?_
    refine RH.take 1 (fun _ _ _ _ h => h) (by kernel_rfl) hS rfl (by kernel_rfl) (by kernel_rfl) (fun wq hq => Y.move rfl) (by decide) ?_
    refine RH.take 2 (fun _ _ _ _ h => h) (by kernel_rfl) hS rfl (by kernel_rfl) (by kernel_rfl) (fun wq hq => Y.indexAddrN (i := 1) Tryd.underlying56 rfl rfl sz0_apiNode (by simp)) (by decide) ?_
    refine RH.take 3 (fun _ _ _ _ h => h) (by kernel_rfl) hS rfl (by kernel_rfl) (by kernel_rfl) (fun wq hq => Y.fieldAddr fo_apiNode0 rfl) (by decide) ?_
    refine RH.take 4 (fun _ _ _ _ h => h) (by kernel_rfl) hS rfl (by kernel_rfl) (by kernel_rfl) (fun wq hq => Y.load Tryd.underlying48 rfl (hmM.ext hq).node0 (sz_apiDigest _) rfl) (by decide) ?_
    refine RH.take 6 (fun _ _ _ _ h => h) (by kernel_rfl) hS rfl (by kernel_rfl) (by kernel_rfl) (fun wq hq => Y.move rfl) (by decide) ?_
    refine RH.take 7 (fun _ _ _ _ h => h) (by kernel_rfl) hS rfl (by kernel_rfl) (by kernel_rfl) (fun wq hq => Y.indexAddrN (i := 2) Tryd.underlying56 rfl rfl sz0_apiNode (by simp)) (by decide) ?_
    refine RH.take 8 (fun _ _ _ _ h => h) (by kernel_rfl) hS rfl (by kernel_rfl) (by kernel_rfl) (fun wq hq => Y.fieldAddr fo_apiNode0 rfl) (by decide) ?_
    refine RH.take 9 (fun _ _ _ _ h => h) (by kernel_rfl) hS rfl (by kernel_rfl) (by kernel_rfl) (fun wq hq => Y.load Tryd.underlying48 rfl (hmM2.ext hq).node0 (sz_apiDigest _) rfl) (by decide) ?_
    refine RH.two 5 10 (by kernel_rfl) ?_ ?_
    · skip
      refine RS.st rfl (St.buildSlice rfl (bs1_dig dB)) (by decide) fun v72 w15 hR15 => ?_
      obtain ⟨g72, rfl, hg72, hB72, hx_1⟩ := hR15
      have hz_1 := hx_1.size
      have hS := hS.thenExt hx_1
      refine ⟨hS, ?_⟩
      refine RH.one 10 (by kernel_rfl) ?_
      refine RS.st rfl (St.buildSlice rfl (bs1_dig dC)) (by decide) fun v77 w16 hR16 => ?_
      obtain ⟨g77, rfl, hg77, hB77, hx_2⟩ := hR16
      have hz_2 := hx_2.size
      have hS := hS.thenExt hx_2
      have hB72 := hB72.ext hx_2
      refine ⟨hS, ?_⟩
      refine RH.one 11 (by kernel_rfl) ?_
      refine RS.call rfl (fun _ _ h => by cases h) Tryd.func8 rfl rfl rfl (hmerge_any _ _ _ [(⟨cA, none, 0, some ⟨g17, 0, none⟩, 2⟩ : CoV), (⟨cB, some ⟨g37, 0, none⟩, 1, some ⟨g41, 0, none⟩, 1⟩ : CoV), (⟨cC, some ⟨g44, 0, none⟩, 1, some ⟨g48, 0, none⟩, 1⟩ : CoV)] [dB] [dC] _ (hl3.ext hS) (Blk.sl9 (l := [dB]) (by simpa using hB72) digC_length rfl (by decide) (by decide)) (Blk.sl9 (l := [dC]) (by simpa using hB77) digC_length rfl (by decide) (by decide)) (by decide) (hK.ext (hE.thenExt hS))) (by decide) fun v78 w17 hR17 => ?_
      obtain ⟨hv, rfl, hO, hfu, hx_3⟩ := hR17
      have hS := hS.thenExt hx_3
      rw [show mgE (csL [(⟨cA, none, 0, some ⟨g17, 0, none⟩, 2⟩ : CoV), (⟨cB, some ⟨g37, 0, none⟩, 1, some ⟨g41, 0, none⟩, 1⟩ : CoV), (⟨cC, some ⟨g44, 0, none⟩, 1, some ⟨g48, 0, none⟩, 1⟩ : CoV)]) [dB] [dC] = 0 from mg_C.1]
      rw [show mgL (csL [(⟨cA, none, 0, some ⟨g17, 0, none⟩, 2⟩ : CoV), (⟨cB, some ⟨g37, 0, none⟩, 1, some ⟨g41, 0, none⟩, 1⟩ : CoV), (⟨cC, some ⟨g44, 0, none⟩, 1, some ⟨g48, 0, none⟩, 1⟩ : CoV)]) [dB] [dC] = [dC, dB] from mg_C.2] at hO
      refine ⟨hS, ?_⟩
      refine RH.take 12 (fun _ _ _ _ h => h) (by kernel_rfl) hS rfl (by kernel_rfl) (by kernel_rfl) (fun wq hq => Y.move rfl) (by decide) ?_
      refine RH.take 13 (fun _ _ _ _ h => h) (by kernel_rfl) hS rfl (by kernel_rfl) (by kernel_rfl) (fun wq hq => Y.extract rfl rfl) (by decide) ?_
      refine RH.take 14 (fun _ _ _ _ h => h) (by kernel_rfl) hS rfl (by kernel_rfl) (by kernel_rfl) (fun wq hq => Y.extract rfl rfl) (by decide) ?_
      refine RH.take 15 (fun _ _ _ _ h => h) (by kernel_rfl) hS rfl (by kernel_rfl) (by kernel_rfl) (fun wq hq => Y.assign rfl) (by decide) ?_
      refine RH.take 16 (fun _ _ _ _ h => h) (by kernel_rfl) hS rfl (by kernel_rfl) (by kernel_rfl) (fun wq hq => Y.assign rfl) (by decide) ?_
      refine RH.done (by kernel_rfl) ?_
      have hx18 := hS; have hz18 := hx18.size; have hE := hE.thenExt hx18; have hB1 := hB1.ext hx18; have hB4 := hB4.ext hx18; have hB5 := hB5.ext hx18; have hB6 := hB6.ext hx18
      exact ⟨hv, (by repeat (first | exact Fr.le.nil | refine Fr.le.cons rfl ?_)), hO, hS⟩
    · skip
      refine RS.st rfl (St.buildSlice rfl (bs1_dig dC)) (by decide) fun v77 w19 hR19 => ?_
      obtain ⟨g77, rfl, hg77, hB77, hx_2⟩ := hR19
      have hz_2 := hx_2.size
      have hS := hS.thenExt hx_2
      refine ⟨hS, ?_⟩
      refine RH.one 5 (by kernel_rfl) ?_
      refine RS.st rfl (St.buildSlice rfl (bs1_dig dB)) (by decide) fun v72 w20 hR20 => ?_
      obtain ⟨g72, rfl, hg72, hB72, hx_1⟩ := hR20
      have hz_1 := hx_1.size
      have hS := hS.thenExt hx_1
      have hB77 := hB77.ext hx_1
      refine ⟨hS, ?_⟩
      refine RH.one 11 (by kernel_rfl) ?_
      refine RS.call rfl (fun _ _ h => by cases h) Tryd.func8 rfl rfl rfl (hmerge_any _ _ _ [(⟨cA, none, 0, some ⟨g17, 0, none⟩, 2⟩ : CoV), (⟨cB, some ⟨g37, 0, none⟩, 1, some ⟨g41, 0, none⟩, 1⟩ : CoV), (⟨cC, some ⟨g44, 0, none⟩, 1, some ⟨g48, 0, none⟩, 1⟩ : CoV)] [dB] [dC] _ (hl3.ext hS) (Blk.sl9 (l := [dB]) (by simpa using hB72) digC_length rfl (by decide) (by decide)) (Blk.sl9 (l := [dC]) (by simpa using hB77) digC_length rfl (by decide) (by decide)) (by decide) (hK.ext (hE.thenExt hS))) (by decide) fun v78 w21 hR21 => ?_
      obtain ⟨hv, rfl, hO, hfu, hx_3⟩ := hR21
      have hS := hS.thenExt hx_3
      rw [show mgE (csL [(⟨cA, none, 0, some ⟨g17, 0, none⟩, 2⟩ : CoV), (⟨cB, some ⟨g37, 0, none⟩, 1, some ⟨g41, 0, none⟩, 1⟩ : CoV), (⟨cC, some ⟨g44, 0, none⟩, 1, some ⟨g48, 0, none⟩, 1⟩ : CoV)]) [dB] [dC] = 0 from mg_C.1]
      rw [show mgL (csL [(⟨cA, none, 0, some ⟨g17, 0, none⟩, 2⟩ : CoV), (⟨cB, some ⟨g37, 0, none⟩, 1, some ⟨g41, 0, none⟩, 1⟩ : CoV), (⟨cC, some ⟨g44, 0, none⟩, 1, some ⟨g48, 0, none⟩, 1⟩ : CoV)]) [dB] [dC] = [dC, dB] from mg_C.2] at hO
      refine ⟨hS, ?_⟩
      refine RH.take 12 (fun _ _ _ _ h => h) (by kernel_rfl) hS rfl (by kernel_rfl) (by kernel_rfl) (fun wq hq => Y.move rfl) (by decide) ?_
      refine RH.take 13 (fun _ _ _ _ h => h) (by kernel_rfl) hS rfl (by kernel_rfl) (by kernel_rfl) (fun wq hq => Y.extract rfl rfl) (by decide) ?_
      refine RH.take 14 (fun _ _ _ _ h => h) (by kernel_rfl) hS rfl (by kernel_rfl) (by kernel_rfl) (fun wq hq => Y.extract rfl rfl) (by decide) ?_
      refine RH.take 15 (fun _ _ _ _ h => h) (by kernel_rfl) hS rfl (by kernel_rfl) (by kernel_rfl) (fun wq hq => Y.assign rfl) (by decide) ?_
      refine RH.take 16 (fun _ _ _ _ h => h) (by kernel_rfl) hS rfl (by kernel_rfl) (by kernel_rfl) (fun wq hq => Y.assign rfl) (by decide) ?_
      refine RH.done (by kernel_rfl) ?_
      have hx22 := hS; have hz22 := hx22.size; have hE := hE.thenExt hx22; have hB1 := hB1.ext hx22; have hB4 := hB4.ext hx22; have hB5 := hB5.ext hx22; have hB6 := hB6.ext hx22
      exact ⟨hv, (by repeat (first | exact Fr.le.nil | refine Fr.le.cons rfl ?_)), hO, hS⟩
  rintro u w23 hj23
  obtain ⟨hO, hx_⟩ := hj23
  have hE := hE.thenExt hx_
  have hB1 := hB1.ext hx_
  have hB4 := hB4.ext hx_
  have hB5 := hB5.ext hx_
  have hB6 := hB6.ext hx_
  have hl3 := hl3.ext hx_
  obtain ⟨A9, n9, c9, rfl⟩ := hO.lens
  have hn9 : n9 = 2 := by
    have := (hO.mem _ _ _ rfl).2.2.1
    rw [flat_length digC_length] at this
    simp at this; omega
  subst hn9
  refine CW.seq fun K15 hK15 => ?_
  refine CW.region ?_
  refine WL.val (Y.move rfl) (by decide) ?_
  refine WL.val (Y.move rfl) (by decide) ?_
  refine WL.call Tryd.func11 rfl rfl rfl (by have h9 := htext_any _ _ [(⟨cA, none, 0, some ⟨g17, 0, none⟩, 2⟩ : CoV), (⟨cB, some ⟨g37, 0, none⟩, 1, some ⟨g41, 0, none⟩, 1⟩ : CoV), (⟨cC, some ⟨g44, 0, none⟩, 1, some ⟨g48, 0, none⟩, 1⟩ : CoV)] [dC, dB] _ hl3 (hO.sl digC_length (by decide)) (hK.ext hE); rw [show txL (csL [(⟨cA, none, 0, some ⟨g17, 0, none⟩, 2⟩ : CoV), (⟨cB, some ⟨g37, 0, none⟩, 1, some ⟨g41, 0, none⟩, 1⟩ : CoV), (⟨cC, some ⟨g44, 0, none⟩, 1, some ⟨g48, 0, none⟩, 1⟩ : CoV)]) [dC, dB] = [105, 33] from txL_C, show txE (csL [(⟨cA, none, 0, some ⟨g17, 0, none⟩, 2⟩ : CoV), (⟨cB, some ⟨g37, 0, none⟩, 1, some ⟨g41, 0, none⟩, 1⟩ : CoV), (⟨cC, some ⟨g44, 0, none⟩, 1, some ⟨g48, 0, none⟩, 1⟩ : CoV)]) [dC, dB] = 0 from tx_C (fun d hd => by simp at hd; rcases hd with rfl | rfl <;> simp)] at h9; exact h9) (by simp) ?_; rintro v w24 ⟨rfl, hx24⟩; have hz24 := hx24.size; have hE := hE.thenExt hx24; have hB1 := hB1.ext hx24; have hB4 := hB4.ext hx24; have hB5 := hB5.ext hx24; have hB6 := hB6.ext hx24
  refine WL.val (Y.move rfl) (by decide) ?_
  refine WL.val (Y.extract rfl rfl) (by decide) ?_
  refine WL.val (Y.extract rfl rfl) (by decide) ?_
  refine WL.val (Y.assign rfl) (by decide) ?_
  refine WL.val (Y.assign rfl) (by decide) ?_
  refine WL.nil ?_
  refine hK15 _ _ ?_; try clear hK15 K15
  refine CW.seq fun K16 hK16 => ?_
  refine CW.region ?_
  refine WL.val (Y.move rfl) (by decide) ?_
  refine WL.val (Y.eql rfl rfl) (by decide) ?_
  refine WL.val (Y.move rfl) (by decide) ?_
  refine WL.know (d := 89) (u := .bool true) rfl (rfl) ?_
  refine WL.gval rfl rfl (Y.move rfl) (by decide) ?_
  refine WL.gval rfl rfl (Y.len_slice Tryd.underlying25 rfl) (by decide) ?_
  refine WL.gval rfl rfl (Y.eql rfl rfl) (by decide) ?_
  refine WL.val (Y.pick rfl rfl) (by decide) ?_
  refine WL.val (Y.move rfl) (by decide) ?_
  refine WL.know (d := 94) (u := .bool true) rfl (rfl) ?_
  refine WL.gval rfl rfl (Y.move rfl) (by decide) ?_
  refine WL.gval rfl rfl (Y.eql rfl rfl) (by decide) ?_
  refine WL.val (Y.pick rfl rfl) (by decide) ?_
  refine WL.val (Y.move rfl) (by decide) ?_
  refine WL.know (d := 98) (u := .bool true) rfl (rfl) ?_
  refine WL.gval rfl rfl (Y.move rfl) (by decide) ?_
  refine WL.gval rfl rfl (Y.eql_string rfl rfl) (by decide) ?_
  refine WL.val (Y.pick rfl rfl) (by decide) ?_
  refine WL.val (Y.assign rfl) (by decide) ?_
  refine WL.nil ?_
  refine hK16 _ _ ?_; try clear hK16 K16
  refine CW.ret ⟨_, rfl, ?_⟩
  exact ⟨by rw [show bs [105, 33] = ⟨#[105, 33]⟩ from rfl, beq_self_eq_true], hE⟩
end Go.Proofs.YtjbeooimhoilmaaDoor
