/- Several texts as one: Ea, Eb. -/
import Derived.Test.YtmndofgagngcgaaRg
import Derived.Test.YtmndofgagngcgaaFe
set_option linter.unusedSimpArgs false
set_option linter.unusedVariables false
/- A range over a function, where the one who goes round keeps what the iterator reads. No condition, no program. -/
namespace Go.Fw
open Go.RowKit
/-- What an iterator promises to one who keeps N. -/
def IterN {σ α : Type} (P : Program) (gf : Nat) (lb : List Value) (w : World) (Setup : World → σ → World → Prop) (xs : σ → List α) (encs : α → List Value) (T0 : Nat → Prop) (Keep : σ → Nat → Nat → Prop) (At : σ → Nat → World → Prop) (Fin : World → Prop) (N : σ → Nat → World → Prop) : Prop :=
  ∀ (l : Nat) (w1 : World) (J : σ → Nat → World → Prop) (Jx : World → Prop), Ext w w1 →
    (∀ s V, Chg T0 w1 V → Setup w1 s V → J s 0 V) →
    (∀ s i V V', J s i V → Chg T0 V V' → J s i V') →
    (∀ V V', Jx V → Chg T0 V V' → Jx V') →
    (∀ s i V, J s i V → N s i V) →
    (∀ s i x V, J s i V → (xs s)[i]? = some x → At s i V →
      YieldAt (FX none) 0 P l (encs x).toArray V (fun e V' => ∃ b, e = .returned (.bool b) ∧ ((b = true ∧ J s (i + 1) V' ∧ Chg (fun k => ¬ Keep s i k) V V') ∨ (b = false ∧ Jx V' ∧ Chg (fun k => ¬ Keep s i k) V V')))) →
    Calls P gf (.func (.yield l) #[] #[] :: lb).toArray w1 (Ret fun _ V => ((∃ s, J s (xs s).length V) ∨ Jx V) ∧ Fin V)
theorem CN.rangeN {P : Program} {m : Nat} {ds : List Deferred} {Φ : Exit → List Deferred → Fr → World → Prop} {fr : Fr} {w : World} {σ α : Type} {g : Operand} {ps : List Nat} {assign body : Code} {gf : Nat} {lb : List Value} {fn : Func}
    {Setup : World → σ → World → Prop} {xs : σ → List α} {encs : α → List Value} {T0 : Nat → Prop} {Keep : σ → Nat → Nat → Prop} {At : σ → Nat → World → Prop} {Fin : World → Prop} {N : σ → Nat → World → Prop}
    (hg : ev fr g = some (.func (.func gf) #[] lb.toArray)) (hf : P.funcs[gf]? = some fn) (hb : fn.body.isNone = false) (hn : (fn.name == "runtime.NumGoroutine") = false)
    (hit : IterN P gf lb w Setup xs encs T0 Keep At Fin N) (hps : ∀ x, (encs x).length = ps.length) (hpm : ∀ p ∈ ps, p < m)
    (hT0 : ∀ k, T0 k → k < w.heap.size) (hK : ∀ w1 s V, w.heap.size + 2 ≤ w1.heap.size → Setup w1 s V → ∀ i, ¬ Keep s i (w.heap.size + 1))
    (I : σ → Nat → World → Prop) (Ix : σ → Exit → World → Prop)
    (h0 : ∀ w1 s V, Ext w w1 → w.heap.size + 2 ≤ w1.heap.size → Chg T0 w1 V → Setup w1 s V → I s 0 V)
    (hI : ∀ s i V V', I s i V → Chg (fun k => T0 k ∨ k = w.heap.size + 1) V V' → I s i V')
    (hIx : ∀ s e V V', Ix s e V → Chg (fun k => T0 k ∨ k = w.heap.size + 1) V V' → Ix s e V')
    (hN : ∀ s i V, I s i V → N s i V)
    (hround : ∀ s i x V, I s i V → (xs s)[i]? = some x → At s i V → w.heap.size + 2 ≤ V.heap.size →
      CW P assign (m, [], some (w.heap.size + 1)) (thenF (fun f V1 => Ext V V1 ∧ ∀ V2, Chg (fun k => k = w.heap.size + 1) V1 V2 →
        CW P body (m, [], some (w.heap.size + 1)) (RoundF (w.heap.size + 1) w.heap.size (Keep s i) (I s (i + 1)) (Ix s) V2) f V2) (fun _ _ _ => False)) (zipF ps (encs x) fr) V)
    (hdone : ∀ s V, I s (xs s).length V → V.heap[w.heap.size]? = some (.deferred (some [])) → (∃ V0, Fin V0 ∧ Chg (fun k => k = w.heap.size + 1) V0 V) → Φ .normal (mark w.heap.size :: ds) fr V)
    (hleave : ∀ s e V, Ix s e V → V.heap[w.heap.size]? = some (.deferred (some [])) → (∃ V0, Fin V0 ∧ Chg (fun k => k = w.heap.size + 1) V0 V) → e = .ret ∨ (∃ id, e = .exit id) ∨ (∃ t, e = .goto t) → Φ e (mark w.heap.size :: ds) fr V) :
    CN P (.rangeFunc g ps.toArray assign body) m none ds Φ fr w := by
  intro a ha
  refine wpIn_rangeFunc fun fn0 _ => ?_
  obtain ⟨rec, hrec⟩ : ∃ rec : LoopState → Option Code → Loop, rec = fun st pe => { state := st, pending := pe, fn := fn0, tmps := a.tmps, params := ps.toArray, assign, body, defers := w.heap.size } := ⟨_, rfl⟩
  obtain ⟨W1, hW1⟩ : ∃ W1, (w.alloc (.deferred (some []))).alloc (.loop (rec .ready none)) = W1 := ⟨_, rfl⟩
  have hx1 : Ext w W1 := by rw [← hW1]; exact (Chg.alloc _).trans (Chg.alloc (S := fun _ => False) _) (fun _ _ f => f)
  have hz1 : W1.heap.size = w.heap.size + 2 := by rw [← hW1]; simp
  have hL1 : W1.heap[w.heap.size + 1]? = some (.loop (rec .ready none)) := by
    rw [← hW1]; have := World.alloc_heap_new (w.alloc (.deferred (some []))) (.loop (rec .ready none)); rwa [World.size_alloc] at this
  have hD1 : W1.heap[w.heap.size]? = some (.deferred (some [])) := by
    rw [← hW1]; exact (Below.heap_alloc _ _ _ (by simp)).trans (World.alloc_heap_new w _)
  refine ⟨w.heap.size + 1, [mark w.heap.size], W1, { target := .fn (.func gf) lb.toArray, args := #[.func (.yield (w.heap.size + 1)) #[] #[]] }, W1, gf,
    #[.func (.yield (w.heap.size + 1)) #[] #[]] ++ lb.toArray, W1, ?_, ?_, fun _ _ => trivial, ?_, fun hx => (by simp [FX] at hx), ?_⟩
  · rw [← hW1, hrec]; exact run_enterLoop_outer _ _ _ _ _
  · have e := ha.ev hg
    simp only [resolve, e]
    simp [Deferred.ofValue, Act.eval]
  · simp [invoke, run_callFunc hf hb hn]
  · refine callsIn_FX.2 ?_
    have hdef : ∀ V : World, (a.defers = ds) → Rep (m, mark w.heap.size :: ds, none) { a with defers := mark w.heap.size :: a.defers } fr := fun V hd => ⟨ha.size, by rw [hd], ha.get⟩
    have hend : ∀ (st : LoopState) (pe : Option Code) (V : World), st ≠ .busy → V.heap[w.heap.size + 1]? = some (.loop (rec st pe)) →
        (Instr.endLoop (w.heap.size + 1)).run P V = .ok pe (V.putObj (w.heap.size + 1) (.loop (rec .exhausted pe))) := fun st pe V hs hv => by
      have := run_endLoop (P := P) hv (by rw [hrec]; exact hs)
      rw [hrec] at this ⊢
      exact this
    have key := hit (w.heap.size + 1) W1
      (fun s i V => I s i V ∧ V.heap[w.heap.size + 1]? = some (.loop (rec .ready none)) ∧ V.heap[w.heap.size]? = some (.deferred (some [])) ∧ w.heap.size + 2 ≤ V.heap.size ∧ ∀ i, ¬ Keep s i (w.heap.size + 1))
      (fun V => ∃ s e c, Ix s e V ∧ V.heap[w.heap.size + 1]? = some (.loop (rec .done (some c))) ∧ V.heap[w.heap.size]? = some (.deferred (some [])) ∧ w.heap.size + 2 ≤ V.heap.size ∧
        ((e = .ret ∧ c = .ret) ∨ (∃ id, e = .exit id ∧ c = .exit id) ∨ (∃ t, e = .goto t ∧ c = .goto t))) hx1
      (fun s V hc hs => ⟨h0 W1 s V hx1 (by omega) hc hs, (hc.block _ (by omega) (fun h => by have := hT0 _ h; omega)).trans hL1, (hc.block _ (by omega) (fun h => by have := hT0 _ h; omega)).trans hD1, by have := hc.size; omega, hK W1 s V (by omega) hs⟩)
      (fun s i V V' hJ hc => ⟨hI s i V V' hJ.1 (hc.mono fun _ _ h => .inl h), (hc.block _ (by omega) (fun h => by have := hT0 _ h; omega)).trans hJ.2.1, (hc.block _ (by omega) (fun h => by have := hT0 _ h; omega)).trans hJ.2.2.1, by have := hc.size; omega, hJ.2.2.2.2⟩)
      (fun V V' hJ hc => by
        obtain ⟨s, e, c, h1, h2, h3, h4, h5⟩ := hJ
        exact ⟨s, e, c, hIx s e V V' h1 (hc.mono fun _ _ h => .inl h), (hc.block _ (by omega) (fun h => by have := hT0 _ h; omega)).trans h2, (hc.block _ (by omega) (fun h => by have := hT0 _ h; omega)).trans h3, by have := hc.size; omega, h5⟩)
      (fun s i V hJ => hN s i V hJ.1)
      (fun s i x V hJ hx hAt => by
        obtain ⟨hi, hl, hD, hz, hk⟩ := hJ
        have hy := run_yield (P := P) (args := (encs x).toArray) hl (by rw [hrec]; simp [hps x])
        rw [hrec] at hy
        refine ⟨fn0, _, assign, body, hy, roundIn_of_wpIn trivial ?_⟩
        have hrep : Rep (m, [], some (w.heap.size + 1)) { tmps := (ps.toArray.zip (encs x).toArray).foldl (fun t (p, v) => t.setIfInBounds p v) a.tmps, defers := [] } (zipF ps (encs x) fr) := by
          have h1 : Rep (m, [], some (w.heap.size + 1)) { tmps := a.tmps, defers := [] } fr := ⟨ha.size, rfl, ha.get⟩
          have := Rep.zip (vs := encs x) hpm h1
          simpa using this
        refine wpIn_mono (hround s i x V hi hx hAt hz _ hrep) ?_
        rintro e a1 V1 ⟨f, hf1, hp⟩
        cases e with
        | normal =>
          obtain ⟨hx2, hbody⟩ := hp
          have hl1 := (hx2.block _ (by omega) (fun h => h)).trans hl
          have hD1 := (hx2.block _ (by omega) (fun h => h)).trans hD
          refine ⟨_, run_beginRound hl1 (by rw [hrec]), ?_⟩
          have hlt : w.heap.size + 1 < V1.heap.size := by have := hx2.size; omega
          have hl2 : (V1.putObj (w.heap.size + 1) (.loop { rec .ready none with state := .busy })).heap[w.heap.size + 1]? = some (.loop { rec .ready none with state := .busy }) := World.putObj_heap_same hlt
          have hD2 : (V1.putObj (w.heap.size + 1) (.loop { rec .ready none with state := .busy })).heap[w.heap.size]? = some (.deferred (some [])) := (World.putObj_heap_other (by omega)).trans hD1
          have hc2 : Chg (fun k => k = w.heap.size + 1) V1 (V1.putObj (w.heap.size + 1) (.loop { rec .ready none with state := .busy })) := Chg.putObj _ rfl
          have fin : ∀ (jump : Option Code) (V3 : World), Chg (fun k => k ≠ w.heap.size + 1 ∧ k ≠ w.heap.size) (V1.putObj (w.heap.size + 1) (.loop { rec .ready none with state := .busy })) V3 →
              (Instr.endRound (w.heap.size + 1) jump).run P V3 = .ok (.bool jump.isNone) (V3.putObj (w.heap.size + 1) (.loop (rec (if jump.isNone then .ready else .done) jump))) ∧
              (V3.putObj (w.heap.size + 1) (.loop (rec (if jump.isNone then .ready else .done) jump))).heap[w.heap.size + 1]? = some (.loop (rec (if jump.isNone then .ready else .done) jump)) ∧
              (V3.putObj (w.heap.size + 1) (.loop (rec (if jump.isNone then .ready else .done) jump))).heap[w.heap.size]? = some (.deferred (some [])) ∧ w.heap.size + 2 ≤ (V3.putObj (w.heap.size + 1) (.loop (rec (if jump.isNone then .ready else .done) jump))).heap.size := fun jump V3 hk3 => by
            have hl3 := (hk3.block _ (Array.getElem?_eq_some_iff.1 hl2).1 (fun h => h.1 rfl)).trans hl2
            have hD3 := (hk3.block _ (Array.getElem?_eq_some_iff.1 hD2).1 (fun h => h.2 rfl)).trans hD2
            have hz3 := hk3.size
            have := run_endRound (P := P) jump hl3
            rw [hrec] at this ⊢
            refine ⟨this, World.putObj_heap_same (Array.getElem?_eq_some_iff.1 hl3).1, (World.putObj_heap_other (by omega)).trans hD3, ?_⟩
            simp only [World.putObj_size] at hz3 ⊢
            have := hx2.size
            omega
          have chg : ∀ (V3 : World) (o : Obj), Chg (fun k => ¬ Keep s i k ∧ k ≠ w.heap.size + 1 ∧ k ≠ w.heap.size) (V1.putObj (w.heap.size + 1) (.loop { rec .ready none with state := .busy })) V3 → Chg (fun k => ¬ Keep s i k) V (V3.putObj (w.heap.size + 1) o) := fun V3 o hk3 =>
            ((hx2.chg.trans (hc2.mono (T := fun k => ¬ Keep s i k) fun k _ h => by rw [h]; exact hk i) (fun _ _ h => h)).trans (hk3.mono (T := fun k => ¬ Keep s i k) fun _ _ h => h.1) (fun _ _ h => h)).trans (Chg.putObj (S := fun k => ¬ Keep s i k) _ (hk i)) (fun _ _ h => h)
          refine wpIn_mono (hbody _ hc2 a1 hf1) ?_
          rintro e3 a3 V3 ⟨f3, hf3, hp3⟩
          cases e3 with
          | normal =>
            obtain ⟨hi3, hk3⟩ := hp3
            obtain ⟨hr, hl4, hD4, hz4⟩ := fin none V3 (hk3.mono fun _ _ h => ⟨h.2.1, h.2.2⟩)
            refine ⟨_, _, hr, true, rfl, .inl ⟨rfl, ⟨hI _ _ _ _ hi3 (Chg.putObj _ (.inr rfl)), hl4, hD4, hz4, hk⟩, ?_⟩⟩
            exact chg V3 _ hk3
          | ret =>
            obtain ⟨hi3, hk3⟩ := hp3
            obtain ⟨hr, hl4, hD4, hz4⟩ := fin (some .ret) V3 (hk3.mono fun _ _ h => ⟨h.2.1, h.2.2⟩)
            exact ⟨_, _, hr, false, rfl, .inr ⟨rfl, ⟨s, .ret, .ret, hIx _ _ _ _ hi3 (Chg.putObj _ (.inr rfl)), hl4, hD4, hz4, .inl ⟨rfl, rfl⟩⟩, chg V3 _ hk3⟩⟩
          | exit id =>
            obtain ⟨hi3, hk3⟩ := hp3
            obtain ⟨hr, hl4, hD4, hz4⟩ := fin (some (.exit id)) V3 (hk3.mono fun _ _ h => ⟨h.2.1, h.2.2⟩)
            exact ⟨_, _, hr, false, rfl, .inr ⟨rfl, ⟨s, .exit id, .exit id, hIx _ _ _ _ hi3 (Chg.putObj _ (.inr rfl)), hl4, hD4, hz4, .inr (.inl ⟨id, rfl, rfl⟩)⟩, chg V3 _ hk3⟩⟩
          | goto t =>
            obtain ⟨hi3, hk3⟩ := hp3
            obtain ⟨hr, hl4, hD4, hz4⟩ := fin (some (.goto t)) V3 (hk3.mono fun _ _ h => ⟨h.2.1, h.2.2⟩)
            exact ⟨_, _, hr, false, rfl, .inr ⟨rfl, ⟨s, .goto t, .goto t, hIx _ _ _ _ hi3 (Chg.putObj _ (.inr rfl)), hl4, hD4, hz4, .inr (.inr ⟨t, rfl, rfl⟩)⟩, chg V3 _ hk3⟩⟩
          | panic c => exact hp3.elim
          | outgrown => exact hp3.elim
        | exit id => exact hp.elim
        | goto t => exact hp.elim
        | ret => exact hp.elim
        | panic c => exact hp.elim
        | outgrown => exact hp.elim)
    have hlist : (Value.func (.yield (w.heap.size + 1)) #[] #[] :: lb).toArray = #[Value.func (.yield (w.heap.size + 1)) #[] #[]] ++ lb.toArray := by simp
    rw [hlist] at key
    refine key.mono ?_
    rintro e V hR
    cases e with
    | returned v =>
      obtain ⟨hR, hfin⟩ := hR
      rcases hR with ⟨s, hi, hl, hD, hz, _⟩ | ⟨s, e, c, hi, hl, hD, hz, hec⟩
      · refine ⟨none, _, hend .ready none V (by simp) hl, _, fr, hdef V ha.defers, ?_⟩
        exact hdone s _ (hI _ _ _ _ hi (Chg.putObj _ (.inr rfl))) ((World.putObj_heap_other (by omega)).trans hD) ⟨V, hfin, Chg.putObj _ rfl⟩
      · refine ⟨some c, _, hend .done (some c) V (by simp) hl, ?_⟩
        have hi' := hIx _ _ _ _ hi (Chg.putObj (r := w.heap.size + 1) (.loop (rec .exhausted (some c))) (.inr rfl))
        have hD' : (V.putObj (w.heap.size + 1) (.loop (rec .exhausted (some c)))).heap[w.heap.size]? = some (.deferred (some [])) := (World.putObj_heap_other (by omega)).trans hD
        have hw := hleave s e _ hi' hD' ⟨V, hfin, Chg.putObj _ rfl⟩ (by rcases hec with ⟨h, _⟩ | ⟨id, h, _⟩ | ⟨t, h, _⟩ <;> simp [h])
        rcases hec with ⟨rfl, rfl⟩ | ⟨id, rfl, rfl⟩ | ⟨t, rfl, rfl⟩
        · exact wpIn_ret ⟨_, fr, hdef V ha.defers, hw⟩
        · exact wpIn_exit ⟨_, fr, hdef V ha.defers, hw⟩
        · exact wpIn_goto ⟨_, fr, hdef V ha.defers, hw⟩
    | panicked ch => exact hR.elim
    | outgrown => exact hR.elim
end Go.Fw

/- All, walked, in: walked. No condition. -/
namespace Go.Proofs.Ytmndofgagngcgaa
open Go.RowKit Go.Fw Go.Fu Go.Pl
/-- Where a walk's own list lies. -/
structure AllS where
  lo : Nat
  hi : Nat
def AllSetup8 (w1 : World) (s : AllS) (V : World) : Prop := w1.heap.size ≤ s.lo ∧ s.lo ≤ s.hi ∧ s.hi ≤ V.heap.size
def allXs8 (e : List El) (_ : AllS) : List (RefD × UInt8) := (seenE e).map fun q => (nm e q, byteAt e q)
def allEnc8 (x : RefD × UInt8) : List Value := [refV x.1, bc x.2]
def allKeep8 (s : AllS) (_ : Nat) (k : Nat) : Prop := s.lo ≤ k ∧ k < s.hi
/-- What a walk reads: names and bytes. -/
def AllN (ns : List Nn) (e : List El) (V : World) : Prop := ∀ q ∈ seenE e, ∃ gn lv rv, Blk V (gOf ns q) TN (nodeC ⟨nm e q, byteAt e q, gn, [], []⟩ lv rv)
theorem FtAt.allN {w : World} {g rb ra : Nat} {ad : List Dig} {ns : List Nn} (h : FtAt w g rb ra ad ns) (hG : Fu.Good (Fw.els ns)) : AllN ns (Fw.els ns) w := fun q hq => by
  have hel : (Fw.els ns).length = ns.length := List.length_map _
  have hl := seen_lt hG.down hq
  obtain ⟨z, hz⟩ : ∃ z, ns[q]? = some z := ⟨_, List.getElem?_eq_getElem (by omega)⟩
  have hze : (Fw.els ns)[q]? = some z.el := by rw [List.getElem?_map, hz]; rfl
  exact ⟨z.el.gone, z.lv, z.rv, by rw [gOf_at hz, nm_at hze, byteAt_at hze]; exact h.node q z hz⟩
theorem ai_ref : AppInfo Try.prog 61 34 48 := by
  have h : (Try.prog.info? 61).map (fun i => (i.size, i.bytes, i.zero)) = some (34, 48, some (.agg (refC RefD.zero).toArray)) := by kernel_rfl
  obtain ⟨i, hi, h⟩ := Option.map_eq_some_iff.1 h
  injection h with h1 h2
  injection h2 with h2 h3
  exact ⟨i, _, hi, h3, h1, by show (refC RefD.zero).toArray.size = 34; simp [refC_length], h2, by decide, by decide⟩
theorem bs1_ref (r : RefD) (w : World) : (Instr.buildSlice 76 1 [(0, refV r)].toArray).run Try.prog w = .ok (.slice (some ⟨w.heap.size, 0, none⟩) 1 1) (w.alloc (.cells (refC r).toArray 61)) := by
  obtain ⟨i, z, hi, hz, hk, _⟩ := ai_ref
  exact run_bs1 Try.underlying76 hi hz (by omega) (by omega) rfl (by rw [refC_length, hk]) w
/-- Where a ref stands in a list. -/
def inI (l : List RefD) (r : RefD) : Int := match l.findIdx? fun x => decide (x = r) with
  | some i => (i : Int)
  | none => -1
theorem inI_some {l : List RefD} {r : RefD} {i : Nat} {x : RefD} (h : l[i]? = some x) (hx : x = r) (hb : ∀ (t : Nat) (p : RefD), t < i → l[t]? = some p → p ≠ r) : inI l r = (i : Int) := by
  have : l.findIdx? (fun x => decide (x = r)) = some i := by
    rw [List.findIdx?_eq_some_iff_getElem]
    obtain ⟨hl, e⟩ := List.getElem?_eq_some_iff.1 h
    exact ⟨hl, by simp [e, hx], fun j hj => by simp; exact hb j _ hj (List.getElem?_eq_getElem (by omega))⟩
  rw [inI, this]
theorem inI_none {l : List RefD} {r : RefD} (hb : ∀ (t : Nat) (p : RefD), t < l.length → l[t]? = some p → p ≠ r) : inI l r = -1 := by
  have : l.findIdx? (fun x => decide (x = r)) = none := by
    rw [List.findIdx?_eq_none_iff]
    intro x hx
    obtain ⟨t, ht⟩ := List.mem_iff_getElem?.1 hx
    simp; exact hb t x (List.getElem?_eq_some_iff.1 ht).1 ht
  rw [inI, this]

theorem fall_any (u : Addr) (w : World) : Calls Try.prog 32 #[.pointer (some u)] w (Ret fun v w' => ∃ b, v = .func (.func 51) #[] #[.pointer (some ⟨b, 0, none⟩)] ∧ w.heap.size ≤ b ∧ Blk w' b 23 [.pointer (some u)] ∧ Ext w w') := by
  refine calls_of_CW 4 [2] [(0, .pointer (some u))] Try.func32 rfl rfl rfl (by simp) args1 ?_
  have hE : Ext w w := Chg.refl
  refine CW.seq fun K1 hK1 => ?_
  refine CW.region ?_
  refine WL.box rfl rfl (by decide) fun g1 w1 hx1 hg1 hB1 => ?_
  have hlt1 := hB1.lt; have hz1 := hx1.size
  have hM1 := hB1.mem; have hz1 := hx1.size; have hE := hE.thenExt hx1
  refine WL.val (Y.assign rfl) (by decide) ?_
  refine WL.nil ?_
  refine hK1 _ _ ?_; try clear hK1 K1
  refine CW.seq fun K2 hK2 => ?_
  refine CW.region ?_
  refine WL.val (Y.makeFunc rfl) (by decide) ?_
  refine WL.val (Y.assign rfl) (by decide) ?_
  refine WL.nil ?_
  refine hK2 _ _ ?_; try clear hK2 K2
  refine CW.ret ⟨_, rfl, ?_⟩
  exact ⟨g1, rfl, hg1, hB1, hE⟩
set_option maxRecDepth 100000 in
set_option maxHeartbeats 1000000 in
theorem fall1_any (g rb ra : Nat) (ad : List Dig) (ns : List Nn) (b : Nat) (w_ : World) (hT_ : FtAt w_ g rb ra ad ns) (hG : Fu.Good (Fw.els ns)) (hn : ns.length ≤ 400001) (hB_ : Blk w_ b 23 [.pointer (some ⟨g, 0, none⟩)]) : IterN Try.prog 51 [.pointer (some ⟨b, 0, none⟩)] w_ AllSetup8 (allXs8 (Fw.els ns)) allEnc8 (fun _ => False) allKeep8 (fun _ _ _ => True) (fun _ => True) (fun _ _ V => AllN ns (Fw.els ns) V) := by
  intro ln w J Jx hx0 hS hJ hJx hJN hR
  have hT := hT_.ext hx0
  have hB0 := hB_.ext hx0
  have hlv : (seenE (Fw.els ns)).length ≤ 400001 := by
    have h1 := List.countP_le_length (p := fun x : El => !x.gone) (l := Fw.els ns)
    rw [hG.seen_length]; rw [List.length_map] at h1; exact Nat.le_trans h1 hn
  refine calls_of_CW 24 [] [(0, .func (.yield ln) #[] #[]), (1, .pointer (some ⟨b, 0, none⟩))] Try.func51 rfl rfl rfl (by simp) args2 ?_
  have hE : Ext w w := Chg.refl
  refine CW.seq fun K1 hK1 => ?_
  refine CW.region ?_
  refine WL.val (Y.load1 Try.underlying23 rfl (hB0.ext hE).mem.cell0 rfl) (by decide) ?_
  refine WL.call Try.func36 rfl rfl rfl (flist_any g rb ra ad ns _ (hT.ext hE) hG hn) (by simp) ?_; rintro v6 w1 hR1
  obtain ⟨hO1, hf1, hx1⟩ := hR1
  have hz1 := hx1.size
  have hE := hE.thenExt hx1
  obtain ⟨A, m, c, rfl⟩ := hO1.lens
  obtain ⟨hlm, hlg⟩ := ptr_map hO1
  have hlt1 := hO1.lt
  have hcc := (hO1.mem A m c rfl).2.2.2
  unfold maxLen at hcc
  refine WL.val (Y.len_slice Try.underlying97 rfl) (by decide) ?_
  refine WL.val (Y.move rfl) (by decide) ?_
  refine WL.nil ?_
  refine hK1 _ _ ?_; try clear hK1 K1
  refine CW.block ?_
  refine CW.loop (X := Nat) (fun x => [(0, .func (.yield ln) #[] #[]), (1, .pointer (some ⟨b, 0, none⟩)), (6, .slice A m c), (7, .int .i64 (m : Int)), (8, .int .i64 (x : Int))]) (fun x w0 => x ≤ m ∧ J ⟨w.heap.size, w1.heap.size⟩ x w0 ∧ Own w0 TP 1 (.slice A m c) (ptrL ((seenE (Fw.els ns)).map (gOf ns))) ∧ w1.heap.size ≤ w0.heap.size) (fun x => m - x) 0 (by repeat (first | exact Fr.le.nil | refine Fr.le.cons rfl ?_)) ⟨Nat.zero_le _, hS _ _ hE ⟨Nat.le_refl _, hE.size, Nat.le_refl _⟩, hO1, Nat.le_refl _⟩ ?_
  intro x w2 hl2
  obtain ⟨hxm, hj, hO, hz2⟩ := hl2
  have hE : Ext w2 w2 := Chg.refl
  obtain ⟨_, hlg2⟩ := ptr_map hO
  refine CW.seq fun K2 hK2 => ?_
  refine CW.region ?_
  refine WL.val (Y.lss rfl rfl) (by decide) ?_
  refine WL.nil ?_
  refine hK2 _ _ ?_; try clear hK2 K2
  refine CW.seq fun K3 hK3 => ?_
  first | refine CW.condD rfl (fun ht4 => ?_) (fun ht4 => ?_) | refine CW.condND rfl (fun ht4 => ?_) (fun ht4 => ?_) | refine CW.condN rfl (fun ht4 => ?_) (fun ht4 => ?_) | refine CW.cond rfl (fun ht4 => ?_) (fun ht4 => ?_)
  · -- then
    refine CW.skip ?_
    refine hK3 _ _ ?_; try clear hK3 K3
    refine CW.seq fun K5 hK5 => ?_
    refine CW.block ?_
    refine CW.seq fun K6 hK6 => ?_
    obtain ⟨q, hq⟩ : ∃ q, (seenE (Fw.els ns))[x]? = some q := ⟨_, List.getElem?_eq_getElem (by omega)⟩
    obtain ⟨a, rfl, hma⟩ := hlg2 x q hq
    obtain ⟨gn, lv, rv, hbn⟩ := hJN _ _ _ hj q (List.mem_of_getElem? hq)
    refine CW.region ?_
    refine WL.val (Y.indexAddrN Try.underlying97 rfl rfl sz0_fuguenode (by omega)) (by decide) ?_
    refine WL.val (Y.load1 Try.underlying42 rfl hma.cell0 rfl) (by decide) ?_
    refine WL.val (Y.assign rfl) (by decide) ?_
    refine WL.nil ?_
    refine hK6 _ _ ?_; try clear hK6 K6
    refine CW.seq fun K7 hK7 => ?_
    refine CW.headI 9 (by kernel_rfl) (by kernel_rfl) fun w3 hx3 => ?_
    skip; have hz3 := hx3.size; have hE := hE.thenExt hx3
    refine HL.val (Y.move rfl) (by decide) ?_
    refine HL.val (Y.move rfl) (by decide) ?_
    refine HL.val (Y.nilCheck rfl) (by decide) ?_
    refine HL.val (Y.fieldAddr fo_fuguenode0 rfl) (by decide) ?_
    refine HL.val (Y.load Try.underlying61 rfl ((hbn.ext hE).mem.fuguenode0) (sz_apiRef _) rfl) (by decide) ?_
    refine HL.val (Y.move rfl) (by decide) ?_
    refine HL.val (Y.nilCheck rfl) (by decide) ?_
    refine HL.val (Y.fieldAddr fo_fuguenode1 rfl) (by decide) ?_
    refine HL.val (Y.load1 Try.underlying5 rfl ((hbn.ext hE).mem.fuguenode1) rfl) (by decide) ?_
    refine HL.nil ?_
    refine WI.yield rfl rfl (hR ⟨w.heap.size, w1.heap.size⟩ x (nm (Fw.els ns) q, byteAt (Fw.els ns) q) w3 (hJ _ _ _ _ hj hE) (by show ((seenE (Fw.els ns)).map _)[x]? = _; rw [List.getElem?_map, hq]; rfl) trivial) (by decide) (fun b21 w4 hR4 => ?_)
    skip
    refine WI.val (Y.not rfl) (by decide) ?_
    refine WI.nil ?_
    refine hK7 _ _ ?_; try clear hK7 K7
    first | refine CW.condD rfl (fun ht8 => ?_) (fun ht8 => ?_) | refine CW.condND rfl (fun ht8 => ?_) (fun ht8 => ?_) | refine CW.condN rfl (fun ht8 => ?_) (fun ht8 => ?_) | refine CW.cond rfl (fun ht8 => ?_) (fun ht8 => ?_)
    · -- then
      refine CW.ret ⟨_, rfl, ?_⟩
      rcases hR4 with ⟨hb, _⟩ | ⟨_, h, _⟩
      · simp_all
      · exact ⟨.inr h, trivial⟩
 
    refine CW.skip ?_
    refine hK5 _ _ ?_; try clear hK5 K5
    refine CW.region ?_
    refine WL.val (Y.add rfl rfl ⟨by omega, by omega⟩) (by decide) ?_
    refine WL.val (Y.move rfl) (by decide) ?_
    refine WL.nil ?_
    rcases hR4 with ⟨_, hj2, hc⟩ | ⟨hb, _⟩
    · have hz4 := hc.size
      exact ⟨x + 1, (by show m - (x + 1) < m - x; omega), (by repeat (first | exact Fr.le.nil | refine Fr.le.cons rfl ?_)), (by show x + 1 ≤ m; omega), hj2, (hO.ext hE).chg hc (fun k hk h => h ⟨hf1 k hk, hlt1 k hk⟩), by omega⟩
    · simp_all
  refine CW.exit ?_
  refine ⟨_, rfl, ?_⟩
  refine ⟨.inl ⟨⟨w.heap.size, w1.heap.size⟩, ?_⟩, trivial⟩
  have e : (allXs8 (Fw.els ns) ⟨w.heap.size, w1.heap.size⟩).length = x := by simp only [allXs8, List.length_map]; omega
  rw [e]
  exact hj
end Go.Proofs.Ytmndofgagngcgaa
