/- Parts of a proof: what its last text leans on. No condition. -/
import Derived.Laws.IdiomStrings
import Derived.Test.YtfanmpbapabboaaDoorK03
import Derived.Test.YtfanmpbapabboaaDoorK07
import Derived.Test.YtfanmpbapabboaaDoorK08
import Derived.Test.YtfanmpbapabboaaDoorK12
import Derived.Test.YtfanmpbapabboaaDoorK13
set_option linter.unusedSimpArgs false
set_option linter.unusedVariables false
/- A store gone over: All and its closure, walked: what the iterator promises. No condition. -/
namespace Go.Proofs.YtfanmpbapabboaaDoor
open Go.RowKit Go.Fw Go.Pl Go.Sort
abbrev TU8 : TypeId := 5
abbrev TSl8 : TypeId := 32
theorem ai_sl8 : AppInfo Tryd.prog TSl8 1 24 := by
 have h : (Tryd.prog.info? TSl8).map (fun i => (i.zero, i.size, i.bytes)) = some (some (.slice none 0 0), 1, 24) := by kernel_rfl
 cases hi : Tryd.prog.info? TSl8 with
 | none => simp [hi] at h
 | some i => simp [hi] at h; exact ⟨i, .slice none 0 0, hi, h.1, h.2.1, by simp [Value.cells], h.2.2, by decide, by decide⟩
theorem nilGet {α : Type} {j : Nat} {v : α} (h : ([] : List α)[j]? = some v) : False := by simp at h
theorem nilMem {α : Type} {v : α} (h : v ∈ ([] : List α)) : False := by simp at h
structure SA where
 lo : Nat
 hi : Nat
 bs : List Value
def apartV (bs : List Value) : Prop := ∀ (i j : Nat) (u v : Value) (k : Nat), bs[i]? = some u → bs[j]? = some v → u.ownBlock = some k → v.ownBlock = some k → i = j
theorem apartV.app {bs : List Value} {v : Value} {m : Nat} (h : apartV bs) (h1 : ∀ u ∈ bs, ∀ k, u.ownBlock = some k → k < m) (h2 : ∀ k, v.ownBlock = some k → m ≤ k) : apartV (bs ++ [v]) := by
 intro i j a b k hi hj ha hb
 have hil := (List.getElem?_eq_some_iff.1 hi).1
 have hjl := (List.getElem?_eq_some_iff.1 hj).1
 simp only [List.length_append, List.length_singleton] at hil hjl
 by_cases ei : i < bs.length <;> by_cases ej : j < bs.length
 ·
  rw [List.getElem?_append_left ei] at hi
  rw [List.getElem?_append_left ej] at hj
  exact h i j a b k hi hj ha hb
 ·
  rw [List.getElem?_append_left ei] at hi
  rw [List.getElem?_append_right om_, show j - bs.length = 0 by omega] at hj
  simp at hj; subst hj
  have := h1 a (List.mem_of_getElem? hi) k ha
  have := h2 k hb
  omega
 ·
  rw [List.getElem?_append_right om_, show i - bs.length = 0 by omega] at hi
  simp at hi; subst hi
  rw [List.getElem?_append_left ej] at hj
  have := h1 b (List.mem_of_getElem? hj) k hb
  have := h2 k ha
  omega
 ·
  omega
abbrev allXs (l : List Ent) (s : SA) : List (Dig × Value) := (namesL l).zip s.bs
abbrev allEnc (x : Dig × Value) : List Value := [digV x.1, x.2]
abbrev allKeep (s : SA) (i k : Nat) : Prop := s.lo ≤ k ∧ k < s.hi ∧ ∀ j v, j ≤ i → s.bs[j]? = some v → v.ownBlock ≠ some k
structure AllSetup (l : List Ent) (w1 : World) (s : SA) (V : World) : Prop where
 lo : w1.heap.size ≤ s.lo
 hi : s.hi ≤ V.heap.size
 len : s.bs.length = (namesL l).length
 own : ∀ v ∈ s.bs, ∀ k, v.ownBlock = some k → s.lo ≤ k ∧ k < s.hi
 apart : apartV s.bs
abbrev allAt (l : List Ent) (s : SA) (i : Nat) (V : World) : Prop := ∀ x, (allXs l s)[i]? = some x → Own V TU8 1 x.2 (bytesC (getB l x.1))
abbrev encV (v : Value) : List Value := [v]
theorem encV_length (v : Value) : (encV v).length = 1 := rfl
abbrev flatV (bs : List Value) : List Value := (bs.map encV).flatten
theorem bs1_sl8 (A : Option Addr) (m c : Nat) (w : World) : (Instr.buildSlice 74 1 [(0, .slice A m c)].toArray).run Tryd.prog w = .ok (.slice (some ⟨w.heap.size, 0, none⟩) 1 1) (w.alloc (.cells [.slice A m c].toArray TSl8)) := by
 obtain ⟨i, z, hi, hz, hk, _⟩ := ai_sl8
 exact run_bs1 Tryd.underlying74 hi hz om_ om_ rfl (by rw [hk]; rfl) w
theorem sall_any (u : Addr) (w : World) : Calls Tryd.prog 14 #[.pointer (some u)] w (Ret fun v w' => ∃ b, v = .func (.func 26) #[] #[.pointer (some ⟨b, 0, none⟩)] ∧ w.heap.size ≤ b ∧ Blk w' b 36 [.pointer (some u)] ∧ Ext w w') := by
 refine calls_of_CW 4 [2] [(0, .pointer (some u))] Tryd.func14 rfl rfl rfl (by simp) args1 ?_
 have hE : Ext w w := Chg.refl
 refine CW.sr fun K1 hK1 => ?_
 refine WL.box rfl rfl de_ fun g1 w1 hx1 hg1 hB1 => ?_
 have hlt1 := hB1.lt; have hz1 := hx1.size
 have hM1 := hB1.mem; have hz1 := hx1.size; have hE := hE.thenExt hx1
 refine WL.a rfl ?_
 refine WL.nil (hK1 _ _ ?_); try clear hK1
 refine CW.sr fun K2 hK2 => ?_
 refine WL.v (Y.makeFunc rfl) ?_
 refine WL.a rfl ?_
 refine WL.nil (hK2 _ _ ?_); try clear hK2
 refine CW.ret ⟨_, rfl, ?_⟩
 exact ⟨g1, rfl, hg1, hB1, hE⟩
set_option maxHeartbeats 1000000 in
theorem sall1_any (g r b : Nat) (l : List Ent) (w_ : World) (hT_ : StoreAt w_ g r l) (hB_ : Blk w_ b 36 [.pointer (some ⟨g, 0, none⟩)]) : IterC Tryd.prog 26 [.pointer (some ⟨b, 0, none⟩)] w_ (AllSetup l) (allXs l) allEnc (fun _ => False) allKeep (allAt l) (fun _ => True) := by
 intro ln w J Jx hx0 hS hJ hJx hR
 have hT := hT_.ext hx0
 have hB0 := hB_.ext hx0
 have hfew := hT.few
 obtain ⟨id, hid, hzd, _⟩ := info_apiDigest
 refine calls_of_CW 46 [] [(0, .func (.yield ln) #[] #[]), (1, .pointer (some ⟨b, 0, none⟩))] Tryd.func26 rfl rfl rfl (by simp) args2 ?_
 have hE : Ext w w := Chg.refl
 refine CW.sr fun K1 hK1 => ?_
 refine WL.v (Y.load1 Tryd.underlying36 rfl (hB0.ext hE).mem.cell0 rfl) ?_
 refine WL.call Tryd.func27 rfl rfl rfl (snames_any g r l _ (hT.ext hE)) (by simp) ?_; rintro v12 w1 hR1
 obtain ⟨hNo, hNf, hx1⟩ := hR1
 have hz1 := hx1.size
 have hE := hE.thenExt hx1
 obtain ⟨An, mn, cn, rfl⟩ := hNo.lens
 obtain ⟨hnl, hncap, hnmx⟩ := hNo.len digC_length de_
 have hNlt := hNo.lt
 unfold maxLen at hnmx
 have hnl2 := namesL_length l
 refine WL.a rfl ?_
 refine WL.nil (hK1 _ _ ?_); try clear hK1
 refine CW.sr fun K2 hK2 => ?_
 refine WL.a rfl ?_
 refine WL.nil (hK2 _ _ ?_); try clear hK2
 refine CW.seq fun K3 hK3 => ?_
 refine CW.sr fun K4 hK4 => ?_
 refine WL.m rfl ?_
 refine WL.v (Y.len_slice Tryd.underlying23 rfl) ?_
 refine WL.m rfl ?_
 refine WL.nil (hK4 _ _ ?_); try clear hK4
 refine CW.block ?_
 refine CW.loop (X := Nat × Value × List Value) (fun x => [(0, .func (.yield ln) #[] #[]), (1, .pointer (some ⟨b, 0, none⟩)), (3, .slice An mn cn), (4, x.2.1), (13, .slice An mn cn), (14, .int .i64 (mn : Int)), (15, .int .i64 (x.1 : Int))]) (fun x w0 => x.1 ≤ mn ∧ x.2.2.length = x.1 ∧ Own w0 TSl8 1 x.2.1 (flatV x.2.2) ∧ (∀ k, x.2.1.ownBlock = some k → w1.heap.size ≤ k) ∧ (∀ v ∈ x.2.2, ∀ k, v.ownBlock = some k → w1.heap.size ≤ k ∧ k < w0.heap.size ∧ x.2.1.ownBlock ≠ some k) ∧ apartV x.2.2 ∧ (∀ j v d, x.2.2[j]? = some v → (namesL l)[j]? = some d → Own w0 TU8 1 v (bytesC (getB l d))) ∧ Own w0 TDg 32 (.slice An mn cn) (flatD (namesL l)) ∧ Ext w w0 ∧ w1.heap.size ≤ w0.heap.size) (fun x => mn - x.1) (0, .slice none 0 0, []) Fr.ok ⟨Nat.zero_le _, rfl, Own.nil, (fun k h => by simp [Value.ownBlock] at h), (fun v h => (nilMem h).elim), (fun i j u v k h _ _ _ => (nilGet h).elim), (fun j v d h _ => (nilGet h).elim), hNo, hE, Nat.le_refl _⟩ ?_
 intro x w2 hl2
 obtain ⟨i, u, bs⟩ := x
 dsimp only at hl2 ⊢
 obtain ⟨hi, hbl, hO, hfu, hbf, hap, hown, hN, hE, hz2⟩ := hl2
 obtain ⟨B, mb, cb, rfl⟩ := hO.lens
 have hlo := hO.lt
 refine CW.sr fun K5 hK5 => ?_
 refine WL.v (Y.lss rfl rfl) ?_
 refine WL.nil (hK5 _ _ ?_); try clear hK5
 refine CW.seq fun K6 hK6 => ?_
 (first | refine cd_ rfl ?_ ?_ | refine ce_ rfl ?_ ?_ | refine cn_ rfl ?_ ?_ | refine cb_ rfl ?_ ?_) <;> intro ht7
 ·
  -- then
  refine CW.skip ?_
  refine hK6 _ _ ?_; try clear hK6
  refine CW.seq fun K8 hK8 => ?_
  refine CW.block ?_
  refine CW.seq fun K9 hK9 => ?_
  obtain ⟨d, hd⟩ : ∃ d, (namesL l)[i]? = some d := ⟨_, List.getElem?_eq_getElem om_⟩
  obtain ⟨a, rfl, hma⟩ := (hN.sl digC_length de_).at hd
  refine CW.region ?_
  refine WL.v (Y.indexAddrN Tryd.underlying23 rfl rfl sz0_apiDigest om_) ?_
  refine WL.v (Y.load Tryd.underlying30 rfl hma (sz_apiDigest _) rfl) ?_
  refine as_apiDigest rfl (by simp) de_ fun g6 w3 hx3 hg6 hB6 => ?_
  have hlt6 := hB6.lt; have hz3 := hx3.size
  have hM6 := hB6.mem; have hz3 := hx3.size; have hE := hE.thenExt hx3
  refine WL.nil (hK9 _ _ ?_); try clear hK9
  refine CW.sr fun K10 hK10 => ?_
  refine WL.v (Y.load1 Tryd.underlying36 rfl (hB0.ext hE).mem.cell0 rfl) ?_
  refine WL.v (Y.load Tryd.underlying30 rfl hB6.mem (sz_apiDigest _) rfl) ?_
  refine WL.call Tryd.func12 rfl rfl rfl (stGet_any g r l d _ (hT.ext hE)) (by simp) ?_; rintro v22 w4 hR4
  obtain ⟨v, rfl, hV, hvf, hx4⟩ := hR4
  have hz4 := hx4.size
  have hE := hE.thenExt hx4
  have hVlt := hV.lt
  obtain ⟨Av, mv, cv, rfl⟩ := hV.lens
  refine WL.m rfl ?_
  refine WL.v (Y.extract rfl rfl) ?_
  refine WL.v (Y.extract rfl rfl) ?_
  refine WL.a rfl ?_
  refine WL.a rfl ?_
  refine WL.nil (hK10 _ _ ?_); try clear hK10
  refine CW.region ?_
  refine WL.m rfl ?_
  refine WL.m rfl ?_
  refine WL.st (St.buildSlice rfl (bs1_sl8 _ _ _)) de_ fun v27 w5 hR5 => ?_
  obtain ⟨g27, rfl, hg27, hB27, hx5⟩ := hR5
  have hz5 := hx5.size
  have hE := hE.thenExt hx5
  have hx35 := (hx3.thenExt hx4).thenExt hx5
  refine WL.st (St.append Tryd.underlying74 Tryd.underlying74 ai_sl8 rfl rfl (hO.ext hx35) (Src.one hB27 rfl) (one1 rfl) (by rw [flat_length encV_length]; omega)) de_ fun v28 w6 hR6 => ?_
  obtain ⟨hO6, hc6, hf6⟩ := hR6
  have hz6 := hc6.size
  have hE := hE.step hc6 (fun k h => by have := hfu k h; omega)
  refine WL.a rfl ?_
  refine WL.nil (hK8 _ _ ?_); try clear hK8
  refine CW.region ?_
  refine WL.v (Y.add rfl rfl o2_) ?_
  refine WL.m rfl ?_
  refine WL.nil ?_
  refine ⟨(i + 1, v28, bs ++ [.slice Av mv cv]), by show mn - (i + 1) < mn - i; omega, Fr.ok, by show i + 1 ≤ mn; omega, by show (bs ++ [_]).length = i + 1; rw [List.length_append, List.length_singleton, hbl], (by show Own _ _ _ _ (flatV (bs ++ [_])); simpa [flatV] using hO6), ?_, ?_, hap.app (m := w3.heap.size) (fun u hu k hk => by have := (hbf u hu k hk).2.1; omega) hvf, ?_, (hN.ext hx35).chg hc6 (fun k hk h => by have := hNlt k hk; have := hfu k h; omega), hE, by omega⟩
  ·
   intro k hk
   rcases hf6 with h | h
   ·
    rw [h] at hk; exact hfu k hk
   ·
    have := h k hk; omega
  ·
   intro v hv k hk
   have key : w1.heap.size ≤ k ∧ k < w5.heap.size ∧ (Value.slice B mb cb).ownBlock ≠ some k := by
    rcases List.mem_append.1 hv with hv | hv
    ·
     have := hbf v hv k hk; exact ⟨this.1, by omega, this.2.2⟩
    ·
     simp at hv; subst hv
     have h1 := hvf k hk; have h2 := hVlt k hk
     exact ⟨by omega, by omega, fun h => by have := hlo k h; omega⟩
   refine ⟨key.1, by omega, fun h => ?_⟩
   rcases hf6 with h6 | h6
   ·
    exact key.2.2 (h6 ▸ h)
   ·
    have := h6 k h; omega
  ·
   intro j v d2 hj hd2
   have hjl := (List.getElem?_eq_some_iff.1 hj).1
   simp only [List.length_append, List.length_singleton] at hjl
   by_cases ej : j < bs.length
   ·
    rw [List.getElem?_append_left ej] at hj
    exact ((hown j v d2 hj hd2).ext hx35).chg hc6 (fun k hk h => (hbf v (List.mem_of_getElem? hj) k hk).2.2 h)
   ·
    have ej : j = i := by omega
    subst ej
    rw [List.getElem?_append_right om_, show j - bs.length = 0 by omega] at hj
    simp at hj; subst hj
    rw [hd] at hd2; cases hd2
    exact (hV.ext hx5).chg hc6 (fun k hk h => by have := hvf k hk; have := hlo k h; omega)
 refine CW.exit ?_
 refine hK3 _ _ ?_; try clear hK3
 refine CW.sr fun K11 hK11 => ?_
 refine WL.m rfl ?_
 refine WL.v (Y.len_slice Tryd.underlying23 rfl) ?_
 refine WL.m rfl ?_
 refine WL.nil (hK11 _ _ ?_); try clear hK11
 refine CW.block ?_
 refine CW.loop (X := Nat) (fun x => [(0, .func (.yield ln) #[] #[]), (4, .slice B mb cb), (30, .slice An mn cn), (31, .int .i64 (mn : Int)), (32, .int .i64 (x : Int))]) (fun x w0 => x ≤ mn ∧ J ⟨w.heap.size, w2.heap.size, bs⟩ x w0 ∧ Own w0 TDg 32 (.slice An mn cn) (flatD (namesL l)) ∧ Own w0 TSl8 1 (.slice B mb cb) (flatV bs) ∧ (∀ j v d, x ≤ j → bs[j]? = some v → (namesL l)[j]? = some d → Own w0 TU8 1 v (bytesC (getB l d))) ∧ w2.heap.size ≤ w0.heap.size) (fun x => mn - x) 0 Fr.ok ⟨Nat.zero_le _, hS _ _ hE ⟨Nat.le_refl _, Nat.le_refl _, by show bs.length = _; omega, fun v hv k hk => by have := hbf v hv k hk; exact ⟨by show w.heap.size ≤ k; omega, this.2.1⟩, hap⟩, hN, hO, (fun j v d _ => hown j v d), Nat.le_refl _⟩ ?_
 intro x w7 hl7
 obtain ⟨hx, hj7, hN, hO, hown, hz7⟩ := hl7
 have hE : Ext w7 w7 := Chg.refl
 have hbl2 := (hO.len encV_length de_).1
 refine CW.sr fun K12 hK12 => ?_
 refine WL.v (Y.lss rfl rfl) ?_
 refine WL.nil (hK12 _ _ ?_); try clear hK12
 refine CW.seq fun K13 hK13 => ?_
 (first | refine cd_ rfl ?_ ?_ | refine ce_ rfl ?_ ?_ | refine cn_ rfl ?_ ?_ | refine cb_ rfl ?_ ?_) <;> intro ht14
 ·
  -- then
  refine CW.skip ?_
  refine hK13 _ _ ?_; try clear hK13
  refine CW.seq fun K15 hK15 => ?_
  refine CW.block ?_
  refine CW.seq fun K16 hK16 => ?_
  obtain ⟨d, hd⟩ : ∃ d, (namesL l)[x]? = some d := ⟨_, List.getElem?_eq_getElem om_⟩
  obtain ⟨v, hv⟩ : ∃ v, bs[x]? = some v := ⟨_, List.getElem?_eq_getElem om_⟩
  obtain ⟨a, rfl, hma⟩ := (hN.sl digC_length de_).at hd
  obtain ⟨c0, rfl, hmc⟩ := (hO.sl encV_length de_).at hv
  refine CW.region ?_
  refine WL.m rfl ?_
  refine WL.v (Y.indexAddrN Tryd.underlying23 rfl rfl sz0_apiDigest om_) ?_
  refine WL.v (Y.load Tryd.underlying30 rfl hma (sz_apiDigest _) rfl) ?_
  refine WL.alloc (hid) (hzd) rfl de_ fun g10 w8 hx8 hg10 hB10 => ?_
  have hlt10 := hB10.lt; have hz8 := hx8.size
  have hM10 := hB10.mem; have hz8 := hx8.size; have hE := hE.thenExt hx8
  refine WL.a rfl ?_
  refine WL.store (g := g10) (pre := []) (old := digC Dig.zero) (post := []) (new := digC d) rfl rfl rfl rfl (sz_apiDigest _) (by simpa using hB10) ln_ (one_digC) (fun w9 hc9 hB9_ => ?_)
  have hz9 := hc9.size; have hE := hE.step hc9 (fun k h => by omega)
  have hB10 : Blk w9 g10 30 (digC d) := by simpa using hB9_
  refine WL.nil (hK16 _ _ ?_); try clear hK16
  refine CW.seq fun K17 hK17 => ?_
  refine CW.headI 6 kr_ kr_ fun w10 hx10 => ?_
  skip; have hz10 := hx10.size; have hE := hE.thenExt hx10; have hB10 := hB10.ext hx10
  refine HL.val (Y.move rfl) de_ ?_
  refine HL.val (Y.load Tryd.underlying30 rfl hB10.mem (sz_apiDigest _) rfl) de_ ?_
  refine HL.val (Y.move rfl) de_ ?_
  refine HL.val (Y.move rfl) de_ ?_
  refine HL.val (Y.indexAddrN Tryd.underlying74 rfl rfl sz0_suint8 om_) de_ ?_
  refine HL.val (Y.load1 Tryd.underlying32 rfl (hmc.ext hE).cell0 rfl) de_ ?_
  refine HL.nil ?_
  refine WI.yield rfl rfl (hR _ x (d, v) w10 (hJ _ _ _ _ hj7 hE) (List.getElem?_zip_eq_some.2 ⟨hd, hv⟩) (fun y hy => by obtain ⟨h1, h2⟩ := List.getElem?_zip_eq_some.1 hy; exact (hown x _ _ (Nat.le_refl _) h2 h1).ext hE)) de_ (fun b43 w11 hR11 => ?_)
  skip
  refine WI.val (Y.not rfl) de_ ?_
  refine WI.nil ?_
  refine hK17 _ _ ?_; try clear hK17
  (first | refine cd_ rfl ?_ ?_ | refine ce_ rfl ?_ ?_ | refine cn_ rfl ?_ ?_ | refine cb_ rfl ?_ ?_) <;> intro ht18
  ·
   -- then
   refine CW.ret ⟨_, rfl, ?_⟩
   rcases hR11 with ⟨hb, _⟩ | ⟨_, h, _⟩
   ·
    simp_all
   ·
    exact ⟨.inr h, trivial⟩
  refine CW.skip ?_
  refine hK15 _ _ ?_; try clear hK15
  refine CW.region ?_
  refine WL.v (Y.add rfl rfl o2_) ?_
  refine WL.m rfl ?_
  refine WL.nil ?_
  rcases hR11 with ⟨_, hj, hc⟩ | ⟨hb, _⟩
  ·
   have hz11 := hc.size
   refine ⟨x + 1, by show mn - (x + 1) < mn - x; omega, Fr.ok, by show x + 1 ≤ mn; omega, hj, ?_, ?_, ?_, by omega⟩
   ·
    refine (hN.ext hE).chg hc fun k hk h => h ⟨hNf k hk, (by show k < w2.heap.size; have := hNlt k hk; omega), fun j v2 _ hv2 hk2 => ?_⟩
    have := hbf v2 (List.mem_of_getElem? hv2) k hk2; have := hNlt k hk; omega
   ·
    refine (hO.ext hE).chg hc fun k hk h => h ⟨(by show w.heap.size ≤ k; have := hfu k hk; omega), hlo k hk, fun j v2 _ hv2 hk2 => (hbf v2 (List.mem_of_getElem? hv2) k hk2).2.2 hk⟩
   ·
    intro j v2 d2 hxj hv2 hd2
    refine ((hown j v2 d2 om_ hv2 hd2).ext hE).chg hc fun k hk h => h ⟨(by show w.heap.size ≤ k; have := hbf v2 (List.mem_of_getElem? hv2) k hk; omega), (hbf v2 (List.mem_of_getElem? hv2) k hk).2.1, fun j3 v3 hj3 hv3 hk3 => ?_⟩
    have := hap j3 j v3 v2 k hv3 hv2 hk3 hk; omega
  ·
   simp_all
 refine CW.exit ?_
 refine ⟨_, rfl, ?_⟩
 refine ⟨.inl ⟨⟨w.heap.size, w2.heap.size, bs⟩, ?_⟩, trivial⟩
 have e : (allXs l ⟨w.heap.size, w2.heap.size, bs⟩).length = x := by simp only [allXs, List.length_zip]; omega
 rw [e]
 exact hj7
end Go.Proofs.YtfanmpbapabboaaDoor
/- What a store holds, by what was put: the plain law of StoreOnce. No condition; no program. -/
namespace Go.Proofs.YtfanmpbapabboaaDoor
open Go.RowKit Go.Fw Go.Pl Go.Sort
theorem nodup_leD : ∀ {a b : List Dig}, a.Nodup → (∀ x ∈ a, x ∈ b) → a.length ≤ b.length
 | [], _, _, _ => Nat.zero_le _
 | x :: a, b, h, hs => by
  have h' := List.nodup_cons.1 h
  have hx := hs x (by simp)
  have ih := nodup_leD (a := a) (b := b.erase x) h'.2 (fun y hy => (List.mem_erase_of_ne (fun (e : y = x) => h'.1 (by rw [← e]; exact hy))).2 (hs y (by simp [hy])))
  rw [List.length_erase_of_mem hx] at ih
  have := List.length_pos_of_mem hx
  simp only [List.length_cons]
  omega
def valOf (l : List Ent) (d : Dig) : Option (List UInt8) := (at_ l d).map fun p => p.2.b
theorem at_mem {l : List Ent} (h : Unlike l) {e : Ent} (he : e ∈ l) : ∃ j, at_ l e.k = some (j, e) := by
 cases hp : at_ l e.k with
 | none => exact absurd rfl (mfind_none hp e he)
 | some p =>
  obtain ⟨j, f⟩ := p
  obtain ⟨_, hj, hk⟩ := mfind_some hp
  rw [Nat.sub_zero] at hj
  obtain ⟨i, hi⟩ := List.mem_iff_getElem?.1 he
  have hil := (List.getElem?_eq_some_iff.1 hi).1
  have h1 : (l.map Ent.k)[i]? = some e.k := by simp [hi]
  have h2 : (l.map Ent.k)[j]? = some e.k := by simp [hj, hk]
  have := (List.getElem?_inj (by simpa using hil) h).1 (h1.trans h2.symm)
  subst this
  rw [hi] at hj; cases hj
  exact ⟨i, rfl⟩
theorem valOf_iff {l : List Ent} (h : Unlike l) {d : Dig} {x : List UInt8} : valOf l d = some x ↔ ∃ e ∈ l, e.k = d ∧ e.b = x := by
 constructor
 ·
  intro hv
  obtain ⟨⟨j, e⟩, hp, rfl⟩ := Option.map_eq_some_iff.1 hv
  obtain ⟨_, hj, hk⟩ := mfind_some hp
  exact ⟨e, List.mem_of_getElem? hj, hk, rfl⟩
 ·
  rintro ⟨e, he, rfl, rfl⟩
  obtain ⟨j, hj⟩ := at_mem h he
  rw [valOf, hj]; rfl
theorem getB_val {l : List Ent} {d : Dig} {x : List UInt8} (h : valOf l d = some x) : getB l d = x := by
 obtain ⟨⟨j, e⟩, hp, rfl⟩ := Option.map_eq_some_iff.1 h
 simp [getB, hp]
theorem val_getB {l : List Ent} {d : Dig} (h : (at_ l d).isSome = true) : valOf l d = some (getB l d) := by
 obtain ⟨⟨j, e⟩, hp⟩ := Option.isSome_iff_exists.1 h
 simp [valOf, getB, hp]
structure Holds (l : List Ent) (J : List (List UInt8)) : Prop where
 keys : Unlike l
 val : ∀ d x, valOf l d = some x ↔ x ∈ J ∧ x.length ≤ 131072 ∧ shaD x = d
theorem Holds.nil : Holds [] [] := ⟨List.nodup_nil, fun d x => by simp [valOf, mfind]⟩
theorem Holds.congr {l : List Ent} {J K : List (List UInt8)} (h : Holds l J) (hJ : ∀ x, x ∈ J ↔ x ∈ K) : Holds l K := ⟨h.keys, fun d x => by rw [h.val, hJ]⟩
theorem Holds.ent {l : List Ent} {J : List (List UInt8)} (h : Holds l J) {e : Ent} (he : e ∈ l) : e.b ∈ J ∧ e.b.length ≤ 131072 ∧ shaD e.b = e.k := (h.val _ _).1 ((valOf_iff h.keys).2 ⟨e, he, rfl, rfl⟩)
theorem Holds.len {l : List Ent} {J : List (List UInt8)} (h : Holds l J) : l.length ≤ J.length := by
 have hn : (l.map Ent.k).Nodup := h.keys
 have := nodup_leD hn (b := J.map shaD) fun d hd => by
  obtain ⟨e, he, rfl⟩ := List.mem_map.1 hd
  obtain ⟨h1, _, h3⟩ := h.ent he
  exact List.mem_map.2 ⟨e.b, h1, h3⟩
 simpa using this
theorem Holds.put {l l' : List Ent} {J : List (List UInt8)} {b : List UInt8} (h : Holds l J) (h10 : putE l b ≠ 10) (hf : l.length < 500) (hP : PutL l b l') (hk : Unlike l') : Holds l' (J ++ [b]) := by
 refine ⟨hk, fun d x => ?_⟩
 rw [List.mem_append, List.mem_singleton]
 unfold PutL at hP
 by_cases hl : 131072 < b.length
 ·
  have hE : putE l b = 3 := by rw [putE, if_pos hl]
  rw [if_neg (by rw [hE]; rintro ⟨h, _⟩; omega)] at hP
  subst hP
  rw [h.val]
  constructor
  ·
   rintro ⟨h1, h2, h3⟩; exact ⟨.inl h1, h2, h3⟩
  ·
   rintro ⟨h1 | rfl, h2, h3⟩
   ·
    exact ⟨h1, h2, h3⟩
   ·
    omega
 ·
  by_cases ht : (at_ l (shaD b)).isSome = true
  ·
   have hg : getB l (shaD b) = b := by
    by_cases hb : getB l (shaD b) = b
    ·
     exact hb
    ·
     exact absurd (by rw [putE, if_neg hl, if_pos ht, if_neg hb]) h10
   have hv := val_getB ht
   rw [hg] at hv
   rw [if_neg (by rintro ⟨_, hn⟩; rw [hn] at ht; cases ht)] at hP
   subst hP
   rw [h.val]
   constructor
   ·
    rintro ⟨h1, h2, h3⟩; exact ⟨.inl h1, h2, h3⟩
   ·
    rintro ⟨h1 | rfl, h2, h3⟩
    ·
     exact ⟨h1, h2, h3⟩
    ·
     have := (h.val _ _).1 hv
     exact ⟨this.1, h2, h3⟩
  ·
   have hn : at_ l (shaD b) = none := by simpa using ht
   have hE : putE l b = 0 := by rw [putE, if_neg hl, if_neg ht, if_neg om_]
   rw [if_pos ⟨hE, hn⟩] at hP
   obtain ⟨e, rfl, hek, heb⟩ := hP
   rw [valOf_iff hk]
   constructor
   ·
    rintro ⟨f, hf, rfl, rfl⟩
    rcases List.mem_append.1 hf with hf | hf
    ·
     obtain ⟨h1, h2, h3⟩ := h.ent hf
     exact ⟨.inl h1, h2, h3⟩
    ·
     simp at hf; subst hf
     exact ⟨.inr heb, by rw [heb]; omega, by rw [heb, hek]⟩
   ·
    rintro ⟨h1 | rfl, h2, h3⟩
    ·
     obtain ⟨f, hf, h4, h5⟩ := (valOf_iff h.keys).1 ((h.val d x).2 ⟨h1, h2, h3⟩)
     exact ⟨f, List.mem_append_left _ hf, h4, h5⟩
    ·
     exact ⟨e, List.mem_append_right _ (by simp), hek.trans h3, heb⟩
def NoColl (J : List (List UInt8)) : Prop := ∀ x ∈ J, ∀ y ∈ J, x.length ≤ 131072 → y.length ≤ 131072 → shaD x = shaD y → x = y
theorem Holds.noColl {l : List Ent} {J : List (List UInt8)} (h : Holds l J) : NoColl J := fun x hx y hy h1 h2 h3 => by
 have a := (h.val _ _).2 ⟨hx, h1, rfl⟩
 have b := (h.val _ _).2 ⟨hy, h2, rfl⟩
 rw [h3, b] at a
 exact (Option.some.inj a).symm
theorem Holds.same {s t : List Ent} {J K : List (List UInt8)} (hs : Holds s J) (ht : Holds t K) (h : ∀ x, x ∈ J ↔ x ∈ K) (d : Dig) : valOf s d = valOf t d := by
 have hi : ∀ x, valOf s d = some x ↔ valOf t d = some x := fun x => by rw [hs.val, ht.val, h]
 cases ha : valOf s d with
 | some x => exact ((hi x).1 ha).symm
 | none =>
  cases hb : valOf t d with
  | none => rfl
  | some x => rw [(hi x).2 hb] at ha; cases ha
theorem names_val {l : List Ent} (h : Unlike l) {d : Dig} : d ∈ namesL l ↔ ∃ x, valOf l d = some x := by
 rw [namesL_mem]
 constructor
 ·
  rintro ⟨e, he, rfl⟩; exact ⟨e.b, (valOf_iff h).2 ⟨e, he, rfl, rfl⟩⟩
 ·
  rintro ⟨x, hx⟩
  obtain ⟨e, he, hk, _⟩ := (valOf_iff h).1 hx
  exact ⟨e, he, hk⟩
theorem getB_same {s t : List Ent} {d : Dig} (h : valOf s d = valOf t d) : getB s d = getB t d := by
 cases hv : valOf s d with
 | some x => rw [getB_val hv, getB_val (h.symm.trans hv)]
 | none =>
  have a : at_ s d = none := by simpa [valOf] using hv
  have b : at_ t d = none := by rw [h] at hv; simpa [valOf] using hv
  rw [getB, getB, a, b]
theorem pairs_nodup {l : List Ent} (h : Unlike l) : (l.map fun e => (e.k, e.b)).Nodup := by
 unfold Unlike List.Nodup at h
 rw [List.pairwise_map] at h
 rw [List.Nodup, List.pairwise_map]
 exact h.imp fun hne e => hne (congrArg Prod.fst e)
end Go.Proofs.YtfanmpbapabboaaDoor
/- Strings put together; the bytes of a string as a new slice. No condition. -/
namespace Go.Fw
open Go.RowKit
section
variable {P : Program} {n : NN} {fr : Fr} {w : World} {ty : TypeId}
theorem Y.addS {x y : Operand} {p q : ByteArray} {t t' : TypeId} (hx : ev fr x = some (.string p)) (hy : ev fr y = some (.string q)) (h : p.size + q.size ≤ 9223372036854775807) :
  Yw P n fr (.binOp .add t x y t') ty w (.string (p ++ q)) w := Y.bin hx hy (by simp [eqGuard_at_string]) (by
   have : ¬ (((p.size + q.size : Nat) : Int) > IntKind.i64.max) := by simp only [IntKind.max, IntKind.bits, IntKind.signed]; simp; omega
   simp only [binOp, Op.stringOp, this]
   rfl)
theorem St.strBytes {x : Operand} {s d e : TypeId} {str : ByteArray} (hs : P.underlying s = some .string) (hd : P.underlying d = some (.slice e)) (he : P.underlying e = some (.int .u8)) (hx : ev fr x = some (.string str)) (hr : str.size ≤ 140737488351232) :
  St P n fr (.convert s d x) ty w (fun v w' => Own w' e 1 v (bytesC str.toList) ∧ Ext w w' ∧ ∀ g, v.ownBlock = some g → w.heap.size ≤ g) := fun a o' ho hty ha => by
 have h1 := run_bytes_of_string (P := P) w s d e str hs hd he
 refine ⟨_, _, by simp only [execOp, ho, ha.ev hx]; rw [Sem.run_bind, h1]; rfl, ?_, ?_, ?_⟩
 ·
  have hge := grownCap_ge w str.size 0 e
  have hle : grownCap w str.size 0 e ≤ maxLen := grownCap_le_maxLen w str.size 0 e (by simp only [maxLen]; omega)
  have hl := toList_length str
  have hc : (bytesC str.toList).length = str.size := by rw [bytesC_length, hl]
  have hrow : bytesRow str (grownCap w str.size 0 e) = (bytesC str.toList ++ List.replicate (grownCap w str.size 0 e - str.size) (Value.int .u8 0)).toArray := by
   apply Array.ext'
   simp [bytesRow, bytesC, ByteArray.toList_eq]
   exact fun _ _ => rfl
  refine .inr ⟨w.heap.size, str.size, grownCap w str.size 0 e, List.replicate (grownCap w str.size 0 e - str.size) (.int .u8 0), ((bytesRow str (grownCap w str.size 0 e)).size, (bytesRow str (grownCap w str.size 0 e)).size + 1), rfl, ?_, by omega, hge, hle, by simp [hc]; omega, ?_⟩
  ·
   rw [← hrow]; exact heap_alloc_new _ _
  ·
   intro o ho' h
   simp only [bytesRow, Array.size_append, Array.size_map, Array.size_replicate] at h
   have : str.data.size = str.size := rfl
   omega
 ·
  exact Chg.drew.trans (Chg.alloc (S := fun _ => False) _) (fun _ _ f => f.elim)
 ·
  intro g hg
  simp [Value.ownBlock] at hg
  omega
end
end Go.Fw
namespace Go.Fw
open Go.RowKit
section
variable {P : Program} {ops : Array Oper} {S : World → Prop} {n : NN} {Φ : Exit → Fr → World → Prop} {fr : Fr} {w : World} {fuel : Nat} {listed : Array Bool}
end
end Go.Fw
/- A slice of bytes as an argument of this program. No condition. -/
namespace Go.Fw
open Go.RowKit
theorem flat_bytes : ∀ xs : List UInt8, (xs.map fun b => [bc b]).flatten = bytesC xs
 | [] => rfl
 | x :: xs => by simp only [List.map_cons, List.flatten_cons, flat_bytes xs]; rfl
theorem Sl.by {w : World} {v : Value} {xs : List UInt8} (h : Sl w (fun b => [bc b]) 1 v xs) : By w v xs := by
 obtain ⟨A, c, rfl, hmc, hcm⟩ := h.lens
 obtain ⟨hl, _, _, hA⟩ := Sl.flat (k := 1) (fun _ => rfl) h
 rw [flat_bytes] at hA
 refine ⟨A, xs.length, c, rfl, rfl, hmc, hcm, hA, ?_⟩
 rintro rfl
 rcases Nat.eq_zero_or_pos xs.length with h0 | h0
 ·
  exact h0
 ·
  obtain ⟨a, h, _⟩ := hA h0; cases h
end Go.Fw
namespace Go.Proofs.YtfanmpbapabboaaDoor
open Go.RowKit Go.Fw Go.WideShapes Go.ChangeShapes
theorem reach_is : reachBytes = 140737488351232 := by decide
end Go.Proofs.YtfanmpbapabboaaDoor
/- The store's laws: alive, StoreBack, walked. No condition. -/
namespace Go.Fw
open Go.RowKit
theorem By.lt {w : World} {v : Value} {b : List UInt8} (h : By w v b) (h0 : b ≠ []) : ∀ k, v.ownBlock = some k → k < w.heap.size := by
 obtain ⟨A, m, c, rfl, hl, _, _, hA, _⟩ := h
 intro k hk
 have : 0 < b.length := List.length_pos_iff.2 h0
 obtain ⟨a, rfl, hm⟩ := hA om_
 have := hm.lt (by cases b with | nil => exact absurd rfl h0 | cons x r => simp [bytesC])
 simp [Value.ownBlock] at hk
 omega
end Go.Fw
namespace Go.Proofs.YtfanmpbapabboaaDoor
open Go.RowKit Go.Fw Go.Pl
abbrev True_ (w : World) (v : Value) (w' : World) : Prop := v = .bool true ∧ Ext w w'
end Go.Proofs.YtfanmpbapabboaaDoor
/- StoreOnce, walked. No condition. -/
namespace Go.Fw
theorem Chg.ext {S : Nat → Prop} {w w1 w2 : World} (h : Chg S w w1) (k : Ext w1 w2) : Chg S w w2 := h.thenExt k
end Go.Fw
namespace Go.Proofs.YtfanmpbapabboaaDoor
open Go.RowKit Go.Fw Go.Pl Go.Sort
abbrev TStr : TypeId := 9
abbrev TSs : TypeId := 22
theorem ai_str : AppInfo Tryd.prog TStr 1 16 := by
 have h : (Tryd.prog.info? TStr).map (fun i => (i.zero, i.size, i.bytes)) = some (some (.string ⟨#[]⟩), 1, 16) := by kernel_rfl
 cases hi : Tryd.prog.info? TStr with
 | none => simp [hi] at h
 | some i => simp [hi] at h; exact ⟨i, .string ⟨#[]⟩, hi, h.1, h.2.1, by simp [Value.cells], h.2.2, by decide, by decide⟩
theorem bs1_str (b : ByteArray) (w : World) : (Instr.buildSlice TSs 1 [(0, .string b)].toArray).run Tryd.prog w = .ok (.slice (some ⟨w.heap.size, 0, none⟩) 1 1) (w.alloc (.cells [.string b].toArray TStr)) := by
 obtain ⟨i, z, hi, hz, hk, _⟩ := ai_str
 exact run_bs1 Tryd.underlying22 hi hz om_ om_ rfl (by rw [hk]; rfl) w
theorem sz0_string : (Tryd.prog.info? TStr).map (·.size) = some 1 := by kernel_rfl
def strC (p : List UInt8) : List Value := [.string (bs p)]
theorem strC_length (p : List UInt8) : (strC p).length = 1 := rfl
abbrev flatS (xs : List (List UInt8)) : List Value := (xs.map strC).flatten
theorem getB_le {w : World} {g r : Nat} {l : List Ent} (h : StoreAt w g r l) (d : Dig) : (getB l d).length ≤ 131072 := by
 unfold getB
 show (match mfind Ent.k d l 0 with | some p => p.2.b | none => []).length ≤ 131072
 cases hp : mfind Ent.k d l 0 with
 | none => exact Nat.zero_le _
 | some p =>
  obtain ⟨_, hj, _⟩ := mfind_some hp
  exact h.short _ (List.mem_of_getElem? hj)
theorem bs_two (a b : List UInt8) : bs (a ++ b) = bs a ++ bs b := ByteArray.ext (by simp [bs])
theorem Holds.again {l l' : List Ent} {J : List (List UInt8)} {b : List UInt8} (h : Holds l J) (hb : b ∈ J) (hP : PutL l b l') : l' = l := by
 unfold PutL at hP
 rw [if_neg] at hP
 ·
  exact hP
 ·
  rintro ⟨h1, h2⟩
  by_cases hl : 131072 < b.length
  ·
   rw [putE, if_pos hl] at h1; omega
  ·
   have := (h.val _ _).2 ⟨hb, by omega, rfl⟩
   rw [valOf, h2] at this; cases this
end Go.Proofs.YtfanmpbapabboaaDoor
/- A list of texts, a byte, as arguments of this program. No condition. -/
namespace Go.Proofs.YtfanmpbapabboaaDoor
open Go.RowKit Go.Fw Go.WideShapes Go.ChangeShapes
theorem rd_ss : RdW Tryd.prog 22 (fun w cs => ∃ v xs, cs = [v] ∧ Sl w strC 1 v xs ∧ xs.length * Tryd.prog.bytesOf 9 ≤ reachBytes ∧ ∀ (i : Nat) x, xs[i]? = some x → x.length ≤ reachBytes) :=
 RdW.slice (enc := strC) (Q := fun _ x => x.length ≤ reachBytes) Tryd.underlying22 kr_ strC_length
  ((RdW.string Tryd.underlying9).mono fun w cs ⟨s, h1, h2⟩ => ⟨s.toList, by rw [h1, strC, bs_of], by rw [toList_length]; exact h2⟩)
theorem rd_dgs : RdW Tryd.prog 23 (fun w cs => ∃ v xs, cs = [v] ∧ Sl w digC 32 v xs ∧ xs.length * Tryd.prog.bytesOf 30 ≤ reachBytes ∧ ∀ (i : Nat) (x : Dig), xs[i]? = some x → True) :=
 RdW.slice (enc := digC) (Q := fun _ _ => True) Tryd.underlying23 kr_ digC_length (rd_dig.mono fun w cs ⟨x, h1⟩ => ⟨x, h1, trivial⟩)
theorem bytes_str : Tryd.prog.bytesOf 9 = 16 := by kernel_rfl
section
variable {H : Type} {en : TypeId × Value → H} {w : World} {v : Value} {d : DataW H} {ps : List MemPlace} {base : Nat}
set_option maxRecDepth 100000 in
theorem arg_ss (hv : Value.okWide Tryd.prog w .any base 22 v) (h : DataW.Trod en Tryd.prog w 0 (fun _ => true) true 22 v d ps) (hw : ∀ n ∈ d.weights Tryd.prog 22, n ≤ reachBytes) :
  ∃ xs, Sl w strC 1 v xs ∧ xs.length * 16 ≤ reachBytes ∧ ∀ x ∈ xs, x.length ≤ reachBytes := by
 obtain ⟨u, xs, hs, hb, hl, hq⟩ := rd_ss.arg h hw
 obtain ⟨a, m, c, rfl⟩ := okWide_slice Tryd.underlying22 hv
 simp [Value.cells] at hs
 subst hs
 rw [bytes_str] at hl
 exact ⟨xs, hb, hl, fun x hx => by obtain ⟨i, hi⟩ := List.getElem?_of_mem hx; exact hq i x hi⟩
set_option maxRecDepth 100000 in
theorem arg_dgsB (hv : Value.okWide Tryd.prog w .any base 23 v) (h : DataW.Trod en Tryd.prog w 0 (fun _ => true) true 23 v d ps) (hw : ∀ n ∈ d.weights Tryd.prog 23, n ≤ reachBytes) :
  ∃ xs, Sl w digC 32 v xs ∧ xs.length * 32 ≤ reachBytes := by
 obtain ⟨u, xs, hs, hb, hl, hq⟩ := rd_dgs.arg h hw
 obtain ⟨a, m, c, rfl⟩ := okWide_slice Tryd.underlying23 hv
 simp [Value.cells] at hs
 subst hs
 rw [show Tryd.prog.bytesOf 30 = 32 from by kernel_rfl] at hl
 exact ⟨xs, hb, hl⟩
end
end Go.Proofs.YtfanmpbapabboaaDoor
/- What a store takes: the plain part of pack.taken. No condition; no program run. -/
namespace Go.Proofs.YtfanmpbapabboaaDoor
open Go.RowKit Go.Fw Go.Pl Go.Sort
def keysOf (xs : List (List UInt8)) : List Dig := srtD (xs.map shaD)
structure TkOk (xs : List (List UInt8)) : Prop where
 short : ∀ b ∈ xs, b.length ≤ 131072
 coll : NoColl xs
 few : (keysOf xs).length ≤ 500
def TkErr (xs : List (List UInt8)) (e : Int) : Prop := ∃ (i : Nat) (b : List UInt8) (l : List Ent), xs[i]? = some b ∧ Holds l (xs.take i) ∧ (∀ x ∈ xs.take i, x.length ≤ 131072) ∧ l.length ≤ 500 ∧ e = putE l b ∧ e ≠ 0
theorem keysOf_mem {xs : List (List UInt8)} {d : Dig} : d ∈ keysOf xs ↔ ∃ b ∈ xs, shaD b = d := by
 unfold keysOf srtD
 rw [srt_mem]
 simp
theorem keysOf_up (xs : List (List UInt8)) : Up (keysOf xs) := srt_up _ _ List.Pairwise.nil
theorem holds_keys {l : List Ent} {xs : List (List UInt8)} (h : Holds l xs) (hs : ∀ b ∈ xs, b.length ≤ 131072) : namesL l = keysOf xs :=
 up_eq (namesL_up h.keys) (keysOf_up xs) fun d => by
  rw [names_val h.keys, keysOf_mem]
  constructor
  ·
   rintro ⟨x, hx⟩; obtain ⟨h1, _, h3⟩ := (h.val _ _).1 hx; exact ⟨x, h1, h3⟩
  ·
   rintro ⟨b, hb, rfl⟩; exact ⟨b, (h.val _ _).2 ⟨hb, hs b hb, rfl⟩⟩
theorem holds_ok {l : List Ent} {xs : List (List UInt8)} (h : Holds l xs) (hs : ∀ b ∈ xs, b.length ≤ 131072) (hf : l.length ≤ 500) : TkOk xs :=
 ⟨hs, h.noColl, by rw [← holds_keys h hs, namesL_length]; exact hf⟩
theorem up_nodup {l : List Dig} (h : Up l) : l.Nodup := h.imp fun {a b} hab => by
 rintro rfl
 rw [show lessB a a = false from bytesLess_self _] at hab
 cases hab
theorem tkErr_no {xs : List (List UInt8)} {e : Int} (h : TkErr xs e) : ¬ TkOk xs := by
 rintro ⟨h1, h2, h3⟩
 obtain ⟨i, b, l, hi, hl, hs, hf, rfl, hne⟩ := h
 have hb := List.mem_of_getElem? hi
 have hbl := h1 b hb
 unfold putE at hne
 rw [if_neg om_] at hne
 split at hne
 ·
  rename_i ht
  have hv := val_getB ht
  obtain ⟨g1, g2, g3⟩ := (hl.val _ _).1 hv
  have := h2 _ (List.mem_of_mem_take g1) _ hb g2 hbl g3
  rw [if_pos this] at hne
  exact hne rfl
 ·
  rename_i ht
  split at hne
  ·
   rename_i h5
   have hk := holds_keys hl hs
   have hlen : (namesL l).length = l.length := namesL_length l
   have hsub : ∀ d ∈ shaD b :: namesL l, d ∈ keysOf xs := by
    intro d hd
    rcases List.mem_cons.1 hd with rfl | hd
    ·
     exact keysOf_mem.2 ⟨b, hb, rfl⟩
    ·
     rw [hk] at hd
     obtain ⟨x, hx, rfl⟩ := keysOf_mem.1 hd
     exact keysOf_mem.2 ⟨x, List.mem_of_mem_take hx, rfl⟩
   have hnd : (shaD b :: namesL l).Nodup := by
    refine List.nodup_cons.2 ⟨fun hd => ?_, up_nodup (namesL_up hl.keys)⟩
    obtain ⟨e, he, hek⟩ := namesL_mem.1 hd
    obtain ⟨j, hj⟩ := at_mem hl.keys he
    rw [hek] at hj
    rw [hj] at ht
    exact ht rfl
   have := nodup_leD hnd hsub
   rw [List.length_cons, hlen] at this
   omega
  ·
   exact hne rfl
abbrev Obj := Dig × List UInt8
def objs (l : List Ent) : List Obj := (namesL l).map fun d => (d, getB l d)
theorem objs_length (l : List Ent) : (objs l).length = l.length := by rw [objs, List.length_map, namesL_length]
end Go.Proofs.YtfanmpbapabboaaDoor
/- What some heads need of a store's commits: the plain law of pack.Reach. No condition; no program run. -/
namespace Go.Proofs.YtfanmpbapabboaaDoor
open Go.RowKit Go.Fw Go.Pl Go.Sort
def okD (l : List Ent) (d : Dig) : Prop := ∃ x, valOf l d = some x ∧ decE x = 0
def parD (l : List Ent) (d : Dig) : List Dig := (decC (getB l d)).parents
inductive Rch (l : List Ent) (hs : List Dig) : Dig → Prop
 | head {d : Dig} : d ∈ hs → Rch l hs d
 | par {d p : Dig} : Rch l hs d → p ∈ parD l d → Rch l hs p
structure ReachOk (l : List Ent) (hs S : List Dig) : Prop where
 up : Up S
 mem : ∀ d, d ∈ S ↔ Rch l hs d
 ok : ∀ d ∈ S, okD l d
structure Met (l : List Ent) (hs M D : List Dig) : Prop where
 nodup : M.Nodup
 ok : ∀ d ∈ M, okD l d
 rch : ∀ d, d ∈ M ∨ d ∈ D → Rch l hs d
 hs : ∀ d ∈ hs, d ∈ M ∨ d ∈ D
 clo : ∀ d ∈ M, ∀ p ∈ parD l d, p ∈ M ∨ p ∈ D
theorem okD_name {l : List Ent} (hk : Unlike l) {d : Dig} (h : okD l d) : d ∈ namesL l := by
 obtain ⟨x, hx, _⟩ := h
 exact (names_val hk).2 ⟨x, hx⟩
theorem okD_get {l : List Ent} {d : Dig} (h : okD l d) : valOf l d = some (getB l d) := by
 obtain ⟨x, hx, _⟩ := h
 rw [hx, getB_val hx]
theorem okD_none {l : List Ent} {d : Dig} (h : getI l d ≠ 0) : ¬ okD l d := by
 rintro ⟨x, hx, _⟩
 refine h (if_pos ?_)
 rw [valOf] at hx
 cases ha : at_ l d with
 | none => rw [ha] at hx; cases hx
 | some p => rfl
theorem okD_bad {l : List Ent} {d : Dig} (h : decE (getB l d) ≠ 0) : ¬ okD l d := by
 rintro ⟨x, hx, h0⟩
 rw [getB_val hx] at h
 exact h h0
theorem okD_good {l : List Ent} {d : Dig} (h : ¬ getI l d ≠ 0) (h0 : ¬ decE (getB l d) ≠ 0) : okD l d := by
 refine ⟨_, val_getB ?_, Decidable.not_not.1 h0⟩
 cases ha : (at_ l d).isSome with
 | true => rfl
 | false => exact absurd (by rw [getI, ha]; decide) h
theorem Met.begin {l : List Ent} (hs : List Dig) : Met l hs [] hs := ⟨List.nodup_nil, fun d h => (by cases h), fun d h => h.elim (fun h => by cases h) .head, fun _ h => .inr h, fun d h => (by cases h)⟩
theorem Met.few {l : List Ent} {hs M D : List Dig} (h : Met l hs M D) (hk : Unlike l) : M.length ≤ l.length := by
 rw [← namesL_length]
 exact nodup_leD h.nodup fun d hd => okD_name hk (h.ok d hd)
theorem Met.skip {l : List Ent} {hs M D : List Dig} {d : Dig} (h : Met l hs M (D ++ [d])) (hd : d ∈ M) : Met l hs M D where
 nodup := h.nodup
 ok := h.ok
 rch x hx := h.rch x (hx.imp id fun hx => List.mem_append_left _ hx)
 hs x hx := by
  rcases h.hs x hx with h1 | h1
  ·
   exact .inl h1
  ·
   rcases List.mem_append.1 h1 with h1 | h1
   ·
    exact .inr h1
   ·
    rw [List.mem_singleton.1 h1]; exact .inl hd
 clo x hx p hp := by
  rcases h.clo x hx p hp with h1 | h1
  ·
   exact .inl h1
  ·
   rcases List.mem_append.1 h1 with h1 | h1
   ·
    exact .inr h1
   ·
    rw [List.mem_singleton.1 h1]; exact .inl hd
theorem Met.step {l : List Ent} {hs M D : List Dig} {d : Dig} (h : Met l hs M (D ++ [d])) (hd : d ∉ M) (hok : okD l d) : Met l hs (M ++ [d]) (D ++ parD l d) := by
 have hr : Rch l hs d := h.rch d (.inr (by simp))
 have mv : ∀ x, x ∈ M ∨ x ∈ D ++ [d] → x ∈ M ++ [d] ∨ x ∈ D ++ parD l d := fun x hx => by
  rcases hx with hx | hx
  ·
   exact .inl (List.mem_append_left _ hx)
  ·
   rcases List.mem_append.1 hx with hx | hx
   ·
    exact .inr (List.mem_append_left _ hx)
   ·
    exact .inl (List.mem_append_right _ hx)
 refine ⟨?_, fun x hx => ?_, fun x hx => ?_, fun x hx => mv x (h.hs x hx), fun x hx p hp => ?_⟩
 ·
  refine List.nodup_append.2 ⟨h.nodup, by simp, fun a ha b hb => ?_⟩
  rw [List.mem_singleton.1 hb]
  exact fun e => hd (e ▸ ha)
 ·
  rcases List.mem_append.1 hx with hx | hx
  ·
   exact h.ok x hx
  ·
   rw [List.mem_singleton.1 hx]; exact hok
 ·
  rcases hx with hx | hx
  ·
   rcases List.mem_append.1 hx with hx | hx
   ·
    exact h.rch x (.inl hx)
   ·
    rw [List.mem_singleton.1 hx]; exact hr
  ·
   rcases List.mem_append.1 hx with hx | hx
   ·
    exact h.rch x (.inr (List.mem_append_left _ hx))
   ·
    exact .par hr hx
 ·
  rcases List.mem_append.1 hx with hx | hx
  ·
   exact mv p (h.clo x hx p hp)
  ·
   rw [List.mem_singleton.1 hx] at hp; exact .inr (List.mem_append_right _ hp)
theorem Met.done {l : List Ent} {hs M : List Dig} (h : Met l hs M []) (d : Dig) : d ∈ M ↔ Rch l hs d := by
 constructor
 ·
  exact fun hd => h.rch d (.inl hd)
 ·
  intro hr
  induction hr with
  | head hd => exact (h.hs _ hd).elim id fun h => by cases h
  | par _ hp ih => exact (h.clo _ ih _ hp).elim id fun h => by cases h
theorem Met.reach {l : List Ent} {hs M : List Dig} (h : Met l hs M []) (hk : Unlike l) : ReachOk l hs ((namesL l).filter fun d => decide (d ∈ M)) where
 up := (namesL_up hk).filter _
 mem d := by
  rw [List.mem_filter, decide_eq_true_iff, ← h.done]
  exact ⟨fun h => h.2, fun hd => ⟨okD_name hk (h.ok d hd), hd⟩⟩
 ok d hd := h.ok d (by rw [List.mem_filter, decide_eq_true_iff] at hd; exact hd.2)
theorem parD_few {l : List Ent} {d : Dig} (h : okD l d) : (parD l d).length ≤ 8 := by
 obtain ⟨x, hx, h0⟩ := h
 rw [parD, getB_val hx]
 exact (mayI_ok (dec_ok h0).1).parents
theorem ReachOk.move {l k : List Ent} {hs S : List Dig} (h : ReachOk l hs S) (hv : ∀ d ∈ S, valOf k d = valOf l d) : ReachOk k hs S := by
 have hp : ∀ d ∈ S, parD k d = parD l d := fun d hd => by rw [parD, parD, getB_same (hv d hd)]
 refine ⟨h.up, fun d => ⟨fun hd => ?_, fun hr => ?_⟩, fun d hd => ?_⟩
 ·
  have hr := (h.mem d).1 hd
  clear hd
  induction hr with
  | head h1 => exact .head h1
  | par h1 h2 ih => exact .par ih (by rw [hp _ ((h.mem _).2 h1)]; exact h2)
 ·
  induction hr with
  | head h1 => exact (h.mem _).2 (.head h1)
  | par h1 h2 ih => rw [hp _ ih] at h2; exact (h.mem _).2 (.par ((h.mem _).1 ih) h2)
 ·
  obtain ⟨x, hx, h0⟩ := h.ok d hd
  exact ⟨x, (hv d hd).trans hx, h0⟩
theorem ReachOk.one {l : List Ent} {hs S T : List Dig} (h : ReachOk l hs S) (g : ReachOk l hs T) : S = T := up_eq h.up g.up fun d => by rw [h.mem, g.mem]
theorem ReachOk.good {l : List Ent} {hs S : List Dig} (h : ReachOk l hs S) {d : Dig} (hr : Rch l hs d) : okD l d := h.ok d ((h.mem d).2 hr)
theorem ReachOk.sha {l : List Ent} {xs : List (List UInt8)} {hs S : List Dig} (hH : Holds l xs) (h : ReachOk l hs S) {d : Dig} (hd : d ∈ S) : getB l d ∈ xs ∧ (getB l d).length ≤ 131072 ∧ shaD (getB l d) = d := (hH.val _ _).1 (okD_get (h.ok d hd))
theorem ReachOk.ids {l : List Ent} {xs : List (List UInt8)} {hs S : List Dig} (hH : Holds l xs) (h : ReachOk l hs S) : (S.map (getB l)).map shaD = S := by
 rw [List.map_map]
 conv => rhs; rw [← List.map_id S]
 exact List.map_congr_left fun d hd => (h.sha hH hd).2.2
theorem ReachOk.few {l : List Ent} {hs S : List Dig} (hk : Unlike l) (h : ReachOk l hs S) : S.length ≤ l.length := by
 rw [← namesL_length]
 exact nodup_leD (up_nodup h.up) fun d hd => okD_name hk (h.ok d hd)
theorem ReachOk.tk {l : List Ent} {xs : List (List UInt8)} {hs S : List Dig} (hH : Holds l xs) (hf : l.length ≤ 500) (h : ReachOk l hs S) : TkOk (S.map (getB l)) := by
 refine ⟨fun b hb => ?_, fun x hx y hy _ _ he => ?_, ?_⟩
 ·
  obtain ⟨d, hd, rfl⟩ := List.mem_map.1 hb
  exact (h.sha hH hd).2.1
 ·
  obtain ⟨d, hd, rfl⟩ := List.mem_map.1 hx
  obtain ⟨e, hd2, rfl⟩ := List.mem_map.1 hy
  rw [(h.sha hH hd).2.2, (h.sha hH hd2).2.2] at he
  rw [he]
 ·
  have : keysOf (S.map (getB l)) = S := up_eq (keysOf_up _) h.up fun d => by
   rw [keysOf_mem]
   constructor
   ·
    rintro ⟨b, hb, rfl⟩
    obtain ⟨e, he, rfl⟩ := List.mem_map.1 hb
    rw [(h.sha hH he).2.2]; exact he
   ·
    exact fun hd => ⟨_, List.mem_map_of_mem hd, (h.sha hH hd).2.2⟩
  rw [this]
  have := h.few hH.keys
  omega
theorem ReachOk.again {l k : List Ent} {xs : List (List UInt8)} {hs S : List Dig} (hH : Holds l xs) (h : ReachOk l hs S) (hG : Holds k (S.map (getB l))) : ReachOk k hs S ∧ S.map (getB k) = S.map (getB l) := by
 have hv : ∀ d ∈ S, valOf k d = valOf l d := fun d hd => by
  rw [okD_get (h.ok d hd)]
  exact (hG.val _ _).2 ⟨List.mem_map_of_mem hd, (h.sha hH hd).2⟩
 exact ⟨h.move hv, List.map_congr_left fun d hd => getB_same (hv d hd)⟩
theorem ReachOk.more {l k : List Ent} {xs ms : List (List UInt8)} {hs S : List Dig} (hH : Holds l xs) (h : ReachOk l hs S) (hG : Holds k (xs ++ ms)) : ReachOk k hs S ∧ S.map (getB k) = S.map (getB l) := by
 have hv : ∀ d ∈ S, valOf k d = valOf l d := fun d hd => by
  rw [okD_get (h.ok d hd)]
  obtain ⟨h1, h2⟩ := h.sha hH hd
  exact (hG.val _ _).2 ⟨List.mem_append_left _ h1, h2⟩
 exact ⟨h.move hv, List.map_congr_left fun d hd => getB_same (hv d hd)⟩
theorem tkErr_not5 {xs : List (List UInt8)} {e : Int} (h : TkErr xs e) : e ≠ 5 := by
 obtain ⟨_, b, l, _, _, _, _, rfl, _⟩ := h
 rcases putE_cases l b with h | h | h | h <;> rw [h] <;> decide
end Go.Proofs.YtfanmpbapabboaaDoor
/- pack.taken, walked. No condition. -/
namespace Go.Proofs.YtfanmpbapabboaaDoor
open Go.RowKit Go.Fw Go.Pl Go.Sort
theorem Holds.put0 {l l' : List Ent} {J : List (List UInt8)} {b : List UInt8} (h : Holds l J) (he : putE l b = 0) (hP : PutL l b l') (hk : Unlike l') : Holds l' (J ++ [b]) := by
 by_cases hs : (at_ l (shaD b)).isSome = true
 ·
  have hl : ¬ 131072 < b.length := fun hl => by rw [putE, if_pos hl] at he; omega
  have hg : getB l (shaD b) = b := by
   by_cases hb : getB l (shaD b) = b
   ·
    exact hb
   ·
    rw [putE, if_neg hl, if_pos hs, if_neg hb] at he; omega
  have hv := val_getB hs
  rw [hg] at hv
  have hb := ((h.val _ _).1 hv).1
  unfold PutL at hP
  rw [if_neg (by rintro ⟨_, hn⟩; rw [hn] at hs; cases hs)] at hP
  subst hP
  exact h.congr fun x => by
   rw [List.mem_append, List.mem_singleton]
   exact ⟨.inl, fun hx => hx.elim id fun e => e ▸ hb⟩
 ·
  refine h.put om_ ?_ hP hk
  rcases Nat.lt_or_ge l.length 500 with h5 | h5
  ·
   exact h5
  ·
   have hl : ¬ 131072 < b.length := fun hl => by rw [putE, if_pos hl] at he; omega
   rw [putE, if_neg hl, if_neg hs, if_pos h5] at he; omega
set_option maxRecDepth 20000 in
theorem taken_any (u : Value) (xs : List (List UInt8)) (w : World) (hu : Sl w strC 1 u xs) (hs : ∀ x ∈ xs, x.length ≤ 140737488351232) (hK : Mem w ⟨0, 0, none⟩ (wds keysL)) : Calls Tryd.prog 10 #[u] w (Ret fun r w' => ∃ p e, r = .tuple #[p, .int .i64 e] ∧ (e ≠ 0 → TkErr xs e ∧ p = .pointer none) ∧ (e = 0 → ∃ g r' l, p = .pointer (some ⟨g, 0, none⟩) ∧ StoreAt w' g r' l ∧ Holds l xs ∧ (∀ b ∈ xs, b.length ≤ 131072) ∧ w.heap.size ≤ g ∧ w.heap.size ≤ r' ∧ ∀ e ∈ l, ∀ k, e.v.ownBlock = some k → w.heap.size ≤ k) ∧ Ext w w') := by
 have hK0 := hK
 have hk0 : (0 : Nat) < w.heap.size := hK.lt (fun h => by cases h)
 obtain ⟨A, m, c, rfl, hm, hmc, hcm, hux⟩ := hu
 unfold maxLen at hcm
 refine calls_of_CW 28 [2, 3] [(0, .slice A m c)] Tryd.func10 rfl rfl rfl (by simp) args1 ?_
 have hE : Ext w w := Chg.refl
 refine CW.sr fun K1 hK1 => ?_
 refine WL.a rfl ?_
 refine WL.a rfl ?_
 refine WL.nil (hK1 _ _ ?_); try clear hK1
 refine CW.sr fun K2 hK2 => ?_
 refine WL.call Tryd.func21 rfl rfl rfl (stNew_any _) (by simp) ?_; rintro v9 w1 hR1
 obtain ⟨g, r, rfl, hg, hr, hT, hx1⟩ := hR1
 have hz1 := hx1.size
 have hE := hE.thenExt hx1
 refine WL.a rfl ?_
 refine WL.nil (hK2 _ _ ?_); try clear hK2
 refine CW.seq fun K3 hK3 => ?_
 refine CW.sr fun K4 hK4 => ?_
 refine WL.m rfl ?_
 refine WL.v (Y.len_slice Tryd.underlying22 rfl) ?_
 refine WL.m rfl ?_
 refine WL.nil (hK4 _ _ ?_); try clear hK4
 refine CW.block ?_
 refine CW.loop (X := List Ent × Nat) (fun x => [(4, .pointer (some ⟨g, 0, none⟩)), (10, .slice A m c), (11, .int .i64 (m : Int)), (12, .int .i64 (x.2 : Int))]) (fun x w0 => x.2 ≤ m ∧ Holds x.1 (xs.take x.2) ∧ (∀ b ∈ xs.take x.2, b.length ≤ 131072) ∧ StoreAt w0 g r x.1 ∧ (∀ e ∈ x.1, ∀ k, e.v.ownBlock = some k → w.heap.size ≤ k) ∧ Ext w w0) (fun x => m - x.2) ([], 0) Fr.ok ⟨Nat.zero_le _, by simpa using Holds.nil, (fun b hb => by simp at hb), hT, (fun e he => nomatch he), hE⟩ ?_
 intro x w2 hl2
 clear hT hE
 obtain ⟨l, x⟩ := x
 dsimp only at hl2 ⊢
 obtain ⟨hx, hH, hsh, hT, hef, hE⟩ := hl2
 have hzE := hE.size
 have hgr := hT.lt
 refine CW.sr fun K5 hK5 => ?_
 refine WL.v (Y.lss rfl rfl) ?_
 refine WL.nil (hK5 _ _ ?_); try clear hK5
 refine CW.seq fun K6 hK6 => ?_
 (first | refine cd_ rfl ?_ ?_ | refine ce_ rfl ?_ ?_ | refine cn_ rfl ?_ ?_ | refine cb_ rfl ?_ ?_) <;> intro ht7
 ·
  -- then
  refine CW.skip ?_
  refine hK6 _ _ ?_; try clear hK6
  refine CW.seq fun K8 hK8 => ?_
  refine CW.block ?_
  refine CW.seq fun K9 hK9 => ?_
  obtain ⟨b, hb⟩ : ∃ y, xs[x]? = some y := ⟨_, List.getElem?_eq_getElem om_⟩; obtain ⟨a, rfl, hma⟩ := hux _ _ hb; have hbs := hs _ (List.mem_of_getElem? hb); refine CW.region ?_
  refine WL.v (Y.indexAddrN Tryd.underlying22 rfl rfl sz0_string om_) ?_
  refine WL.v (Y.load1 Tryd.underlying9 rfl ((hma.ext hE).cell0) rfl) ?_
  refine WL.a rfl ?_
  refine WL.nil (hK9 _ _ ?_); try clear hK9
  refine CW.sr fun K10 hK10 => ?_
  refine WL.m rfl ?_
  refine WL.m rfl ?_
  refine WL.st (St.strBytes Tryd.underlying9 Tryd.underlying32 Tryd.underlying5 rfl (by rw [bs_size]; exact hbs)) de_ fun v19 w3 hR3 => ?_
  obtain ⟨hO, hx3, hf3⟩ := hR3
  rw [bs_toList] at hO
  have hz3 := hx3.size
  have hE := hE.thenExt hx3
  have hT := hT.ext hx3
  have hOl := hO.lt
  refine WL.call Tryd.func22 rfl rfl rfl (stPut_any g r l _ b _ hT (hK0.ext hE) o2_ hO.by (fun _ k hk => by have := hf3 k hk; have := hOl k hk; omega)) (by simp) ?_; rintro v20 w4 hR4
  have hT0 := hT
  obtain ⟨rfl, ⟨l2, ⟨hP, hF⟩, hT⟩, hc4⟩ := hR4
  have hz4 := hc4.size
  have hE := hE.step hc4 (fun k h => by rcases h with h | h <;> omega)
  refine WL.m rfl ?_
  refine WL.v (Y.extract rfl rfl) ?_
  refine WL.v (Y.extract rfl rfl) ?_
  refine as_apiDigest rfl (by simp) de_ fun g7 w5 hx5 hg7 hB7 => ?_
  have hlt7 := hB7.lt; have hz5 := hx5.size
  have hM7 := hB7.mem; have hz5 := hx5.size; have hE := hE.thenExt hx5
  refine WL.a rfl ?_
  refine WL.nil (hK10 _ _ ?_); try clear hK10
  refine CW.sr fun K11 hK11 => ?_
  refine WL.m rfl ?_
  refine WL.v (Y.neq rfl rfl) ?_
  refine WL.nil (hK11 _ _ ?_); try clear hK11
  (first | refine cd_ rfl ?_ ?_ | refine ce_ rfl ?_ ?_ | refine cn_ rfl ?_ ?_ | refine cb_ rfl ?_ ?_) <;> intro ht12
  ·
   -- then
   refine CW.sr fun K13 hK13 => ?_
   refine WL.m rfl ?_
   refine WL.a rfl ?_
   refine WL.a rfl ?_
   refine WL.nil (hK13 _ _ ?_); try clear hK13
   refine CW.ret ⟨_, rfl, ?_⟩
   exact ⟨_, _, rfl, fun hne => ⟨⟨x, b, l, hb, hH, hsh, hT0.few, rfl, hne⟩, rfl⟩, fun h0 => absurd h0 (by assumption), hE⟩
  refine CW.skip ?_
  refine hK8 _ _ ?_; try clear hK8
  refine CW.region ?_
  refine WL.v (Y.add rfl rfl o2_) ?_
  refine WL.m rfl ?_
  refine WL.nil ?_
  have he : putE l b = 0 := Decidable.not_not.1 (by assumption)
  have hbl : b.length ≤ 131072 := by
   rcases Nat.lt_or_ge 131072 b.length with h | h
   ·
    rw [putE, if_pos h] at he; omega
   ·
    exact h
  refine ⟨(l2, x + 1), by show m - (x + 1) < m - x; omega, Fr.ok, by show x + 1 ≤ m; omega, ?_, ?_, hT.ext hx5, ?_, hE⟩
  ·
   show Holds l2 (xs.take (x + 1))
   rw [take_succ hb]
   exact hH.put0 he hP hT.keys
  ·
   show ∀ b ∈ xs.take (x + 1), _
   rw [take_succ hb]
   intro y hy
   rcases List.mem_append.1 hy with hy | hy
   ·
    exact hsh y hy
   ·
    simp at hy; subst hy; exact hbl
  ·
   intro e he2 k hk
   rcases hF e he2 with h | h
   ·
    exact hef e h k hk
   ·
    have := h k hk; omega
 refine CW.exit ?_
 refine hK3 _ _ ?_; try clear hK3
 refine CW.sr fun K14 hK14 => ?_
 refine WL.m rfl ?_
 refine WL.a rfl ?_
 refine WL.a rfl ?_
 refine WL.nil (hK14 _ _ ?_); try clear hK14
 refine CW.ret ⟨_, rfl, ?_⟩
 rw [List.take_of_length_le om_] at hH hsh
 exact ⟨_, _, rfl, fun hne => absurd rfl hne, fun _ => ⟨g, r, l, rfl, hT, hH, hsh, by omega, by omega, hef⟩, hE⟩
end Go.Proofs.YtfanmpbapabboaaDoor
/- The reference's store: Find, Get, Size, walked. No condition. -/
namespace Go.Fw
section
variable {w : World} {a : Addr} {u v : Value} (h : Mem w a [u, v])
include h
end
end Go.Fw
namespace Go.Pl
open Go.Fw
abbrev RL := List (Dig × List UInt8)
abbrev rAt (rs : RL) (d : Dig) : Option (Nat × (Dig × List UInt8)) := mfind Prod.fst d rs 0
def rFind (rs : RL) (d : Dig) : Int := match rAt rs d with | some p => (p.1 : Int) | none => -1
def rGetB (rs : RL) (d : Dig) : List UInt8 := match rAt rs d with | some p => p.2.2 | none => []
end Go.Pl
namespace Go.Proofs.YtfanmpbapabboaaDoor
open Go.RowKit Go.Fw Go.Pl Go.Sort
section
variable {w w' : World} {g : Nat} {u v : Value} {rs : RL} {S : Nat → Prop}
end
end Go.Proofs.YtfanmpbapabboaaDoor
/- The reference's store: Put, walked. No condition. -/
namespace Go.Fw
end Go.Fw
namespace Go.Pl
open Go.Fw
def rPutE (rs : RL) (b : List UInt8) : Int := if 131072 < b.length then 3 else if 0 ≤ rFind rs (shaD b) then (if rGetB rs (shaD b) = b then 0 else 10) else if 500 ≤ rs.length then 14 else 0
def rPutL (rs : RL) (b : List UInt8) : RL := if rPutE rs b = 0 ∧ ¬ 0 ≤ rFind rs (shaD b) then rs ++ [(shaD b, b)] else rs
theorem rPutL_same {rs : RL} {b : List UInt8} (h : rPutE rs b ≠ 0 ∨ 0 ≤ rFind rs (shaD b)) : rPutL rs b = rs := by
 rw [rPutL, if_neg (by rintro ⟨h1, h2⟩; rcases h with h | h; exact h h1; exact h2 h)]
end Go.Pl
namespace Go.Proofs.YtfanmpbapabboaaDoor
open Go.RowKit Go.Fw Go.Pl Go.Sort
end Go.Proofs.YtfanmpbapabboaaDoor
/- The reference's store: Drop, walked. No condition. -/
namespace Go.Pl
open Go.Fw
def skipL (rs : RL) (f : Int) (x : Nat) : RL := if 0 ≤ f ∧ f < x then (rs.take x).eraseIdx f.toNat else rs.take x
def rDropL (rs : RL) (d : Dig) : RL := skipL rs (rFind rs d) rs.length
end Go.Pl
namespace Go.Proofs.YtfanmpbapabboaaDoor
open Go.RowKit Go.Fw Go.Pl Go.Sort
end Go.Proofs.YtfanmpbapabboaaDoor
/- The reference's store: Copy, walked. No condition. -/
namespace Go.Fw
theorem St.box {P : Program} {n : NN} {fr : Fr} {w : World} {ty t : TypeId} {x : Operand} {v : Value} {cs : List Value} (hx : ev fr x = some v) (hv : v.cells = cs.toArray) :
  St P n fr (.box t x) ty w (fun v' w' => ∃ g, v' = .pointer (some ⟨g, 0, none⟩) ∧ w.heap.size ≤ g ∧ Blk w' g t cs ∧ Ext w w') := fun a o' ho hty ha => by
 refine ⟨_, w.alloc (.cells cs.toArray t), ?_, w.heap.size, rfl, Nat.le_refl _, Blk.new w t cs, Chg.alloc _⟩
 simp [execOp, ho, ha.ev hx, Instr.box, newVar, newRow, hv]
end Go.Fw
namespace Go.Proofs.YtfanmpbapabboaaDoor
open Go.RowKit Go.Fw Go.Pl Go.Sort
end Go.Proofs.YtfanmpbapabboaaDoor
/- A store's Copy, walked. No condition. -/
namespace Go.Pl
open Go.Fw
abbrev Ent.kvb (e : Ent) : Dig × Value × List UInt8 := (e.k, e.v, e.b)
end Go.Pl
namespace Go.Proofs.YtfanmpbapabboaaDoor
open Go.RowKit Go.Fw Go.Pl Go.Sort
end Go.Proofs.YtfanmpbapabboaaDoor
