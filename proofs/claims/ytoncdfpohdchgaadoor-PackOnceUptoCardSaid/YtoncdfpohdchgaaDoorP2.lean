/- Several texts as one: Pw, Pa, Re, Pb. -/
import Derived.Test.YtoncdfpohdchgaaDoorP1
import Derived.Test.YtoncdfpohdchgaaDoorX2
import Derived.Test.YtoncdfpohdchgaaDoorX1
import Derived.Test.YtoncdfpohdchgaaDoorM2
import Derived.Test.YtoncdfpohdchgaaDoorRg
import Derived.Test.YtoncdfpohdchgaaDoorKg
set_option linter.unusedSimpArgs false
set_option linter.unusedVariables false
/- The plain law of a pack that is written. No condition; no program run. -/
namespace Go.Proofs.YtoncdfpohdchgaaDoor
open Go.RowKit Go.Fw Go.Pl Go.Sort
/-! ## What may be taken -/
def keysOf (xs : List (List UInt8)) : List Dig := srtD (xs.map shaD)
/-- Objects that a store takes. -/
structure TkOk (xs : List (List UInt8)) : Prop where
  short : ∀ b ∈ xs, b.length ≤ 131072
  coll : NoColl xs
  few : (keysOf xs).length ≤ 500
/-- The first object that is refused, and why. -/
def TkErr (xs : List (List UInt8)) (e : Int) : Prop := ∃ (i : Nat) (b : List UInt8) (l : List Ent), xs[i]? = some b ∧ Holds l (xs.take i) ∧ (∀ x ∈ xs.take i, x.length ≤ 131072) ∧ l.length ≤ 500 ∧ e = putE l b ∧ e ≠ 0
theorem keysOf_mem {xs : List (List UInt8)} {d : Dig} : d ∈ keysOf xs ↔ ∃ b ∈ xs, shaD b = d := by
  unfold keysOf srtD
  rw [srt_mem]
  simp
theorem keysOf_up (xs : List (List UInt8)) : Up (keysOf xs) := srt_up _ _ List.Pairwise.nil
theorem holds_keys {l : List Ent} {xs : List (List UInt8)} (h : Holds l xs) (hs : ∀ b ∈ xs, b.length ≤ 131072) : namesL l = keysOf xs :=
  up_eq (namesL_up h.keys) (keysOf_up xs) fun d => by
    rw [names_val h.keys, keysOf_mem]
    constructor
    · rintro ⟨x, hx⟩; obtain ⟨h1, _, h3⟩ := (h.val _ _).1 hx; exact ⟨x, h1, h3⟩
    · rintro ⟨b, hb, rfl⟩; exact ⟨b, (h.val _ _).2 ⟨hb, hs b hb, rfl⟩⟩
theorem holds_ok {l : List Ent} {xs : List (List UInt8)} (h : Holds l xs) (hs : ∀ b ∈ xs, b.length ≤ 131072) (hf : l.length ≤ 500) : TkOk xs :=
  ⟨hs, h.noColl, by rw [← holds_keys h hs, namesL_length]; exact hf⟩
theorem up_nodup {l : List Dig} (h : Up l) : l.Nodup := h.imp fun {a b} hab => by
  rintro rfl
  rw [show lessB a a = false from bytesLess_self _] at hab
  cases hab
theorem tkErr_no {xs : List (List UInt8)} {e : Int} (h : TkErr xs e) : ¬ TkOk xs := by
  rintro ⟨h1, h2, h3⟩
  obtain ⟨i, b, l, hi, hl, hs, hf, rfl, hne⟩ := h
  have hb := List.mem_of_getElem? hi
  have hbl := h1 b hb
  unfold putE at hne
  rw [if_neg (by omega)] at hne
  split at hne
  · rename_i ht
    have hv := val_getB ht
    obtain ⟨g1, g2, g3⟩ := (hl.val _ _).1 hv
    have := h2 _ (List.mem_of_mem_take g1) _ hb g2 hbl g3
    rw [if_pos this] at hne
    exact hne rfl
  · rename_i ht
    split at hne
    · rename_i h5
      have hk := holds_keys hl hs
      have hlen : (namesL l).length = l.length := namesL_length l
      have hsub : ∀ d ∈ shaD b :: namesL l, d ∈ keysOf xs := by
        intro d hd
        rcases List.mem_cons.1 hd with rfl | hd
        · exact keysOf_mem.2 ⟨b, hb, rfl⟩
        · rw [hk] at hd
          obtain ⟨x, hx, rfl⟩ := keysOf_mem.1 hd
          exact keysOf_mem.2 ⟨x, List.mem_of_mem_take hx, rfl⟩
      have hnd : (shaD b :: namesL l).Nodup := by
        refine List.nodup_cons.2 ⟨fun hd => ?_, up_nodup (namesL_up hl.keys)⟩
        obtain ⟨e, he, hek⟩ := namesL_mem.1 hd
        obtain ⟨j, hj⟩ := at_mem hl.keys he
        rw [hek] at hj
        rw [hj] at ht
        exact ht rfl
      have := nodup_leD hnd hsub
      rw [List.length_cons, hlen] at this
      omega
    · exact hne rfl
/-! ## Writing -/
abbrev Obj := Dig × List UInt8
/-- The objects of a store, rising by digest. -/
def objs (l : List Ent) : List Obj := (namesL l).map fun d => (d, getB l d)
theorem objs_length (l : List Ent) : (objs l).length = l.length := by rw [objs, List.length_map, namesL_length]
theorem objs_same {s t : List Ent} (hs : Unlike s) (ht : Unlike t) (h : ∀ d, valOf s d = valOf t d) : objs s = objs t := by
  rw [objs, objs, names_same hs ht h]
  exact List.map_congr_left fun d _ => by rw [getB_same (h d)]
def toldK (ahead b : List UInt8) (first : Bool) (depth : Nat) : Nat := if first = true ∨ 4 ≤ depth then 0 else if mkE ahead b ≠ 0 ∨ b.length ≤ (mkR ahead b).length then 0 else 1
def toldB (ahead b : List UInt8) (first : Bool) (depth : Nat) : List UInt8 := if toldK ahead b first depth = 0 then b else mkR ahead b
theorem toldK_cases (ahead b : List UInt8) (first : Bool) (depth : Nat) : toldK ahead b first depth = 0 ∨ toldK ahead b first depth = 1 := by
  unfold toldK; split
  · exact .inl rfl
  · split
    · exact .inl rfl
    · exact .inr rfl
theorem toldB_len (ahead b : List UInt8) (first : Bool) (depth : Nat) : (toldB ahead b first depth).length ≤ b.length := by
  unfold toldB
  split
  · exact Nat.le_refl _
  · rename_i h
    unfold toldK at h
    split at h
    · exact absurd rfl h
    · split at h
      · exact absurd rfl h
      · rename_i h2
        have := not_or.1 h2
        omega
structure WS where
  out : List UInt8
  depth : Nat
  ahead : List UInt8
  first : Bool
def wPiece (s : WS) (o : Obj) : List UInt8 := o.1.1 ++ vi (toldK s.ahead o.2 s.first s.depth) ++ textB (toldB s.ahead o.2 s.first s.depth)
def wStep (s : WS) (o : Obj) : WS := ⟨s.out ++ wPiece s o, (s.depth + 1) * toldK s.ahead o.2 s.first s.depth, o.2, false⟩
def wRun : List Obj → WS → Option WS
  | [], s => some s
  | o :: r, s => if 1048544 < (wStep s o).out.length then none else wRun r (wStep s o)
def wBegin (n : Nat) : WS := ⟨[82, 80, 49] ++ vi n, 0, [], true⟩
/-- The pack of these objects. -/
def wrR (os : List Obj) : List UInt8 × Int := match wRun os (wBegin os.length) with
  | none => ([], 3)
  | some s => (s.out ++ (shaD s.out).1, 0)
theorem wDepth (s : WS) (o : Obj) : (wStep s o).depth ≤ 4 ∨ False := by
  unfold wStep
  simp only []
  rcases toldK_cases s.ahead o.2 s.first s.depth with h | h
  · rw [h]; left; omega
  · left
    have h4 : ¬ (s.first = true ∨ 4 ≤ s.depth) := by
      intro hx; unfold toldK at h; rw [if_pos hx] at h; cases h
    have := (not_or.1 h4).2
    rw [h]; omega
theorem wPiece_len (s : WS) (o : Obj) (h : o.2.length ≤ 131072) : (wPiece s o).length ≤ 131200 := by
  have h1 := o.1.2
  have h2 := toldB_len s.ahead o.2 s.first s.depth
  have h3 := vi_len9 (n := toldK s.ahead o.2 s.first s.depth) (by rcases toldK_cases s.ahead o.2 s.first s.depth with h | h <;> omega)
  have h4 := vi_len9 (n := (toldB s.ahead o.2 s.first s.depth).length) (by omega)
  simp only [wPiece, textB, List.length_append]
  omega
end Go.Proofs.YtoncdfpohdchgaaDoor

/- Packs are written: pack.taken, num, told, walked. No condition. -/
namespace Go.Proofs.YtoncdfpohdchgaaDoor
open Go.RowKit Go.Fw Go.Pl Go.Sort
theorem Holds.put0 {l l' : List Ent} {J : List (List UInt8)} {b : List UInt8} (h : Holds l J) (he : putE l b = 0) (hP : PutL l b l') (hk : Unlike l') : Holds l' (J ++ [b]) := by
  by_cases hs : (at_ l (shaD b)).isSome = true
  · have hl : ¬ 131072 < b.length := fun hl => by rw [putE, if_pos hl] at he; omega
    have hg : getB l (shaD b) = b := by
      by_cases hb : getB l (shaD b) = b
      · exact hb
      · rw [putE, if_neg hl, if_pos hs, if_neg hb] at he; omega
    have hv := val_getB hs
    rw [hg] at hv
    have hb := ((h.val _ _).1 hv).1
    unfold PutL at hP
    rw [if_neg (by rintro ⟨_, hn⟩; rw [hn] at hs; cases hs)] at hP
    subst hP
    exact h.congr fun x => by
      rw [List.mem_append, List.mem_singleton]
      exact ⟨.inl, fun hx => hx.elim id fun e => e ▸ hb⟩
  · refine h.put (by omega) ?_ hP hk
    rcases Nat.lt_or_ge l.length 500 with h5 | h5
    · exact h5
    · have hl : ¬ 131072 < b.length := fun hl => by rw [putE, if_pos hl] at he; omega
      rw [putE, if_neg hl, if_neg hs, if_pos h5] at he; omega

set_option maxRecDepth 20000 in
theorem taken_any (u : Value) (xs : List (List UInt8)) (w : World) (hu : Sl w strC 1 u xs) (hs : ∀ x ∈ xs, x.length ≤ 140737488351232) (hK : Mem w ⟨0, 0, none⟩ (wds keysL)) : Calls Tryd.prog 21 #[u] w (Ret fun r w' => ∃ p e, r = .tuple #[p, .int .i64 e] ∧ (e ≠ 0 → TkErr xs e ∧ p = .pointer none) ∧ (e = 0 → ∃ g r' l, p = .pointer (some ⟨g, 0, none⟩) ∧ StoreAt w' g r' l ∧ Holds l xs ∧ (∀ b ∈ xs, b.length ≤ 131072) ∧ w.heap.size ≤ g ∧ w.heap.size ≤ r' ∧ ∀ e ∈ l, ∀ k, e.v.ownBlock = some k → w.heap.size ≤ k) ∧ Ext w w') := by
  have hK0 := hK
  have hk0 : (0 : Nat) < w.heap.size := hK.lt (fun h => by cases h)
  obtain ⟨A, m, c, rfl, hm, hmc, hcm, hux⟩ := hu
  unfold maxLen at hcm
  refine calls_of_CW 28 [2, 3] [(0, .slice A m c)] Tryd.func21 rfl rfl rfl (by simp) args1 ?_
  have hE : Ext w w := Chg.refl
  refine CW.seq fun K1 hK1 => ?_
  refine CW.region ?_   -- region 0
  refine WL.val (Y.assign rfl) (by decide) ?_   -- t2 := assign c(['Go.Value.pointer', 'none'])
  refine WL.val (Y.assign rfl) (by decide) ?_   -- t3 := assign c(0:i64)
  refine WL.nil ?_
  refine hK1 _ _ ?_; try clear hK1 K1
  refine CW.seq fun K2 hK2 => ?_
  refine CW.region ?_   -- region 1
  refine WL.call Tryd.func39 rfl rfl rfl (stNew_any _) (by simp) ?_; rintro v9 w1 hR1   -- t9 := call F39() : 
  obtain ⟨g, r, rfl, hg, hr, hT, hx1⟩ := hR1
  have hz1 := hx1.size
  have hE := hE.thenExt hx1
  refine WL.val (Y.assign rfl) (by decide) ?_   -- t4 := assign t9
  refine WL.nil ?_
  refine hK2 _ _ ?_; try clear hK2 K2
  refine CW.seq fun K3 hK3 => ?_
  refine CW.seq fun K4 hK4 => ?_
  refine CW.region ?_   -- region 2
  refine WL.val (Y.move rfl) (by decide) ?_   -- t10 := move t0
  refine WL.val (Y.len_slice Tryd.underlying22 rfl) (by decide) ?_   -- t11 := call len(t10) : 22
  refine WL.val (Y.move rfl) (by decide) ?_   -- t12 := move c(0:i64)
  refine WL.nil ?_
  refine hK4 _ _ ?_; try clear hK4 K4
  refine CW.block ?_   -- block 0
  refine CW.loop (X := List Ent × Nat) (fun x => [(4, .pointer (some ⟨g, 0, none⟩)), (10, .slice A m c), (11, .int .i64 (m : Int)), (12, .int .i64 (x.2 : Int))]) (fun x w0 => x.2 ≤ m ∧ Holds x.1 (xs.take x.2) ∧ (∀ b ∈ xs.take x.2, b.length ≤ 131072) ∧ StoreAt w0 g r x.1 ∧ (∀ e ∈ x.1, ∀ k, e.v.ownBlock = some k → w.heap.size ≤ k) ∧ Ext w w0) (fun x => m - x.2) ([], 0) (by repeat (first | exact Fr.le.nil | refine Fr.le.cons rfl ?_)) ⟨Nat.zero_le _, by simpa using Holds.nil, (fun b hb => by simp at hb), hT, (fun e he => nomatch he), hE⟩ ?_
  intro x w2 hl2
  clear hT hE
  obtain ⟨l, x⟩ := x
  dsimp only at hl2 ⊢
  obtain ⟨hx, hH, hsh, hT, hef, hE⟩ := hl2
  have hzE := hE.size
  have hgr := hT.lt
  refine CW.seq fun K5 hK5 => ?_
  refine CW.region ?_   -- region 3
  refine WL.val (Y.lss rfl rfl) (by decide) ?_   -- t13 := binOp lss 3 t12 t11 3
  refine WL.nil ?_
  refine hK5 _ _ ?_; try clear hK5 K5
  refine CW.seq fun K6 hK6 => ?_
  first | refine CW.condD rfl (fun ht7 => ?_) (fun ht7 => ?_) | refine CW.condND rfl (fun ht7 => ?_) (fun ht7 => ?_) | refine CW.condN rfl (fun ht7 => ?_) (fun ht7 => ?_) | refine CW.cond rfl (fun ht7 => ?_) (fun ht7 => ?_)
  · -- then
    refine CW.skip ?_
    refine hK6 _ _ ?_; try clear hK6 K6
    refine CW.seq fun K8 hK8 => ?_
    refine CW.block ?_   -- block 1
    refine CW.seq fun K9 hK9 => ?_
    obtain ⟨b, hb⟩ : ∃ y, xs[x]? = some y := ⟨_, List.getElem?_eq_getElem (by omega)⟩; obtain ⟨a, rfl, hma⟩ := hux _ _ hb; have hbs := hs _ (List.mem_of_getElem? hb); refine CW.region ?_
    refine WL.val (Y.indexAddrN Tryd.underlying22 rfl rfl sz0_string (by omega)) (by decide) ?_   -- t14 := indexAddr 22 t10 t12
    refine WL.val (Y.load1 Tryd.underlying9 rfl ((hma.ext hE).cell0) rfl) (by decide) ?_   -- t15 := load 9 t14
    refine WL.val (Y.assign rfl) (by decide) ?_   -- t6 := assign t15
    refine WL.nil ?_
    refine hK9 _ _ ?_; try clear hK9 K9
    refine CW.seq fun K10 hK10 => ?_
    refine CW.region ?_   -- region 5
    refine WL.val (Y.move rfl) (by decide) ?_   -- t17 := move t4
    refine WL.val (Y.move rfl) (by decide) ?_   -- t18 := move t6
    refine WL.st (St.strBytes Tryd.underlying9 Tryd.underlying33 Tryd.underlying5 rfl (by rw [bs_size]; exact hbs)) (by decide) fun v19 w3 hR3 => ?_   -- t19 := convert 9 33 t18
    obtain ⟨hO, hx3, hf3⟩ := hR3
    rw [bs_toList] at hO
    have hz3 := hx3.size
    have hE := hE.thenExt hx3
    have hT := hT.ext hx3
    have hOl := hO.lt
    refine WL.call Tryd.func40 rfl rfl rfl (stPut_any g r l _ b _ hT (hK0.ext hE) ⟨by omega, by omega⟩ hO.by (fun _ k hk => by have := hf3 k hk; have := hOl k hk; omega)) (by simp) ?_; rintro v20 w4 hR4   -- t20 := call F40(t17, t19) : 49,33
    have hT0 := hT
    obtain ⟨rfl, ⟨l2, ⟨hP, hF⟩, hT⟩, hc4⟩ := hR4
    have hz4 := hc4.size
    have hE := hE.step hc4 (fun k h => by rcases h with h | h <;> omega)
    refine WL.val (Y.move rfl) (by decide) ?_   -- t16 := move t20
    refine WL.val (Y.extract rfl rfl) (by decide) ?_   -- t21 := extract t16 0
    refine WL.val (Y.extract rfl rfl) (by decide) ?_   -- t22 := extract t16 1
    refine as_apiDigest rfl (by simp) (by decide) fun g7 w5 hx5 hg7 hB7 => ?_   -- alloc 31; store 31 t7 t21
    have hlt7 := hB7.lt; have hz5 := hx5.size
    have hM7 := hB7.mem; have hz5 := hx5.size; have hE := hE.thenExt hx5
    refine WL.val (Y.assign rfl) (by decide) ?_   -- t8 := assign t22
    refine WL.nil ?_
    refine hK10 _ _ ?_; try clear hK10 K10
    refine CW.seq fun K11 hK11 => ?_
    refine CW.region ?_   -- region 6
    refine WL.val (Y.move rfl) (by decide) ?_   -- t23 := move t8
    refine WL.val (Y.neq rfl rfl) (by decide) ?_   -- t24 := binOp neq 23 t23 c(0:i64) 23
    refine WL.nil ?_
    refine hK11 _ _ ?_; try clear hK11 K11
    first | refine CW.condD rfl (fun ht12 => ?_) (fun ht12 => ?_) | refine CW.condND rfl (fun ht12 => ?_) (fun ht12 => ?_) | refine CW.condN rfl (fun ht12 => ?_) (fun ht12 => ?_) | refine CW.cond rfl (fun ht12 => ?_) (fun ht12 => ?_)
    · -- then
      refine CW.seq fun K13 hK13 => ?_
      refine CW.region ?_   -- region 7
      refine WL.val (Y.move rfl) (by decide) ?_   -- t25 := move t8
      refine WL.val (Y.assign rfl) (by decide) ?_   -- t2 := assign c(['Go.Value.pointer', 'none'])
      refine WL.val (Y.assign rfl) (by decide) ?_   -- t3 := assign t25
      refine WL.nil ?_
      refine hK13 _ _ ?_; try clear hK13 K13
      refine CW.ret ⟨_, rfl, ?_⟩
      exact ⟨_, _, rfl, fun hne => ⟨⟨x, b, l, hb, hH, hsh, hT0.few, rfl, hne⟩, rfl⟩, fun h0 => absurd h0 (by assumption), hE⟩
    -- else
    refine CW.skip ?_
    refine hK8 _ _ ?_; try clear hK8 K8
    refine CW.region ?_   -- region 8
    refine WL.val (Y.add rfl rfl ⟨by omega, by omega⟩) (by decide) ?_   -- t26 := binOp add 3 t12 c(1:i64) 3
    refine WL.val (Y.move rfl) (by decide) ?_   -- t12 := move t26
    refine WL.nil ?_
    have he : putE l b = 0 := Decidable.not_not.1 (by assumption)
    have hbl : b.length ≤ 131072 := by
      rcases Nat.lt_or_ge 131072 b.length with h | h
      · rw [putE, if_pos h] at he; omega
      · exact h
    refine ⟨(l2, x + 1), by show m - (x + 1) < m - x; omega, (by repeat (first | exact Fr.le.nil | refine Fr.le.cons rfl ?_)), by show x + 1 ≤ m; omega, ?_, ?_, hT.ext hx5, ?_, hE⟩
    · show Holds l2 (xs.take (x + 1))
      rw [take_succ hb]
      exact hH.put0 he hP hT.keys
    · show ∀ b ∈ xs.take (x + 1), _
      rw [take_succ hb]
      intro y hy
      rcases List.mem_append.1 hy with hy | hy
      · exact hsh y hy
      · simp at hy; subst hy; exact hbl
    · intro e he2 k hk
      rcases hF e he2 with h | h
      · exact hef e h k hk
      · have := h k hk; omega
  -- else
  refine CW.exit ?_   -- exit 0
  refine hK3 _ _ ?_; try clear hK3 K3
  refine CW.seq fun K14 hK14 => ?_
  refine CW.region ?_   -- region 9
  refine WL.val (Y.move rfl) (by decide) ?_   -- t27 := move t4
  refine WL.val (Y.assign rfl) (by decide) ?_   -- t2 := assign t27
  refine WL.val (Y.assign rfl) (by decide) ?_   -- t3 := assign c(0:i64)
  refine WL.nil ?_
  refine hK14 _ _ ?_; try clear hK14 K14
  refine CW.ret ⟨_, rfl, ?_⟩
  rw [List.take_of_length_le (by omega)] at hH hsh
  exact ⟨_, _, rfl, fun hne => absurd rfl hne, fun _ => ⟨g, r, l, rfl, hT, hH, hsh, by omega, by omega, hef⟩, hE⟩
theorem knum_any (n : Int) (w : World) (hn : n < 9223372036854775808) : Calls Tryd.prog 22 #[.int .i64 n] w (Ret fun v w' => v = .string (bs (numB n)) ∧ Ext w w') := by
  refine calls_of_CW 12 [2] [(0, .int .i64 n)] Tryd.func22 rfl rfl rfl (by simp) args1 ?_
  have hE : Ext w w := Chg.refl
  refine CW.seq fun K1 hK1 => ?_
  refine CW.region ?_   -- region 0
  refine WL.val (Y.assign rfl) (by decide) ?_   -- t2 := assign c(STR)
  refine WL.nil ?_
  refine hK1 _ _ ?_; try clear hK1 K1
  refine CW.seq fun K2 hK2 => ?_
  refine CW.region ?_   -- region 1
  refine WL.val (Y.move rfl) (by decide) ?_   -- t6 := move t0
  refine WL.call Tryd.func41 rfl rfl rfl (num_any n _ hn) (by simp) ?_; rintro v7 w1 hR1   -- t7 := call F41(t6) : 3
  obtain ⟨b8, rfl, hOb, hcb, hfb⟩ := hR1
  have hx1 : Ext w w1 := hcb.toExt (fun k _ h => by simp [Value.ownBlock] at h)
  have hE := hE.thenExt hx1
  have hOb : Own w1 5 1 b8 (bytesC (numB n)) := by simpa using hOb
  obtain ⟨A, m, c, rfl⟩ := hOb.lens
  refine WL.val (Y.move rfl) (by decide) ?_   -- t5 := move t7
  refine WL.val (Y.extract rfl rfl) (by decide) ?_   -- t8 := extract t5 0
  refine WL.val (Y.extract rfl rfl) (by decide) ?_   -- t9 := extract t5 1
  refine WL.val (Y.assign rfl) (by decide) ?_   -- t3 := assign t8
  refine WL.val (Y.assign rfl) (by decide) ?_   -- t4 := assign t9
  refine WL.nil ?_
  refine hK2 _ _ ?_; try clear hK2 K2
  refine CW.seq fun K3 hK3 => ?_
  refine CW.region ?_   -- region 2
  refine WL.val (Y.move rfl) (by decide) ?_   -- t10 := move t3
  refine WL.val (Y.bytes_string Tryd.underlying33 Tryd.underlying5 Tryd.underlying9 rfl hOb.by.len.1 hOb.by.mem.1 hOb.by.mem.2) (by decide) ?_   -- t11 := convert 33 9 t10
  refine WL.val (Y.assign rfl) (by decide) ?_   -- t2 := assign t11
  refine WL.nil ?_
  refine hK3 _ _ ?_; try clear hK3 K3
  refine CW.ret ⟨_, rfl, ?_⟩
  exact ⟨rfl, hE⟩
set_option maxRecDepth 20000 in
theorem told_any (u v : Value) (ahead b : List UInt8) (first : Bool) (depth : Nat) (w : World) (hu : By w u ahead) (hv : By w v b) : Calls Tryd.prog 25 #[u, v, .bool first, .int .i64 (depth : Int)] w (Ret fun r w' => ∃ x, r = .tuple #[.int .i64 (toldK ahead b first depth : Int), x] ∧ By w' x (toldB ahead b first depth) ∧ (∀ k, x.ownBlock = some k → v.ownBlock = some k ∨ w.heap.size ≤ k) ∧ Ext w w') := by
  obtain ⟨A, m, c, rfl⟩ := hu.lens
  obtain ⟨B, n, cb, rfl⟩ := hv.lens
  have hn := hv.len.1
  refine calls_of_CW 35 [8, 9] [(0, .slice A m c), (1, .slice B n cb), (2, .bool first), (3, .int .i64 (depth : Int))] Tryd.func25 rfl rfl rfl (by simp) args4 ?_
  have hE : Ext w w := Chg.refl
  refine CW.seq fun K1 hK1 => ?_
  refine CW.region ?_   -- region 0
  refine WL.val (Y.assign rfl) (by decide) ?_   -- t8 := assign c(0:i64)
  refine WL.val (Y.assign rfl) (by decide) ?_   -- t9 := assign c(nilslice)
  refine WL.nil ?_
  refine hK1 _ _ ?_; try clear hK1 K1
  refine CW.seq fun K2 hK2 => ?_
  refine CW.seq_test 16 (first = true ∨ (4 : Int) ≤ (depth : Int)) ?_ ?_
  · refine CW.region ?_
    refine WL.val (Y.move rfl) (by decide) ?_   -- t12 := move t2
    refine WL.val (Y.move rfl) (by decide) ?_   -- t13 := move t12
    first | refine WL.casesD (d := 13) rfl (fun hg13 => ?_) (fun hg13 => ?_) | refine WL.casesND (d := 13) rfl (fun hg13 => ?_) (fun hg13 => ?_) | refine WL.cases (d := 13) rfl (fun hg13 => ?_) (fun hg13 => ?_)
    · -- t13 = T
      refine WL.goff rfl rfl (by decide) ?_   -- t14 := move t3 [if 1=false]
      refine WL.goff rfl rfl (by decide) ?_   -- t15 := binOp geq 3 t14 c(4:i64) 3 [if 1=false]
      refine WL.val (Y.pick rfl rfl) (by decide) ?_   -- t16 := pick t13 c(true) t15
      refine WL.nil ⟨⟨_, rfl, ?_⟩, rfl, (by repeat (first | exact Fr.le.refl | refine Fr.le.push rfl ?_))⟩
      first | (simp only [*, Int.natCast_inj, Bool.not_eq_true', decide_eq_false_iff_not, decide_eq_true_eq, not_true_eq_false, not_false_eq_true, true_and, false_and, and_true, and_false, false_or, or_false, true_or, or_true, iff_true, true_iff, iff_false, false_iff]; done) | (simp_all; done) | (refine congrArg Value.bool (Bool.eq_iff_iff.2 ?_); simp_all; done) | (simp_all; omega)
    · -- t13 = F
      refine WL.gval rfl rfl (Y.move rfl) (by decide) ?_   -- t14 := move t3 [if 1=false]
      refine WL.gval rfl rfl (Y.geq rfl rfl) (by decide) ?_   -- t15 := binOp geq 3 t14 c(4:i64) 3 [if 1=false]
      refine WL.val (Y.pick rfl rfl) (by decide) ?_   -- t16 := pick t13 c(true) t15
      refine WL.nil ⟨⟨_, rfl, ?_⟩, rfl, (by repeat (first | exact Fr.le.refl | refine Fr.le.push rfl ?_))⟩
      first | (simp only [*, Int.natCast_inj, Bool.not_eq_true', decide_eq_false_iff_not, decide_eq_true_eq, not_true_eq_false, not_false_eq_true, true_and, false_and, and_true, and_false, false_or, or_false, true_or, or_true, iff_true, true_iff, iff_false, false_iff]; done) | (simp_all; done) | (refine congrArg Value.bool (Bool.eq_iff_iff.2 ?_); simp_all; done) | (simp_all; omega)
  first | refine CW.condD rfl (fun ht3 => ?_) (fun ht3 => ?_) | refine CW.condND rfl (fun ht3 => ?_) (fun ht3 => ?_) | refine CW.condN rfl (fun ht3 => ?_) (fun ht3 => ?_) | refine CW.cond rfl (fun ht3 => ?_) (fun ht3 => ?_)
  · -- then
    refine CW.seq fun K4 hK4 => ?_
    refine CW.region ?_   -- region 2
    refine WL.val (Y.move rfl) (by decide) ?_   -- t17 := move t1
    refine WL.val (Y.assign rfl) (by decide) ?_   -- t8 := assign c(0:i64)
    refine WL.val (Y.assign rfl) (by decide) ?_   -- t9 := assign t17
    refine WL.nil ?_
    refine hK4 _ _ ?_; try clear hK4 K4
    refine CW.ret ⟨_, rfl, ?_⟩
    have hc : first = true ∨ 4 ≤ depth := by
      rcases (by assumption : first = true ∨ (4 : Int) ≤ (depth : Int)) with h | h
      · exact .inl h
      · exact .inr (by omega)
    have hk : toldK ahead b first depth = 0 := by rw [toldK, if_pos hc]
    exact ⟨_, by rw [hk]; rfl, by rw [toldB, if_pos hk]; exact hv, fun k h => .inl h, hE⟩
  -- else
  refine CW.skip ?_
  refine hK2 _ _ ?_; try clear hK2 K2
  refine CW.seq fun K5 hK5 => ?_
  refine CW.region ?_   -- region 3
  refine WL.val (Y.move rfl) (by decide) ?_   -- t19 := move t0
  refine WL.val (Y.move rfl) (by decide) ?_   -- t20 := move t1
  refine WL.call Tryd.func45 rfl rfl rfl (make_any _ _ ahead b _ hu hv) (by simp) ?_; rintro v21 w1 hR1   -- t21 := call F45(t19, t20) : 33,33
  obtain ⟨x, rfl, hO, hf, hx1⟩ := hR1
  have hE := hE.thenExt hx1
  have hv := hv.ext hx1
  obtain ⟨X, xm, xc, rfl⟩ := hO.lens
  have hxm := hO.by.len.1
  refine WL.val (Y.move rfl) (by decide) ?_   -- t18 := move t21
  refine WL.val (Y.extract rfl rfl) (by decide) ?_   -- t22 := extract t18 0
  refine WL.val (Y.extract rfl rfl) (by decide) ?_   -- t23 := extract t18 1
  refine WL.val (Y.assign rfl) (by decide) ?_   -- t10 := assign t22
  refine WL.val (Y.assign rfl) (by decide) ?_   -- t11 := assign t23
  refine WL.nil ?_
  refine hK5 _ _ ?_; try clear hK5 K5
  refine CW.seq fun K6 hK6 => ?_
  refine CW.seq_test 32 (mkE ahead b ≠ 0 ∨ (n : Int) ≤ (xm : Int)) ?_ ?_
  · refine CW.region ?_
    refine WL.val (Y.move rfl) (by decide) ?_   -- t24 := move t11
    refine WL.val (Y.neq rfl rfl) (by decide) ?_   -- t25 := binOp neq 23 t24 c(0:i64) 23
    refine WL.val (Y.move rfl) (by decide) ?_   -- t26 := move t25
    first | refine WL.casesD (d := 26) rfl (fun hg26 => ?_) (fun hg26 => ?_) | refine WL.casesND (d := 26) rfl (fun hg26 => ?_) (fun hg26 => ?_) | refine WL.cases (d := 26) rfl (fun hg26 => ?_) (fun hg26 => ?_)
    · -- t26 = T
      refine WL.goff rfl rfl (by decide) ?_   -- t27 := move t10 [if 2=false]
      refine WL.goff rfl rfl (by decide) ?_   -- t28 := call len(t27) : 33 [if 2=false]
      refine WL.goff rfl rfl (by decide) ?_   -- t29 := move t1 [if 2=false]
      refine WL.goff rfl rfl (by decide) ?_   -- t30 := call len(t29) : 33 [if 2=false]
      refine WL.goff rfl rfl (by decide) ?_   -- t31 := binOp geq 3 t28 t30 3 [if 2=false]
      refine WL.val (Y.pick rfl rfl) (by decide) ?_   -- t32 := pick t26 c(true) t31
      refine WL.nil ⟨⟨_, rfl, ?_⟩, rfl, (by repeat (first | exact Fr.le.refl | refine Fr.le.push rfl ?_))⟩
      first | (simp only [*, Int.natCast_inj, Bool.not_eq_true', decide_eq_false_iff_not, decide_eq_true_eq, not_true_eq_false, not_false_eq_true, true_and, false_and, and_true, and_false, false_or, or_false, true_or, or_true, iff_true, true_iff, iff_false, false_iff]; done) | (simp_all; done) | (refine congrArg Value.bool (Bool.eq_iff_iff.2 ?_); simp_all; done) | (simp_all; omega)
    · -- t26 = F
      refine WL.gval rfl rfl (Y.move rfl) (by decide) ?_   -- t27 := move t10 [if 2=false]
      refine WL.gval rfl rfl (Y.len_slice Tryd.underlying33 rfl) (by decide) ?_   -- t28 := call len(t27) : 33 [if 2=false]
      refine WL.gval rfl rfl (Y.move rfl) (by decide) ?_   -- t29 := move t1 [if 2=false]
      refine WL.gval rfl rfl (Y.len_slice Tryd.underlying33 rfl) (by decide) ?_   -- t30 := call len(t29) : 33 [if 2=false]
      refine WL.gval rfl rfl (Y.geq rfl rfl) (by decide) ?_   -- t31 := binOp geq 3 t28 t30 3 [if 2=false]
      refine WL.val (Y.pick rfl rfl) (by decide) ?_   -- t32 := pick t26 c(true) t31
      refine WL.nil ⟨⟨_, rfl, ?_⟩, rfl, (by repeat (first | exact Fr.le.refl | refine Fr.le.push rfl ?_))⟩
      first | (simp only [*, Int.natCast_inj, Bool.not_eq_true', decide_eq_false_iff_not, decide_eq_true_eq, not_true_eq_false, not_false_eq_true, true_and, false_and, and_true, and_false, false_or, or_false, true_or, or_true, iff_true, true_iff, iff_false, false_iff]; done) | (simp_all; done) | (refine congrArg Value.bool (Bool.eq_iff_iff.2 ?_); simp_all; done) | (simp_all; omega)
  first | refine CW.condD rfl (fun ht7 => ?_) (fun ht7 => ?_) | refine CW.condND rfl (fun ht7 => ?_) (fun ht7 => ?_) | refine CW.condN rfl (fun ht7 => ?_) (fun ht7 => ?_) | refine CW.cond rfl (fun ht7 => ?_) (fun ht7 => ?_)
  · -- then
    refine CW.seq fun K8 hK8 => ?_
    refine CW.region ?_   -- region 5
    refine WL.val (Y.move rfl) (by decide) ?_   -- t33 := move t1
    refine WL.val (Y.assign rfl) (by decide) ?_   -- t8 := assign c(0:i64)
    refine WL.val (Y.assign rfl) (by decide) ?_   -- t9 := assign t33
    refine WL.nil ?_
    refine hK8 _ _ ?_; try clear hK8 K8
    refine CW.ret ⟨_, rfl, ?_⟩
    have hk : toldK ahead b first depth = 0 := by
      unfold toldK
      split
      · rfl
      · rw [if_pos]
        rcases (by assumption : mkE ahead b ≠ 0 ∨ (n : Int) ≤ (xm : Int)) with h | h
        · exact .inl h
        · exact .inr (by omega)
    exact ⟨_, by rw [hk]; rfl, by rw [toldB, if_pos hk]; exact hv, fun k h => .inl h, hE⟩
  -- else
  refine CW.skip ?_
  refine hK6 _ _ ?_; try clear hK6 K6
  refine CW.seq fun K9 hK9 => ?_
  refine CW.region ?_   -- region 6
  refine WL.val (Y.move rfl) (by decide) ?_   -- t34 := move t10
  refine WL.val (Y.assign rfl) (by decide) ?_   -- t8 := assign c(1:i64)
  refine WL.val (Y.assign rfl) (by decide) ?_   -- t9 := assign t34
  refine WL.nil ?_
  refine hK9 _ _ ?_; try clear hK9 K9
  refine CW.ret ⟨_, rfl, ?_⟩
  have hk : toldK ahead b first depth = 1 := by
    have h1 : ¬ (first = true ∨ (4 : Int) ≤ (depth : Int)) := by assumption
    have h2 : ¬ (mkE ahead b ≠ 0 ∨ (n : Int) ≤ (xm : Int)) := by assumption
    rw [toldK, if_neg, if_neg]
    · rintro (h | h)
      · exact h2 (.inl h)
      · exact h2 (.inr (by omega))
    · rintro (h | h)
      · exact h1 (.inl h)
      · exact h1 (.inr (by omega))
  exact ⟨_, by rw [hk]; rfl, by rw [toldB, if_neg (by omega)]; exact hO.by, fun k h => .inr (hf k h), hE⟩
end Go.Proofs.YtoncdfpohdchgaaDoor

/- Two results, each in a cell of its own, of a function that holds a range over a function. No condition; no program. -/
namespace Go.Fw
open Go.RowKit
@[reducible] def CellSS (t u : Nat) (R : Value → World → Prop) (fr : Fr) (w : World) : Prop := ∃ a v b x, fr.get t = some (.pointer (some a)) ∧ w.cell? a = some v ∧ fr.get u = some (.pointer (some b)) ∧ w.cell? b = some x ∧ R (.tuple #[v, x]) w
theorem res_cellSS {P : Program} {n : NN} {fn : Func} {a : Act} {t u : Nat} {ty uy : TypeId} {d e : TypeDesc} {R : Value → World → Prop} (hr : fn.results = #[.cell t ty, .cell u uy]) (hT : P.underlying ty = some d) (hd : notAgg d = true) (hU : P.underlying uy = some e) (he : notAgg e = true)
    {fr : Fr} {w : World} (ha : Rep n a fr) (hD : CellSS t u R fr w) : ∃ v, (results fn a.tmps).run P w = .ok v w ∧ R v w := by
  obtain ⟨p, v, q, x, hp, hc, hq, hx, hR⟩ := hD
  have h1 := run_loadVar1 (P := P) hT hd hc
  have h2 := run_loadVar1 (P := P) hU he hx
  have e1 := ha.get t _ hp
  have e2 := ha.get u _ hq
  refine ⟨_, ?_, hR⟩
  simp [results, hr, e1, e2, asAddr, h1, h2]
theorem calls_of_CNss {P : Program} {w : World} {f : FuncId} {fn : Func} {c : Code} {args : List Value} {R : Value → World → Prop} (m t u : Nat) (fr0 : Fr) {ty uy : TypeId} {d e : TypeDesc}
    (hf : P.funcs[f]? = some fn) (hb : fn.body = some c) (hm : fn.ntmps = m) (hr : fn.results = #[.cell t ty, .cell u uy]) (hT : P.underlying ty = some d) (hU : P.underlying uy = some e) (hd : notAgg d = true) (he : notAgg e = true)
    (hsz : args.length ≤ m) (hargs : ∀ t v, fr0.get t = some v → args[t]? = some v)
    (h : CN P c m none [] (DoneNG (CellSS t u R)) fr0 w) : Calls P f args.toArray w (Ret R) :=
  calls_of_CNG m _ fr0 hf hb hm (fun _ _ _ _ ha hD => res_cellSS hr hT hd hU he ha hD) hsz hargs h
theorem calls_of_CWct_or {P : Program} {w : World} {f : FuncId} {fn : Func} {c : Code} {args : List Value} {R : Value → World → Prop} {S : List PanicEntry → World → Prop} (m t k : Nat) (ts : List Nat) (fr0 : Fr) {ty : TypeId} {d : TypeDesc}
    (hf : P.funcs[f]? = some fn) (hb : fn.body = some c) (hm : fn.ntmps = m) (hr : fn.results = (ResultVar.cell t ty :: ts.map ResultVar.tmp).toArray) (hT : P.underlying ty = some d) (hd : notAgg d = false) (hS : (P.info? ty).map (·.size) = some k)
    (hsz : args.length ≤ m) (hargs : ∀ t v, fr0.get t = some v → args[t]? = some v)
    (h : CW P c (m, [], none) (DoneG (CellT t k ts R) S) fr0 w) (hts : ts.length = 1 ∨ ts.length = 2 := by decide) : Calls P f args.toArray w (RetOr R S) :=
  calls_of_CWG m _ fr0 hf hb hm (fun a fr w ha hD => res_cellt hr hts hT hd hS ha hD) hsz hargs h
end Go.Fw

/- pack.Write, walked: what it hands back is the pack of the objects that a store takes. No condition. -/
namespace Go.Proofs.YtoncdfpohdchgaaDoor
open Go.RowKit Go.Fw Go.Pl Go.Sort
theorem info_errW : ∃ i : TypeInfo, Tryd.prog.info? 23 = some i ∧ i.zero = some (.int .i64 0) := by
  have h : (Tryd.prog.info? 23).map (fun i => i.zero) = some (some (.int .i64 0)) := by kernel_rfl
  obtain ⟨i, hi, h⟩ := Option.map_eq_some_iff.1 h
  exact ⟨i, hi, h⟩
/-- What Write answers. -/
def WrAns (xs : List (List UInt8)) (q : List UInt8) (e : Int) : Prop := (TkErr xs e ∧ q = []) ∨ ∃ l, Holds l xs ∧ (∀ b ∈ xs, b.length ≤ 131072) ∧ l.length ≤ 500 ∧ (q, e) = wrR (objs l)
/-- Where a round of Write stands. -/
structure WrAt (V : World) (g6 g7 g8 g9 : Nat) (uo ua : Value) (st : WS) : Prop where
  b6 : Blk V g6 33 [uo]
  o : Own V 5 1 uo (bytesC st.out)
  b7 : Blk V g7 3 [.int .i64 (st.depth : Int)]
  b8 : Blk V g8 4 [.bool st.first]
  b9 : Blk V g9 33 [ua]
  a : By V ua st.ahead
  len : st.out.length ≤ 1048544
  dep : st.depth ≤ 4
theorem WrAt.chg {V W : World} {g6 g7 g8 g9 : Nat} {uo ua : Value} {st : WS} {S : Nat → Prop} (h : WrAt V g6 g7 g8 g9 uo ua st) (hc : Chg S V W) (h6 : ¬ S g6) (h7 : ¬ S g7) (h8 : ¬ S g8) (h9 : ¬ S g9) (ho : ∀ k, uo.ownBlock = some k → ¬ S k) (ha : ∀ k, ua.ownBlock = some k → ¬ S k) : WrAt W g6 g7 g8 g9 uo ua st :=
  ⟨h.b6.chg hc h6, h.o.chg hc ho, h.b7.chg hc h7, h.b8.chg hc h8, h.b9.chg hc h9, h.a.chg hc (fun _ k hk => ha k hk), h.len, h.dep⟩
theorem WrAt.ext {V W : World} {g6 g7 g8 g9 : Nat} {uo ua : Value} {st : WS} (h : WrAt V g6 g7 g8 g9 uo ua st) (hc : Ext V W) : WrAt W g6 g7 g8 g9 uo ua st := h.chg hc (fun f => f) (fun f => f) (fun f => f) (fun f => f) (fun _ _ f => f) (fun _ _ f => f)
theorem drop_cons {α : Type} {l : List α} {i : Nat} {x : α} (h : l[i]? = some x) : l.drop i = x :: l.drop (i + 1) := by
  obtain ⟨hlt, rfl⟩ := List.getElem?_eq_some_iff.1 h
  exact List.drop_eq_getElem_cons hlt
theorem objs_at {l : List Ent} {i : Nat} {d : Dig} (h : (namesL l)[i]? = some d) : (objs l)[i]? = some (d, getB l d) := by rw [objs, List.getElem?_map, h]; rfl

set_option maxRecDepth 100000 in
set_option maxHeartbeats 4000000 in
theorem pwrite_any (u : Value) (xs : List (List UInt8)) (w : World) (hu : Sl w strC 1 u xs) (hs : ∀ x ∈ xs, x.length ≤ 140737488351232) (hK : Mem w ⟨0, 0, none⟩ (wds keysL)) : Calls Tryd.prog 9 #[u] w (Ret fun r w' => (∃ q e, r = .tuple #[.string (bs q), .int .i64 e] ∧ WrAns xs q e) ∧ Ext w w') := by
  have hK0 := hK
  have hk0 : (0 : Nat) < w.heap.size := hK.lt (fun h => by cases h)
  obtain ⟨A, m, c, rfl, hm, hmc, hcm, hux⟩ := id hu
  obtain ⟨ie, hie, hze⟩ := info_errW
  refine calls_of_CNss 64 2 3 [(0, .slice A m c)] Tryd.func9 rfl rfl rfl Tryd.underlying9 Tryd.underlying23 rfl rfl (by simp) args1 ?_
  have hE : Ext w w := Chg.refl
  refine CN.seq fun K1 hK1 => ?_
  refine CN.of_CW ?_
  refine CW.region ?_   -- region 0
  refine WL.alloc1 (z := .string ByteArray.empty) (by kernel_rfl) rfl (by first | decide | exact Nat.le_of_ble_eq_true rfl) fun g2 w1 hx1 hg2 hB2 => ?_   -- t2 := alloc 9
  have hlt2 := hB2.lt; have hz1 := hx1.size
  have hM2 := hB2.mem; have hz1 := hx1.size; have hE := hE.thenExt hx1; have hK := hK.ext hx1
  refine WL.alloc (hie) (hze) rfl (by first | decide | exact Nat.le_of_ble_eq_true rfl) fun g3 w2 hx2 hg3 hB3 => ?_   -- t3 := alloc 23
  have hlt3 := hB3.lt; have hz2 := hx2.size
  have hM3 := hB3.mem; have hz2 := hx2.size; have hE := hE.thenExt hx2; have hK := hK.ext hx2; have hB2 := hB2.ext hx2
  refine WL.nil ?_
  refine hK1 _ _ _ ?_; try clear hK1 K1
  refine CN.seq fun K2 hK2 => ?_
  refine CN.of_CW ?_
  refine CW.region ?_   -- region 1
  refine WL.val (Y.move rfl) (by first | decide | exact Nat.le_of_ble_eq_true rfl) ?_   -- t16 := move t0
  refine WL.call Tryd.func21 rfl rfl rfl (taken_any _ xs _ (hu.ext hE) hs hK) (by simp) ?_; rintro v17 w3 hR3   -- t17 := call F21(t16) : 22
  obtain ⟨p, e, rfl, hbad, hgood, hx3⟩ := hR3
  have hz3 := hx3.size
  have hE := hE.thenExt hx3
  have hK := hK.ext hx3
  have hB2 := hB2.ext hx3
  have hB3 := hB3.ext hx3
  refine WL.val (Y.move rfl) (by first | decide | exact Nat.le_of_ble_eq_true rfl) ?_   -- t15 := move t17
  refine WL.val (Y.extract rfl rfl) (by first | decide | exact Nat.le_of_ble_eq_true rfl) ?_   -- t18 := extract t15 0
  refine WL.val (Y.extract rfl rfl) (by first | decide | exact Nat.le_of_ble_eq_true rfl) ?_   -- t19 := extract t15 1
  refine WL.val (Y.assign rfl) (by first | decide | exact Nat.le_of_ble_eq_true rfl) ?_   -- t4 := assign t18
  refine WL.val (Y.assign rfl) (by first | decide | exact Nat.le_of_ble_eq_true rfl) ?_   -- t5 := assign t19
  refine WL.nil ?_
  refine hK2 _ _ _ ?_; try clear hK2 K2
  refine CN.seq fun K3 hK3 => ?_
  refine CN.seq fun K4 hK4 => ?_
  refine CN.of_CW ?_
  refine CW.region ?_   -- region 2
  refine WL.val (Y.move rfl) (by first | decide | exact Nat.le_of_ble_eq_true rfl) ?_   -- t20 := move t5
  refine WL.val (Y.neq rfl rfl) (by first | decide | exact Nat.le_of_ble_eq_true rfl) ?_   -- t21 := binOp neq 23 t20 c(0:i64) 23
  refine WL.nil ?_
  refine hK4 _ _ _ ?_; try clear hK4 K4
  first | refine CN.condD rfl (fun ht5 => ?_) (fun ht5 => ?_) | refine CN.condND rfl (fun ht5 => ?_) (fun ht5 => ?_) | refine CN.condN rfl (fun ht5 => ?_) (fun ht5 => ?_) | refine CN.cond rfl (fun ht5 => ?_) (fun ht5 => ?_)
  · -- then
    refine CN.seq fun K6 hK6 => ?_
    refine CN.of_CW ?_
    refine CW.region ?_   -- region 3
    refine WL.val (Y.move rfl) (by first | decide | exact Nat.le_of_ble_eq_true rfl) ?_   -- t22 := move t5
    refine WL.store (g := g2) (pre := []) (old := [.string ByteArray.empty]) (post := []) (new := [.string ByteArray.empty]) rfl rfl rfl rfl (by kernel_rfl) (by simpa using hB2) (by first | rfl | (simp [digC_length, opC_length]; done) | (simp only [digC_length, opC_length]; omega)) (one1 rfl) (fun w4 hc4 hB4_ => ?_)   -- _ := store 9 t2 c(STR)
    have hz4 := hc4.size; have hE := hE.step hc4 (fun k h => by omega); have hK := hK.chg hc4 (fun h => by change 0 = _ at h; omega); have hB3 := hB3.chg hc4 (fun h => by omega)
    have hB2 : Blk w4 g2 9 [.string ByteArray.empty] := by simpa using hB4_
    refine WL.store (g := g3) (pre := []) (old := [.int .i64 0]) (post := []) (new := [.int .i64 e]) rfl rfl rfl rfl (by kernel_rfl) (by simpa using hB3) (by first | rfl | (simp [digC_length, opC_length]; done) | (simp only [digC_length, opC_length]; omega)) (one1 rfl) (fun w5 hc5 hB5_ => ?_)   -- _ := store 23 t3 t22
    have hz5 := hc5.size; have hE := hE.step hc5 (fun k h => by omega); have hK := hK.chg hc5 (fun h => by change 0 = _ at h; omega); have hB2 := hB2.chg hc5 (fun h => by omega)
    have hB3 : Blk w5 g3 23 [.int .i64 e] := by simpa using hB5_
    refine WL.nil ?_
    refine hK6 _ _ _ ?_; try clear hK6 K6
    refine CN.ret ?_
    obtain ⟨hterr, _⟩ := hbad (by assumption)
    exact ⟨[], rfl, by simp, (fun D hD => by simp at hD), fun w_ hc => ⟨_, _, _, _, rfl, ((hB2.chg hc (fun h => by simp at h)).mem).cell0, rfl, ((hB3.chg hc (fun h => by simp at h)).mem).cell0, ⟨[], e, rfl, .inl ⟨hterr, rfl⟩⟩, hE.step hc (fun k h => by simp at h)⟩⟩
  -- else
  refine CN.skip ?_
  refine hK3 _ _ _ ?_; try clear hK3 K3
  refine CN.seq fun K7 hK7 => ?_
  refine CN.of_CW ?_
  have he0 : e = 0 := Decidable.not_not.1 (by assumption); obtain ⟨g, r, l, rfl, hT, hH, hsh, hg, hr, hef⟩ := hgood he0; have hfew := hT.few; have hgrl := hT.lt; refine CW.region ?_
  refine WL.val (Y.move rfl) (by first | decide | exact Nat.le_of_ble_eq_true rfl) ?_   -- t23 := move t4
  refine WL.call Tryd.func23 rfl rfl rfl (stLen_any g r l _ hT) (by simp) ?_; rintro v w6 ⟨rfl, hx6⟩; have hz6 := hx6.size; have hE := hE.thenExt hx6; have hK := hK.ext hx6; have hB2 := hB2.ext hx6; have hB3 := hB3.ext hx6   -- t24 := call F23(t23) : 49
  refine WL.call Tryd.func22 rfl rfl rfl (knum_any (l.length : Int) _ (by omega)) (by simp) ?_; rintro v w7 ⟨rfl, hx7⟩; have hz7 := hx7.size; have hE := hE.thenExt hx7; have hK := hK.ext hx7; have hB2 := hB2.ext hx7; have hB3 := hB3.ext hx7   -- t25 := call F22(t24) : 3
  refine WL.val (Y.addS rfl rfl ((by show (bs [82, 80, 49]).size + (bs (numB (l.length : Int))).size ≤ _; rw [bs_size, bs_size]; have := numB_len (n := (l.length : Int)) (by omega); show 3 + _ ≤ _; omega))) (by first | decide | exact Nat.le_of_ble_eq_true rfl) ?_   -- t26 := binOp add 9 c(STR) t25 9
  refine WL.st (St.strBytes Tryd.underlying9 Tryd.underlying33 Tryd.underlying5 rfl (by show (bs [82, 80, 49] ++ bs (numB (l.length : Int))).size ≤ _; rw [← bs_two, bs_size, List.length_append]; have := numB_len (n := (l.length : Int)) (by omega); show 3 + _ ≤ _; omega)) (by first | decide | exact Nat.le_of_ble_eq_true rfl) fun v27 w8 hR8 => ?_   -- t27 := convert 9 33 t26
  obtain ⟨hO, hx8, hf8⟩ := hR8
  have hz8 := hx8.size
  have hE := hE.thenExt hx8
  have hK := hK.ext hx8
  have hB2 := hB2.ext hx8
  have hB3 := hB3.ext hx8
  have hO : Own w8 5 1 v27 (bytesC (wBegin (objs l).length).out) := by
    have e1 : (bs [82, 80, 49] ++ bs (numB (l.length : Int))).toList = (wBegin (objs l).length).out := by rw [← bs_two, bs_toList, numB_nat, objs_length]; rfl
    rw [← e1]; exact hO
  obtain ⟨A27, m27, c27, rfl⟩ := hO.lens
  have hOl := hO.lt
  refine WL.allocStore1 (by kernel_rfl) rfl (by simp) rfl rfl (by first | decide | exact Nat.le_of_ble_eq_true rfl) fun g6 w9 hx9 hg6 hB6 => ?_   -- alloc 33; store 33 t6 t27
  have hlt6 := hB6.lt; have hz9 := hx9.size
  have hM6 := hB6.mem; have hz9 := hx9.size; have hE := hE.thenExt hx9; have hK := hK.ext hx9; have hB2 := hB2.ext hx9; have hB3 := hB3.ext hx9
  refine WL.nil ?_
  refine hK7 _ _ _ ?_; try clear hK7 K7
  refine CN.seq fun K8 hK8 => ?_
  refine CN.of_CW ?_
  refine CW.region ?_   -- region 5
  refine WL.alloc1 (z := .int .i64 0) (by kernel_rfl) rfl (by first | decide | exact Nat.le_of_ble_eq_true rfl) fun g7 w10 hx10 hg7 hB7 => ?_   -- t7 := alloc 3
  have hlt7 := hB7.lt; have hz10 := hx10.size
  have hM7 := hB7.mem; have hz10 := hx10.size; have hE := hE.thenExt hx10; have hK := hK.ext hx10; have hB2 := hB2.ext hx10; have hB3 := hB3.ext hx10; have hB6 := hB6.ext hx10
  refine WL.alloc1 (z := .bool false) (by kernel_rfl) rfl (by first | decide | exact Nat.le_of_ble_eq_true rfl) fun g8 w11 hx11 hg8 hB8 => ?_   -- t8 := alloc 4
  have hlt8 := hB8.lt; have hz11 := hx11.size
  have hM8 := hB8.mem; have hz11 := hx11.size; have hE := hE.thenExt hx11; have hK := hK.ext hx11; have hB2 := hB2.ext hx11; have hB3 := hB3.ext hx11; have hB6 := hB6.ext hx11; have hB7 := hB7.ext hx11
  refine WL.store (g := g7) (pre := []) (old := [.int .i64 0]) (post := []) (new := [.int .i64 0]) rfl rfl rfl rfl (by kernel_rfl) (by simpa using hB7) (by first | rfl | (simp [digC_length, opC_length]; done) | (simp only [digC_length, opC_length]; omega)) (one1 rfl) (fun w12 hc12 hB12_ => ?_)   -- _ := store 3 t7 c(0:i64)
  have hz12 := hc12.size; have hE := hE.step hc12 (fun k h => by omega); have hK := hK.chg hc12 (fun h => by change 0 = _ at h; omega); have hB2 := hB2.chg hc12 (fun h => by omega); have hB3 := hB3.chg hc12 (fun h => by omega); have hB6 := hB6.chg hc12 (fun h => by omega); have hB8 := hB8.chg hc12 (fun h => by omega)
  have hB7 : Blk w12 g7 3 [.int .i64 0] := by simpa using hB12_
  refine WL.store (g := g8) (pre := []) (old := [.bool false]) (post := []) (new := [.bool true]) rfl rfl rfl rfl (by kernel_rfl) (by simpa using hB8) (by first | rfl | (simp [digC_length, opC_length]; done) | (simp only [digC_length, opC_length]; omega)) (one1 rfl) (fun w13 hc13 hB13_ => ?_)   -- _ := store 4 t8 c(true)
  have hz13 := hc13.size; have hE := hE.step hc13 (fun k h => by omega); have hK := hK.chg hc13 (fun h => by change 0 = _ at h; omega); have hB2 := hB2.chg hc13 (fun h => by omega); have hB3 := hB3.chg hc13 (fun h => by omega); have hB6 := hB6.chg hc13 (fun h => by omega); have hB7 := hB7.chg hc13 (fun h => by omega)
  have hB8 : Blk w13 g8 4 [.bool true] := by simpa using hB13_
  refine WL.nil ?_
  refine hK8 _ _ _ ?_; try clear hK8 K8
  refine CN.seq fun K9 hK9 => ?_
  refine CN.of_CW ?_
  refine CW.region ?_   -- region 6
  refine WL.alloc1 (z := .slice none 0 0) (by kernel_rfl) rfl (by first | decide | exact Nat.le_of_ble_eq_true rfl) fun g9 w14 hx14 hg9 hB9 => ?_   -- t9 := alloc 33
  have hlt9 := hB9.lt; have hz14 := hx14.size
  have hM9 := hB9.mem; have hz14 := hx14.size; have hE := hE.thenExt hx14; have hK := hK.ext hx14; have hB2 := hB2.ext hx14; have hB3 := hB3.ext hx14; have hB6 := hB6.ext hx14; have hB7 := hB7.ext hx14; have hB8 := hB8.ext hx14
  refine WL.nil ?_
  refine hK9 _ _ _ ?_; try clear hK9 K9
  refine CN.seq fun K10 hK10 => ?_
  refine CN.seq fun K11 hK11 => ?_
  refine CN.of_CW ?_
  refine CW.region ?_   -- region 7
  refine WL.val (Y.move rfl) (by first | decide | exact Nat.le_of_ble_eq_true rfl) ?_   -- t28 := move t4
  refine WL.call Tryd.func24 rfl rfl rfl (sall_any ⟨g, 0, none⟩ _) (by simp) ?_; rintro v29 w15 hR15   -- t29 := call F24(t28) : 49
  obtain ⟨bx, rfl, hgb, hBb, hx15⟩ := hR15
  have hz15 := hx15.size
  have hE := hE.thenExt hx15
  have hK := hK.ext hx15
  have hB2 := hB2.ext hx15
  have hB3 := hB3.ext hx15
  have hB6 := hB6.ext hx15
  have hB7 := hB7.ext hx15
  have hB8 := hB8.ext hx15
  have hB9 := hB9.ext hx15
  have hx315 : Ext w3 w15 := (((((((((hx6.thenExt hx7).thenExt hx8).thenExt hx9).thenExt hx10).thenExt hx11).step hc12 (fun k h => by have h : k = g7 := h; omega)).step hc13 (fun k h => by have h : k = g8 := h; omega)).thenExt hx14).thenExt hx15)
  have hT15 := hT.ext hx315
  have hO15 := (((((hO.ext hx9).ext hx10).ext hx11).chg hc12 (fun k hk h => by have := hOl k hk; have h : k = g7 := h; omega)).chg hc13 (fun k hk h => by have := hOl k hk; have h : k = g8 := h; omega)).ext (hx14.thenExt hx15)
  refine WL.nil ?_
  refine hK11 _ _ _ ?_; try clear hK11 K11
  refine CN.block ?_   -- block 0
  refine CN.range (rfl) Tryd.func43 rfl rfl (sall1_any g r bx l _ hT15 hBb) (fun _ => rfl) (by first | decide | exact Nat.le_of_ble_eq_true rfl) (fun _ h => h.elim) (fun w1 s V hz hs i hk => by have := hs.lo; have := hk.1; omega) (fun s i V => ∃ st uo ua, s.bs.length = l.length ∧ w15.heap.size + 2 ≤ s.lo ∧ s.hi ≤ V.heap.size ∧ (∀ v ∈ s.bs, ∀ k, v.ownBlock = some k → s.lo ≤ k ∧ k < s.hi) ∧ wRun ((objs l).drop i) st = wRun (objs l) (wBegin (objs l).length) ∧ WrAt V g6 g7 g8 g9 uo ua st ∧ (∀ k, uo.ownBlock = some k → w3.heap.size ≤ k ∧ k ≠ g6 ∧ k ≠ g7 ∧ k ≠ g8 ∧ k ≠ g9 ∧ (k < w15.heap.size ∨ (s.hi ≤ k ∧ w15.heap.size + 2 ≤ k))) ∧ (∀ k, ua.ownBlock = some k → s.lo ≤ k ∧ k < s.hi) ∧ Blk V g2 9 [.string ByteArray.empty] ∧ Blk V g3 23 [.int .i64 0] ∧ Ext w V) (fun _ e V => e = .ret ∧ wRun (objs l) (wBegin (objs l).length) = none ∧ Blk V g2 9 [.string ByteArray.empty] ∧ Blk V g3 23 [.int .i64 3] ∧ Ext w V) ?_ ?_ ?_ ?_ ?_ ?_
  · intro w1_ s_ V hw_ hz_ hc_ hs_
    have hv9 := vi_len9 (n := (objs l).length) (by rw [objs_length]; omega)
    exact ⟨wBegin (objs l).length, _, _, by rw [hs_.len, namesL_length], by have := hs_.lo; omega, hs_.hi, hs_.own, rfl, (WrAt.ext ⟨hB6, hO15, hB7, hB8, hB9, Own.by (e := 0) (bs := []) Own.nil, by show ([82, 80, 49] ++ vi _).length ≤ _; rw [List.length_append]; show 3 + _ ≤ _; omega, Nat.zero_le _⟩ hw_).ext hc_, (fun k hk => by have h1 := hf8 k hk; have h2 := hOl k hk; exact ⟨by omega, by omega, by omega, by omega, by omega, .inl (by omega)⟩), (fun k hk => by cases hk), (hB2.ext hw_).ext hc_, (hB3.ext hw_).ext hc_, (hE.thenExt hw_).thenExt hc_⟩
  · intro s_ i_ V V_ hi_ hc_
    obtain ⟨st, uo, ua, hbl, hlo, hhi, hown, hrun, hW, hou, hau, hB2, hB3, hE⟩ := hi_
    exact ⟨st, uo, ua, hbl, hlo, Nat.le_trans hhi hc_.size, hown, hrun, hW.chg hc_ (fun h => by rcases h with h | h; exact h; omega) (fun h => by rcases h with h | h; exact h; omega) (fun h => by rcases h with h | h; exact h; omega) (fun h => by rcases h with h | h; exact h; omega) (fun k hk h => by have h1 := hou k hk; rcases h with h | h; exact h; omega) (fun k hk h => by have h1 := hau k hk; rcases h with h | h; exact h; omega), hou, hau, hB2.chg hc_ (fun h => by rcases h with h | h; exact h; omega), hB3.chg hc_ (fun h => by rcases h with h | h; exact h; omega), hE.step hc_ (fun k h => by rcases h with h | h; exact h.elim; omega)⟩
  · intro s_ e_ V V_ hi_ hc_
    obtain ⟨rfl, hn, hB2, hB3, hE⟩ := hi_
    exact ⟨rfl, hn, hB2.chg hc_ (fun h => by rcases h with h | h; exact h; omega), hB3.chg hc_ (fun h => by rcases h with h | h; exact h; omega), hE.step hc_ (fun k h => by rcases h with h | h; exact h.elim; omega)⟩
  · intro s_ i_ x_ w16 hi_ hx_ hat_ hz_
    obtain ⟨st, uo, ua, hbl, hlo, hhi, hown, hrun, hW, hou, hau, hB2, hB3, hE⟩ := hi_
    have hxv := hat_ x_ hx_
    obtain ⟨d, xv⟩ := x_
    dsimp only at hxv
    obtain ⟨hnd, hnv⟩ := List.getElem?_zip_eq_some.1 hx_
    have hxo := hown _ (List.mem_of_getElem? hnv)
    obtain ⟨Ax, mx, cx, rfl⟩ := hxv.lens
    have hob := objs_at hnd
    have hgl := getB_le hT15 d
    have hol := hW.o.lt
    refine CW.seq fun K12 hK12 => ?_
    refine CW.region ?_   -- region 8
    refine as_apiDigest rfl (by simp) (by first | decide | exact Nat.le_of_ble_eq_true rfl) fun g10 w17 hx17 hg10 hB10 => ?_   -- alloc 31; store 31 t10 t30
    have hlt10 := hB10.lt; have hz17 := hx17.size
    have hM10 := hB10.mem; have hz17 := hx17.size; have hE := hE.thenExt hx17
    refine WL.nil ?_
    refine hK12 _ _ ?_; try clear hK12 K12
    refine CW.region ?_   -- region 9
    refine WL.val (Y.assign rfl) (by first | decide | exact Nat.le_of_ble_eq_true rfl) ?_   -- t11 := assign t31
    refine WL.nil ?_
    have hE_ : Ext w16 w17 := hx17
    refine ⟨hE_, fun w18 hc_ => ?_⟩
    have hz18 := hc_.size
    have hE := hE.step hc_ (fun k h => by omega)
    have hW := (hW.ext hx17).chg hc_ (fun h => by omega) (fun h => by omega) (fun h => by omega) (fun h => by omega) (fun k hk h => by have h1 := hou k hk; omega) (fun k hk h => by have h1 := hau k hk; omega)
    have hB2 := (hB2.ext hx17).chg hc_ (fun h => by omega)
    have hB3 := (hB3.ext hx17).chg hc_ (fun h => by omega)
    have hB10 := hB10.chg hc_ (fun h => by omega)
    have hxv := (hxv.ext hx17).chg hc_ (fun k hk h => by have h1 := hxo k hk; omega)
    have hB6 := hW.b6
    have hB7 := hW.b7
    have hB8 := hW.b8
    have hB9 := hW.b9
    have hdep := hW.dep
    have hmul : InI64 (((st.depth : Int) + 1) * (toldK st.ahead (getB l d) st.first st.depth : Int)) := by
      rcases toldK_cases st.ahead (getB l d) st.first st.depth with h | h
      · rw [h]; exact ⟨by simp, by simp⟩
      · rw [h]; exact ⟨by omega, by omega⟩
    refine CW.block ?_   -- block 1
    refine CW.seq fun K13 hK13 => ?_
    refine CW.region ?_   -- region 10
    refine WL.val (Y.load1 Tryd.underlying33 rfl hB9.mem.cell0 rfl) (by first | decide | exact Nat.le_of_ble_eq_true rfl) ?_   -- t33 := load 33 t9
    refine WL.val (Y.move rfl) (by first | decide | exact Nat.le_of_ble_eq_true rfl) ?_   -- t34 := move t11
    refine WL.val (Y.load1 Tryd.underlying4 rfl hB8.mem.cell0 rfl) (by first | decide | exact Nat.le_of_ble_eq_true rfl) ?_   -- t35 := load 4 t8
    refine WL.val (Y.load1 Tryd.underlying3 rfl hB7.mem.cell0 rfl) (by first | decide | exact Nat.le_of_ble_eq_true rfl) ?_   -- t36 := load 3 t7
    refine WL.call Tryd.func25 rfl rfl rfl (told_any ua _ st.ahead (getB l d) st.first st.depth _ hW.a hxv.by) (by simp) ?_; rintro v37 w19 hR19   -- t37 := call F25(t33, t34, t35, t36) : 33,33,4,3
    obtain ⟨tx, rfl, hTx, hTf, hx19⟩ := hR19
    have hz19 := hx19.size
    have hE := hE.thenExt hx19
    have hW := hW.ext hx19
    have hB2 := hB2.ext hx19
    have hB3 := hB3.ext hx19
    have hB10 := hB10.ext hx19
    have hxv := hxv.ext hx19
    obtain ⟨Xt, mt, ct, rfl⟩ := hTx.lens
    have hB6 := hW.b6
    have htl := toldB_len st.ahead (getB l d) st.first st.depth
    refine WL.val (Y.move rfl) (by first | decide | exact Nat.le_of_ble_eq_true rfl) ?_   -- t32 := move t37
    refine WL.val (Y.extract rfl rfl) (by first | decide | exact Nat.le_of_ble_eq_true rfl) ?_   -- t38 := extract t32 0
    refine WL.val (Y.extract rfl rfl) (by first | decide | exact Nat.le_of_ble_eq_true rfl) ?_   -- t39 := extract t32 1
    refine WL.val (Y.assign rfl) (by first | decide | exact Nat.le_of_ble_eq_true rfl) ?_   -- t12 := assign t38
    refine WL.val (Y.assign rfl) (by first | decide | exact Nat.le_of_ble_eq_true rfl) ?_   -- t13 := assign t39
    refine WL.nil ?_
    refine hK13 _ _ ?_; try clear hK13 K13
    refine CW.seq fun K14 hK14 => ?_
    refine CW.held (fun wq => Chg (fun k => k = g6 ∨ uo.ownBlock = some k) w19 wq) (by kernel_rfl) 11 rfl fun w20 hx20 => ?_
    have hS : Chg (fun k => k = g6 ∨ uo.ownBlock = some k) w19 w20 := hx20.chg
    have hz20 := hx20.size
    have hW19 := hW
    have hB10b := hB10.ext hx20
    have hO := (hW.ext hx20).o
    have hB6 := (hW.ext hx20).b6
    have hlen := hW.len
    refine RH.take 1 (fun _ _ _ _ h => h) (by kernel_rfl) hS rfl (by kernel_rfl) (by kernel_rfl) (fun wq hq => Y.slice_arr Tryd.underlying31 rfl sz_uint8) (by first | decide | exact Nat.le_of_ble_eq_true rfl) ?_   -- t41 := slice 31 t10 none none none
    refine RH.take 3 (fun _ _ _ _ h => h) (by kernel_rfl) hS rfl (by kernel_rfl) (by kernel_rfl) (fun wq hq => Y.move rfl) (by first | decide | exact Nat.le_of_ble_eq_true rfl) ?_   -- t43 := move t12
    refine RH.take 6 (fun _ _ _ _ h => h) (by kernel_rfl) hS rfl (by kernel_rfl) (by kernel_rfl) (fun wq hq => Y.move rfl) (by first | decide | exact Nat.le_of_ble_eq_true rfl) ?_   -- t46 := move t13
    refine RH.take 7 (fun _ _ _ _ h => h) (by kernel_rfl) hS rfl (by kernel_rfl) (by kernel_rfl) (fun wq hq => Y.bytes_string Tryd.underlying33 Tryd.underlying5 Tryd.underlying9 rfl hTx.len.1 (hTx.chg hq (fun h0 k hk h => by
      rcases hTf k hk with h1 | h1
      · have h2 := hxo k h1; rcases h with h | h; omega; have h3 := hou k h; omega
      · rcases h with h | h; omega; have h3 := hol k h; omega)).mem.1 hTx.mem.2) (by first | decide | exact Nat.le_of_ble_eq_true rfl) ?_   -- t47 := convert 33 9 t46
    refine RH.one 0 (by kernel_rfl) ?_
    refine RS.val rfl (Y.load1 Tryd.underlying33 rfl hB6.mem.cell0 rfl) (by first | decide | exact Nat.le_of_ble_eq_true rfl) ⟨hS, ?_⟩   -- t40 := load 33 t6
    refine RH.one 2 (by kernel_rfl) ?_
    refine RS.st rfl (St.app (xs := st.out) (ys := d.1) Tryd.underlying33 Tryd.underlying33 ai_u8 rfl rfl hO (Src.dig hB10b.mem) (by omega)) (by first | decide | exact Nat.le_of_ble_eq_true rfl) fun v42 w21 hR21 => ?_   -- call append(t40, t41) : 33,33
    obtain ⟨hO, hc21, hf21⟩ := hR21
    have hz21 := hc21.size
    have hS := hS.trans hc21 (fun k _ h => .inr h)
    have hf42 : ∀ k, v42.ownBlock = some k → uo.ownBlock = some k ∨ w20.heap.size ≤ k := by
      rcases hf21 with h_ | h_
      · intro k hk; rw [h_] at hk; exact .inl hk
      · intro k hk; have := h_ k hk; exact .inr (by omega)
    have hB6 := hB6.chg hc21 (fun h => (hou _ h).2.1 rfl)
    refine ⟨hS, ?_⟩
    refine RH.one 4 (by kernel_rfl) ?_
    refine RS.call rfl (fun _ _ h => by cases h) Tryd.func22 rfl rfl rfl (knum_any (toldK st.ahead (getB l d) st.first st.depth : Int) _ (by rcases toldK_cases st.ahead (getB l d) st.first st.depth with h | h <;> rw [h] <;> omega)) (by first | decide | exact Nat.le_of_ble_eq_true rfl) fun v44 w22 hR22 => ?_   -- call F22(t43) : 3
    obtain ⟨rfl, hx22⟩ := hR22
    have hz22 := hx22.size
    have hS := hS.thenExt hx22
    have hO := hO.ext hx22
    have hB6 := hB6.ext hx22
    have hd32 := d.2
    have hk9 := vi_len9 (n := toldK st.ahead (getB l d) st.first st.depth) (by rcases toldK_cases st.ahead (getB l d) st.first st.depth with h | h <;> omega)
    refine ⟨hS, ?_⟩
    refine RH.one 5 (by kernel_rfl) ?_
    refine RS.st rfl (St.appS (xs := st.out ++ d.1) Tryd.underlying33 Tryd.underlying9 ai_u8 rfl rfl hO (by rw [bs_size, numB_nat, List.length_append]; omega)) (by first | decide | exact Nat.le_of_ble_eq_true rfl) fun v45 w23 hR23 => ?_   -- call append(t42, t44) : 33,9
    obtain ⟨hO, hc23, hf23⟩ := hR23
    rw [bs_toList, numB_nat] at hO
    have hz23 := hc23.size
    have hS := hS.stepO hc23 (fun k h => by rcases hf42 k h with h | h; exact .inl (.inr h); exact .inr (by omega))
    have hf45 : ∀ k, v45.ownBlock = some k → uo.ownBlock = some k ∨ w20.heap.size ≤ k := by
      rcases hf23 with h_ | h_
      · intro k hk; rw [h_] at hk; exact hf42 k hk
      · intro k hk; have := h_ k hk; exact .inr (by omega)
    have hB6 := hB6.chg hc23 (fun h => by rcases hf42 _ h with h | h; exact (hou _ h).2.1 rfl; omega)
    refine ⟨hS, ?_⟩
    refine RH.one 8 (by kernel_rfl) ?_
    refine RS.call rfl (fun _ _ h => by cases h) Tryd.func26 rfl rfl rfl (text_any (bs (toldB st.ahead (getB l d) st.first st.depth)) _ (by rw [bs_size]; omega)) (by first | decide | exact Nat.le_of_ble_eq_true rfl) fun v48 w24 hR24 => ?_   -- call F26(t47) : 9
    obtain ⟨hO48, hc24, hf24⟩ := hR24
    have hx24 : Ext w23 w24 := hc24.toExt (fun k _ h => by simp [Value.ownBlock] at h)
    rw [bs_toList] at hO48
    have hO48 : Own w24 5 1 v48 (bytesC (textB (toldB st.ahead (getB l d) st.first st.depth))) := by simpa using hO48
    have hz24 := hx24.size
    have hS := hS.thenExt hx24
    have hO := hO.ext hx24
    have hB6 := hB6.ext hx24
    have htx9 := vi_len9 (n := (toldB st.ahead (getB l d) st.first st.depth).length) (by omega)
    refine ⟨hS, ?_⟩
    refine RH.one 9 (by kernel_rfl) ?_
    refine RS.st rfl (St.app (xs := st.out ++ d.1 ++ vi (toldK st.ahead (getB l d) st.first st.depth)) (ys := textB (toldB st.ahead (getB l d) st.first st.depth)) Tryd.underlying33 Tryd.underlying33 ai_u8 rfl rfl hO (Src.own hO48) (by simp only [textB, List.length_append]; omega)) (by first | decide | exact Nat.le_of_ble_eq_true rfl) fun v49 w25 hR25 => ?_   -- call append(t45, t48) : 33,33
    obtain ⟨hO, hc25, hf25⟩ := hR25
    have hz25 := hc25.size
    have hS := hS.stepO hc25 (fun k h => by rcases hf45 k h with h | h; exact .inl (.inr h); exact .inr (by omega))
    have hf49 : ∀ k, v49.ownBlock = some k → uo.ownBlock = some k ∨ w20.heap.size ≤ k := by
      rcases hf25 with h_ | h_
      · intro k hk; rw [h_] at hk; exact hf45 k hk
      · intro k hk; have := h_ k hk; exact .inr (by omega)
    have hB6 := hB6.chg hc25 (fun h => by rcases hf45 _ h with h | h; exact (hou _ h).2.1 rfl; omega)
    obtain ⟨A49, m49, c49, rfl⟩ := hO.lens
    have hO49l := hO.lt
    refine ⟨hS, ?_⟩
    refine RH.one 10 (by kernel_rfl) ?_
    refine RS.store rfl (g := g6) (pre := []) (old := [uo]) (post := []) (new := [.slice A49 m49 c49]) rfl rfl rfl rfl (by kernel_rfl) (by simpa using hB6) rfl (one1 rfl) (fun w26 hc26 hB26_ => ?_)   -- store 33 t6 t49
    have hB6 : Blk w26 g6 33 [.slice A49 m49 c49] := by simpa using hB26_
    have hS := hS.trans hc26 (fun k _ h => .inl h)
    refine ⟨hS, ?_⟩
    refine RH.done (by kernel_rfl) ?_
    have hzS := hS.size
    have hou2 : ∀ k, (Value.slice A49 m49 c49).ownBlock = some k → w3.heap.size ≤ k ∧ k ≠ g6 ∧ k ≠ g7 ∧ k ≠ g8 ∧ k ≠ g9 ∧ (k < w15.heap.size ∨ (s_.hi ≤ k ∧ w15.heap.size + 2 ≤ k)) := by
      intro k hk
      rcases hf49 k hk with h | h
      · exact hou k h
      · exact ⟨by omega, by omega, by omega, by omega, by omega, .inr ⟨by omega, by omega⟩⟩
    have hSx : ∀ k, (k = g6 ∨ uo.ownBlock = some k) → w3.heap.size ≤ k ∧ k ≠ g7 ∧ k ≠ g8 ∧ k ≠ g9 ∧ (k < w15.heap.size ∨ (s_.hi ≤ k ∧ w15.heap.size + 2 ≤ k)) ∧ k < w16.heap.size := by
      intro k hk
      rcases hk with hk | hk
      · exact ⟨by omega, by omega, by omega, by omega, .inl (by omega), by omega⟩
      · have h1 := hou k hk; exact ⟨h1.1, h1.2.2.1, h1.2.2.2.1, h1.2.2.2.2.1, h1.2.2.2.2.2, hol k hk⟩
    have hO := hO.chg hc26 (fun k hk h => (hou2 k hk).2.1 h)
    have hO : Own w26 5 1 (.slice A49 m49 c49) (bytesC (wStep st (d, getB l d)).out) := by
      have e1 : (wStep st (d, getB l d)).out = st.out ++ d.1 ++ vi (toldK st.ahead (getB l d) st.first st.depth) ++ textB (toldB st.ahead (getB l d) st.first st.depth) := by simp only [wStep, wPiece, List.append_assoc]
      rw [e1]; exact hO
    have hml := hO.by.len.1
    have hE := hE.step hS (fun k h => by have := hSx k h; omega)
    have hB7 := hW19.b7.chg hS (fun h => (hSx _ h).2.1 rfl)
    have hB8 := hW19.b8.chg hS (fun h => (hSx _ h).2.2.1 rfl)
    have hB9 := hW19.b9.chg hS (fun h => (hSx _ h).2.2.2.1 rfl)
    have hB2 := hB2.chg hS (fun h => by have := hSx _ h; omega)
    have hB3 := hB3.chg hS (fun h => by have := hSx _ h; omega)
    have hB10 := hB10.chg hS (fun h => by have := hSx _ h; omega)
    have hxv := hxv.chg hS (fun k hk h => by have h1 := hxo k hk; have h2 := hSx k h; omega)
    have hCr : Chg (fun k => k = g6 ∨ k = g7 ∨ k = g8 ∨ k = g9 ∨ uo.ownBlock = some k) w18 w26 := (Ext.chg hx19).trans hS (fun k _ h => by rcases h with h | h; exact .inl h; exact .inr (.inr (.inr (.inr h))))
    refine hK14 _ _ ?_; try clear hK14 K14
    refine CW.seq fun K15 hK15 => ?_
    refine CW.region ?_   -- region 12
    refine WL.val (Y.load1 Tryd.underlying3 rfl hB7.mem.cell0 rfl) (by first | decide | exact Nat.le_of_ble_eq_true rfl) ?_   -- t50 := load 3 t7
    refine WL.val (Y.add rfl rfl ⟨by omega, by omega⟩) (by first | decide | exact Nat.le_of_ble_eq_true rfl) ?_   -- t51 := binOp add 3 t50 c(1:i64) 3
    refine WL.val (Y.move rfl) (by first | decide | exact Nat.le_of_ble_eq_true rfl) ?_   -- t52 := move t12
    refine WL.val (Y.mul rfl rfl hmul) (by first | decide | exact Nat.le_of_ble_eq_true rfl) ?_   -- t53 := binOp mul 3 t51 t52 3
    refine WL.store (g := g7) (pre := []) (old := [.int .i64 (st.depth : Int)]) (post := []) (new := [.int .i64 (((st.depth : Int) + 1) * (toldK st.ahead (getB l d) st.first st.depth : Int))]) rfl rfl rfl rfl (by kernel_rfl) (by simpa using hB7) (by first | rfl | (simp [digC_length, opC_length]; done) | (simp only [digC_length, opC_length]; omega)) (one1 rfl) (fun w27 hc27 hB27_ => ?_)   -- _ := store 3 t7 t53
    have hz27 := hc27.size; have hE := hE.step hc27 (fun k h => by omega); have hB10 := hB10.chg hc27 (fun h => by omega)
    have hB7 : Blk w27 g7 3 [.int .i64 (((st.depth : Int) + 1) * (toldK st.ahead (getB l d) st.first st.depth : Int))] := by simpa using hB27_
    have hB6 := hB6.chg hc27 (fun h => by omega)
    have hB8 := hB8.chg hc27 (fun h => by omega)
    have hB9 := hB9.chg hc27 (fun h => by omega)
    have hB2 := hB2.chg hc27 (fun h => by omega)
    have hB3 := hB3.chg hc27 (fun h => by omega)
    have hO := hO.chg hc27 (fun k hk h => by have := hou2 k hk; have h : k = g7 := h; omega)
    have hxv := hxv.chg hc27 (fun k hk h => by have h1 := hxo k hk; have h : k = g7 := h; omega)
    have hCr := hCr.trans hc27 (fun k _ h => .inr (.inl h))
    refine WL.nil ?_
    refine hK15 _ _ ?_; try clear hK15 K15
    refine CW.seq fun K16 hK16 => ?_
    refine CW.region ?_   -- region 13
    refine WL.val (Y.move rfl) (by first | decide | exact Nat.le_of_ble_eq_true rfl) ?_   -- t54 := move t11
    refine WL.store (g := g9) (pre := []) (old := [ua]) (post := []) (new := [.slice Ax mx cx]) rfl rfl rfl rfl (by kernel_rfl) (by simpa using hB9) (by first | rfl | (simp [digC_length, opC_length]; done) | (simp only [digC_length, opC_length]; omega)) (one1 rfl) (fun w28 hc28 hB28_ => ?_)   -- _ := store 33 t9 t54
    have hz28 := hc28.size; have hE := hE.step hc28 (fun k h => by omega); have hB10 := hB10.chg hc28 (fun h => by omega)
    have hB9 : Blk w28 g9 33 [.slice Ax mx cx] := by simpa using hB28_
    have hB6 := hB6.chg hc28 (fun h => by omega)
    have hB7 := hB7.chg hc28 (fun h => by omega)
    have hB8 := hB8.chg hc28 (fun h => by omega)
    have hB2 := hB2.chg hc28 (fun h => by omega)
    have hB3 := hB3.chg hc28 (fun h => by omega)
    have hO := hO.chg hc28 (fun k hk h => by have := hou2 k hk; have h : k = g9 := h; omega)
    have hxv := hxv.chg hc28 (fun k hk h => by have h1 := hxo k hk; have h : k = g9 := h; omega)
    have hCr := hCr.trans hc28 (fun k _ h => .inr (.inr (.inr (.inl h))))
    refine WL.store (g := g8) (pre := []) (old := [.bool st.first]) (post := []) (new := [.bool false]) rfl rfl rfl rfl (by kernel_rfl) (by simpa using hB8) (by first | rfl | (simp [digC_length, opC_length]; done) | (simp only [digC_length, opC_length]; omega)) (one1 rfl) (fun w29 hc29 hB29_ => ?_)   -- _ := store 4 t8 c(false)
    have hz29 := hc29.size; have hE := hE.step hc29 (fun k h => by omega); have hB10 := hB10.chg hc29 (fun h => by omega)
    have hB8 : Blk w29 g8 4 [.bool false] := by simpa using hB29_
    have hB6 := hB6.chg hc29 (fun h => by omega)
    have hB7 := hB7.chg hc29 (fun h => by omega)
    have hB9 := hB9.chg hc29 (fun h => by omega)
    have hB2 := hB2.chg hc29 (fun h => by omega)
    have hB3 := hB3.chg hc29 (fun h => by omega)
    have hO := hO.chg hc29 (fun k hk h => by have := hou2 k hk; have h : k = g8 := h; omega)
    have hxv := hxv.chg hc29 (fun k hk h => by have h1 := hxo k hk; have h : k = g8 := h; omega)
    have hCr := hCr.trans hc29 (fun k _ h => .inr (.inr (.inl h)))
    have hout : (wStep st (d, getB l d)).out.length = m49 := hml
    refine WL.nil ?_
    refine hK16 _ _ ?_; try clear hK16 K16
    refine CW.seq fun K17 hK17 => ?_
    refine CW.region ?_   -- region 14
    refine WL.val (Y.load1 Tryd.underlying33 rfl hB6.mem.cell0 rfl) (by first | decide | exact Nat.le_of_ble_eq_true rfl) ?_   -- t55 := load 33 t6
    refine WL.val (Y.len_slice Tryd.underlying33 rfl) (by first | decide | exact Nat.le_of_ble_eq_true rfl) ?_   -- t56 := call len(t55) : 33
    refine WL.val (Y.gtr rfl rfl) (by first | decide | exact Nat.le_of_ble_eq_true rfl) ?_   -- t57 := binOp gtr 3 t56 c(1048544:i64) 3
    refine WL.nil ?_
    refine hK17 _ _ ?_; try clear hK17 K17
    first | refine CW.condD rfl (fun ht18 => ?_) (fun ht18 => ?_) | refine CW.condND rfl (fun ht18 => ?_) (fun ht18 => ?_) | refine CW.condN rfl (fun ht18 => ?_) (fun ht18 => ?_) | refine CW.cond rfl (fun ht18 => ?_) (fun ht18 => ?_)
    · -- then
      refine CW.seq fun K19 hK19 => ?_
      refine CW.region ?_   -- region 15
      refine WL.store (g := g2) (pre := []) (old := [.string ByteArray.empty]) (post := []) (new := [.string ByteArray.empty]) rfl rfl rfl rfl (by kernel_rfl) (by simpa using hB2) (by first | rfl | (simp [digC_length, opC_length]; done) | (simp only [digC_length, opC_length]; omega)) (one1 rfl) (fun w30 hc30 hB30_ => ?_)   -- _ := store 9 t2 c(STR)
      have hz30 := hc30.size; have hE := hE.step hc30 (fun k h => by omega); have hB10 := hB10.chg hc30 (fun h => by omega)
      have hB2 : Blk w30 g2 9 [.string ByteArray.empty] := by simpa using hB30_
      have hB3 := hB3.chg hc30 (fun h => by omega)
      refine WL.store (g := g3) (pre := []) (old := [.int .i64 0]) (post := []) (new := [.int .i64 3]) rfl rfl rfl rfl (by kernel_rfl) (by simpa using hB3) (by first | rfl | (simp [digC_length, opC_length]; done) | (simp only [digC_length, opC_length]; omega)) (one1 rfl) (fun w31 hc31 hB31_ => ?_)   -- _ := store 23 t3 c(3:i64)
      have hz31 := hc31.size; have hE := hE.step hc31 (fun k h => by omega); have hB10 := hB10.chg hc31 (fun h => by omega)
      have hB3 : Blk w31 g3 23 [.int .i64 3] := by simpa using hB31_
      have hB2 := hB2.chg hc31 (fun h => by omega)
      refine WL.nil ?_
      refine hK19 _ _ ?_; try clear hK19 K19
      refine CW.ret ?_
      exact ⟨⟨rfl, by rw [← hrun, drop_cons hob, wRun, if_pos (show 1048544 < (wStep st (d, getB l d)).out.length by omega)], hB2, hB3, hE⟩, Chg.mono (((hCr.mono (T := fun k => (k = g6 ∨ k = g7 ∨ k = g8 ∨ k = g9 ∨ uo.ownBlock = some k) ∨ k = g2 ∨ k = g3) (fun k _ h => .inl h)).trans hc30 (fun k _ h => .inr (.inl h))).trans hc31 (fun k _ h => .inr (.inr h))) (fun k _ h => by
        have hk6 : k = g6 ∨ k = g7 ∨ k = g8 ∨ k = g9 ∨ k = g2 ∨ k = g3 ∨ (k < w15.heap.size ∨ (s_.hi ≤ k ∧ w15.heap.size + 2 ≤ k)) := by
          rcases h with (h | h | h | h | h) | h | h
          · exact .inl h
          · exact .inr (.inl h)
          · exact .inr (.inr (.inl h))
          · exact .inr (.inr (.inr (.inl h)))
          · exact .inr (.inr (.inr (.inr (.inr (.inr (hou k h).2.2.2.2.2)))))
          · exact .inr (.inr (.inr (.inr (.inl h))))
          · exact .inr (.inr (.inr (.inr (.inr (.inl h)))))
        exact ⟨fun hk => by have h1 := hk.1; have h2 := hk.2.1; omega, by omega, by omega⟩)⟩
    -- else
    refine CW.skip ?_
    have hzr := hCr.size
    exact ⟨⟨wStep st (d, getB l d), _, _, hbl, hlo, by omega, hown, by rw [← hrun, drop_cons hob, wRun, if_neg (show ¬ 1048544 < (wStep st (d, getB l d)).out.length by omega)], ⟨hB6, hO, by simpa [wStep] using hB7, hB8, hB9, hxv.by, by omega, (wDepth st _).elim id False.elim⟩, hou2, hxo, hB2, hB3, hE⟩, hCr.mono (fun k _ h => by
      have hk6 : k = g6 ∨ k = g7 ∨ k = g8 ∨ k = g9 ∨ k = g2 ∨ k = g3 ∨ (k < w15.heap.size ∨ (s_.hi ≤ k ∧ w15.heap.size + 2 ≤ k)) := by
        rcases h with h | h | h | h | h
        · exact .inl h
        · exact .inr (.inl h)
        · exact .inr (.inr (.inl h))
        · exact .inr (.inr (.inr (.inl h)))
        · exact .inr (.inr (.inr (.inr (.inr (.inr (hou k h).2.2.2.2.2)))))
      exact ⟨fun hk => by have h1 := hk.1; have h2 := hk.2.1; omega, by omega, by omega⟩)⟩
  · intro s_ w32 hi_ hD_ hfin_
    obtain ⟨st, uo, ua, hbl, hlo, hhi, hown, hrun, hW, hou, hau, hB2, hB3, hE⟩ := hi_
    have hxl : (allXs l s_).length = (objs l).length := by rw [objs_length]; simp only [allXs, List.length_zip, namesL_length, hbl]; omega
    rw [hxl, List.drop_length] at hrun
    have hK := hK0.ext hE
    have hB6 := hW.b6
    have hB7 := hW.b7
    have hB8 := hW.b8
    have hB9 := hW.b9
    have hO := hW.o
    have hlen := hW.len
    have hol := hW.o.lt
    refine hK10 _ _ _ ?_; try clear hK10 K10
    refine CN.seq fun K20 hK20 => ?_
    refine CN.of_CW ?_
    refine CW.region ?_   -- region 16
    refine WL.val (Y.load1 Tryd.underlying33 rfl hB6.mem.cell0 rfl) (by first | decide | exact Nat.le_of_ble_eq_true rfl) ?_   -- t58 := load 33 t6
    refine WL.call Tryd.func12 rfl rfl rfl (sum_any uo st.out _ hO.by (fun _ k hk => hol k hk) hK (by omega)) (by simp) ?_; rintro v w33 ⟨rfl, hx33⟩; have hz33 := hx33.size; have hE := hE.thenExt hx33; have hK := hK.ext hx33; have hB2 := hB2.ext hx33; have hB3 := hB3.ext hx33; have hB6 := hB6.ext hx33; have hB7 := hB7.ext hx33; have hB8 := hB8.ext hx33; have hB9 := hB9.ext hx33   -- t59 := call F12(t58) : 33
    refine as_apiDigest rfl (by simp) (by first | decide | exact Nat.le_of_ble_eq_true rfl) fun g14 w34 hx34 hg14 hB14 => ?_   -- alloc 31; store 31 t14 t59
    have hlt14 := hB14.lt; have hz34 := hx34.size
    have hM14 := hB14.mem; have hz34 := hx34.size; have hE := hE.thenExt hx34; have hK := hK.ext hx34; have hB2 := hB2.ext hx34; have hB3 := hB3.ext hx34; have hB6 := hB6.ext hx34; have hB7 := hB7.ext hx34; have hB8 := hB8.ext hx34; have hB9 := hB9.ext hx34
    refine WL.nil ?_
    refine hK20 _ _ _ ?_; try clear hK20 K20
    refine CN.seq fun K21 hK21 => ?_
    refine CN.of_CW ?_
    refine CW.held (fun wq => Chg (fun k => k = g2 ∨ k = g3 ∨ uo.ownBlock = some k) w34 wq) (by kernel_rfl) 6 rfl fun w35 hx35 => ?_
    have hS : Chg (fun k => k = g2 ∨ k = g3 ∨ uo.ownBlock = some k) w34 w35 := hx35.chg
    have hO := ((hO.ext hx33).ext hx34).ext hx35
    have hB6 := hB6.ext hx35
    have hB14 := hB14.ext hx35
    have hB2 := hB2.ext hx35
    have hB3 := hB3.ext hx35
    refine RH.take 1 (fun _ _ _ _ h => h) (by kernel_rfl) hS rfl (by kernel_rfl) (by kernel_rfl) (fun wq hq => Y.slice_arr Tryd.underlying31 rfl sz_uint8) (by first | decide | exact Nat.le_of_ble_eq_true rfl) ?_   -- t61 := slice 31 t14 none none none
    refine RH.one 0 (by kernel_rfl) ?_
    refine RS.val rfl (Y.load1 Tryd.underlying33 rfl hB6.mem.cell0 rfl) (by first | decide | exact Nat.le_of_ble_eq_true rfl) ⟨hS, ?_⟩   -- t60 := load 33 t6
    refine RH.one 2 (by kernel_rfl) ?_
    refine RS.st rfl (St.app (xs := st.out) (ys := (shaD st.out).1) Tryd.underlying33 Tryd.underlying33 ai_u8 rfl rfl hO (Src.dig hB14.mem) (by omega)) (by first | decide | exact Nat.le_of_ble_eq_true rfl) fun v62 w36 hR36 => ?_   -- call append(t60, t61) : 33,33
    obtain ⟨hO, hc36, hf36⟩ := hR36
    have hS := hS.trans hc36 (fun k _ h => .inr (.inr h))
    obtain ⟨A62, m62, c62, rfl⟩ := hO.lens
    have hB2 := hB2.chg hc36 (fun h => by have := hou _ h; omega)
    have hB3 := hB3.chg hc36 (fun h => by have := hou _ h; omega)
    refine ⟨hS, ?_⟩
    refine RH.one 3 (by kernel_rfl) ?_
    refine RS.val rfl (Y.bytes_string Tryd.underlying33 Tryd.underlying5 Tryd.underlying9 rfl hO.by.len.1 hO.by.mem.1 hO.by.mem.2) (by first | decide | exact Nat.le_of_ble_eq_true rfl) ⟨hS, ?_⟩   -- t63 := convert 33 9 t62
    refine RH.one 4 (by kernel_rfl) ?_
    refine RS.store rfl (g := g2) (pre := []) (old := [.string ByteArray.empty]) (post := []) (new := [.string (bs (st.out ++ (shaD st.out).1))]) rfl rfl rfl rfl (by kernel_rfl) (by simpa using hB2) rfl (one1 rfl) (fun w37 hc37 hB37_ => ?_)   -- store 9 t2 t63
    have hB2 : Blk w37 g2 9 [.string (bs (st.out ++ (shaD st.out).1))] := by simpa using hB37_
    have hB3 := hB3.chg hc37 (fun h => by omega)
    have hS := hS.trans hc37 (fun k _ h => .inl h)
    refine ⟨hS, ?_⟩
    refine RH.one 5 (by kernel_rfl) ?_
    refine RS.store rfl (g := g3) (pre := []) (old := [.int .i64 0]) (post := []) (new := [.int .i64 0]) rfl rfl rfl rfl (by kernel_rfl) (by simpa using hB3) rfl (one1 rfl) (fun w38 hc38 hB38_ => ?_)   -- store 23 t3 c(0:i64)
    have hB3 : Blk w38 g3 23 [.int .i64 0] := by simpa using hB38_
    have hB2 := hB2.chg hc38 (fun h => by omega)
    have hS := hS.trans hc38 (fun k _ h => .inr (.inl h))
    refine ⟨hS, ?_⟩
    refine RH.done (by kernel_rfl) ?_
    have hE := hE.step hS (fun k h => by rcases h with h | h | h; omega; omega; have := hou k h; omega)
    have hC : Chg (fun k => k = g2 ∨ k = g3 ∨ uo.ownBlock = some k) w32 w38 := ((Ext.chg hx33).thenExt hx34).trans hS (fun k _ h => h)
    refine hK21 _ _ _ ?_; try clear hK21 K21
    refine CN.ret ?_
    exact ⟨[w15.heap.size], rfl, by simp, (fun D hD => by simp at hD; subst hD; exact def_chg hD_ hC (fun h => by rcases h with h | h | h; omega; omega; have := hou _ h; omega)), fun w_ hc => ⟨_, _, _, _, rfl, ((hB2.chg hc (fun h => by simp at h; omega)).mem).cell0, rfl, ((hB3.chg hc (fun h => by simp at h; omega)).mem).cell0, ⟨_, _, rfl, .inr ⟨l, hH, hsh, hfew, by rw [wrR, ← hrun]; rfl⟩⟩, hE.step hc (fun k h => by simp at h; omega)⟩⟩
  · intro s_ e_ w39 hi_ hD_ hfin_ he_
    obtain ⟨rfl, hi_⟩ := hi_
    obtain ⟨hnone, hB2, hB3, hE⟩ := hi_
    exact ⟨[w15.heap.size], rfl, by simp, (fun D hD => by simp at hD; subst hD; exact hD_), fun w_ hc => ⟨_, _, _, _, rfl, ((hB2.chg hc (fun h => by simp at h; omega)).mem).cell0, rfl, ((hB3.chg hc (fun h => by simp at h; omega)).mem).cell0, ⟨[], _, rfl, .inr ⟨l, hH, hsh, hfew, by rw [wrR, hnone]⟩⟩, hE.step hc (fun k h => by simp at h; omega)⟩⟩
end Go.Proofs.YtoncdfpohdchgaaDoor
