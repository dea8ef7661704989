/- Parts of a proof: what its last text leans on. No condition. -/
import Derived.Test.YtfanmpbapabboaaDoorK05
import Derived.Test.YtfanmpbapabboaaDoorK18
set_option linter.unusedSimpArgs false
set_option linter.unusedVariables false
/- pack.Write, walked: what it hands back is the pack of the objects that a store takes. No condition. -/
namespace Go.Proofs.YtfanmpbapabboaaDoor
open Go.RowKit Go.Fw Go.Pl Go.Sort
theorem info_errW : ∃ i : TypeInfo, Tryd.prog.info? 24 = some i ∧ i.zero = some (.int .i64 0) := by
 have h : (Tryd.prog.info? 24).map (fun i => i.zero) = some (some (.int .i64 0)) := by kernel_rfl
 obtain ⟨i, hi, h⟩ := Option.map_eq_some_iff.1 h
 exact ⟨i, hi, h⟩
def WrAns (xs : List (List UInt8)) (q : List UInt8) (e : Int) : Prop := (TkErr xs e ∧ q = []) ∨ ∃ l, Holds l xs ∧ (∀ b ∈ xs, b.length ≤ 131072) ∧ l.length ≤ 500 ∧ (q, e) = wrR (objs l)
structure WrAt (V : World) (g6 g7 g8 g9 : Nat) (uo ua : Value) (st : WS) : Prop where
 b6 : Blk V g6 32 [uo]
 o : Own V 5 1 uo (bytesC st.out)
 b7 : Blk V g7 3 [.int .i64 (st.depth : Int)]
 b8 : Blk V g8 4 [.bool st.first]
 b9 : Blk V g9 32 [ua]
 a : By V ua st.ahead
 len : st.out.length ≤ 1048544
 dep : st.depth ≤ 4
theorem WrAt.chg {V W : World} {g6 g7 g8 g9 : Nat} {uo ua : Value} {st : WS} {S : Nat → Prop} (h : WrAt V g6 g7 g8 g9 uo ua st) (hc : Chg S V W) (h6 : ¬ S g6) (h7 : ¬ S g7) (h8 : ¬ S g8) (h9 : ¬ S g9) (ho : ∀ k, uo.ownBlock = some k → ¬ S k) (ha : ∀ k, ua.ownBlock = some k → ¬ S k) : WrAt W g6 g7 g8 g9 uo ua st :=
 ⟨h.b6.chg hc h6, h.o.chg hc ho, h.b7.chg hc h7, h.b8.chg hc h8, h.b9.chg hc h9, h.a.chg hc (fun _ k hk => ha k hk), h.len, h.dep⟩
theorem WrAt.ext {V W : World} {g6 g7 g8 g9 : Nat} {uo ua : Value} {st : WS} (h : WrAt V g6 g7 g8 g9 uo ua st) (hc : Ext V W) : WrAt W g6 g7 g8 g9 uo ua st := h.chg hc (fun f => f) (fun f => f) (fun f => f) (fun f => f) (fun _ _ f => f) (fun _ _ f => f)
theorem drop_cons {α : Type} {l : List α} {i : Nat} {x : α} (h : l[i]? = some x) : l.drop i = x :: l.drop (i + 1) := by
 obtain ⟨hlt, rfl⟩ := List.getElem?_eq_some_iff.1 h
 exact List.drop_eq_getElem_cons hlt
theorem objs_at {l : List Ent} {i : Nat} {d : Dig} (h : (namesL l)[i]? = some d) : (objs l)[i]? = some (d, getB l d) := by rw [objs, List.getElem?_map, h]; rfl
set_option maxRecDepth 100000 in
set_option maxHeartbeats 4000000 in
theorem pwrite_any (u : Value) (xs : List (List UInt8)) (w : World) (hu : Sl w strC 1 u xs) (hs : ∀ x ∈ xs, x.length ≤ 140737488351232) (hK : Mem w ⟨0, 0, none⟩ (wds keysL)) : Calls Tryd.prog 15 #[u] w (Ret fun r w' => (∃ q e, r = .tuple #[.string (bs q), .int .i64 e] ∧ WrAns xs q e) ∧ Ext w w') := by
 have hK0 := hK
 have hk0 : (0 : Nat) < w.heap.size := hK.lt (fun h => by cases h)
 obtain ⟨A, m, c, rfl, hm, hmc, hcm, hux⟩ := id hu
 obtain ⟨ie, hie, hze⟩ := info_errW
 refine calls_of_CNss 64 2 3 [(0, .slice A m c)] Tryd.func15 rfl rfl rfl Tryd.underlying9 Tryd.underlying24 rfl rfl (by simp) args1 ?_
 have hE : Ext w w := Chg.refl
 refine CN.seq fun K1 hK1 => ?_
 refine CN.of_CW ?_
 refine CW.region ?_
 refine WL.alloc1 (z := .string ByteArray.empty) kr_ rfl dx_ fun g2 w1 hx1 hg2 hB2 => ?_
 have hlt2 := hB2.lt; have hz1 := hx1.size
 have hM2 := hB2.mem; have hz1 := hx1.size; have hE := hE.thenExt hx1; have hK := hK.ext hx1
 refine WL.alloc (hie) (hze) rfl dx_ fun g3 w2 hx2 hg3 hB3 => ?_
 have hlt3 := hB3.lt; have hz2 := hx2.size
 have hM3 := hB3.mem; have hz2 := hx2.size; have hE := hE.thenExt hx2; have hK := hK.ext hx2; have hB2 := hB2.ext hx2
 refine WL.nil ?_
 refine hK1 _ _ _ ?_; try clear hK1
 refine CN.seq fun K2 hK2 => ?_
 refine CN.of_CW ?_
 refine CW.region ?_
 refine WL.val (Y.move rfl) dx_ ?_
 refine WL.call Tryd.func10 rfl rfl rfl (taken_any _ xs _ (hu.ext hE) hs hK) (by simp) ?_; rintro v17 w3 hR3
 obtain ⟨p, e, rfl, hbad, hgood, hx3⟩ := hR3
 have hz3 := hx3.size
 have hE := hE.thenExt hx3
 have hK := hK.ext hx3
 have hB2 := hB2.ext hx3
 have hB3 := hB3.ext hx3
 refine WL.val (Y.move rfl) dx_ ?_
 refine WL.val (Y.extract rfl rfl) dx_ ?_
 refine WL.val (Y.extract rfl rfl) dx_ ?_
 refine WL.val (Y.assign rfl) dx_ ?_
 refine WL.val (Y.assign rfl) dx_ ?_
 refine WL.nil ?_
 refine hK2 _ _ _ ?_; try clear hK2
 refine CN.seq fun K3 hK3 => ?_
 refine CN.seq fun K4 hK4 => ?_
 refine CN.of_CW ?_
 refine CW.region ?_
 refine WL.val (Y.move rfl) dx_ ?_
 refine WL.val (Y.neq rfl rfl) dx_ ?_
 refine WL.nil ?_
 refine hK4 _ _ _ ?_; try clear hK4
 first | refine CN.condD rfl (fun ht5 => ?_) (fun ht5 => ?_) | refine CN.condND rfl (fun ht5 => ?_) (fun ht5 => ?_) | refine CN.condN rfl (fun ht5 => ?_) (fun ht5 => ?_) | refine CN.cond rfl (fun ht5 => ?_) (fun ht5 => ?_)
 ·
  -- then
  refine CN.seq fun K6 hK6 => ?_
  refine CN.of_CW ?_
  refine CW.region ?_
  refine WL.val (Y.move rfl) dx_ ?_
  refine WL.store (g := g2) (pre := []) (old := [.string ByteArray.empty]) (post := []) (new := [.string ByteArray.empty]) rfl rfl rfl rfl kr_ (by simpa using hB2) ln_ (one1 rfl) (fun w4 hc4 hB4_ => ?_)
  have hz4 := hc4.size; have hE := hE.step hc4 (fun k h => by omega); have hK := hK.chg hc4 (fun h => by change 0 = _ at h; omega); have hB3 := hB3.chg hc4 no_
  have hB2 : Blk w4 g2 9 [.string ByteArray.empty] := by simpa using hB4_
  refine WL.store (g := g3) (pre := []) (old := [.int .i64 0]) (post := []) (new := [.int .i64 e]) rfl rfl rfl rfl kr_ (by simpa using hB3) ln_ (one1 rfl) (fun w5 hc5 hB5_ => ?_)
  have hz5 := hc5.size; have hE := hE.step hc5 (fun k h => by omega); have hK := hK.chg hc5 (fun h => by change 0 = _ at h; omega); have hB2 := hB2.chg hc5 no_
  have hB3 : Blk w5 g3 24 [.int .i64 e] := by simpa using hB5_
  refine WL.nil ?_
  refine hK6 _ _ _ ?_; try clear hK6
  refine CN.ret ?_
  obtain ⟨hterr, _⟩ := hbad (by assumption)
  exact ⟨[], rfl, by simp, (fun D hD => by simp at hD), fun w_ hc => ⟨_, _, _, _, rfl, ((hB2.chg hc (fun h => by simp at h)).mem).cell0, rfl, ((hB3.chg hc (fun h => by simp at h)).mem).cell0, ⟨[], e, rfl, .inl ⟨hterr, rfl⟩⟩, hE.step hc (fun k h => by simp at h)⟩⟩
 refine CN.skip ?_
 refine hK3 _ _ _ ?_; try clear hK3
 refine CN.seq fun K7 hK7 => ?_
 refine CN.of_CW ?_
 have he0 : e = 0 := Decidable.not_not.1 (by assumption); obtain ⟨g, r, l, rfl, hT, hH, hsh, hg, hr, hef⟩ := hgood he0; have hfew := hT.few; have hgrl := hT.lt; refine CW.region ?_
 refine WL.val (Y.move rfl) dx_ ?_
 refine WL.call Tryd.func29 rfl rfl rfl (stLen_any g r l _ hT) (by simp) ?_; rintro v w6 ⟨rfl, hx6⟩; have hz6 := hx6.size; have hE := hE.thenExt hx6; have hK := hK.ext hx6; have hB2 := hB2.ext hx6; have hB3 := hB3.ext hx6
 refine WL.call Tryd.func28 rfl rfl rfl (knum_any (l.length : Int) _ om_) (by simp) ?_; rintro v w7 ⟨rfl, hx7⟩; have hz7 := hx7.size; have hE := hE.thenExt hx7; have hK := hK.ext hx7; have hB2 := hB2.ext hx7; have hB3 := hB3.ext hx7
 refine WL.val (Y.addS rfl rfl ((by show (bs [82, 80, 49]).size + (bs (numB (l.length : Int))).size ≤ _; rw [bs_size, bs_size]; have := numB_len (n := (l.length : Int)) om_; show 3 + _ ≤ _; omega))) dx_ ?_
 refine WL.st (St.strBytes Tryd.underlying9 Tryd.underlying32 Tryd.underlying5 rfl (by show (bs [82, 80, 49] ++ bs (numB (l.length : Int))).size ≤ _; rw [← bs_two, bs_size, List.length_append]; have := numB_len (n := (l.length : Int)) om_; show 3 + _ ≤ _; omega)) dx_ fun v27 w8 hR8 => ?_
 obtain ⟨hO, hx8, hf8⟩ := hR8
 have hz8 := hx8.size
 have hE := hE.thenExt hx8
 have hK := hK.ext hx8
 have hB2 := hB2.ext hx8
 have hB3 := hB3.ext hx8
 have hO : Own w8 5 1 v27 (bytesC (wBegin (objs l).length).out) := by
  have e1 : (bs [82, 80, 49] ++ bs (numB (l.length : Int))).toList = (wBegin (objs l).length).out := by rw [← bs_two, bs_toList, numB_nat, objs_length]; rfl
  rw [← e1]; exact hO
 obtain ⟨A27, m27, c27, rfl⟩ := hO.lens
 have hOl := hO.lt
 refine WL.allocStore1 kr_ rfl (by simp) rfl rfl dx_ fun g6 w9 hx9 hg6 hB6 => ?_
 have hlt6 := hB6.lt; have hz9 := hx9.size
 have hM6 := hB6.mem; have hz9 := hx9.size; have hE := hE.thenExt hx9; have hK := hK.ext hx9; have hB2 := hB2.ext hx9; have hB3 := hB3.ext hx9
 refine WL.nil ?_
 refine hK7 _ _ _ ?_; try clear hK7
 refine CN.seq fun K8 hK8 => ?_
 refine CN.of_CW ?_
 refine CW.region ?_
 refine WL.alloc1 (z := .int .i64 0) kr_ rfl dx_ fun g7 w10 hx10 hg7 hB7 => ?_
 have hlt7 := hB7.lt; have hz10 := hx10.size
 have hM7 := hB7.mem; have hz10 := hx10.size; have hE := hE.thenExt hx10; have hK := hK.ext hx10; have hB2 := hB2.ext hx10; have hB3 := hB3.ext hx10; have hB6 := hB6.ext hx10
 refine WL.alloc1 (z := .bool false) kr_ rfl dx_ fun g8 w11 hx11 hg8 hB8 => ?_
 have hlt8 := hB8.lt; have hz11 := hx11.size
 have hM8 := hB8.mem; have hz11 := hx11.size; have hE := hE.thenExt hx11; have hK := hK.ext hx11; have hB2 := hB2.ext hx11; have hB3 := hB3.ext hx11; have hB6 := hB6.ext hx11; have hB7 := hB7.ext hx11
 refine WL.store (g := g7) (pre := []) (old := [.int .i64 0]) (post := []) (new := [.int .i64 0]) rfl rfl rfl rfl kr_ (by simpa using hB7) ln_ (one1 rfl) (fun w12 hc12 hB12_ => ?_)
 have hz12 := hc12.size; have hE := hE.step hc12 (fun k h => by omega); have hK := hK.chg hc12 (fun h => by change 0 = _ at h; omega); have hB2 := hB2.chg hc12 no_; have hB3 := hB3.chg hc12 no_; have hB6 := hB6.chg hc12 no_; have hB8 := hB8.chg hc12 no_
 have hB7 : Blk w12 g7 3 [.int .i64 0] := by simpa using hB12_
 refine WL.store (g := g8) (pre := []) (old := [.bool false]) (post := []) (new := [.bool true]) rfl rfl rfl rfl kr_ (by simpa using hB8) ln_ (one1 rfl) (fun w13 hc13 hB13_ => ?_)
 have hz13 := hc13.size; have hE := hE.step hc13 (fun k h => by omega); have hK := hK.chg hc13 (fun h => by change 0 = _ at h; omega); have hB2 := hB2.chg hc13 no_; have hB3 := hB3.chg hc13 no_; have hB6 := hB6.chg hc13 no_; have hB7 := hB7.chg hc13 no_
 have hB8 : Blk w13 g8 4 [.bool true] := by simpa using hB13_
 refine WL.nil ?_
 refine hK8 _ _ _ ?_; try clear hK8
 refine CN.seq fun K9 hK9 => ?_
 refine CN.of_CW ?_
 refine CW.region ?_
 refine WL.alloc1 (z := .slice none 0 0) kr_ rfl dx_ fun g9 w14 hx14 hg9 hB9 => ?_
 have hlt9 := hB9.lt; have hz14 := hx14.size
 have hM9 := hB9.mem; have hz14 := hx14.size; have hE := hE.thenExt hx14; have hK := hK.ext hx14; have hB2 := hB2.ext hx14; have hB3 := hB3.ext hx14; have hB6 := hB6.ext hx14; have hB7 := hB7.ext hx14; have hB8 := hB8.ext hx14
 refine WL.nil ?_
 refine hK9 _ _ _ ?_; try clear hK9
 refine CN.seq fun K10 hK10 => ?_
 refine CN.seq fun K11 hK11 => ?_
 refine CN.of_CW ?_
 refine CW.region ?_
 refine WL.val (Y.move rfl) dx_ ?_
 refine WL.call Tryd.func14 rfl rfl rfl (sall_any ⟨g, 0, none⟩ _) (by simp) ?_; rintro v29 w15 hR15
 obtain ⟨bx, rfl, hgb, hBb, hx15⟩ := hR15
 have hz15 := hx15.size
 have hE := hE.thenExt hx15
 have hK := hK.ext hx15
 have hB2 := hB2.ext hx15
 have hB3 := hB3.ext hx15
 have hB6 := hB6.ext hx15
 have hB7 := hB7.ext hx15
 have hB8 := hB8.ext hx15
 have hB9 := hB9.ext hx15
 have hx315 : Ext w3 w15 := (((((((((hx6.thenExt hx7).thenExt hx8).thenExt hx9).thenExt hx10).thenExt hx11).step hc12 (fun k h => by have h : k = g7 := h; omega)).step hc13 (fun k h => by have h : k = g8 := h; omega)).thenExt hx14).thenExt hx15)
 have hT15 := hT.ext hx315
 have hO15 := (((((hO.ext hx9).ext hx10).ext hx11).chg hc12 (fun k hk h => by have := hOl k hk; have h : k = g7 := h; omega)).chg hc13 (fun k hk h => by have := hOl k hk; have h : k = g8 := h; omega)).ext (hx14.thenExt hx15)
 refine WL.nil ?_
 refine hK11 _ _ _ ?_; try clear hK11
 refine CN.block ?_
 refine CN.range (rfl) Tryd.func26 rfl rfl (sall1_any g r bx l _ hT15 hBb) (fun _ => rfl) dx_ (fun _ h => h.elim) (fun w1 s V hz hs i hk => by have := hs.lo; have := hk.1; omega) (fun s i V => ∃ st uo ua, s.bs.length = l.length ∧ w15.heap.size + 2 ≤ s.lo ∧ s.hi ≤ V.heap.size ∧ (∀ v ∈ s.bs, ∀ k, v.ownBlock = some k → s.lo ≤ k ∧ k < s.hi) ∧ wRun ((objs l).drop i) st = wRun (objs l) (wBegin (objs l).length) ∧ WrAt V g6 g7 g8 g9 uo ua st ∧ (∀ k, uo.ownBlock = some k → w3.heap.size ≤ k ∧ k ≠ g6 ∧ k ≠ g7 ∧ k ≠ g8 ∧ k ≠ g9 ∧ (k < w15.heap.size ∨ (s.hi ≤ k ∧ w15.heap.size + 2 ≤ k))) ∧ (∀ k, ua.ownBlock = some k → s.lo ≤ k ∧ k < s.hi) ∧ Blk V g2 9 [.string ByteArray.empty] ∧ Blk V g3 24 [.int .i64 0] ∧ Ext w V) (fun _ e V => e = .ret ∧ wRun (objs l) (wBegin (objs l).length) = none ∧ Blk V g2 9 [.string ByteArray.empty] ∧ Blk V g3 24 [.int .i64 3] ∧ Ext w V) ?_ ?_ ?_ ?_ ?_ ?_
 ·
  intro w1_ s_ V hw_ hz_ hc_ hs_
  have hv9 := vi_len9 (n := (objs l).length) (by rw [objs_length]; omega)
  exact ⟨wBegin (objs l).length, _, _, by rw [hs_.len, namesL_length], by have := hs_.lo; omega, hs_.hi, hs_.own, rfl, (WrAt.ext ⟨hB6, hO15, hB7, hB8, hB9, Own.by (e := 0) (bs := []) Own.nil, by show ([82, 80, 49] ++ vi _).length ≤ _; rw [List.length_append]; show 3 + _ ≤ _; omega, Nat.zero_le _⟩ hw_).ext hc_, (fun k hk => by have h1 := hf8 k hk; have h2 := hOl k hk; exact ⟨by omega, by omega, by omega, by omega, by omega, .inl om_⟩), (fun k hk => by cases hk), (hB2.ext hw_).ext hc_, (hB3.ext hw_).ext hc_, (hE.thenExt hw_).thenExt hc_⟩
 ·
  intro s_ i_ V V_ hi_ hc_
  obtain ⟨st, uo, ua, hbl, hlo, hhi, hown, hrun, hW, hou, hau, hB2, hB3, hE⟩ := hi_
  exact ⟨st, uo, ua, hbl, hlo, Nat.le_trans hhi hc_.size, hown, hrun, hW.chg hc_ (fun h => by rcases h with h | h; exact h; omega) (fun h => by rcases h with h | h; exact h; omega) (fun h => by rcases h with h | h; exact h; omega) (fun h => by rcases h with h | h; exact h; omega) (fun k hk h => by have h1 := hou k hk; rcases h with h | h; exact h; omega) (fun k hk h => by have h1 := hau k hk; rcases h with h | h; exact h; omega), hou, hau, hB2.chg hc_ (fun h => by rcases h with h | h; exact h; omega), hB3.chg hc_ (fun h => by rcases h with h | h; exact h; omega), hE.step hc_ (fun k h => by rcases h with h | h; exact h.elim; omega)⟩
 ·
  intro s_ e_ V V_ hi_ hc_
  obtain ⟨rfl, hn, hB2, hB3, hE⟩ := hi_
  exact ⟨rfl, hn, hB2.chg hc_ (fun h => by rcases h with h | h; exact h; omega), hB3.chg hc_ (fun h => by rcases h with h | h; exact h; omega), hE.step hc_ (fun k h => by rcases h with h | h; exact h.elim; omega)⟩
 ·
  intro s_ i_ x_ w16 hi_ hx_ hat_ hz_
  obtain ⟨st, uo, ua, hbl, hlo, hhi, hown, hrun, hW, hou, hau, hB2, hB3, hE⟩ := hi_
  have hxv := hat_ x_ hx_
  obtain ⟨d, xv⟩ := x_
  dsimp only at hxv
  obtain ⟨hnd, hnv⟩ := List.getElem?_zip_eq_some.1 hx_
  have hxo := hown _ (List.mem_of_getElem? hnv)
  obtain ⟨Ax, mx, cx, rfl⟩ := hxv.lens
  have hob := objs_at hnd
  have hgl := getB_le hT15 d
  have hol := hW.o.lt
  refine CW.sr fun K12 hK12 => ?_
  refine as_apiDigest rfl (by simp) dx_ fun g10 w17 hx17 hg10 hB10 => ?_
  have hlt10 := hB10.lt; have hz17 := hx17.size
  have hM10 := hB10.mem; have hz17 := hx17.size; have hE := hE.thenExt hx17
  refine WL.nil (hK12 _ _ ?_); try clear hK12
  refine CW.region ?_
  refine WL.val (Y.assign rfl) dx_ ?_
  refine WL.nil ?_
  have hE_ : Ext w16 w17 := hx17
  refine ⟨hE_, fun w18 hc_ => ?_⟩
  have hz18 := hc_.size
  have hE := hE.step hc_ (fun k h => by omega)
  have hW := (hW.ext hx17).chg hc_ no_ no_ no_ no_ (fun k hk h => by have h1 := hou k hk; omega) (fun k hk h => by have h1 := hau k hk; omega)
  have hB2 := (hB2.ext hx17).chg hc_ no_
  have hB3 := (hB3.ext hx17).chg hc_ no_
  have hB10 := hB10.chg hc_ no_
  have hxv := (hxv.ext hx17).chg hc_ (fun k hk h => by have h1 := hxo k hk; omega)
  have hB6 := hW.b6
  have hB7 := hW.b7
  have hB8 := hW.b8
  have hB9 := hW.b9
  have hdep := hW.dep
  have hmul : InI64 (((st.depth : Int) + 1) * (toldK st.ahead (getB l d) st.first st.depth : Int)) := by
   rcases toldK_cases st.ahead (getB l d) st.first st.depth with h | h
   ·
    rw [h]; exact ⟨by simp, by simp⟩
   ·
    rw [h]; exact o2_
  refine CW.block ?_
  refine CW.sr fun K13 hK13 => ?_
  refine WL.val (Y.load1 Tryd.underlying32 rfl hB9.mem.cell0 rfl) dx_ ?_
  refine WL.val (Y.move rfl) dx_ ?_
  refine WL.val (Y.load1 Tryd.underlying4 rfl hB8.mem.cell0 rfl) dx_ ?_
  refine WL.val (Y.load1 Tryd.underlying3 rfl hB7.mem.cell0 rfl) dx_ ?_
  refine WL.call Tryd.func30 rfl rfl rfl (told_any ua _ st.ahead (getB l d) st.first st.depth _ hW.a hxv.by) (by simp) ?_; rintro v37 w19 hR19
  obtain ⟨tx, rfl, hTx, hTf, hx19⟩ := hR19
  have hz19 := hx19.size
  have hE := hE.thenExt hx19
  have hW := hW.ext hx19
  have hB2 := hB2.ext hx19
  have hB3 := hB3.ext hx19
  have hB10 := hB10.ext hx19
  have hxv := hxv.ext hx19
  obtain ⟨Xt, mt, ct, rfl⟩ := hTx.lens
  have hB6 := hW.b6
  have htl := toldB_len st.ahead (getB l d) st.first st.depth
  refine WL.val (Y.move rfl) dx_ ?_
  refine WL.val (Y.extract rfl rfl) dx_ ?_
  refine WL.val (Y.extract rfl rfl) dx_ ?_
  refine WL.val (Y.assign rfl) dx_ ?_
  refine WL.val (Y.assign rfl) dx_ ?_
  refine WL.nil (hK13 _ _ ?_); try clear hK13
  refine CW.seq fun K14 hK14 => ?_
  refine CW.held (fun wq => Chg (fun k => k = g6 ∨ uo.ownBlock = some k) w19 wq) kr_ 11 rfl fun w20 hx20 => ?_
  have hS : Chg (fun k => k = g6 ∨ uo.ownBlock = some k) w19 w20 := hx20.chg
  have hz20 := hx20.size
  have hW19 := hW
  have hB10b := hB10.ext hx20
  have hO := (hW.ext hx20).o
  have hB6 := (hW.ext hx20).b6
  have hlen := hW.len
  refine RH.take 1 (fun _ _ _ _ h => h) kr_ hS rfl kr_ kr_ (fun wq hq => Y.slice_arr Tryd.underlying30 rfl sz_uint8) dx_ ?_
  refine RH.take 3 (fun _ _ _ _ h => h) kr_ hS rfl kr_ kr_ (fun wq hq => Y.move rfl) dx_ ?_
  refine RH.take 6 (fun _ _ _ _ h => h) kr_ hS rfl kr_ kr_ (fun wq hq => Y.move rfl) dx_ ?_
  refine RH.take 7 (fun _ _ _ _ h => h) kr_ hS rfl kr_ kr_ (fun wq hq => Y.bytes_string Tryd.underlying32 Tryd.underlying5 Tryd.underlying9 rfl hTx.len.1 (hTx.chg hq (fun h0 k hk h => by
   rcases hTf k hk with h1 | h1
   ·
    have h2 := hxo k h1; rcases h with h | h; omega; have h3 := hou k h; omega
   ·
    rcases h with h | h; omega; have h3 := hol k h; omega)).mem.1 hTx.mem.2) dx_ ?_
  refine RH.one 0 kr_ ?_
  refine RS.val rfl (Y.load1 Tryd.underlying32 rfl hB6.mem.cell0 rfl) dx_ ⟨hS, ?_⟩
  refine RH.one 2 kr_ ?_
  refine RS.st rfl (St.app (xs := st.out) (ys := d.1) Tryd.underlying32 Tryd.underlying32 ai_u8 rfl rfl hO (Src.dig hB10b.mem) om_) dx_ fun v42 w21 hR21 => ?_
  obtain ⟨hO, hc21, hf21⟩ := hR21
  have hz21 := hc21.size
  have hS := hS.trans hc21 (fun k _ h => .inr h)
  have hf42 : ∀ k, v42.ownBlock = some k → uo.ownBlock = some k ∨ w20.heap.size ≤ k := by
   rcases hf21 with h_ | h_
   ·
    intro k hk; rw [h_] at hk; exact .inl hk
   ·
    intro k hk; have := h_ k hk; exact .inr om_
  have hB6 := hB6.chg hc21 (fun h => (hou _ h).2.1 rfl)
  refine ⟨hS, ?_⟩
  refine RH.one 4 kr_ ?_
  refine RS.call rfl (fun _ _ h => by cases h) Tryd.func28 rfl rfl rfl (knum_any (toldK st.ahead (getB l d) st.first st.depth : Int) _ (by rcases toldK_cases st.ahead (getB l d) st.first st.depth with h | h <;> rw [h] <;> omega)) dx_ fun v44 w22 hR22 => ?_
  obtain ⟨rfl, hx22⟩ := hR22
  have hz22 := hx22.size
  have hS := hS.thenExt hx22
  have hO := hO.ext hx22
  have hB6 := hB6.ext hx22
  have hd32 := d.2
  have hk9 := vi_len9 (n := toldK st.ahead (getB l d) st.first st.depth) (by rcases toldK_cases st.ahead (getB l d) st.first st.depth with h | h <;> omega)
  refine ⟨hS, ?_⟩
  refine RH.one 5 kr_ ?_
  refine RS.st rfl (St.appS (xs := st.out ++ d.1) Tryd.underlying32 Tryd.underlying9 ai_u8 rfl rfl hO (by rw [bs_size, numB_nat, List.length_append]; omega)) dx_ fun v45 w23 hR23 => ?_
  obtain ⟨hO, hc23, hf23⟩ := hR23
  rw [bs_toList, numB_nat] at hO
  have hz23 := hc23.size
  have hS := hS.stepO hc23 (fun k h => by rcases hf42 k h with h | h; exact .inl (.inr h); exact .inr om_)
  have hf45 : ∀ k, v45.ownBlock = some k → uo.ownBlock = some k ∨ w20.heap.size ≤ k := by
   rcases hf23 with h_ | h_
   ·
    intro k hk; rw [h_] at hk; exact hf42 k hk
   ·
    intro k hk; have := h_ k hk; exact .inr om_
  have hB6 := hB6.chg hc23 (fun h => by rcases hf42 _ h with h | h; exact (hou _ h).2.1 rfl; omega)
  refine ⟨hS, ?_⟩
  refine RH.one 8 kr_ ?_
  refine RS.call rfl (fun _ _ h => by cases h) Tryd.func31 rfl rfl rfl (text_any (bs (toldB st.ahead (getB l d) st.first st.depth)) _ (by rw [bs_size]; omega)) dx_ fun v48 w24 hR24 => ?_
  obtain ⟨hO48, hc24, hf24⟩ := hR24
  have hx24 : Ext w23 w24 := hc24.toExt (fun k _ h => by simp [Value.ownBlock] at h)
  rw [bs_toList] at hO48
  have hO48 : Own w24 5 1 v48 (bytesC (textB (toldB st.ahead (getB l d) st.first st.depth))) := by simpa using hO48
  have hz24 := hx24.size
  have hS := hS.thenExt hx24
  have hO := hO.ext hx24
  have hB6 := hB6.ext hx24
  have htx9 := vi_len9 (n := (toldB st.ahead (getB l d) st.first st.depth).length) om_
  refine ⟨hS, ?_⟩
  refine RH.one 9 kr_ ?_
  refine RS.st rfl (St.app (xs := st.out ++ d.1 ++ vi (toldK st.ahead (getB l d) st.first st.depth)) (ys := textB (toldB st.ahead (getB l d) st.first st.depth)) Tryd.underlying32 Tryd.underlying32 ai_u8 rfl rfl hO (Src.own hO48) (by simp only [textB, List.length_append]; omega)) dx_ fun v49 w25 hR25 => ?_
  obtain ⟨hO, hc25, hf25⟩ := hR25
  have hz25 := hc25.size
  have hS := hS.stepO hc25 (fun k h => by rcases hf45 k h with h | h; exact .inl (.inr h); exact .inr om_)
  have hf49 : ∀ k, v49.ownBlock = some k → uo.ownBlock = some k ∨ w20.heap.size ≤ k := by
   rcases hf25 with h_ | h_
   ·
    intro k hk; rw [h_] at hk; exact hf45 k hk
   ·
    intro k hk; have := h_ k hk; exact .inr om_
  have hB6 := hB6.chg hc25 (fun h => by rcases hf45 _ h with h | h; exact (hou _ h).2.1 rfl; omega)
  obtain ⟨A49, m49, c49, rfl⟩ := hO.lens
  have hO49l := hO.lt
  refine ⟨hS, ?_⟩
  refine RH.one 10 kr_ ?_
  refine RS.store rfl (g := g6) (pre := []) (old := [uo]) (post := []) (new := [.slice A49 m49 c49]) rfl rfl rfl rfl kr_ (by simpa using hB6) rfl (one1 rfl) (fun w26 hc26 hB26_ => ?_)
  have hB6 : Blk w26 g6 32 [.slice A49 m49 c49] := by simpa using hB26_
  have hS := hS.trans hc26 (fun k _ h => .inl h)
  refine ⟨hS, ?_⟩
  refine RH.done kr_ ?_
  have hzS := hS.size
  have hou2 : ∀ k, (Value.slice A49 m49 c49).ownBlock = some k → w3.heap.size ≤ k ∧ k ≠ g6 ∧ k ≠ g7 ∧ k ≠ g8 ∧ k ≠ g9 ∧ (k < w15.heap.size ∨ (s_.hi ≤ k ∧ w15.heap.size + 2 ≤ k)) := by
   intro k hk
   rcases hf49 k hk with h | h
   ·
    exact hou k h
   ·
    exact ⟨by omega, by omega, by omega, by omega, by omega, .inr o2_⟩
  have hSx : ∀ k, (k = g6 ∨ uo.ownBlock = some k) → w3.heap.size ≤ k ∧ k ≠ g7 ∧ k ≠ g8 ∧ k ≠ g9 ∧ (k < w15.heap.size ∨ (s_.hi ≤ k ∧ w15.heap.size + 2 ≤ k)) ∧ k < w16.heap.size := by
   intro k hk
   rcases hk with hk | hk
   ·
    exact ⟨by omega, by omega, by omega, by omega, .inl om_, by omega⟩
   ·
    have h1 := hou k hk; exact ⟨h1.1, h1.2.2.1, h1.2.2.2.1, h1.2.2.2.2.1, h1.2.2.2.2.2, hol k hk⟩
  have hO := hO.chg hc26 (fun k hk h => (hou2 k hk).2.1 h)
  have hO : Own w26 5 1 (.slice A49 m49 c49) (bytesC (wStep st (d, getB l d)).out) := by
   have e1 : (wStep st (d, getB l d)).out = st.out ++ d.1 ++ vi (toldK st.ahead (getB l d) st.first st.depth) ++ textB (toldB st.ahead (getB l d) st.first st.depth) := by simp only [wStep, wPiece, List.append_assoc]
   rw [e1]; exact hO
  have hml := hO.by.len.1
  have hE := hE.step hS (fun k h => by have := hSx k h; omega)
  have hB7 := hW19.b7.chg hS (fun h => (hSx _ h).2.1 rfl)
  have hB8 := hW19.b8.chg hS (fun h => (hSx _ h).2.2.1 rfl)
  have hB9 := hW19.b9.chg hS (fun h => (hSx _ h).2.2.2.1 rfl)
  have hB2 := hB2.chg hS (fun h => by have := hSx _ h; omega)
  have hB3 := hB3.chg hS (fun h => by have := hSx _ h; omega)
  have hB10 := hB10.chg hS (fun h => by have := hSx _ h; omega)
  have hxv := hxv.chg hS (fun k hk h => by have h1 := hxo k hk; have h2 := hSx k h; omega)
  have hCr : Chg (fun k => k = g6 ∨ k = g7 ∨ k = g8 ∨ k = g9 ∨ uo.ownBlock = some k) w18 w26 := (Ext.chg hx19).trans hS (fun k _ h => by rcases h with h | h; exact .inl h; exact .inr (.inr (.inr (.inr h))))
  refine hK14 _ _ ?_; try clear hK14
  refine CW.sr fun K15 hK15 => ?_
  refine WL.val (Y.load1 Tryd.underlying3 rfl hB7.mem.cell0 rfl) dx_ ?_
  refine WL.val (Y.add rfl rfl o2_) dx_ ?_
  refine WL.val (Y.move rfl) dx_ ?_
  refine WL.val (Y.mul rfl rfl hmul) dx_ ?_
  refine WL.store (g := g7) (pre := []) (old := [.int .i64 (st.depth : Int)]) (post := []) (new := [.int .i64 (((st.depth : Int) + 1) * (toldK st.ahead (getB l d) st.first st.depth : Int))]) rfl rfl rfl rfl kr_ (by simpa using hB7) ln_ (one1 rfl) (fun w27 hc27 hB27_ => ?_)
  have hz27 := hc27.size; have hE := hE.step hc27 (fun k h => by omega); have hB10 := hB10.chg hc27 no_
  have hB7 : Blk w27 g7 3 [.int .i64 (((st.depth : Int) + 1) * (toldK st.ahead (getB l d) st.first st.depth : Int))] := by simpa using hB27_
  have hB6 := hB6.chg hc27 no_
  have hB8 := hB8.chg hc27 no_
  have hB9 := hB9.chg hc27 no_
  have hB2 := hB2.chg hc27 no_
  have hB3 := hB3.chg hc27 no_
  have hO := hO.chg hc27 (fun k hk h => by have := hou2 k hk; have h : k = g7 := h; omega)
  have hxv := hxv.chg hc27 (fun k hk h => by have h1 := hxo k hk; have h : k = g7 := h; omega)
  have hCr := hCr.trans hc27 (fun k _ h => .inr (.inl h))
  refine WL.nil (hK15 _ _ ?_); try clear hK15
  refine CW.sr fun K16 hK16 => ?_
  refine WL.val (Y.move rfl) dx_ ?_
  refine WL.store (g := g9) (pre := []) (old := [ua]) (post := []) (new := [.slice Ax mx cx]) rfl rfl rfl rfl kr_ (by simpa using hB9) ln_ (one1 rfl) (fun w28 hc28 hB28_ => ?_)
  have hz28 := hc28.size; have hE := hE.step hc28 (fun k h => by omega); have hB10 := hB10.chg hc28 no_
  have hB9 : Blk w28 g9 32 [.slice Ax mx cx] := by simpa using hB28_
  have hB6 := hB6.chg hc28 no_
  have hB7 := hB7.chg hc28 no_
  have hB8 := hB8.chg hc28 no_
  have hB2 := hB2.chg hc28 no_
  have hB3 := hB3.chg hc28 no_
  have hO := hO.chg hc28 (fun k hk h => by have := hou2 k hk; have h : k = g9 := h; omega)
  have hxv := hxv.chg hc28 (fun k hk h => by have h1 := hxo k hk; have h : k = g9 := h; omega)
  have hCr := hCr.trans hc28 (fun k _ h => .inr (.inr (.inr (.inl h))))
  refine WL.store (g := g8) (pre := []) (old := [.bool st.first]) (post := []) (new := [.bool false]) rfl rfl rfl rfl kr_ (by simpa using hB8) ln_ (one1 rfl) (fun w29 hc29 hB29_ => ?_)
  have hz29 := hc29.size; have hE := hE.step hc29 (fun k h => by omega); have hB10 := hB10.chg hc29 no_
  have hB8 : Blk w29 g8 4 [.bool false] := by simpa using hB29_
  have hB6 := hB6.chg hc29 no_
  have hB7 := hB7.chg hc29 no_
  have hB9 := hB9.chg hc29 no_
  have hB2 := hB2.chg hc29 no_
  have hB3 := hB3.chg hc29 no_
  have hO := hO.chg hc29 (fun k hk h => by have := hou2 k hk; have h : k = g8 := h; omega)
  have hxv := hxv.chg hc29 (fun k hk h => by have h1 := hxo k hk; have h : k = g8 := h; omega)
  have hCr := hCr.trans hc29 (fun k _ h => .inr (.inr (.inl h)))
  have hout : (wStep st (d, getB l d)).out.length = m49 := hml
  refine WL.nil (hK16 _ _ ?_); try clear hK16
  refine CW.sr fun K17 hK17 => ?_
  refine WL.val (Y.load1 Tryd.underlying32 rfl hB6.mem.cell0 rfl) dx_ ?_
  refine WL.val (Y.len_slice Tryd.underlying32 rfl) dx_ ?_
  refine WL.val (Y.gtr rfl rfl) dx_ ?_
  refine WL.nil (hK17 _ _ ?_); try clear hK17
  (first | refine cd_ rfl ?_ ?_ | refine ce_ rfl ?_ ?_ | refine cn_ rfl ?_ ?_ | refine cb_ rfl ?_ ?_) <;> intro ht18
  ·
   -- then
   refine CW.sr fun K19 hK19 => ?_
   refine WL.store (g := g2) (pre := []) (old := [.string ByteArray.empty]) (post := []) (new := [.string ByteArray.empty]) rfl rfl rfl rfl kr_ (by simpa using hB2) ln_ (one1 rfl) (fun w30 hc30 hB30_ => ?_)
   have hz30 := hc30.size; have hE := hE.step hc30 (fun k h => by omega); have hB10 := hB10.chg hc30 no_
   have hB2 : Blk w30 g2 9 [.string ByteArray.empty] := by simpa using hB30_
   have hB3 := hB3.chg hc30 no_
   refine WL.store (g := g3) (pre := []) (old := [.int .i64 0]) (post := []) (new := [.int .i64 3]) rfl rfl rfl rfl kr_ (by simpa using hB3) ln_ (one1 rfl) (fun w31 hc31 hB31_ => ?_)
   have hz31 := hc31.size; have hE := hE.step hc31 (fun k h => by omega); have hB10 := hB10.chg hc31 no_
   have hB3 : Blk w31 g3 24 [.int .i64 3] := by simpa using hB31_
   have hB2 := hB2.chg hc31 no_
   refine WL.nil (hK19 _ _ ?_); try clear hK19
   refine CW.ret ?_
   exact ⟨⟨rfl, by rw [← hrun, drop_cons hob, wRun, if_pos (show 1048544 < (wStep st (d, getB l d)).out.length by omega)], hB2, hB3, hE⟩, Chg.mono (((hCr.mono (T := fun k => (k = g6 ∨ k = g7 ∨ k = g8 ∨ k = g9 ∨ uo.ownBlock = some k) ∨ k = g2 ∨ k = g3) (fun k _ h => .inl h)).trans hc30 (fun k _ h => .inr (.inl h))).trans hc31 (fun k _ h => .inr (.inr h))) (fun k _ h => by
    have hk6 : k = g6 ∨ k = g7 ∨ k = g8 ∨ k = g9 ∨ k = g2 ∨ k = g3 ∨ (k < w15.heap.size ∨ (s_.hi ≤ k ∧ w15.heap.size + 2 ≤ k)) := by
     rcases h with (h | h | h | h | h) | h | h
     ·
      exact .inl h
     ·
      exact .inr (.inl h)
     ·
      exact .inr (.inr (.inl h))
     ·
      exact .inr (.inr (.inr (.inl h)))
     ·
      exact .inr (.inr (.inr (.inr (.inr (.inr (hou k h).2.2.2.2.2)))))
     ·
      exact .inr (.inr (.inr (.inr (.inl h))))
     ·
      exact .inr (.inr (.inr (.inr (.inr (.inl h)))))
    exact ⟨fun hk => by have h1 := hk.1; have h2 := hk.2.1; omega, by omega, by omega⟩)⟩
  refine CW.skip ?_
  have hzr := hCr.size
  exact ⟨⟨wStep st (d, getB l d), _, _, hbl, hlo, by omega, hown, by rw [← hrun, drop_cons hob, wRun, if_neg (show ¬ 1048544 < (wStep st (d, getB l d)).out.length by omega)], ⟨hB6, hO, by simpa [wStep] using hB7, hB8, hB9, hxv.by, by omega, (wDepth st _).elim id False.elim⟩, hou2, hxo, hB2, hB3, hE⟩, hCr.mono (fun k _ h => by
   have hk6 : k = g6 ∨ k = g7 ∨ k = g8 ∨ k = g9 ∨ k = g2 ∨ k = g3 ∨ (k < w15.heap.size ∨ (s_.hi ≤ k ∧ w15.heap.size + 2 ≤ k)) := by
    rcases h with h | h | h | h | h
    ·
     exact .inl h
    ·
     exact .inr (.inl h)
    ·
     exact .inr (.inr (.inl h))
    ·
     exact .inr (.inr (.inr (.inl h)))
    ·
     exact .inr (.inr (.inr (.inr (.inr (.inr (hou k h).2.2.2.2.2)))))
   exact ⟨fun hk => by have h1 := hk.1; have h2 := hk.2.1; omega, by omega, by omega⟩)⟩
 ·
  intro s_ w32 hi_ hD_ hfin_
  obtain ⟨st, uo, ua, hbl, hlo, hhi, hown, hrun, hW, hou, hau, hB2, hB3, hE⟩ := hi_
  have hxl : (allXs l s_).length = (objs l).length := by rw [objs_length]; simp only [allXs, List.length_zip, namesL_length, hbl]; omega
  rw [hxl, List.drop_length] at hrun
  have hK := hK0.ext hE
  have hB6 := hW.b6
  have hB7 := hW.b7
  have hB8 := hW.b8
  have hB9 := hW.b9
  have hO := hW.o
  have hlen := hW.len
  have hol := hW.o.lt
  refine hK10 _ _ _ ?_; try clear hK10
  refine CN.seq fun K20 hK20 => ?_
  refine CN.of_CW ?_
  refine CW.region ?_
  refine WL.val (Y.load1 Tryd.underlying32 rfl hB6.mem.cell0 rfl) dx_ ?_
  refine WL.call Tryd.func7 rfl rfl rfl (sum_any uo st.out _ hO.by (fun _ k hk => hol k hk) hK om_) (by simp) ?_; rintro v w33 ⟨rfl, hx33⟩; have hz33 := hx33.size; have hE := hE.thenExt hx33; have hK := hK.ext hx33; have hB2 := hB2.ext hx33; have hB3 := hB3.ext hx33; have hB6 := hB6.ext hx33; have hB7 := hB7.ext hx33; have hB8 := hB8.ext hx33; have hB9 := hB9.ext hx33
  refine as_apiDigest rfl (by simp) dx_ fun g14 w34 hx34 hg14 hB14 => ?_
  have hlt14 := hB14.lt; have hz34 := hx34.size
  have hM14 := hB14.mem; have hz34 := hx34.size; have hE := hE.thenExt hx34; have hK := hK.ext hx34; have hB2 := hB2.ext hx34; have hB3 := hB3.ext hx34; have hB6 := hB6.ext hx34; have hB7 := hB7.ext hx34; have hB8 := hB8.ext hx34; have hB9 := hB9.ext hx34
  refine WL.nil ?_
  refine hK20 _ _ _ ?_; try clear hK20
  refine CN.seq fun K21 hK21 => ?_
  refine CN.of_CW ?_
  refine CW.held (fun wq => Chg (fun k => k = g2 ∨ k = g3 ∨ uo.ownBlock = some k) w34 wq) kr_ 6 rfl fun w35 hx35 => ?_
  have hS : Chg (fun k => k = g2 ∨ k = g3 ∨ uo.ownBlock = some k) w34 w35 := hx35.chg
  have hO := ((hO.ext hx33).ext hx34).ext hx35
  have hB6 := hB6.ext hx35
  have hB14 := hB14.ext hx35
  have hB2 := hB2.ext hx35
  have hB3 := hB3.ext hx35
  refine RH.take 1 (fun _ _ _ _ h => h) kr_ hS rfl kr_ kr_ (fun wq hq => Y.slice_arr Tryd.underlying30 rfl sz_uint8) dx_ ?_
  refine RH.one 0 kr_ ?_
  refine RS.val rfl (Y.load1 Tryd.underlying32 rfl hB6.mem.cell0 rfl) dx_ ⟨hS, ?_⟩
  refine RH.one 2 kr_ ?_
  refine RS.st rfl (St.app (xs := st.out) (ys := (shaD st.out).1) Tryd.underlying32 Tryd.underlying32 ai_u8 rfl rfl hO (Src.dig hB14.mem) om_) dx_ fun v62 w36 hR36 => ?_
  obtain ⟨hO, hc36, hf36⟩ := hR36
  have hS := hS.trans hc36 (fun k _ h => .inr (.inr h))
  obtain ⟨A62, m62, c62, rfl⟩ := hO.lens
  have hB2 := hB2.chg hc36 (fun h => by have := hou _ h; omega)
  have hB3 := hB3.chg hc36 (fun h => by have := hou _ h; omega)
  refine ⟨hS, ?_⟩
  refine RH.one 3 kr_ ?_
  refine RS.val rfl (Y.bytes_string Tryd.underlying32 Tryd.underlying5 Tryd.underlying9 rfl hO.by.len.1 hO.by.mem.1 hO.by.mem.2) dx_ ⟨hS, ?_⟩
  refine RH.one 4 kr_ ?_
  refine RS.store rfl (g := g2) (pre := []) (old := [.string ByteArray.empty]) (post := []) (new := [.string (bs (st.out ++ (shaD st.out).1))]) rfl rfl rfl rfl kr_ (by simpa using hB2) rfl (one1 rfl) (fun w37 hc37 hB37_ => ?_)
  have hB2 : Blk w37 g2 9 [.string (bs (st.out ++ (shaD st.out).1))] := by simpa using hB37_
  have hB3 := hB3.chg hc37 no_
  have hS := hS.trans hc37 (fun k _ h => .inl h)
  refine ⟨hS, ?_⟩
  refine RH.one 5 kr_ ?_
  refine RS.store rfl (g := g3) (pre := []) (old := [.int .i64 0]) (post := []) (new := [.int .i64 0]) rfl rfl rfl rfl kr_ (by simpa using hB3) rfl (one1 rfl) (fun w38 hc38 hB38_ => ?_)
  have hB3 : Blk w38 g3 24 [.int .i64 0] := by simpa using hB38_
  have hB2 := hB2.chg hc38 no_
  have hS := hS.trans hc38 (fun k _ h => .inr (.inl h))
  refine ⟨hS, ?_⟩
  refine RH.done kr_ ?_
  have hE := hE.step hS (fun k h => by rcases h with h | h | h; omega; omega; have := hou k h; omega)
  have hC : Chg (fun k => k = g2 ∨ k = g3 ∨ uo.ownBlock = some k) w32 w38 := ((Ext.chg hx33).thenExt hx34).trans hS (fun k _ h => h)
  refine hK21 _ _ _ ?_; try clear hK21
  refine CN.ret ?_
  exact ⟨[w15.heap.size], rfl, by simp, (fun D hD => by simp at hD; subst hD; exact def_chg hD_ hC (fun h => by rcases h with h | h | h; omega; omega; have := hou _ h; omega)), fun w_ hc => ⟨_, _, _, _, rfl, ((hB2.chg hc (fun h => by simp at h; omega)).mem).cell0, rfl, ((hB3.chg hc (fun h => by simp at h; omega)).mem).cell0, ⟨_, _, rfl, .inr ⟨l, hH, hsh, hfew, by rw [wrR, ← hrun]; rfl⟩⟩, hE.step hc (fun k h => by simp at h; omega)⟩⟩
 ·
  intro s_ e_ w39 hi_ hD_ hfin_ he_
  obtain ⟨rfl, hi_⟩ := hi_
  obtain ⟨hnone, hB2, hB3, hE⟩ := hi_
  exact ⟨[w15.heap.size], rfl, by simp, (fun D hD => by simp at hD; subst hD; exact hD_), fun w_ hc => ⟨_, _, _, _, rfl, ((hB2.chg hc (fun h => by simp at h; omega)).mem).cell0, rfl, ((hB3.chg hc (fun h => by simp at h; omega)).mem).cell0, ⟨[], _, rfl, .inr ⟨l, hH, hsh, hfew, by rw [wrR, hnone]⟩⟩, hE.step hc (fun k h => by simp at h; omega)⟩⟩
end Go.Proofs.YtfanmpbapabboaaDoor
/- Packs are read: the reader's methods, walked. No condition. -/
namespace Go.Fw
section
variable {w : World} {a : Addr} {u v : Value} (h : Mem w a [u, v])
include h
theorem Mem.packreader0 : w.cell? (a.add 0) = some u := h.cell 0 rfl
theorem Mem.packreader1 : w.cell? (a.add 1) = some v := h.cell 1 rfl
end
end Go.Fw
namespace Go.Proofs.YtfanmpbapabboaaDoor
open Go.RowKit Go.Fw Go.Pl Go.Sort
abbrev TPk : TypeId := 82
theorem fo_packreader0 : FieldOff Tryd.prog TPk 0 0 := ⟨_, _, 1, Tryd.underlying82, rfl, by kernel_rfl, by decide, rfl⟩
theorem fo_packreader1 : FieldOff Tryd.prog TPk 1 1 := ⟨_, _, 1, Tryd.underlying82, rfl, by kernel_rfl, by decide, rfl⟩
abbrev RobS (b : List UInt8) (ids : List Dig) (ahead : List UInt8) (depth at_ g : Nat) (w : World) (ch : List PanicEntry) (w' : World) : Prop := ∃ e, robj b ids ahead depth at_ = .error e ∧ ch = pan e ∧ Chg (· = g) w w'
theorem gdig_at {b : List UInt8} {at_ a : Nat} {d : Dig} (h : gdig b at_ = .ok (d, a)) : a = at_ + 32 ∧ a ≤ b.length := by
 unfold gdig at h
 split at h
 ·
  rename_i hl; injection h with h; injection h with h1 h2; omega
 ·
  cases h
theorem behind_last {ids : List Dig} {d x : Dig} (h : ids[ids.length - 1]? = some x) : behind ids d = lessB x d := by
 rw [behind, List.getLast?_eq_getElem?, h]
theorem prefuse_any (b : Bool) (e : Int) (w : World) : Calls Tryd.prog 33 #[.bool b, .int .i64 e] w (RetOr (fun v w' => b = false ∧ v = .tuple #[] ∧ Ext w w') (fun ch w' => b = true ∧ ch = pan e ∧ Ext w w')) := by
 refine calls_of_CW_or 7 [] [(0, .bool b), (1, .int .i64 e)] Tryd.func33 rfl rfl rfl (by simp) args2 ?_
 refine CW.sr fun K1 hK1 => ?_
 refine WL.m rfl ?_
 refine WL.nil (hK1 _ _ ?_); try clear hK1
 (first | refine cd_ rfl ?_ ?_ | refine ce_ rfl ?_ ?_ | refine cn_ rfl ?_ ?_ | refine cb_ rfl ?_ ?_) <;> intro ht2
 ·
  -- then
  refine CW.region ?_
  refine WL.m rfl ?_
  refine WL.v (Y.makeIface kr_ rfl) ?_
  refine WL.panicI rfl ?_
  exact ⟨by assumption, rfl, Chg.refl⟩
 refine CW.skip ?_
 refine ⟨_, rfl, ?_⟩
 exact ⟨by assumption, rfl, Chg.refl⟩
theorem pknum_any (g : Nat) (bv : Value) (bs_ : List UInt8) (at_ : Nat) (w : World) (hB : Blk w g TPk [bv, .int .i64 (at_ : Int)]) (hb : By w bv bs_) (hbg : bs_ ≠ [] → ∀ k, bv.ownBlock = some k → k ≠ g) (hat : at_ ≤ bs_.length) : Calls Tryd.prog 34 #[.pointer (some ⟨g, 0, none⟩)] w (RetOr (RdR (gnum bs_ at_) (fun n => .int .i64 (n : Int)) g TPk bv [] w) (RdS (gnum bs_ at_) g w)) := by
 have hM0 := hB.mem
 refine calls_of_CW_or 28 [2] [(0, .pointer (some ⟨g, 0, none⟩))] Tryd.func34 rfl rfl rfl (by simp) args1 ?_
 refine CW.sr fun K1 hK1 => ?_
 refine WL.a rfl ?_
 refine WL.nil (hK1 _ _ ?_); try clear hK1
 refine CW.seq fun K2 hK2 => ?_
 refine CW.quiet (fun wq => Ext w wq) kr_ kr_ Chg.drew ?_
 refine QL.m rfl ?_
 refine QL.v (fun wq hq => Y.nilCheck rfl) ?_
 refine QL.v (fun wq hq => Y.fieldAddr fo_packreader0 rfl) ?_
 refine QL.v (fun wq hq => Y.load1 Tryd.underlying32 rfl (hM0.ext hq).packreader0 rfl) ?_
 refine QL.m rfl ?_
 refine QL.v (fun wq hq => Y.nilCheck rfl) ?_
 refine QL.v (fun wq hq => Y.fieldAddr fo_packreader1 rfl) ?_
 refine QL.v (fun wq hq => Y.load1 Tryd.underlying3 rfl (hM0.ext hq).packreader1 rfl) ?_
 refine QL.call Tryd.func51 rfl rfl rfl (fun wq hq => ret_ext (getNum_t _ bs_ at_ _ (hb.ext hq) hat) hq) (by simp) ?_
 refine QL.m rfl ?_
 refine QL.v (fun wq hq => Y.extract rfl rfl) ?_
 refine QL.v (fun wq hq => Y.extract rfl rfl) ?_
 refine QL.v (fun wq hq => Y.extract rfl rfl) ?_
 refine QL.a rfl ?_
 refine QL.a rfl ?_
 refine QL.a rfl ?_
 refine QL.nil fun w1 hx1 => ?_
 have hM0 := hM0.ext hx1
 have hB := hB.ext hx1
 have hb := hb.ext hx1
 refine hK2 _ _ ?_; try clear hK2
 refine CW.sr fun K3 hK3 => ?_
 refine WL.m rfl ?_
 refine WL.v (Y.neq rfl rfl) ?_
 refine WL.m rfl ?_
 refine WL.callOr Tryd.func33 rfl rfl rfl (prefuse_any _ _ _) (by simp) (fun ch w2 hP2 => ?_) ?_
 ·
  skip
  obtain ⟨h1, rfl, hx⟩ := hP2
  exact (⟨_, (gE_ne (of_decide_eq_true h1)).1, rfl, Ext.chg (Chg.thenExt hx1 hx)⟩ : RdS (gnum bs_ at_) g w _ _)
 rintro v22 w2 hR2
 obtain ⟨h1, rfl, hx2⟩ := hR2
 obtain ⟨n, nx, hg, hN, hX⟩ := gE_zero (Decidable.not_not.1 (of_decide_eq_false h1))
 rw [hN, hX]
 have hB := hB.ext hx2
 refine WL.nil (hK3 _ _ ?_); try clear hK3
 refine CW.sr fun K4 hK4 => ?_
 refine WL.m rfl ?_
 refine WL.m rfl ?_
 refine WL.v (Y.nilCheck rfl) ?_
 refine WL.v (Y.fieldAddr fo_packreader1 rfl) ?_
 refine WL.store (g := g) (pre := [bv]) (old := [.int .i64 (at_ : Int)]) (post := []) (new := [.int .i64 (nx : Int)]) rfl rfl rfl rfl kr_ hB ln_ (one1 rfl) (fun w3 hc3 hB3_ => ?_)
 skip
 refine WL.nil (hK4 _ _ ?_); try clear hK4
 refine CW.sr fun K5 hK5 => ?_
 refine WL.m rfl ?_
 refine WL.a rfl ?_
 refine WL.nil (hK5 _ _ ?_); try clear hK5
 refine CW.ret ⟨_, rfl, ?_⟩
 exact ⟨n, nx, hg, rfl, (Ext.chg (hx1.thenExt hx2)).trans hc3 (fun _ _ h => h), hB3_⟩
set_option maxRecDepth 20000 in
theorem pkdig_any (g : Nat) (bv : Value) (bs_ : List UInt8) (at_ : Nat) (w : World) (hB : Blk w g TPk [bv, .int .i64 (at_ : Int)]) (hb : By w bv bs_) (hbg : bs_ ≠ [] → ∀ k, bv.ownBlock = some k → k ≠ g) (hat : at_ ≤ bs_.length) : Calls Tryd.prog 52 #[.pointer (some ⟨g, 0, none⟩)] w (RetOr (RdR (gdig bs_ at_) digV g TPk bv [] w) (RdS (gdig bs_ at_) g w)) := by
 have hbl := hb.ltB
 have hgl := hB.lt
 obtain ⟨A, m, c, rfl⟩ := hb.lens
 obtain ⟨hl, hmc, hcm⟩ := hb.len
 unfold maxLen at hcm
 obtain ⟨id, hid, hzd, _⟩ := info_apiDigest
 refine calls_of_CWc_or 38 2 32 [(0, .pointer (some ⟨g, 0, none⟩))] Tryd.func52 rfl rfl rfl Tryd.underlying30 rfl kr_ (by simp) args1 ?_
 have hE : Chg (fun k => k = g) w w := Chg.refl
 refine CW.sr fun K1 hK1 => ?_
 refine WL.alloc (hid) (hzd) rfl de_ fun g2 w1 hx1 hg2 hB2 => ?_
 have hlt2 := hB2.lt; have hz1 := hx1.size
 have hM2 := hB2.mem; have hz1 := hx1.size; have hE := hE.thenExt hx1; have hB := hB.ext hx1; have hb := hb.ext hx1
 refine WL.nil (hK1 _ _ ?_); try clear hK1
 refine CW.seq fun K2 hK2 => ?_
 refine CW.held (fun wq => Ext w1 wq) kr_ 12 rfl fun w2 hS => ?_
 refine RH.tk 0 hS rfl (fun wq hq => Y.move rfl) ?_
 refine RH.tk 1 hS rfl (fun wq hq => Y.nilCheck rfl) ?_
 refine RH.tk 2 hS rfl (fun wq hq => Y.fieldAddr fo_packreader0 rfl) ?_
 refine RH.tk 3 hS rfl (fun wq hq => Y.load1 Tryd.underlying32 rfl (hB.ext hq).mem.packreader0 rfl) ?_
 refine RH.tk 4 hS rfl (fun wq hq => Y.len_slice Tryd.underlying32 rfl) ?_
 refine RH.tk 5 hS rfl (fun wq hq => Y.move rfl) ?_
 refine RH.tk 6 hS rfl (fun wq hq => Y.nilCheck rfl) ?_
 refine RH.tk 7 hS rfl (fun wq hq => Y.fieldAddr fo_packreader1 rfl) ?_
 refine RH.tk 8 hS rfl (fun wq hq => Y.load1 Tryd.underlying3 rfl (hB.ext hq).mem.packreader1 rfl) ?_
 refine RH.tk 9 hS rfl (fun wq hq => Y.sub rfl rfl o2_) ?_
 refine RH.tk 10 hS rfl (fun wq hq => Y.lss rfl rfl) ?_
 refine RH.one 11 kr_ ?_
 refine RS.callOr rfl Tryd.func33 rfl rfl rfl (prefuse_any _ _ _) (by simp) (fun ch w3 hP3 => ?_) ?_
 ·
  skip
  obtain ⟨h1, rfl, hx⟩ := hP3
  have := of_decide_eq_true h1
  exact (⟨8, by rw [gdig, dif_neg om_], rfl, (hE.thenExt hS).thenExt hx⟩ : RdS (gdig bs_ at_) g w _ _)
 rintro v14 w3 hR3
 obtain ⟨h1, rfl, hx3⟩ := hR3
 have hS := hS.thenExt hx3
 have hle := of_decide_eq_false h1
 refine ⟨hS, ?_⟩
 refine RH.done kr_ ?_
 have hx4 := hS; have hz4 := hx4.size; have hE := hE.thenExt hx4; have hB := hB.ext hx4; have hb := hb.ext hx4; have hB2 := hB2.ext hx4
 refine hK2 _ _ ?_; try clear hK2
 refine CW.sr fun K3 hK3 => ?_
 refine WL.m rfl ?_
 refine WL.v (Y.nilCheck rfl) ?_
 refine WL.v (Y.fieldAddr fo_packreader1 rfl) ?_
 refine WL.v (Y.load1 Tryd.underlying3 rfl hB.mem.packreader1 rfl) ?_
 refine WL.v (Y.add rfl rfl o2_) ?_
 refine WL.v (Y.nilCheck rfl) ?_
 refine WL.v (Y.fieldAddr fo_packreader1 rfl) ?_
 refine WL.store (g := g) (pre := [.slice A m c]) (old := [.int .i64 (at_ : Int)]) (post := []) (new := [.int .i64 ((at_ : Int) + 32)]) rfl rfl rfl rfl kr_ (by simpa using hB) ln_ (one1 rfl) (fun w5 hc5 hB5_ => ?_)
 have hz5 := hc5.size; have hE := hE.stepO hc5 (fun k h => (by show (k = g) ∨ _; omega)); have hb := hb.chg hc5 (fun h0 k hk h => by first | exact hbg h0 k hk h | (have := hbl h0 k hk; omega)); have hB2 := hB2.chg hc5 no_
 have hB : Blk w5 g TPk [.slice A m c, .int .i64 ((at_ : Int) + 32)] := by simpa using hB5_
 obtain ⟨a0, rfl, hmb⟩ := hb.mem.1 om_
 have hne : bs_ ≠ [] := by intro h; rw [h] at hl; simp at hl; omega
 have hlen : ((bs_.drop at_).take 32).length = 32 := by rw [List.length_take, List.length_drop]; omega
 obtain ⟨dd, hdd⟩ : ∃ dd : Dig, dd = ⟨(bs_.drop at_).take 32, hlen⟩ := ⟨_, rfl⟩
 have hgd : gdig bs_ at_ = .ok (dd, at_ + 32) := by rw [gdig, dif_pos om_, hdd]
 refine WL.nil (hK3 _ _ ?_); try clear hK3
 refine CW.seq fun K4 hK4 => ?_
 refine CW.held (fun wq => Chg (fun k => k = g2) w5 wq) kr_ 17 rfl fun w6 hx6 => ?_
 have hS : Chg (fun k => k = g2) w5 w6 := hx6.chg
 refine RH.tk 0 hS rfl (fun wq hq => Y.move rfl) ?_
 refine RH.tk 1 hS rfl (fun wq hq => Y.nilCheck rfl) ?_
 refine RH.tk 2 hS rfl (fun wq hq => Y.fieldAddr fo_packreader0 rfl) ?_
 refine RH.tk 3 hS rfl (fun wq hq => Y.load1 Tryd.underlying32 rfl (hB.chg hq no_).mem.packreader0 rfl) ?_
 refine RH.tk 4 hS rfl (fun wq hq => Y.move rfl) ?_
 refine RH.tk 5 hS rfl (fun wq hq => Y.nilCheck rfl) ?_
 refine RH.tk 6 hS rfl (fun wq hq => Y.fieldAddr fo_packreader1 rfl) ?_
 refine RH.tk 7 hS rfl (fun wq hq => Y.load1 Tryd.underlying3 rfl (hB.chg hq no_).mem.packreader1 rfl) ?_
 refine RH.tk 8 hS rfl (fun wq hq => Y.sub rfl rfl o2_) ?_
 refine RH.tk 9 hS rfl (fun wq hq => Y.move rfl) ?_
 refine RH.tk 10 hS rfl (fun wq hq => Y.nilCheck rfl) ?_
 refine RH.tk 11 hS rfl (fun wq hq => Y.fieldAddr fo_packreader1 rfl) ?_
 refine RH.tk 12 hS rfl (fun wq hq => Y.load1 Tryd.underlying3 rfl (hB.chg hq no_).mem.packreader1 rfl) ?_
 refine RH.tk 13 hS rfl (fun wq hq => Y.slice_slI (i := at_) (j := at_ + 32) Tryd.underlying32 rfl rfl rfl sz0_uint8 om_ om_ om_ om_) ?_
 refine RH.tk 14 hS rfl (fun wq hq => Y.toArr Tryd.underlying30 rfl om_) ?_
 refine RH.tk 15 hS rfl (fun wq hq => Y.load Tryd.underlying30 rfl (show Mem wq _ (digC dd) from by have h1 := By.slMem (hmb.chg hq (fun h => by have := hbl hne _ rfl; omega)) hl hmc (i := at_) (j := at_ + 32) om_ om_; rw [Nat.add_sub_cancel_left] at h1; rw [hdd]; exact h1) (sz_apiDigest _) rfl) ?_
 refine RH.one 16 kr_ ?_
 refine RS.store rfl (g := g2) (pre := []) (old := digC Dig.zero) (post := []) (new := digC dd) rfl rfl rfl rfl (sz_apiDigest _) (by simpa using hB2.ext hx6) (by rw [digC_length, digC_length]) (one_digC) (fun w7 hc7 hB7_ => ?_)
 have hS := hS.trans hc7 (fun k _ h => h)
 have hB2 : Blk w7 g2 30 (digC dd) := by simpa using hB7_
 refine ⟨hS, ?_⟩
 refine RH.done kr_ ?_
 have hE := hE.stepO hS (fun k h => .inr om_)
 have hB := hB.chg hS no_
 refine hK4 _ _ ?_; try clear hK4
 refine CW.ret ?_
 exact ⟨_, _, rfl, hB2.mem, digC_length _, ⟨dd, at_ + 32, hgd, rfl, hE, hB⟩⟩
end Go.Proofs.YtfanmpbapabboaaDoor
