/- Parts of a proof: what its last text leans on. No condition. -/
import Derived.Maps.RangeRun
import Derived.Shelf.SlSortCmp.NoneTotal
import Derived.Test.YtfanmpbapabboaaDoorProg
import Derived.Test.YtfanmpbapabboaaDoorK04
import Derived.Test.YtfanmpbapabboaaDoorK08
import Derived.Test.YtfanmpbapabboaaDoorK09
import Derived.Test.YtfanmpbapabboaaDoorK11
set_option linter.unusedSimpArgs false
set_option linter.unusedVariables false
/- A store: Put, Drop, walked. No condition. -/
namespace Go.Proofs.YtfanmpbapabboaaDoor
open Go.RowKit Go.Fw Go.Pl
def putE (l : List Ent) (b : List UInt8) : Int := if 131072 < b.length then 3 else if (at_ l (shaD b)).isSome = true then (if getB l (shaD b) = b then 0 else 10) else if 500 ≤ l.length then 14 else 0
def putD (l : List Ent) (b : List UInt8) : Dig := if putE l b = 0 then shaD b else Dig.zero
def PutL (l : List Ent) (b : List UInt8) (l' : List Ent) : Prop := if putE l b = 0 ∧ at_ l (shaD b) = none then ∃ e : Ent, l' = l ++ [e] ∧ e.k = shaD b ∧ e.b = b else l' = l
def Fresh (w : World) (l l' : List Ent) : Prop := ∀ e ∈ l', e ∈ l ∨ ∀ k, e.v.ownBlock = some k → w.heap.size ≤ k
theorem Fresh.refl {w : World} {l : List Ent} : Fresh w l l := fun _ h => .inl h
theorem Fresh.app {w : World} {l : List Ent} {e : Ent} (h : ∀ k, e.v.ownBlock = some k → w.heap.size ≤ k) : Fresh w l (l ++ [e]) := fun x hx => by
 rcases List.mem_append.1 hx with hx | hx
 ·
  exact .inl hx
 ·
  simp at hx; subst hx; exact .inr h
def dropL (l : List Ent) (d : Dig) : List Ent := match at_ l d with | some p => l.eraseIdx p.1 | none => l
theorem dropL_mem {l : List Ent} {d : Dig} {e : Ent} (h : e ∈ dropL l d) : e ∈ l := by
 unfold dropL at h
 split at h
 ·
  exact List.mem_of_mem_eraseIdx h
 ·
  exact h
theorem dropL_none {l : List Ent} {d : Dig} (h : Unlike l) : at_ (dropL l d) d = none := by
 unfold dropL
 cases hp : at_ l d with
 | none => exact hp
 | some p => exact erase_none h (j := p.1) (e := p.2) hp
theorem putE_cases (l : List Ent) (b : List UInt8) : putE l b = 0 ∨ putE l b = 3 ∨ putE l b = 10 ∨ putE l b = 14 := by
 unfold putE; (repeat' split) <;> simp
theorem putL_same {l : List Ent} {b : List UInt8} (h : putE l b ≠ 0 ∨ (at_ l (shaD b)).isSome = true) : PutL l b l := by
 rw [PutL, if_neg (by rintro ⟨h1, h2⟩; rw [h2] at h; rcases h with h | h; exact h h1; cases h)]
theorem putL_new {l : List Ent} {b : List UInt8} {e : Ent} (h : putE l b = 0) (hp : at_ l (shaD b) = none) (hk : e.k = shaD b) (hb : e.b = b) : PutL l b (l ++ [e]) := by
 rw [PutL, if_pos ⟨h, hp⟩]; exact ⟨e, rfl, hk, hb⟩
theorem putD_no {l : List Ent} {b : List UInt8} (h : putE l b ≠ 0) : putD l b = Dig.zero := if_neg h
theorem putD_ok {l : List Ent} {b : List UInt8} (h : putE l b = 0) : putD l b = shaD b := if_pos h
set_option maxHeartbeats 1000000 in
theorem stPut_any (g r : Nat) (l : List Ent) (u : Value) (b : List UInt8) (w : World) (hT : StoreAt w g r l) (hK : Mem w ⟨0, 0, none⟩ (wds keysL)) (h0 : 0 < g ∧ 0 < r) (hb : By w u b) (hbl : b ≠ [] → ∀ k, u.ownBlock = some k → k < w.heap.size ∧ k ≠ g ∧ k ≠ r) : Calls Tryd.prog 22 #[.pointer (some ⟨g, 0, none⟩), u] w (Ret fun v w' => v = .tuple #[digV (putD l b), .int .i64 (putE l b)] ∧ (∃ l', (PutL l b l' ∧ Fresh w l l') ∧ StoreAt w' g r l') ∧ Chg (fun k => k = g ∨ k = r) w w') := by
 have hB0 := hT.blk
 have hT0 := hT
 have hlow := hT.low
 have hne := hT.ne
 have htot := hT.size
 have hlt0 := hT.lt
 have hk0 : (0 : Nat) < w.heap.size := hK.lt (fun h => by cases h)
 obtain ⟨A, m, c, rfl⟩ := hb.lens
 have hbm := hb.len.1
 obtain ⟨id, hid, hzd, _⟩ := info_apiDigest
 refine calls_of_CWct 66 4 32 [5] [(0, .pointer (some ⟨g, 0, none⟩)), (1, .slice A m c)] Tryd.func22 rfl rfl rfl Tryd.underlying30 rfl kr_ (by simp) args2 ?_
 have hE : Chg (fun k => k = g ∨ k = r) w w := Chg.refl
 refine CW.sr fun K1 hK1 => ?_
 refine WL.alloc (hid) (hzd) rfl de_ fun g4 w1 hx1 hg4 hB4 => ?_
 have hlt4 := hB4.lt; have hz1 := hx1.size
 have hM4 := hB4.mem; have hz1 := hx1.size; have hE := hE.thenExt hx1; have hT := hT.ext hx1; have hB0 := hB0.ext hx1; have hK := hK.ext hx1; have hb := hb.ext hx1
 refine WL.a rfl ?_
 refine WL.nil (hK1 _ _ ?_); try clear hK1
 refine CW.seq fun K2 hK2 => ?_
 refine CW.sr fun K3 hK3 => ?_
 refine WL.m rfl ?_
 refine WL.call Tryd.func23 rfl rfl rfl (made_any g r l _ hT) (by simp) ?_; rintro v w2 ⟨rfl, hx2⟩; have hz2 := hx2.size; have hE := hE.thenExt hx2; have hT := hT.ext hx2; have hB0 := hB0.ext hx2; have hK := hK.ext hx2; have hb := hb.ext hx2; have hB4 := hB4.ext hx2
 refine WL.v (Y.not rfl) ?_
 refine WL.nil (hK3 _ _ ?_); try clear hK3
 (first | refine cd_ rfl ?_ ?_ | refine ce_ rfl ?_ ?_ | refine cn_ rfl ?_ ?_ | refine cb_ rfl ?_ ?_) <;> intro ht4
 ·
  -- then
  refine CW.sr fun K5 hK5 => ?_
  refine WL.v (Y.build0 (build_apiDigest _)) ?_
  refine WL.store (g := g4) (pre := []) (old := digC Dig.zero) (post := []) (new := digC Dig.zero) rfl rfl rfl rfl (sz_apiDigest _) (by simpa using hB4) ln_ (one_digC) (fun w3 hc3 hB3_ => ?_)
  have hz3 := hc3.size; have hE := hE.stepO hc3 (fun k h => (by show (k = g ∨ k = r) ∨ _; omega)); have hT := hT.chg hc3 no_ no_ (fun e he k hk h => by have := hlow e he k hk; omega); have hB0 := hB0.chg hc3 no_; have hK := hK.chg hc3 (fun h => by change 0 = _ at h; omega); have hb := hb.chg hc3 (fun h0 k hk h => by have := hbl h0 k hk; omega)
  skip
  refine WL.a rfl ?_
  refine WL.nil (hK5 _ _ ?_); try clear hK5
  refine CW.ret ?_
  exact absurd (show true = false by assumption) de_
 refine CW.skip ?_
 refine hK2 _ _ ?_; try clear hK2
 refine CW.seq fun K6 hK6 => ?_
 refine CW.sr fun K7 hK7 => ?_
 refine WL.m rfl ?_
 refine WL.v (Y.len_slice Tryd.underlying32 rfl) ?_
 refine WL.v (Y.gtr rfl rfl) ?_
 refine WL.nil (hK7 _ _ ?_); try clear hK7
 (first | refine cd_ rfl ?_ ?_ | refine ce_ rfl ?_ ?_ | refine cn_ rfl ?_ ?_ | refine cb_ rfl ?_ ?_) <;> intro ht8
 ·
  -- then
  refine CW.sr fun K9 hK9 => ?_
  refine WL.v (Y.build0 (build_apiDigest _)) ?_
  refine WL.store (g := g4) (pre := []) (old := digC Dig.zero) (post := []) (new := digC (Dig.zero)) rfl rfl rfl rfl (sz_apiDigest _) (by simpa using hB4) ln_ (one_digC) (fun w4 hc4 hB4_ => ?_)
  have hz4 := hc4.size; have hE := hE.stepO hc4 (fun k h => (by show (k = g ∨ k = r) ∨ _; omega)); have hT := hT.chg hc4 no_ no_ (fun e he k hk h => by have := hlow e he k hk; omega); have hB0 := hB0.chg hc4 no_; have hK := hK.chg hc4 (fun h => by change 0 = _ at h; omega); have hb := hb.chg hc4 (fun h0 k hk h => by have := hbl h0 k hk; omega)
  have hB4 : Blk w4 g4 TDi (digC (Dig.zero)) := by simpa using hB4_
  refine WL.a rfl ?_
  refine WL.nil (hK9 _ _ ?_); try clear hK9
  refine CW.ret ?_
  have he : putE l b = 3 := by rw [putE, if_pos om_]
  exact ⟨_, _, _, rfl, hB4.mem, digC_length _, rfl, ⟨by rw [putD_no (by rw [he]; decide), he], ⟨l, ⟨putL_same (.inl (by rw [he]; decide)), Fresh.refl⟩, hT⟩, hE⟩⟩
 refine CW.skip ?_
 refine hK6 _ _ ?_; try clear hK6
 refine CW.sr fun K10 hK10 => ?_
 refine WL.m rfl ?_
 refine WL.call Tryd.func7 rfl rfl rfl (sum_any _ b _ hb (fun h0 k hk => by have := hbl h0 k hk; omega) hK om_) (by simp) ?_; rintro v w5 ⟨rfl, hx5⟩; have hz5 := hx5.size; have hE := hE.thenExt hx5; have hT := hT.ext hx5; have hB0 := hB0.ext hx5; have hK := hK.ext hx5; have hb := hb.ext hx5; have hB4 := hB4.ext hx5
 refine as_apiDigest rfl (by simp) de_ fun g6 w6 hx6 hg6 hB6 => ?_
 have hlt6 := hB6.lt; have hz6 := hx6.size
 have hM6 := hB6.mem; have hz6 := hx6.size; have hE := hE.thenExt hx6; have hT := hT.ext hx6; have hB0 := hB0.ext hx6; have hK := hK.ext hx6; have hb := hb.ext hx6; have hB4 := hB4.ext hx6
 refine WL.nil (hK10 _ _ ?_); try clear hK10
 refine CW.seq fun K11 hK11 => ?_
 refine CW.quiet (fun wq => Ext w6 wq) kr_ kr_ Chg.drew ?_
 refine QL.m rfl ?_
 refine QL.v (fun wq hq => Y.nilCheck rfl) ?_
 refine QL.v (fun wq hq => Y.fieldAddr fo_storeStore0 rfl) ?_
 refine QL.v (fun wq hq => Y.load1 Tryd.underlying64 rfl (hB0.ext hq).mem.storeStore0 rfl) ?_
 refine QL.v (fun wq hq => Y.load Tryd.underlying30 rfl (hB6.ext hq).mem (sz_apiDigest _) rfl) ?_
 refine QL.v (fun wq hq => Y.lookupOk keyDig (fun _ => rfl) UM zero_bytes rfl rfl ((hT.ext hq).map.choose_spec.1)) ?_
 refine QL.m rfl ?_
 refine QL.v (fun wq hq => Y.extract rfl rfl) ?_
 refine QL.v (fun wq hq => Y.extract rfl rfl) ?_
 refine QL.a rfl ?_
 refine QL.a rfl ?_
 refine QL.nil fun w7 hx7 => ?_
 have hz7 := hx7.size
 have hE := hE.thenExt hx7
 have hT := hT.ext hx7
 have hB0 := hB0.ext hx7
 have hK := hK.ext hx7
 have hb := hb.ext hx7
 have hB4 := hB4.ext hx7
 have hB6 := hB6.ext hx7
 refine hK11 _ _ ?_; try clear hK11
 refine CW.seq fun K12 hK12 => ?_
 refine CW.block ?_
 refine CW.seq_testE 28 ((at_ l (shaD b)).isSome = true ∧ getB l (shaD b) ≠ b) ?_ ?_
 ·
  refine CW.region ?_
  refine WL.m rfl ?_
  refine WL.m rfl ?_
  (first | refine WL.casesD (d := 30) rfl ?_ ?_ | refine WL.casesND (d := 30) rfl ?_ ?_ | refine WL.cases (d := 30) rfl ?_ ?_) <;> intro hg30
  ·
   -- t30 = T
   refine WL.g rfl rfl (Y.move rfl) ?_
   refine WL.g rfl rfl (Y.move rfl) ?_
   refine WL.gcall rfl rfl Tryd.func38 rfl rfl rfl (eqb_any _ _ _ _ _ (hT.look (shaD b)) hb) de_ ?_; rintro v w8 ⟨rfl, hx8⟩; have hz8 := hx8.size; have hE := hE.thenExt hx8; have hT := hT.ext hx8; have hB0 := hB0.ext hx8; have hK := hK.ext hx8; have hb := hb.ext hx8; have hB4 := hB4.ext hx8; have hB6 := hB6.ext hx8
   refine WL.g rfl rfl (Y.not rfl) ?_
   refine WL.v (Y.pick rfl rfl) ?_
   refine WL.a rfl ?_
   refine WL.nil ⟨⟨_, rfl, ?_⟩, hx8, Fr.okp⟩
   exact tst_ok
  ·
   -- t30 = F
   refine WL.o rfl rfl ?_
   refine WL.o rfl rfl ?_
   refine WL.o rfl rfl ?_
   refine WL.o rfl rfl ?_
   refine WL.v (Y.pick rfl rfl) ?_
   refine WL.a rfl ?_
   refine WL.nil ⟨⟨_, rfl, ?_⟩, Chg.refl, Fr.okp⟩
   exact tst_ok
 intro w9 hx9; have hz9 := hx9.size; have hE := hE.thenExt hx9; have hT := hT.ext hx9; have hB0 := hB0.ext hx9; have hK := hK.ext hx9; have hb := hb.ext hx9; have hB4 := hB4.ext hx9; have hB6 := hB6.ext hx9
 (first | refine cd_ rfl ?_ ?_ | refine ce_ rfl ?_ ?_ | refine cn_ rfl ?_ ?_ | refine cb_ rfl ?_ ?_) <;> intro ht13
 ·
  -- then
  refine CW.sr fun K14 hK14 => ?_
  refine WL.v (Y.build0 (build_apiDigest _)) ?_
  refine WL.store (g := g4) (pre := []) (old := digC Dig.zero) (post := []) (new := digC (Dig.zero)) rfl rfl rfl rfl (sz_apiDigest _) (by simpa using hB4) ln_ (one_digC) (fun w10 hc10 hB10_ => ?_)
  have hz10 := hc10.size; have hE := hE.stepO hc10 (fun k h => (by show (k = g ∨ k = r) ∨ _; omega)); have hT := hT.chg hc10 no_ no_ (fun e he k hk h => by have := hlow e he k hk; omega); have hB0 := hB0.chg hc10 no_; have hK := hK.chg hc10 (fun h => by change 0 = _ at h; omega); have hb := hb.chg hc10 (fun h0 k hk h => by have := hbl h0 k hk; omega); have hB6 := hB6.chg hc10 no_
  have hB4 : Blk w10 g4 TDi (digC (Dig.zero)) := by simpa using hB10_
  refine WL.a rfl ?_
  refine WL.nil (hK14 _ _ ?_); try clear hK14
  refine CW.ret ?_
  have he : putE l b = 10 := by rw [putE, if_neg om_, if_pos (And.left (by assumption)), if_neg (And.right (by assumption))]
  exact ⟨_, _, _, rfl, hB4.mem, digC_length _, rfl, ⟨by rw [putD_no (by rw [he]; decide), he], ⟨l, ⟨putL_same (.inl (by rw [he]; decide)), Fresh.refl⟩, hT⟩, hE⟩⟩
 refine CW.sr fun K15 hK15 => ?_
 refine WL.m rfl ?_
 refine WL.a rfl ?_
 refine WL.nil (hK15 _ _ ?_); try clear hK15
 (first | refine cd_ rfl ?_ ?_ | refine ce_ rfl ?_ ?_ | refine cn_ rfl ?_ ?_ | refine cb_ rfl ?_ ?_) <;> intro ht16
 ·
  -- then
  refine CW.sr fun K17 hK17 => ?_
  refine WL.v (Y.load Tryd.underlying30 rfl hB6.mem (sz_apiDigest _) rfl) ?_
  refine WL.store (g := g4) (pre := []) (old := digC Dig.zero) (post := []) (new := digC (shaD b)) rfl rfl rfl rfl (sz_apiDigest _) (by simpa using hB4) ln_ (one_digC) (fun w11 hc11 hB11_ => ?_)
  have hz11 := hc11.size; have hE := hE.stepO hc11 (fun k h => (by show (k = g ∨ k = r) ∨ _; omega)); have hT := hT.chg hc11 no_ no_ (fun e he k hk h => by have := hlow e he k hk; omega); have hB0 := hB0.chg hc11 no_; have hK := hK.chg hc11 (fun h => by change 0 = _ at h; omega); have hb := hb.chg hc11 (fun h0 k hk h => by have := hbl h0 k hk; omega); have hB6 := hB6.chg hc11 no_
  have hB4 : Blk w11 g4 TDi (digC (shaD b)) := by simpa using hB11_
  refine WL.a rfl ?_
  refine WL.nil (hK17 _ _ ?_); try clear hK17
  refine CW.ret ?_
  have he : putE l b = 0 := by
   have hs : (at_ l (shaD b)).isSome = true := by assumption
   rw [putE, if_neg om_, if_pos hs, if_pos (Decidable.not_not.1 fun x => (by assumption : ¬ ((at_ l (shaD b)).isSome = true ∧ getB l (shaD b) ≠ b)) ⟨hs, x⟩)]
  exact ⟨_, _, _, rfl, hB4.mem, digC_length _, rfl, ⟨by rw [putD_ok he, he], ⟨l, ⟨putL_same (.inr (by assumption)), Fresh.refl⟩, hT⟩, hE⟩⟩
 refine CW.sr fun K18 hK18 => ?_
 refine WL.m rfl ?_
 refine WL.v (Y.nilCheck rfl) ?_
 refine WL.v (Y.fieldAddr fo_storeStore0 rfl) ?_
 refine WL.v (Y.load1 Tryd.underlying64 rfl hB0.mem.storeStore0 rfl) ?_
 refine WL.v (Y.len_map Tryd.underlying64 rfl hT.map.choose_spec.1) ?_
 refine WL.v (Y.geq rfl rfl) ?_
 refine WL.a rfl ?_
 refine WL.nil (hK18 _ _ ?_); try clear hK18
 (first | refine cd_ rfl ?_ ?_ | refine ce_ rfl ?_ ?_ | refine cn_ rfl ?_ ?_ | refine cb_ rfl ?_ ?_) <;> intro ht19
 ·
  -- then
  refine CW.sr fun K20 hK20 => ?_
  refine WL.v (Y.build0 (build_apiDigest _)) ?_
  refine WL.store (g := g4) (pre := []) (old := digC Dig.zero) (post := []) (new := digC (Dig.zero)) rfl rfl rfl rfl (sz_apiDigest _) (by simpa using hB4) ln_ (one_digC) (fun w12 hc12 hB12_ => ?_)
  have hz12 := hc12.size; have hE := hE.stepO hc12 (fun k h => (by show (k = g ∨ k = r) ∨ _; omega)); have hT := hT.chg hc12 no_ no_ (fun e he k hk h => by have := hlow e he k hk; omega); have hB0 := hB0.chg hc12 no_; have hK := hK.chg hc12 (fun h => by change 0 = _ at h; omega); have hb := hb.chg hc12 (fun h0 k hk h => by have := hbl h0 k hk; omega); have hB6 := hB6.chg hc12 no_
  have hB4 : Blk w12 g4 TDi (digC (Dig.zero)) := by simpa using hB12_
  refine WL.a rfl ?_
  refine WL.nil (hK20 _ _ ?_); try clear hK20
  refine CW.ret ?_
  have he : putE l b = 14 := by rw [putE, if_neg om_, if_neg (by rw [show (mfind Ent.k (shaD b) l 0).isSome = false by assumption]; decide), if_pos om_]
  exact ⟨_, _, _, rfl, hB4.mem, digC_length _, rfl, ⟨by rw [putD_no (by rw [he]; decide), he], ⟨l, ⟨putL_same (.inl (by rw [he]; decide)), Fresh.refl⟩, hT⟩, hE⟩⟩
 refine CW.skip ?_
 refine hK12 _ _ ?_; try clear hK12
 refine CW.seq fun K21 hK21 => ?_
 refine CW.held (fun wq => Chg (fun k => k = r) w9 wq) kr_ 9 rfl fun w13 hx13 => ?_
 have hS : Chg (fun k => k = r) w9 w13 := hx13.chg
 obtain ⟨cl, hMp, hcl⟩ := hT.map
 have hMp := hMp.ext hx13
 have hz13 := hx13.size
 have hno := at_none (l := l) (d := shaD b) (by assumption)
 have he : putE l b = 0 := by rw [putE, if_neg om_, if_neg (by rw [hno]; decide), if_neg om_]
 refine RH.tk 0 hS rfl (fun wq hq => Y.move rfl) ?_
 refine RH.tk 1 hS rfl (fun wq hq => Y.nilCheck rfl) ?_
 refine RH.tk 2 hS rfl (fun wq hq => Y.fieldAddr fo_storeStore0 rfl) ?_
 refine RH.tk 3 hS rfl (fun wq hq => Y.load1 Tryd.underlying64 rfl (hB0.chg hq no_).mem.storeStore0 rfl) ?_
 refine RH.tk 4 hS rfl (fun wq hq => Y.load Tryd.underlying30 rfl (hB6.chg hq no_).mem (sz_apiDigest _) rfl) ?_
 refine RH.tk 6 hS rfl (fun wq hq => Y.move rfl) ?_
 refine RH.one 5 kr_ ?_
 refine RS.st rfl (St.buildSlice0 Tryd.underlying32 sz_uint8) de_ fun v53 w14 hR14 => ?_
 obtain ⟨g53, rfl, hg53, hO53, hx14⟩ := hR14
 have hS := hS.thenExt hx14
 have hMp := hMp.ext hx14
 have hz14 := hx14.size
 refine ⟨hS, ?_⟩
 refine RH.one 7 kr_ ?_
 refine RS.st rfl (St.app (xs := []) (ys := b) Tryd.underlying32 Tryd.underlying32 ai_u8 rfl rfl hO53 (Src.by (hb.chg hS (fun h0 k hk h => by have := hbl h0 k hk; omega))) (by simp only [List.length_nil]; omega)) de_ fun v55 w15 hR15 => ?_
 have hfr : ∀ k, v55.ownBlock = some k → w9.heap.size ≤ k := by
  rcases hR15.2.2 with h | h
  ·
   intro k hk; rw [h] at hk; simp [Value.ownBlock] at hk; omega
  ·
   intro k hk; have := h k hk; omega
 have hO55 : Own w15 5 1 v55 (bytesC b) := by simpa using hR15.1
 have hMp := hMp.chg hR15.2.1 (fun h => by simp [Value.ownBlock] at h; omega)
 have hS := hS.stepO hR15.2.1 (fun k h => .inr (by simp [Value.ownBlock] at h; omega))
 have hz15 := hR15.2.1.size
 refine ⟨hS, ?_⟩
 refine RH.one 8 kr_ ?_
 refine RS.su rfl (Su.mapNew (b := (⟨shaD b, v55, cl, b⟩ : Ent)) keyDig (fun _ => rfl) UM rfl rfl rfl hMp hno rfl) fun w16 hR16 => ?_
 obtain ⟨hMp, hc16⟩ := hR16
 have hO55 := hO55.chg hc16 (fun k hk h => by have := hfr k hk; omega)
 have hS := hS.trans hc16 (fun _ _ h => h)
 have hz16 := hc16.size
 refine ⟨hS, ?_⟩
 refine RH.done kr_ ?_
 have hE := hE.stepO hS (fun k h => .inl (.inr h))
 have hzS := hS.size
 have hB0 := hB0.chg hS no_
 have hB4 := hB4.chg hS no_
 have hB6 := hB6.chg hS no_
 refine hK21 _ _ ?_; try clear hK21
 refine CW.sr fun K22 hK22 => ?_
 refine WL.m rfl ?_
 refine WL.v (Y.nilCheck rfl) ?_
 refine WL.v (Y.fieldAddr fo_storeStore1 rfl) ?_
 refine WL.v (Y.load1 Tryd.underlying3 rfl hB0.mem.storeStore1 rfl) ?_
 refine WL.m rfl ?_
 refine WL.v (Y.len_slice Tryd.underlying32 rfl) ?_
 refine WL.v (Y.add rfl rfl o2_) ?_
 refine WL.v (Y.nilCheck rfl) ?_
 refine WL.v (Y.fieldAddr fo_storeStore1 rfl) ?_
 refine WL.store (g := g) (pre := [.map (some r)]) (old := [.int .i64 (total l : Int)]) (post := []) (new := [.int .i64 ((total l : Int) + (m : Int))]) rfl rfl rfl rfl kr_ hB0 ln_ (one1 rfl) (fun w17 hc17 hB17_ => ?_)
 have hz17 := hc17.size; have hE := hE.stepO hc17 (fun k h => (by show (k = g ∨ k = r) ∨ _; omega)); have hB4 := hB4.chg hc17 no_; have hB6 := hB6.chg hc17 no_
 have hB0 : Blk w17 g TS_ (storeC r (total (l ++ [(⟨shaD b, v55, cl, b⟩ : Ent)]))) := by
  have e : ((total l + b.length : Nat) : Int) = (total l : Int) + (m : Int) := by omega
  rw [total_app]
  show Blk _ _ _ [_, .int .i64 ((total l + b.length : Nat) : Int)]
  rw [e]; exact hB17_
 have hMp := hMp.chg hc17 no_
 have hO55 := hO55.chg hc17 (fun k hk h => by have := hfr k hk; omega)
 refine WL.nil (hK22 _ _ ?_); try clear hK22
 refine CW.sr fun K23 hK23 => ?_
 refine WL.v (Y.load Tryd.underlying30 rfl hB6.mem (sz_apiDigest _) rfl) ?_
 refine WL.store (g := g4) (pre := []) (old := digC Dig.zero) (post := []) (new := digC (shaD b)) rfl rfl rfl rfl (sz_apiDigest _) (by simpa using hB4) ln_ (one_digC) (fun w18 hc18 hB18_ => ?_)
 have hz18 := hc18.size; have hE := hE.stepO hc18 (fun k h => (by show (k = g ∨ k = r) ∨ _; omega)); have hB0 := hB0.chg hc18 no_; have hB6 := hB6.chg hc18 no_
 have hB4 : Blk w18 g4 TDi (digC (shaD b)) := by simpa using hB18_
 have hMp := hMp.chg hc18 no_
 have hlt55 := hO55.lt
 have hO55 := hO55.chg hc18 (fun k hk h => by have := hfr k hk; omega)
 refine WL.a rfl ?_
 refine WL.nil (hK23 _ _ ?_); try clear hK23
 refine CW.ret ?_
 exact ⟨_, _, _, rfl, hB4.mem, digC_length _, rfl, ⟨by rw [putD_ok he, he], ⟨_, ⟨putL_new (e := ⟨shaD b, v55, cl, b⟩) he hno rfl rfl, Fresh.app (fun k hk => by have := hfr k hk; omega)⟩, hT0.push hE (fun k h => h) hB0 hMp hcl hO55.by (fun k hk => by have := hfr k hk; have := hlt55 k hk; have := hc18.size; omega) hno om_ (by show b.length ≤ 131072; omega)⟩, hE⟩⟩
end Go.Proofs.YtfanmpbapabboaaDoor
/- Ranges over maps that the loop leaves alone, as rules of the calculus. No condition; no program. -/
namespace Go.Fw
open Go.RowKit
structure Going {β : Type} (w : World) (r b : Nat) (me : β → MapEntry) (l : List β) (cl : Nat) (vs : List β) : Prop where
 map : MapAt w b me l cl
 iter : w.heap[r]? = some (.mapIter (some b) cl (vs.map fun e => (me e).born).toArray cl)
 old : ∀ e ∈ l, (me e).born < cl
 born : (l.map fun e => (me e).born).Nodup
 sub : ∀ e ∈ vs, e ∈ l
 once : vs.Nodup
section
variable {β : Type} {w w' : World} {r b : Nat} {me : β → MapEntry} {l : List β} {cl : Nat} {vs : List β} {S : Nat → Prop}
theorem Going.lt (h : Going w r b me l cl vs) : r < w.heap.size ∧ b < w.heap.size := ⟨(Array.getElem?_eq_some_iff.1 h.iter).1, h.map.lt⟩
theorem Going.ne (h : Going w r b me l cl vs) : r ≠ b := by
 rintro rfl
 have := h.iter.symm.trans h.map
 cases this
theorem Going.chg (h : Going w r b me l cl vs) (hc : Chg S w w') (hr : ¬ S r) (hb : ¬ S b) : Going w' r b me l cl vs :=
 ⟨h.map.chg hc hb, (hc.block r h.lt.1 hr).trans h.iter, h.old, h.born, h.sub, h.once⟩
theorem Going.ext (h : Going w r b me l cl vs) (hc : Ext w w') : Going w' r b me l cl vs := h.chg hc (fun f => f) (fun f => f)
theorem Going.inj (h : Going w r b me l cl vs) {x y : β} (hx : x ∈ l) (hy : y ∈ l) (he : (me x).born = (me y).born) : x = y := by
 obtain ⟨i, hi⟩ := List.mem_iff_getElem?.1 hx
 obtain ⟨j, hj⟩ := List.mem_iff_getElem?.1 hy
 have h1 : (l.map fun e => (me e).born)[i]? = some (me x).born := by simp [hi]
 have h2 : (l.map fun e => (me e).born)[j]? = some (me x).born := by simp [hj, he]
 have hlt := (List.getElem?_eq_some_iff.1 h1).1
 have e := (List.getElem?_inj hlt h.born).1 (h1.trans h2.symm)
 subst e
 exact Option.some.inj (hi.symm.trans hj)
theorem Going.nodup (h : Going w r b me l cl vs) : l.Nodup := by
 have := h.born
 rw [List.Nodup, List.pairwise_map] at this
 exact this.imp fun hne e => hne (by rw [e])
theorem Going.perm (h : Going w r b me l cl vs) (ha : ∀ e ∈ l, e ∈ vs) : vs.Perm l := (List.perm_ext_iff_of_nodup h.once h.nodup).2 fun e => ⟨h.sub e, ha e⟩
theorem Going.few (h : Going w r b me l cl vs) : vs.length ≤ l.length := by
 obtain ⟨l', hp, hs⟩ : ∃ l', vs.Perm l' ∧ l'.Sublist l := by
  refine ⟨l.filter (fun e => @decide (e ∈ vs) (Classical.propDecidable _)), (List.perm_ext_iff_of_nodup h.once (h.nodup.sublist List.filter_sublist)).2 fun e => ?_, List.filter_sublist⟩
  simp only [List.mem_filter, decide_eq_true_eq]
  exact ⟨fun x => ⟨h.sub e x, x⟩, fun x => x.2⟩
 rw [hp.length_eq]
 exact hs.length_le
variable {P : Program} {n : NN} {fr : Fr} {ty : TypeId}
theorem St.range {x : Operand} {t k e : TypeId} (hT : P.underlying t = some (.map k e)) (hx : ev fr x = some (.map (some b))) (hm : MapAt w b me l cl) (ho : ∀ e ∈ l, (me e).born < cl) (hn : (l.map fun e => (me e).born).Nodup) :
  St P n fr (.range t x) ty w (fun v w' => ∃ r, v = .pointer (some ⟨r, 0, none⟩) ∧ w.heap.size ≤ r ∧ Going w' r b me l cl [] ∧ Ext w w') := fun a o' hop hty ha => by
 refine ⟨_, _, ?_, w.heap.size, rfl, Nat.le_refl _, ⟨hm.ext (Chg.alloc _), heap_alloc_new w _, ho, hn, (fun e h => by simp at h), List.nodup_nil⟩, Chg.alloc _⟩
 simp only [execOp, hop, ha.ev hx, Sem.run_bind]
 rw [run_range_map w t k e b _ cl hT hm]
 rfl
theorem St.next {x : Operand} (hx : ev fr x = some (.pointer (some ⟨r, 0, none⟩))) (hg : Going w r b me l cl vs) :
  St P n fr (.next x false) ty w (fun v w' => ∃ bt rest, v = .tuple (.bool bt :: rest).toArray ∧ Chg (· = r) w w' ∧
   ((bt = true ∧ ∃ e, e ∈ l ∧ e ∉ vs ∧ Going w' r b me l cl (vs ++ [e])) ∨ (bt = false ∧ (∀ e ∈ l, e ∈ vs) ∧ Going w' r b me l cl vs))) := fun a o' hop hty ha => by
 have hold : ∀ y ∈ (l.map me).toArray.toList, y.born < cl := by
  intro y hy
  simp only [List.mem_map] at hy
  obtain ⟨e, he, rfl⟩ := hy
  exact hg.old e he
 rcases run_next_at (P := P) w o'.type r b cl cl _ _ cl hg.iter hg.map hold (Nat.le_refl _) with ⟨h0, hrun⟩ | ⟨e, he, w1, hw1, hrun⟩
 ·
  refine ⟨_, w, ?_, false, [], rfl, Chg.refl, .inr ⟨rfl, fun e he => ?_, hg⟩⟩
  ·
   simp only [execOp, hop, ha.ev hx, Sem.run_bind]
   rw [hrun]; rfl
  ·
   have := all_seen _ _ h0 (me e) (by simp only [List.mem_map]; exact ⟨e, he, rfl⟩)
   simp only [List.contains_toArray, List.contains_eq_mem, List.mem_map, decide_eq_true_eq] at this
   obtain ⟨y, hy, hyb⟩ := this
   have := hg.inj (hg.sub y hy) he hyb
   exact this ▸ hy
 ·
  obtain ⟨hem, hes⟩ := mem_left he
  simp only [List.mem_map] at hem
  obtain ⟨x0, hx0, rfl⟩ := hem
  have hnv : x0 ∉ vs := fun h => by
   simp only [List.contains_toArray, List.contains_eq_mem, List.mem_map, decide_eq_false_iff_not] at hes
   exact hes ⟨x0, h, rfl⟩
  have hx1 : Ext w w1 := by rcases hw1 with rfl | rfl; exact Chg.refl; exact Chg.drew
  have hz1 : r < w1.heap.size := Nat.lt_of_lt_of_le hg.lt.1 hx1.size
  refine ⟨.tuple #[.bool true, (me x0).key, (me x0).val], { w1 with heap := w1.heap.setIfInBounds r (.mapIter (some b) cl ((vs.map fun e => (me e).born).toArray.push (me x0).born) cl) }, ?_, true, [(me x0).key, (me x0).val], rfl, hx1.chg.trans (T := fun k => k = r) (chg_setBlock rfl) (fun _ _ h => h), .inl ⟨rfl, x0, hx0, hnv, ?_⟩⟩
  ·
   simp only [execOp, hop, ha.ev hx, Sem.run_bind]
   rw [hrun]; rfl
  ·
   refine ⟨(hg.map.ext hx1).chg (chg_setBlock (S := fun k => k = r) rfl) (fun h => hg.ne (Eq.symm h)), ?_, hg.old, hg.born, fun e he => ?_, ?_⟩
   ·
    have := heap_setBlock (w := w1) (o := .mapIter (some b) cl ((vs.map fun e => (me e).born).toArray.push (me x0).born) cl) hz1
    rw [List.map_append, List.map_cons, List.map_nil, ← List.push_toArray]
    exact this
   ·
    rcases List.mem_append.1 he with h | h
    ·
     exact hg.sub e h
    ·
     simp at h; subst h; exact hx0
   ·
    rw [List.nodup_append]
    refine ⟨hg.once, by simp, fun a ha c hc => ?_⟩
    simp at hc; subst hc
    exact fun e => hnv (e ▸ ha)
theorem Y.entry {x : Operand} {e : β} (hx : ev fr x = some (.pointer (some ⟨r, 0, none⟩))) (hg : Going w r b me l cl (vs ++ [e])) : Yw P n fr (.entry x) ty w (.tuple #[(me e).key, (me e).val]) w := fun a o' hop _ ha => by
 have hit := hg.iter
 rw [List.map_append, List.map_cons, List.map_nil, ← List.push_toArray] at hit
 have := run_entry_at (P := P) w r b cl _ _ cl (me e) hit hg.map (by simp only [List.mem_map]; exact ⟨e, hg.sub e (by simp), rfl⟩) (by
  have := hg.born
  simpa [List.map_map, Function.comp_def] using this)
 simp only [execOp, hop, ha.ev hx, Sem.run_bind]
 rw [this]; rfl
theorem Y.extractT {x : Operand} {v : Value} {vs : List Value} (hx : ev fr x = some (.tuple (v :: vs).toArray)) : Yw P n fr (.extract x 0) ty w v w := Y.extract hx (by simp)
end
end Go.Fw
/- Lists of digests: slices.Index, slices.Contains, the reference's Sorted, walked; the plain law of sorting. No condition. -/
namespace Go.Pl
open Go.Fw
def insAt (d : Dig) : List Dig → Nat
 | [] => 0
 | x :: r => if lessB x d = true then insAt d r + 1 else 0
def insD (out : List Dig) (d : Dig) : List Dig := if out[insAt d out]? = some d then out else out.take (insAt d out) ++ d :: out.drop (insAt d out)
def srtD (l : List Dig) : List Dig := l.foldl insD []
end Go.Pl
namespace Go.Fw
open Go.RowKit
theorem Sl.at {α : Type} {w : World} {enc : α → List Value} {k : Nat} {A : Option Addr} {m c : Nat} {xs : List α} (h : Sl w enc k (.slice A m c) xs) {i : Nat} {x : α} (hx : xs[i]? = some x) : ∃ a, A = some a ∧ Mem w (a.add (i * k)) (enc x) := by
 obtain ⟨A', m', c', e, _, _, _, hls⟩ := h
 injection e with e1
 subst e1
 exact hls i x hx
end Go.Fw
namespace Go.Proofs.YtfanmpbapabboaaDoor
open Go.RowKit Go.Fw Go.Pl
abbrev TDg : TypeId := 30
end Go.Proofs.YtfanmpbapabboaaDoor
/- slices.SortFunc at digests of our own: what it leaves; the order of digests. No condition; no program. -/
namespace Go.Pl
open Go.Fw Go.Proofs Go.Sort
theorem bl_asymm : ∀ {a b : List UInt8}, Op.bytesLess a b = true → Op.bytesLess b a = false
 | _, [], h => by simp [Op.bytesLess] at h
 | [], _ :: _, _ => by simp [Op.bytesLess]
 | a :: x, b :: y, h => by
  simp only [Op.bytesLess, Bool.or_eq_true, decide_eq_true_eq, Bool.and_eq_true, beq_iff_eq] at h
  simp only [Op.bytesLess, Bool.or_eq_false_iff, decide_eq_false_iff_not, Bool.and_eq_false_imp, beq_iff_eq]
  rcases h with h | ⟨rfl, h⟩
  ·
   exact ⟨fun h' => by have := UInt8.lt_iff_toNat_lt.1 h; have := UInt8.lt_iff_toNat_lt.1 h'; omega, fun e => by subst e; exact absurd h (UInt8.lt_irrefl _)⟩
  ·
   exact ⟨UInt8.lt_irrefl _, fun _ => bl_asymm h⟩
theorem bl_trans : ∀ {a b c : List UInt8}, Op.bytesLess a b = true → Op.bytesLess b c = true → Op.bytesLess a c = true
 | _, [], _, h, _ => by simp [Op.bytesLess] at h
 | _, _ :: _, [], _, h => by simp [Op.bytesLess] at h
 | [], _ :: _, _ :: _, _, _ => by simp [Op.bytesLess]
 | a :: x, b :: y, c :: z, h, k => by
  simp only [Op.bytesLess, Bool.or_eq_true, decide_eq_true_eq, Bool.and_eq_true, beq_iff_eq] at h k ⊢
  rcases h with h | ⟨rfl, h⟩
  ·
   rcases k with k | ⟨rfl, k⟩
   ·
    exact .inl (UInt8.lt_trans h k)
   ·
    exact .inl h
  ·
   rcases k with k | ⟨rfl, k⟩
   ·
    exact .inl k
   ·
    exact .inr ⟨rfl, bl_trans h k⟩
theorem bl_tri : ∀ {a b : List UInt8}, a.length = b.length → Op.bytesLess a b = false → Op.bytesLess b a = false → a = b
 | [], [], _, _, _ => rfl
 | [], _ :: _, h, _, _ => by simp at h
 | _ :: _, [], h, _, _ => by simp at h
 | a :: x, b :: y, hl, h, k => by
  simp only [Op.bytesLess, Bool.or_eq_false_iff, decide_eq_false_iff_not, Bool.and_eq_false_imp, beq_iff_eq] at h k
  have e : a = b := UInt8.toNat_inj.1 (by
   have h1 : ¬ a.toNat < b.toNat := fun x => h.1 (UInt8.lt_iff_toNat_lt.2 x)
   have h2 : ¬ b.toNat < a.toNat := fun x => k.1 (UInt8.lt_iff_toNat_lt.2 x)
   omega)
  subst e
  rw [bl_tri (by simpa using hl) (h.2 rfl) (k.2 rfl)]
theorem less_asymm {a b : Dig} (h : lessB a b = true) : lessB b a = false := bl_asymm h
theorem less_trans {a b c : Dig} (h : lessB a b = true) (k : lessB b c = true) : lessB a c = true := bl_trans h k
theorem less_tri {a b : Dig} (h : lessB a b = false) (k : lessB b a = false) : a = b := Subtype.ext (bl_tri (by rw [a.2, b.2]) h k)
theorem less_irrefl (a : Dig) : lessB a a = false := bytesLess_self _
def cfD (a b : Dig) : Int := if lessB a b = true then -1 else 1
theorem lt_cfD (a b : Dig) : ltOf cfD a b = lessB a b := by
 unfold ltOf cfD
 cases lessB a b <;> simp
theorem swo_cfD : SWO (ltOf cfD) where
 irrefl x := by rw [lt_cfD]; exact less_irrefl x
 trans x y z h k := by rw [lt_cfD] at h k ⊢; exact less_trans h k
 ntrans x y z h k := by
  rw [lt_cfD] at h k ⊢
  cases hc : lessB x z with
  | false => rfl
  | true =>
   cases hd : lessB y x with
   | true => rw [less_trans hd hc] at k; cases k
   | false =>
    have := less_tri h hd; subst this
    rw [hc] at k; cases k
def sortedD (l : List Dig) : List Dig := l.mergeSort fun x y => !(ltOf cfD) y x
end Go.Pl
namespace Go.Fw
open Go.RowKit Go.Proofs Go.Sort
theorem flat_get {α : Type} {enc : α → List Value} {k : Nat} (hk : 0 < k) (he : ∀ x, (enc x).length = k) : ∀ (xs : List α) (t : Nat), ((xs.map enc).flatten)[t]? = (xs[t / k]?).bind fun x => (enc x)[t % k]?
 | [], t => by simp
 | x :: xs, t => by
  simp only [List.map_cons, List.flatten_cons, List.getElem?_append, he]
  split
  ·
   rename_i h
   rw [Nat.div_eq_of_lt h, Nat.mod_eq_of_lt h]; rfl
  ·
   rename_i h
   have e1 : t / k = (t - k) / k + 1 := Nat.div_eq_sub_div hk om_
   have e2 : t % k = (t - k) % k := Nat.mod_eq_sub_mod om_
   rw [flat_get hk he xs, e1, e2, List.getElem?_cons_succ]
theorem flatK_toList {α : Type} [Inhabited α] {enc : α → List Value} {k : Nat} (hk : 0 < k) (he : ∀ x, (enc x).length = k) (xs : List α) : (flatK enc k xs.toArray).toList = (xs.map enc).flatten := by
 apply List.ext_getElem?
 intro t
 rw [flat_get hk he]
 by_cases ht : t < xs.length * k
 ·
  have h1 : t / k < xs.length := Nat.div_lt_of_lt_mul (by rw [Nat.mul_comm]; exact ht)
  have h2 : t % k < (enc xs[t / k]).length := by rw [he]; exact Nat.mod_lt _ hk
  have h3 : t < (flatK enc k xs.toArray).size := by rw [size_flatK]; exact ht
  have h4 := get_flatK enc k xs.toArray t (by simpa using ht)
  rw [getElem!_pos _ t h3, getElem!_pos xs.toArray (t / k) (by simpa using h1)] at h4
  rw [Array.getElem?_toList, Array.getElem?_eq_getElem h3, h4, List.getElem?_eq_getElem h1, Option.bind_some, List.getElem?_eq_getElem h2]
  simp only [List.getElem_toArray]
  rw [getElem!_pos (enc xs[t / k]) (t % k) h2]
 ·
  have h1 : ¬ t / k < xs.length := fun h => ht (Nat.lt_mul_of_div_lt h hk)
  rw [Array.getElem?_toList, Array.getElem?_eq_none (by rw [size_flatK]; simpa using ht), List.getElem?_eq_none om_]
  rfl
theorem putCells_list (F : Array Value) (xs rest : List Value) (h : F.size = xs.length) : putCells id 0 F (xs ++ rest).toArray = (F.toList ++ rest).toArray := by
 apply Array.ext_getElem?
 intro j
 simp only [putCells, Array.getElem?_mapIdx, List.getElem?_toArray, List.getElem?_append, Nat.zero_le, true_and, Nat.zero_add, Nat.sub_zero, id]
 by_cases hj : j < F.size
 ·
  rw [if_pos om_, if_pos (by simpa using hj), List.getElem?_eq_getElem om_, Array.getElem?_toList, Array.getElem?_eq_getElem hj]
  simp only [Option.map_some, if_pos hj]
  rw [getElem!_pos F j hj]
 ·
  rw [if_neg om_, if_neg (by simpa using hj), h]
  simp only [if_neg (show ¬ j < xs.length by omega), Array.length_toList, h]
  cases rest[j - xs.length]? <;> rfl
section
variable {w : World} {e : TypeId} {k g n c : Nat} {α : Type} [Inhabited α] {enc : α → List Value} {l : List α}
theorem Own.holds (hk : 0 < k) (he : ∀ x, (enc x).length = k) (h : Own w e k (.slice (some ⟨g, 0, none⟩) n c) ((l.map enc).flatten)) : HoldsK enc k w g 0 l.toArray ∧ g < w.heap.size := by
  rcases h with ⟨h, _⟩ | ⟨g', n', c', rest, fz, h, hh, hxl, hnc, hcm, hal, hfz⟩
  · cases h
  injection h with h2 h3 h4
  injection h2 with h2
  injection h2 with h2
  subst h2; subst h3; subst h4
  refine ⟨fun j hj => ?_, (Array.getElem?_eq_some_iff.1 hh).1⟩
  have hj' : j < (flatK enc k l.toArray).toList.length := by simpa using hj
  have hjx : j < ((l.map enc).flatten).length := by rw [← flatK_toList hk he]; exact hj'
  refine ⟨?_, ?_⟩
  · rw [Nat.zero_add]
    unfold World.cell?
    simp only [hh]
    simp only [List.getElem?_toArray]
    rw [List.getElem?_append_left hjx, ← flatK_toList hk he, Array.getElem?_toList, Array.getElem?_eq_getElem hj, getElem!_pos _ j hj]
    rfl
  · rw [Nat.zero_add]
    unfold World.frozen?
    simp only [hh]
    have := hfz j (by have : ((l.map enc).flatten).length ≤ c * k := by rw [← hal]; simp
                      omega)
    simp only [Bool.and_eq_false_imp, decide_eq_true_eq, decide_eq_false_iff_not]
    omega
theorem Own.sorted (hk : 0 < k) (he : ∀ x, (enc x).length = k) (h : Own w e k (.slice (some ⟨g, 0, none⟩) n c) ((l.map enc).flatten)) {l' : List α} (hl : l'.length = l.length) (m : Nat) (os : Array Obj) :
  Own (sortWorldK enc k w g 0 m l'.toArray os) e k (.slice (some ⟨g, 0, none⟩) n c) ((l'.map enc).flatten) ∧ Chg (· = g) w (sortWorldK enc k w g 0 m l'.toArray os) := by
 rcases h with ⟨h, _⟩ | ⟨g', n', c', rest, fz, h, hh, hxl, hnc, hcm, hal, hfz⟩
 ·
  cases h
 injection h with h2 h3 h4
 injection h2 with h2
 injection h2 with h2
 subst h2; subst h3; subst h4
 have hlen : ((l'.map enc).flatten).length = ((l.map enc).flatten).length := by rw [flat_length he, flat_length he, hl]
 have hlt := (Array.getElem?_eq_some_iff.1 hh).1
 have hg : (sortWorldK enc k w g 0 m l'.toArray os).heap[g]? = some (.cells ((l'.map enc).flatten ++ rest).toArray e fz) := by
  show ((w.heap.modify g (onCells (putCells id 0 (flatK enc k l'.toArray)))) ++ os)[g]? = _
  rw [Array.getElem?_append_left (by simpa using hlt), Array.getElem?_modify, if_pos rfl, hh, Option.map_some]
  simp only [onCells]
  rw [putCells_list _ _ _ (by rw [size_flatK, flat_length he]; simp [hl]), flatK_toList hk he]
 refine ⟨.inr ⟨g, n, c, rest, fz, rfl, hg, by rw [hlen, hxl], hnc, hcm, by rw [List.length_append, hlen, ← List.length_append, hal], hfz⟩, rfl, rfl, rfl, ?_, fun b hb hn => ?_, Nat.le_add_right _ _⟩
 ·
  show _ ≤ ((w.heap.modify g _) ++ os).size
  simp
 ·
  show ((w.heap.modify g (onCells (putCells id 0 (flatK enc k l'.toArray)))) ++ os)[b]? = _
  rw [Array.getElem?_append_left (by simpa using hb), Array.getElem?_modify, if_neg (fun h => hn h.symm)]
end
theorem Ext.grown {W w' : World} (h : Ext W w') : ∃ q os', w' = grow (W.drewN q) os' := by
 refine ⟨w'.drawn - W.drawn, w'.heap.extract W.heap.size w'.heap.size, ?_⟩
 obtain ⟨h1, h2, h3, h4, h5, h6⟩ := h
 have hh : w'.heap = W.heap ++ w'.heap.extract W.heap.size w'.heap.size := by
  apply Array.ext_getElem?
  intro i
  by_cases hi : i < W.heap.size
  ·
   rw [Array.getElem?_append_left hi]; exact h5 i hi (fun f => f)
  ·
   rw [Array.getElem?_append_right om_, Array.getElem?_extract]
   split
   ·
    congr 1; omega
   ·
    rw [Array.getElem?_eq_none om_]
 cases W; cases w'
 simp only [World.drewN, grow] at *
 subst h1; subst h2; subst h3
 congr 1
 omega
end Go.Fw
/- The plain law of a commit's references: sorting what is gathered once is sorting by insertion. No condition; no program. -/
namespace Go.Pl
open Go.Fw Go.Proofs Go.Sort
abbrev Up (l : List Dig) : Prop := l.Pairwise fun x y => lessB x y = true
theorem up_eq : ∀ {a b : List Dig}, Up a → Up b → (∀ x, x ∈ a ↔ x ∈ b) → a = b
 | [], [], _, _, _ => rfl
 | [], y :: b, _, _, h => by have := (h y).2 (by simp); simp at this
 | x :: a, [], _, _, h => by have := (h x).1 (by simp); simp at this
 | x :: a, y :: b, ha, hb, h => by
  have ha' := List.pairwise_cons.1 ha
  have hb' := List.pairwise_cons.1 hb
  have e : x = y := by
   have h1 := (h x).1 (by simp)
   have h2 := (h y).2 (by simp)
   rcases List.mem_cons.1 h1 with h1 | h1
   ·
    exact h1
   rcases List.mem_cons.1 h2 with h2 | h2
   ·
    exact h2.symm
   have h3 := hb'.1 x h1
   have h4 := ha'.1 y h2
   rw [less_asymm h3] at h4
   cases h4
  subst e
  have := up_eq ha'.2 hb'.2 fun z => by
   constructor
   ·
    intro hz
    rcases List.mem_cons.1 ((h z).1 (by simp [hz])) with h1 | h1
    ·
     subst h1; have := ha'.1 z hz; rw [less_irrefl] at this; cases this
    ·
     exact h1
   ·
    intro hz
    rcases List.mem_cons.1 ((h z).2 (by simp [hz])) with h1 | h1
    ·
     subst h1; have := hb'.1 z hz; rw [less_irrefl] at this; cases this
    ·
     exact h1
  rw [this]
def ins (d : Dig) : List Dig → List Dig
 | [] => [d]
 | x :: r => if lessB x d = true then x :: ins d r else if x = d then x :: r else d :: x :: r
theorem insD_eq (d : Dig) : ∀ out, insD out d = ins d out
 | [] => by simp [insD, insAt, ins]
 | x :: r => by
  have ih := insD_eq d r
  unfold insD at ih ⊢
  rw [insAt, ins]
  split
  ·
   simp only [List.getElem?_cons_succ, List.take_succ_cons, List.drop_succ_cons]
   rw [← ih]
   split <;> simp
  ·
   simp only [List.getElem?_cons_zero, Option.some.injEq, List.take_zero, List.drop_zero, List.nil_append]
theorem mem_ins {d y : Dig} : ∀ {out : List Dig}, y ∈ ins d out ↔ y = d ∨ y ∈ out
 | [] => by simp [ins]
 | x :: r => by
  rw [ins]
  split
  ·
   rw [List.mem_cons, mem_ins, List.mem_cons]
   constructor
   ·
    rintro (h | h | h)
    ·
     exact .inr (.inl h)
    ·
     exact .inl h
    ·
     exact .inr (.inr h)
   ·
    rintro (h | h | h)
    ·
     exact .inr (.inl h)
    ·
     exact .inl h
    ·
     exact .inr (.inr h)
  ·
   split
   ·
    rename_i h; subst h
    simp
   ·
    simp
theorem up_ins {d : Dig} : ∀ {out : List Dig}, Up out → Up (ins d out)
 | [], _ => by simp [ins, Up]
 | x :: r, h => by
  have h' := List.pairwise_cons.1 h
  rw [ins]
  split
  ·
   rename_i hl
   refine List.pairwise_cons.2 ⟨fun y hy => ?_, up_ins h'.2⟩
   rcases mem_ins.1 hy with rfl | hy
   ·
    exact hl
   ·
    exact h'.1 y hy
  ·
   rename_i hl
   split
   ·
    exact h
   ·
    rename_i hne
    have hdx : lessB d x = true := by
     cases hc : lessB d x with
     | true => rfl
     | false => exact absurd (less_tri (by simpa using hl) hc) hne
    refine List.pairwise_cons.2 ⟨fun y hy => ?_, h⟩
    rcases List.mem_cons.1 hy with rfl | hy
    ·
     exact hdx
    ·
     exact less_trans hdx (h'.1 y hy)
theorem srt_up (l : List Dig) : ∀ out, Up out → Up (l.foldl insD out) := by
 induction l with
 | nil => intro out h; exact h
 | cons d l ih => intro out h; rw [List.foldl_cons]; exact ih _ (by rw [insD_eq]; exact up_ins h)
theorem srt_mem (l : List Dig) (y : Dig) : ∀ out, y ∈ l.foldl insD out ↔ y ∈ l ∨ y ∈ out := by
 induction l with
 | nil => intro out; simp
 | cons d l ih =>
  intro out
  rw [List.foldl_cons, ih, insD_eq, mem_ins, List.mem_cons]
  constructor
  ·
   rintro (h | h | h)
   ·
    exact .inl (.inr h)
   ·
    exact .inl (.inl h)
   ·
    exact .inr h
  ·
   rintro ((h | h) | h)
   ·
    exact .inr (.inl h)
   ·
    exact .inl h
   ·
    exact .inr (.inr h)
theorem sortedD_mem (l : List Dig) (y : Dig) : y ∈ sortedD l ↔ y ∈ l := (List.mergeSort_perm l _).mem_iff
theorem sortedD_length (l : List Dig) : (sortedD l).length = l.length := (List.mergeSort_perm l _).length_eq
theorem sortedD_up {l : List Dig} (h : l.Nodup) : Up (sortedD l) := by
 have h1 : (sortedD l).Pairwise fun x y => (!(ltOf cfD) y x) = true := List.pairwise_mergeSort (le := fun x y => !(ltOf cfD) y x) (fun a b c h k => by
   simp only [lt_cfD, Bool.not_eq_true'] at h k ⊢
   have := swo_cfD.ntrans c b a (by rw [lt_cfD]; exact k) (by rw [lt_cfD]; exact h)
   rwa [lt_cfD] at this) (fun a b => by
   simp only [lt_cfD, Bool.or_eq_true, Bool.not_eq_true']
   cases hc : lessB b a with
   | false => exact .inl rfl
   | true => exact .inr (less_asymm hc)) l
 have h2 : (sortedD l).Nodup := (List.mergeSort_perm l _).nodup_iff.2 h
 refine (h1.and h2).imp fun {a b} hab => ?_
 have h3 := hab.1
 simp only [lt_cfD, Bool.not_eq_true'] at h3
 cases hc : lessB a b with
 | true => rfl
 | false => exact absurd (less_tri hc h3) hab.2
end Go.Pl
/- slices.SortFunc's contract at digests, laid by the shelf at this program, in plain words. No condition. -/
namespace Go.Proofs.YtfanmpbapabboaaDoor
open Go.Shelf
def sortD_ren : Go.Shelf.Ren := ⟨fun | 6 => 45 | 15 => 60 | 14 => 59 | 28 => 78 | 29 => 79 | 20 => 70 | 21 => 71 | 22 => 72 | 23 => 73 | 24 => 74 | 25 => 75 | 26 => 76 | 27 => 77 | 46 => 81 | 47 => 82 | 48 => 83 | 49 => 84 | 50 => 85 | 57 => 87 | n => n, fun | 22 => 23 | 24 => 30 | 25 => 105 | 3 => 3 | 39 => 94 | 0 => 0 | 53 => 85 | 55 => 93 | 4 => 4 | 46 => 136 | 45 => 135 | 50 => 41 | 5 => 5 | 9 => 9 | 66 => 146 | 70 => 150 | 76 => 152 | 77 => 153 | n => n, fun | n => n⟩
theorem sortD : Go.Proofs.SlLaysF0.n6 Tryd.prog sortD_ren := {
 mixed := by kernel_rfl
 f6 := ⟨Tryd.f45.name, by decide, Tryd.func45.trans (congrArg some (by kernel_rfl))⟩
 f14 := ⟨Tryd.f59.name, by decide, Tryd.func59.trans (congrArg some (by kernel_rfl))⟩
 f15 := Tryd.func60.trans (congrArg some (by kernel_rfl))
 f20 := ⟨Tryd.f70.name, by decide, Tryd.func70.trans (congrArg some (by kernel_rfl))⟩
 f21 := ⟨Tryd.f71.name, by decide, Tryd.func71.trans (congrArg some (by kernel_rfl))⟩
 f22 := ⟨Tryd.f72.name, by decide, Tryd.func72.trans (congrArg some (by kernel_rfl))⟩
 f23 := ⟨Tryd.f73.name, by decide, Tryd.func73.trans (congrArg some (by kernel_rfl))⟩
 f24 := ⟨Tryd.f74.name, by decide, Tryd.func74.trans (congrArg some (by kernel_rfl))⟩
 f25 := ⟨Tryd.f75.name, by decide, Tryd.func75.trans (congrArg some (by kernel_rfl))⟩
 f26 := ⟨Tryd.f76.name, by decide, Tryd.func76.trans (congrArg some (by kernel_rfl))⟩
 f27 := ⟨Tryd.f77.name, by decide, Tryd.func77.trans (congrArg some (by kernel_rfl))⟩
 f28 := Tryd.func78.trans (congrArg some (by kernel_rfl))
 f29 := Tryd.func79.trans (congrArg some (by kernel_rfl))
 f46 := ⟨Tryd.f81.name, by decide, Tryd.func81.trans (congrArg some (by kernel_rfl))⟩
 f47 := Tryd.func82.trans (congrArg some (by kernel_rfl))
 f48 := Tryd.func83.trans (congrArg some (by kernel_rfl))
 f49 := ⟨Tryd.f84.name, by decide, Tryd.func84.trans (congrArg some (by kernel_rfl))⟩
 f50 := ⟨Tryd.f85.name, by decide, Tryd.func85.trans (congrArg some (by kernel_rfl))⟩
 f57 := ⟨Tryd.f87.name, by decide, Tryd.func87.trans (congrArg some (by kernel_rfl))⟩
 t0 := Tryd.underlying0
 a0 := Tryd.isAgg0
 z0 := Tryd.sizeOf0
 v0 := Tryd.zeroValue0
 t3 := Tryd.underlying3
 a3 := Tryd.isAgg3
 z3 := Tryd.sizeOf3
 v3 := Tryd.zeroValue3
 t4 := Tryd.underlying4
 a4 := Tryd.isAgg4
 z4 := Tryd.sizeOf4
 v4 := Tryd.zeroValue4
 t5 := Tryd.underlying5
 a5 := Tryd.isAgg5
 z5 := Tryd.sizeOf5
 v5 := Tryd.zeroValue5
 t9 := Tryd.underlying9
 a9 := Tryd.isAgg9
 z9 := Tryd.sizeOf9
 v9 := Tryd.zeroValue9
 t22 := Tryd.underlying23
 a22 := Tryd.isAgg23
 z22 := Tryd.sizeOf23
 v22 := Tryd.zeroValue23
 t25 := Tryd.underlying105
 a25 := Tryd.isAgg105
 z25 := Tryd.sizeOf105
 v25 := Tryd.zeroValue105
 t39 := Tryd.underlying94
 a39 := Tryd.isAgg94
 z39 := Tryd.sizeOf94
 v39 := Tryd.zeroValue94
 t45 := Tryd.underlying135
 a45 := Tryd.isAgg135
 z45 := Tryd.sizeOf135
 v45 := Tryd.zeroValue135
 t46 := Tryd.underlying136
 a46 := Tryd.isAgg136
 z46 := Tryd.sizeOf136
 v46 := Tryd.zeroValue136
 t50 := Tryd.underlying41
 a50 := Tryd.isAgg41
 z50 := Tryd.sizeOf41
 v50 := Tryd.zeroValue41
 t53 := Tryd.underlying85
 a53 := Tryd.isAgg85
 z53 := Tryd.sizeOf85
 v53 := Tryd.zeroValue85
 t55 := Tryd.underlying93
 a55 := Tryd.isAgg93
 z55 := Tryd.sizeOf93
 v55 := Tryd.zeroValue93
 t66 := Tryd.underlying146
 a66 := Tryd.isAgg146
 z66 := Tryd.sizeOf146
 v66 := Tryd.zeroValue146
 t70 := Tryd.underlying150
 a70 := Tryd.isAgg150
 z70 := Tryd.sizeOf150
 v70 := Tryd.zeroValue150
 t76 := Tryd.underlying152
 a76 := Tryd.isAgg152
 z76 := Tryd.sizeOf152
 v76 := Tryd.zeroValue152
 t77 := Tryd.underlying153
 a77 := Tryd.isAgg153
 z77 := Tryd.sizeOf153
 v77 := Tryd.zeroValue153 }
end Go.Proofs.YtfanmpbapabboaaDoor
/- slices.SortFunc at digests of our own, whatever the comparing function that tells the digests' order. No condition. -/
namespace Go.Proofs.YtfanmpbapabboaaDoor
open Go.RowKit Go.Fw Go.Pl Go.Sort
instance : Inhabited Dig := ⟨Dig.zero⟩
theorem sort_gen {f : Nat} {fn : Func} {c : Code} (cf : Dig → Dig → Int) (hcf : ∀ a b, ltOf cf a b = lessB a b) (hf : Tryd.prog.funcs[f]? = some fn) (hnm : (fn.name == "runtime.NumGoroutine") = false) (hbd : fn.body = some c)
  (hcmp : ∀ (a b : Dig) (w : World), Calls Tryd.prog f #[digV a, digV b] w (Ret fun v w' => v = .int .i64 (cf a b) ∧ Ext w w'))
  (A : Option Addr) (m c : Nat) (l : List Dig) (w : World) (hO : Own w TDg 32 (.slice A m c) (flatD l)) (hs : l.length < 4611686018427387904) : Calls Tryd.prog 45 #[.slice A m c, .func (.func f) #[] #[]] w (Ret fun v w' => v = .tuple #[] ∧ Own w' TDg 32 (.slice A m c) (flatD (sortedD l)) ∧ Chg (fun k => (Value.slice A m c).ownBlock = some k) w w') := by
 have hlt : ltOf cf = ltOf cfD := by funext a b; rw [hcf, lt_cfD]
 obtain ⟨hlen, hmc, hcm⟩ := hO.len digC_length de_
 unfold maxLen at hcm
 by_cases h0 : l = []
 ·
  subst h0
  simp at hlen
  subst hlen
  refine (AnyF.slices_SortFunc_none sortD A c _ w).mono fun e w' h => ?_
  obtain ⟨rfl, rfl⟩ := h
  exact ⟨rfl, by unfold sortedD; rw [List.mergeSort_nil]; exact hO, Chg.refl⟩
 ·
  obtain ⟨g, rfl, hg⟩ := hO.head (by
   intro h
   have := congrArg List.length h
   rw [flat_length digC_length, List.length_nil] at this
   cases l with
   | nil => exact h0 rfl
   | cons _ _ => simp at this)
  obtain ⟨hH, hblk⟩ := hO.holds de_ digC_length
  have hC : CmpLays Tryd.prog f #[] digC 32 cf g 0 l.toArray.size w := fun mm os dk _ x y => by
   rw [Array.append_empty]
   refine (hcmp x y _).mono fun e w' h => ?_
   cases e with
   | returned v => obtain ⟨rfl, hx⟩ := h; exact ⟨rfl, hx.grown⟩
   | panicked ch => exact h.elim
   | outgrown => exact h.elim
  have hcon := AnyQ.slices_SortFunc_total sortD 32 Tryd.isAgg30 Tryd.sizeOf30 digC digC_length (fun x v hv => one_digC v hv) cf (hlt ▸ swo_cfD) f #[] g 0 c l.toArray w (enters_of hf hnm hbd) hC hH hblk (by simpa using hs) (fun x y h k => by rw [hcf] at h k; exact less_tri h k)
  subst hlen
  refine Calls.mono (R := fun e w' => e = .returned (.tuple #[]) ∧ ∃ n os, w' = sortWorldK digC 32 w g 0 n (l.toArray.toList.mergeSort fun x y => !(ltOf cf) y x).toArray os) hcon fun e w' h => ?_
  obtain ⟨rfl, n, os, rfl⟩ := h
  obtain ⟨h1, h2⟩ := hO.sorted (l' := sortedD l) de_ digC_length (sortedD_length l) n os
  have e : (l.toArray.toList.mergeSort fun x y => !(ltOf cf) y x) = sortedD l := by rw [hlt]; rfl
  rw [e]
  refine ⟨rfl, h1, h2.mono fun b _ hb => by rw [hb]; rfl⟩
end Go.Proofs.YtfanmpbapabboaaDoor
