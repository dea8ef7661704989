/- Parts of a proof: what its last text leans on. No condition. -/
import Derived.Test.YtfanmpbapabboaaDoorK19
set_option linter.unusedSimpArgs false
set_option linter.unusedVariables false
/- Packs are read: an object, walked. No condition. -/
namespace Go.Proofs.YtfanmpbapabboaaDoor
open Go.RowKit Go.Fw Go.Pl Go.Sort
set_option maxRecDepth 100000 in
set_option maxHeartbeats 2000000 in
theorem pkobj_any (g : Nat) (bv : Value) (b : List UInt8) (at_ : Nat) (uv : Value) (ids : List Dig) (ahead : List UInt8) (depth : Nat) (w : World) (hB0 : Blk w g TPk [bv, .int .i64 (at_ : Int)]) (hb : By w bv b) (hbg : b ≠ [] → ∀ k, bv.ownBlock = some k → k ≠ g) (hat : at_ ≤ b.length) (hi : Own w TDg 32 uv (flatD ids)) (hig : ∀ k, uv.ownBlock = some k → k ≠ g) (hal : ahead.length ≤ 140737488351232) (hdp : depth ≤ 4) (hg0 : 0 < g) (hK : Mem w ⟨0, 0, none⟩ (wds keysL)) : Calls Tryd.prog 35 #[.pointer (some ⟨g, 0, none⟩), uv, .string (bs ahead), .int .i64 (depth : Int)] w (RetOr (fun v w' => ∃ d s dp a, robj b ids ahead depth at_ = .ok ((d, s, dp), a) ∧ v = .tuple #[digV d, .string (bs s), .int .i64 (dp : Int)] ∧ Chg (· = g) w w' ∧ Blk w' g TPk [bv, .int .i64 (a : Int)]) (RobS b ids ahead depth at_ g w)) := by
 have hbl := hb.ltB
 have hgl := hB0.lt
 obtain ⟨U, nu, cu, rfl⟩ := hi.lens
 obtain ⟨hil, hic, hicm⟩ := hi.len digC_length de_
 unfold maxLen at hicm
 obtain ⟨id, hid, hzd, _⟩ := info_apiDigest
 refine calls_of_CWct_or 102 8 32 [9, 10] [(0, .pointer (some ⟨g, 0, none⟩)), (1, .slice U nu cu), (2, .string (bs ahead)), (3, .int .i64 (depth : Int))] Tryd.func35 rfl rfl rfl Tryd.underlying30 rfl kr_ (by simp) args4 ?_
 have hE : Chg (fun k => k = g) w w := Chg.refl
 refine CW.sr fun K1 hK1 => ?_
 refine WL.alloc (hid) (hzd) rfl de_ fun g8 w1 hx1 hg8 hB8 => ?_
 have hlt8 := hB8.lt; have hz1 := hx1.size
 have hM8 := hB8.mem; have hz1 := hx1.size; have hE := hE.thenExt hx1; have hK := hK.ext hx1; have hb := hb.ext hx1; have hB0 := hB0.ext hx1
 refine WL.a rfl ?_
 refine WL.a rfl ?_
 refine WL.nil (hK1 _ _ ?_); try clear hK1
 refine CW.sr fun K2 hK2 => ?_
 refine WL.m rfl ?_
 refine WL.callOr Tryd.func52 rfl rfl rfl (pkdig_any g bv b at_ _ hB0 hb hbg hat) (by simp) (fun ch w2 hP2 => ?_) ?_
 ·
  skip
  obtain ⟨e, he, rfl, hc⟩ := hP2
  exact (⟨e, robj_e1 he, rfl, hE.trans hc (fun _ _ h => h)⟩ : RobS b ids ahead depth at_ g w _ _)
 rintro v19 w2 hR2
 obtain ⟨d, a1, hgd, rfl, hc2, hB0⟩ := hR2
 have hz2 := hc2.size
 have hE := hE.trans hc2 (fun _ _ h => h)
 have hb := hb.chg hc2 hbg
 have hK := hK.chg hc2 (fun h => by have h : 0 = g := h; omega)
 have hB8 := hB8.chg hc2 (fun h => by have h : g8 = g := h; omega)
 have hi := (hi.ext hx1).chg hc2 (fun k hk h => hig k hk h)
 have hla := gdig_at hgd
 refine as_apiDigest rfl (by simp) de_ fun g11 w3 hx3 hg11 hB11 => ?_
 have hlt11 := hB11.lt; have hz3 := hx3.size
 have hM11 := hB11.mem; have hz3 := hx3.size; have hE := hE.thenExt hx3; have hK := hK.ext hx3; have hb := hb.ext hx3; have hB0 := hB0.ext hx3; have hB8 := hB8.ext hx3
 refine WL.nil (hK2 _ _ ?_); try clear hK2
 refine CW.seq_to (X := Unit) (fun _ => [(0, .pointer (some ⟨g, 0, none⟩)), (1, .slice U nu cu), (2, .string (bs ahead)), (3, .int .i64 (depth : Int)), (8, .pointer (some ⟨g8, 0, none⟩)), (11, .pointer (some ⟨g11, 0, none⟩))]) (fun _ w0 => behind ids d = true ∧ Ext w3 w0) ?_ ?_
 ·
  skip
  refine CW.held (fun wq => Ext w3 wq) kr_ 15 rfl fun w4 hS => ?_
  refine RH.tk 0 hS rfl (fun wq hq => Y.move rfl) ?_
  refine RH.tk 1 hS rfl (fun wq hq => Y.len_slice Tryd.underlying23 rfl) ?_
  refine RH.tk 2 hS rfl (fun wq hq => Y.gtr rfl rfl) ?_
  refine RH.tk 3 hS rfl (fun wq hq => Y.move rfl) ?_
  first | refine RH.casesD (d := 23) rfl (fun hg23 => ?_) (fun hg23 => ?_) | refine RH.cases (d := 23) rfl (fun hg23 => ?_) (fun hg23 => ?_)
  ·
   -- t23 = T
   refine RH.gtake 4 (fun _ _ _ _ h => h) kr_ hS rfl kr_ kr_ rfl rfl (fun wq hq => Y.move rfl) de_ ?_
   refine RH.gtake 5 (fun _ _ _ _ h => h) kr_ hS rfl kr_ kr_ rfl rfl (fun wq hq => Y.move rfl) de_ ?_
   refine RH.gtake 6 (fun _ _ _ _ h => h) kr_ hS rfl kr_ kr_ rfl rfl (fun wq hq => Y.len_slice Tryd.underlying23 rfl) de_ ?_
   refine RH.gtake 7 (fun _ _ _ _ h => h) kr_ hS rfl kr_ kr_ rfl rfl (fun wq hq => Y.sub rfl rfl o2_) de_ ?_
   rw [show (nu : Int) - 1 = ((nu - 1 : Nat) : Int) from by omega]
   obtain ⟨xl, hxl⟩ : ∃ y, ids[nu - 1]? = some y := ⟨_, List.getElem?_eq_getElem om_⟩
   obtain ⟨ia, rfl, hma⟩ := ((hi.ext hx3).sl digC_length de_).at hxl
   refine RH.gtake 8 (fun _ _ _ _ h => h) kr_ hS rfl kr_ kr_ rfl rfl (fun wq hq => Y.indexAddrN Tryd.underlying23 rfl rfl sz0_apiDigest om_) de_ ?_
   refine RH.gtake 9 (fun _ _ _ _ h => h) kr_ hS rfl kr_ kr_ rfl rfl (fun wq hq => Y.load Tryd.underlying30 rfl (hma.ext hq) (sz_apiDigest _) rfl) de_ ?_
   refine RH.gtake 10 (fun _ _ _ _ h => h) kr_ hS rfl kr_ kr_ rfl rfl (fun wq hq => Y.load Tryd.underlying30 rfl (hB11.ext hq).mem (sz_apiDigest _) rfl) de_ ?_
   refine RH.one 11 kr_ ?_
   refine RS.call rfl (fun _ _ h => by cases h; exact ⟨_, rfl, rfl⟩) Tryd.func47 rfl rfl rfl (less_any _ _ _) de_ fun v31 w5 hR5 => ?_
   obtain ⟨rfl, hx5⟩ := hR5
   have hS := hS.thenExt hx5
   refine ⟨hS, ?_⟩
   refine RH.gtake 12 (fun _ _ _ _ h => h) kr_ hS rfl kr_ kr_ rfl rfl (fun wq hq => Y.not rfl) de_ ?_
   refine RH.tk 13 hS rfl (fun wq hq => Y.pick rfl rfl) ?_
   refine RH.one 14 kr_ ?_
   refine RS.callOr rfl Tryd.func33 rfl rfl rfl (prefuse_any _ _ _) (by simp) (fun ch w6 hP6 => ?_) ?_
   ·
    skip
    obtain ⟨h1, rfl, hx⟩ := hP6
    exact (⟨7, robj_e2 hgd (by rw [behind_last (by rw [hil]; exact hxl)]; simpa using h1), rfl, (hE.thenExt hS).thenExt hx⟩ : RobS b ids ahead depth at_ g w _ _)
   rintro v34 w6 hR6
   obtain ⟨h1, rfl, hx6⟩ := hR6
   have hS := hS.thenExt hx6
   refine ⟨hS, ?_⟩
   refine RH.done kr_ ?_
   have hx7 := hS; have hz7 := hx7.size; have hE := hE.thenExt hx7; have hK := hK.ext hx7; have hb := hb.ext hx7; have hB0 := hB0.ext hx7; have hB8 := hB8.ext hx7; have hB11 := hB11.ext hx7
   exact ⟨(), Fr.ok, by rw [behind_last (by rw [hil]; exact hxl)]; simpa using h1, hx7⟩
  ·
   -- t23 = F
   refine RH.goff 4 (fun _ _ _ _ h => h) kr_ hS rfl kr_ kr_ rfl rfl de_ ?_
   refine RH.goff 5 (fun _ _ _ _ h => h) kr_ hS rfl kr_ kr_ rfl rfl de_ ?_
   refine RH.goff 6 (fun _ _ _ _ h => h) kr_ hS rfl kr_ kr_ rfl rfl de_ ?_
   refine RH.goff 7 (fun _ _ _ _ h => h) kr_ hS rfl kr_ kr_ rfl rfl de_ ?_
   refine RH.goff 8 (fun _ _ _ _ h => h) kr_ hS rfl kr_ kr_ rfl rfl de_ ?_
   refine RH.goff 9 (fun _ _ _ _ h => h) kr_ hS rfl kr_ kr_ rfl rfl de_ ?_
   refine RH.goff 10 (fun _ _ _ _ h => h) kr_ hS rfl kr_ kr_ rfl rfl de_ ?_
   refine RH.goff 11 (fun _ _ _ _ h => h) kr_ hS rfl kr_ kr_ rfl rfl de_ ?_
   refine RH.goff 12 (fun _ _ _ _ h => h) kr_ hS rfl kr_ kr_ rfl rfl de_ ?_
   refine RH.tk 13 hS rfl (fun wq hq => Y.pick rfl rfl) ?_
   refine RH.one 14 kr_ ?_
   refine RS.callOr rfl Tryd.func33 rfl rfl rfl (prefuse_any _ _ _) (by simp) (fun ch w8 hP8 => ?_) ?_
   ·
    skip
    exact absurd hP8.1 de_
   rintro v34 w8 hR8
   obtain ⟨_, rfl, hx8⟩ := hR8
   have hS := hS.thenExt hx8
   refine ⟨hS, ?_⟩
   refine RH.done kr_ ?_
   have hx9 := hS; have hz9 := hx9.size; have hE := hE.thenExt hx9; have hK := hK.ext hx9; have hb := hb.ext hx9; have hB0 := hB0.ext hx9; have hB8 := hB8.ext hx9; have hB11 := hB11.ext hx9
   exact ⟨(), Fr.ok, by rw [show ids = [] from List.eq_nil_of_length_eq_zero om_]; rfl, hx9⟩
 rintro u w10 hj10
 obtain ⟨hbh, hx10⟩ := hj10
 have hz10 := hx10.size
 have hE := hE.thenExt hx10
 have hK := hK.ext hx10
 have hb := hb.ext hx10
 have hB0 := hB0.ext hx10
 have hB8 := hB8.ext hx10
 have hB11 := hB11.ext hx10
 refine CW.sr fun K3 hK3 => ?_
 refine WL.m rfl ?_
 refine WL.callOr Tryd.func34 rfl rfl rfl (pknum_any g bv b a1 _ hB0 hb hbg hla.2) (by simp) (fun ch w11 hP11 => ?_) ?_
 ·
  skip
  obtain ⟨e, he, rfl, hc⟩ := hP11
  exact (⟨e, robj_e3 hgd hbh he, rfl, hE.trans hc (fun _ _ h => h)⟩ : RobS b ids ahead depth at_ g w _ _)
 rintro v36 w11 hR11
 obtain ⟨k, a2, hgn, rfl, hc11, hB0⟩ := hR11
 have hz11 := hc11.size
 have hE := hE.trans hc11 (fun _ _ h => h)
 have hb := hb.chg hc11 hbg
 have hK := hK.chg hc11 (fun h => by have h : 0 = g := h; omega)
 have hB8 := hB8.chg hc11 (fun h => by have h : g8 = g := h; omega)
 have hB11 := hB11.chg hc11 (fun h => by have h : g11 = g := h; omega)
 have hla2 := (gnum_len hgn hla.2).2
 have hkb := (snd_num _ _ _ _ hla.2 hgn).2.2.2
 refine WL.a rfl ?_
 refine WL.nil (hK3 _ _ ?_); try clear hK3
 refine CW.seq_to (X := Unit) (fun _ => [(0, .pointer (some ⟨g, 0, none⟩)), (1, .slice U nu cu), (2, .string (bs ahead)), (3, .int .i64 (depth : Int)), (8, .pointer (some ⟨g8, 0, none⟩)), (11, .pointer (some ⟨g11, 0, none⟩)), (12, .int .i64 (k : Int))]) (fun _ w0 => ¬ (1 < k ∨ (k = 1 ∧ ids = [])) ∧ Ext w11 w0) ?_ ?_
 ·
  skip
  refine CW.region ?_
  refine WL.m rfl ?_
  refine WL.v (Y.gtr rfl rfl) ?_
  refine WL.m rfl ?_
  (first | refine WL.casesD (d := 39) rfl ?_ ?_ | refine WL.casesND (d := 39) rfl ?_ ?_ | refine WL.cases (d := 39) rfl ?_ ?_) <;> intro hg39
  ·
   -- t39 = T
   refine WL.o rfl rfl ?_
   refine WL.o rfl rfl ?_
   refine WL.o rfl rfl ?_
   refine WL.goffU rfl rfl de_ ?_
   refine WL.goffU rfl rfl de_ ?_
   refine WL.goffU rfl rfl de_ ?_
   refine WL.o rfl rfl ?_
   refine WL.v (Y.pick rfl rfl) ?_
   refine WL.callOr Tryd.func33 rfl rfl rfl (prefuse_any _ _ _) (by simp) (fun ch w12 hP12 => ?_) ?_
   ·
    skip
    obtain ⟨h1, rfl, hx⟩ := hP12
    exact (⟨7, robj_e4 hgd hbh hgn (.inl om_), rfl, hE.thenExt hx⟩ : RobS b ids ahead depth at_ g w _ _)
   rintro v48 w12 hR12
   obtain ⟨h1, rfl, hx12⟩ := hR12
   refine WL.nil ?_
   exact absurd h1 de_
  ·
   -- t39 = F
   refine WL.g rfl rfl (Y.move rfl) ?_
   refine WL.g rfl rfl (Y.eql rfl rfl) ?_
   refine WL.g rfl rfl (Y.move rfl) ?_
   (first | refine WL.casesD (d := 42) rfl ?_ ?_ | refine WL.casesND (d := 42) rfl ?_ ?_ | refine WL.cases (d := 42) rfl ?_ ?_) <;> intro hg42
   ·
    -- t42 = T
    refine WL.g rfl rfl (Y.move rfl) ?_
    refine WL.g rfl rfl (Y.len_slice Tryd.underlying23 rfl) ?_
    refine WL.g rfl rfl (Y.eql rfl rfl) ?_
    refine WL.g rfl rfl (Y.pick rfl rfl) ?_
    refine WL.v (Y.pick rfl rfl) ?_
    refine WL.callOr Tryd.func33 rfl rfl rfl (prefuse_any _ _ _) (by simp) (fun ch w13 hP13 => ?_) ?_
    ·
     skip
     obtain ⟨h1, rfl, hx⟩ := hP13
     exact (⟨7, robj_e4 hgd hbh hgn (.inr ⟨by omega, List.eq_nil_of_length_eq_zero (by have := of_decide_eq_true h1; omega)⟩), rfl, hE.thenExt hx⟩ : RobS b ids ahead depth at_ g w _ _)
    rintro v48 w13 hR13
    obtain ⟨h1, rfl, hx13⟩ := hR13
    refine WL.nil ?_
    exact ⟨(), Fr.ok, by rintro (h | ⟨_, h⟩); omega; exact of_decide_eq_false h1 (by rw [h] at hil; simp at hil; omega), hx13⟩
   ·
    -- t42 = F
    refine WL.o rfl rfl ?_
    refine WL.o rfl rfl ?_
    refine WL.o rfl rfl ?_
    refine WL.g rfl rfl (Y.pick rfl rfl) ?_
    refine WL.v (Y.pick rfl rfl) ?_
    refine WL.callOr Tryd.func33 rfl rfl rfl (prefuse_any _ _ _) (by simp) (fun ch w14 hP14 => ?_) ?_
    ·
     skip
     exact absurd hP14.1 de_
    rintro v48 w14 hR14
    obtain ⟨_, rfl, hx14⟩ := hR14
    refine WL.nil ?_
    exact ⟨(), Fr.ok, by rintro (h | ⟨h, _⟩) <;> omega, hx14⟩
 rintro u w15 hj15
 obtain ⟨hkk, hx15⟩ := hj15
 have hz15 := hx15.size
 have hE := hE.thenExt hx15
 have hK := hK.ext hx15
 have hb := hb.ext hx15
 have hB0 := hB0.ext hx15
 have hB8 := hB8.ext hx15
 have hB11 := hB11.ext hx15
 have hk01 : k = 0 ∨ k = 1 := by omega
 have hcast : ((depth : Int) + 1) * (k : Int) = (((depth + 1) * k : Nat) : Int) := by rw [Int.natCast_mul]; rfl
 have hmulN : (depth + 1) * k ≤ 5 := by rcases hk01 with h | h <;> rw [h] <;> omega
 have hmul : InI64 (((depth : Int) + 1) * (k : Int)) := by rw [hcast]; exact o2_
 refine CW.sr fun K4 hK4 => ?_
 refine WL.m rfl ?_
 refine WL.v (Y.add rfl rfl o2_) ?_
 refine WL.m rfl ?_
 refine WL.v (Y.mul rfl rfl hmul) ?_
 rw [hcast]
 refine WL.a rfl ?_
 refine WL.nil (hK4 _ _ ?_); try clear hK4
 refine CW.sr fun K5 hK5 => ?_
 refine WL.m rfl ?_
 refine WL.v (Y.gtr rfl rfl) ?_
 refine WL.callOr Tryd.func33 rfl rfl rfl (prefuse_any _ _ _) (by simp) (fun ch w16 hP16 => ?_) ?_
 ·
  skip
  obtain ⟨h1, rfl, hx⟩ := hP16
  exact (⟨13, robj_e5 hgd hbh hgn hkk (by have := of_decide_eq_true h1; omega), rfl, hE.thenExt hx⟩ : RobS b ids ahead depth at_ g w _ _)
 rintro v55 w16 hR16
 obtain ⟨h1, rfl, hx16⟩ := hR16
 have hd4 : ¬ 4 < (depth + 1) * k := by have := of_decide_eq_false h1; omega
 have hz16 := hx16.size
 have hE := hE.thenExt hx16
 have hK := hK.ext hx16
 have hb := hb.ext hx16
 have hB0 := hB0.ext hx16
 have hB8 := hB8.ext hx16
 have hB11 := hB11.ext hx16
 refine WL.nil (hK5 _ _ ?_); try clear hK5
 refine CW.seq fun K6 hK6 => ?_
 refine CW.quiet (fun wq => Ext w16 wq) kr_ kr_ Chg.drew ?_
 refine QL.m rfl ?_
 refine QL.v (fun wq hq => Y.nilCheck rfl) ?_
 refine QL.v (fun wq hq => Y.fieldAddr fo_packreader0 rfl) ?_
 refine QL.v (fun wq hq => Y.load1 Tryd.underlying32 rfl (hB0.ext hq).mem.packreader0 rfl) ?_
 refine QL.m rfl ?_
 refine QL.v (fun wq hq => Y.nilCheck rfl) ?_
 refine QL.v (fun wq hq => Y.fieldAddr fo_packreader1 rfl) ?_
 refine QL.v (fun wq hq => Y.load1 Tryd.underlying3 rfl (hB0.ext hq).mem.packreader1 rfl) ?_
 refine QL.call Tryd.func53 rfl rfl rfl (fun wq hq => ret_ext (getText_any _ b a2 _ (hb.ext hq) hla2) hq) (by simp) ?_
 refine QL.m rfl ?_
 refine QL.v (fun wq hq => Y.extract rfl rfl) ?_
 refine QL.v (fun wq hq => Y.extract rfl rfl) ?_
 refine QL.v (fun wq hq => Y.extract rfl rfl) ?_
 refine QL.a rfl ?_
 refine QL.a rfl ?_
 refine QL.a rfl ?_
 refine QL.nil fun w17 hx17 => ?_
 have hz17 := hx17.size
 have hE := hE.thenExt hx17
 have hK := hK.ext hx17
 have hb := hb.ext hx17
 have hB0 := hB0.ext hx17
 have hB8 := hB8.ext hx17
 have hB11 := hB11.ext hx17
 refine hK6 _ _ ?_; try clear hK6
 refine CW.sr fun K7 hK7 => ?_
 refine WL.m rfl ?_
 refine WL.v (Y.neq rfl rfl) ?_
 refine WL.m rfl ?_
 refine WL.callOr Tryd.func33 rfl rfl rfl (prefuse_any _ _ _) (by simp) (fun ch w18 hP18 => ?_) ?_
 ·
  skip
  obtain ⟨h1, rfl, hx⟩ := hP18
  exact (⟨gtE b a2, robj_e6 hgd hbh hgn hkk hd4 (gtE_ne (of_decide_eq_true h1)), rfl, hE.thenExt hx⟩ : RobS b ids ahead depth at_ g w _ _)
 rintro v72 w18 hR18
 obtain ⟨h1, rfl, hx18⟩ := hR18
 obtain ⟨s, a3, hgt, hN, hX⟩ := gtE_zero (Decidable.not_not.1 (of_decide_eq_false h1))
 rw [hN, hX]
 have hz18 := hx18.size
 have hE := hE.thenExt hx18
 have hK := hK.ext hx18
 have hb := hb.ext hx18
 have hB0 := hB0.ext hx18
 have hB8 := hB8.ext hx18
 have hB11 := hB11.ext hx18
 have hsl := gtext_len hgt hla2
 refine WL.nil (hK7 _ _ ?_); try clear hK7
 refine CW.sr fun K8 hK8 => ?_
 refine WL.m rfl ?_
 refine WL.m rfl ?_
 refine WL.v (Y.nilCheck rfl) ?_
 refine WL.v (Y.fieldAddr fo_packreader1 rfl) ?_
 refine WL.store (g := g) (pre := [bv]) (old := [.int .i64 (a2 : Int)]) (post := []) (new := [.int .i64 (a3 : Int)]) rfl rfl rfl rfl kr_ (by simpa using hB0) ln_ (one1 rfl) (fun w19 hc19 hB19_ => ?_)
 have hz19 := hc19.size; have hE := hE.stepO hc19 (fun k h => (by show (k = g) ∨ _; omega)); have hK := hK.chg hc19 (fun h => by change 0 = _ at h; omega); have hb := hb.chg hc19 (fun h0 k hk h => by first | exact hbg h0 k hk h | (have := hbl h0 k hk; omega)); have hB8 := hB8.chg hc19 no_; have hB11 := hB11.chg hc19 no_
 have hB0 : Blk w19 g TPk [bv, .int .i64 (a3 : Int)] := by simpa using hB19_
 refine WL.nil (hK8 _ _ ?_); try clear hK8
 refine CW.seq_to (X := List UInt8) (fun y => [(0, .pointer (some ⟨g, 0, none⟩)), (1, .slice U nu cu), (2, .string (bs ahead)), (3, .int .i64 (((depth + 1) * k : Nat) : Int)), (8, .pointer (some ⟨g8, 0, none⟩)), (11, .pointer (some ⟨g11, 0, none⟩)), (12, .int .i64 (k : Int)), (13, .string (bs y))]) (fun y w0 => ((k = 1 ∧ apB ahead s = (y, 0)) ∨ (k ≠ 1 ∧ y = s)) ∧ y.length ≤ 140737488351232 ∧ Ext w19 w0) ?_ ?_
 ·
  skip
  refine CW.sr fun K10 hK10 => ?_
  refine WL.m rfl ?_
  refine WL.v (Y.eql rfl rfl) ?_
  refine WL.nil (hK10 _ _ ?_); try clear hK10
  (first | refine cd_ rfl ?_ ?_ | refine ce_ rfl ?_ ?_ | refine cn_ rfl ?_ ?_ | refine cb_ rfl ?_ ?_) <;> intro ht11
  ·
   -- then
   refine CW.sr fun K12 hK12 => ?_
   refine WL.m rfl ?_
   refine WL.st (St.strBytes Tryd.underlying9 Tryd.underlying32 Tryd.underlying5 rfl (by rw [bs_size]; omega)) de_ fun v81 w20 hR20 => ?_
   obtain ⟨hO81, hx20, hf20⟩ := hR20
   rw [bs_toList] at hO81
   have hz20 := hx20.size
   have hE := hE.thenExt hx20
   have hK := hK.ext hx20
   have hb := hb.ext hx20
   have hB0 := hB0.ext hx20
   have hB8 := hB8.ext hx20
   have hB11 := hB11.ext hx20
   refine WL.m rfl ?_
   refine WL.st (St.strBytes Tryd.underlying9 Tryd.underlying32 Tryd.underlying5 rfl (by rw [bs_size]; omega)) de_ fun v83 w21 hR21 => ?_
   obtain ⟨hO83, hx21, hf21⟩ := hR21
   rw [bs_toList] at hO83
   have hz21 := hx21.size
   have hE := hE.thenExt hx21
   have hK := hK.ext hx21
   have hb := hb.ext hx21
   have hB0 := hB0.ext hx21
   have hB8 := hB8.ext hx21
   have hB11 := hB11.ext hx21
   refine WL.call Tryd.func54 rfl rfl rfl (apply_any _ _ ahead s _ (hO81.ext hx21).by hO83.by) (by simp) ?_; rintro v84 w22 hR22
   obtain ⟨x, rfl, hOx, hfx, hx22⟩ := hR22
   have hz22 := hx22.size
   have hE := hE.thenExt hx22
   have hK := hK.ext hx22
   have hb := hb.ext hx22
   have hB0 := hB0.ext hx22
   have hB8 := hB8.ext hx22
   have hB11 := hB11.ext hx22
   refine WL.m rfl ?_
   refine WL.v (Y.extract rfl rfl) ?_
   refine WL.v (Y.extract rfl rfl) ?_
   refine WL.a rfl ?_
   refine WL.a rfl ?_
   refine WL.nil (hK12 _ _ ?_); try clear hK12
   refine CW.sr fun K13 hK13 => ?_
   refine WL.m rfl ?_
   refine WL.v (Y.neq rfl rfl) ?_
   refine WL.m rfl ?_
   refine WL.callOr Tryd.func33 rfl rfl rfl (prefuse_any _ _ _) (by simp) (fun ch w23 hP23 => ?_) ?_
   ·
    skip
    obtain ⟨h1, rfl, hx⟩ := hP23
    exact (⟨(apB ahead s).2, robj_e7 hgd hbh hgn hkk hd4 hgt om_ (of_decide_eq_true h1), rfl, hE.thenExt hx⟩ : RobS b ids ahead depth at_ g w _ _)
   rintro v90 w23 hR23
   obtain ⟨h1, rfl, hx23⟩ := hR23
   have hOx := hOx.ext hx23
   obtain ⟨Xx, xm, xc, rfl⟩ := hOx.lens
   refine WL.nil (hK13 _ _ ?_); try clear hK13
   refine CW.region ?_
   refine WL.m rfl ?_
   refine WL.v (Y.bytes_string Tryd.underlying32 Tryd.underlying5 Tryd.underlying9 rfl hOx.by.len.1 hOx.by.mem.1 hOx.by.mem.2) ?_
   refine WL.a rfl ?_
   refine WL.nil ?_
   exact ⟨(apB ahead s).1, Fr.ok, .inl ⟨by omega, Prod.ext rfl (Decidable.not_not.1 (of_decide_eq_false h1))⟩, by have := apB_len ahead s; omega, ((hx20.thenExt hx21).thenExt hx22).thenExt hx23⟩
  refine CW.skip ?_
  exact ⟨s, Fr.ok, .inr ⟨by omega, rfl⟩, by omega, Chg.refl⟩
 rintro u w24 hj24
 obtain ⟨hr, hyl, hx24⟩ := hj24
 have hz24 := hx24.size
 have hE := hE.thenExt hx24
 have hK := hK.ext hx24
 have hb := hb.ext hx24
 have hB0 := hB0.ext hx24
 have hB8 := hB8.ext hx24
 have hB11 := hB11.ext hx24
 refine CW.seq fun K14 hK14 => ?_
 refine CW.held (fun wq => Ext w24 wq) kr_ 6 rfl fun w25 hS => ?_
 refine RH.tk 0 hS rfl (fun wq hq => Y.move rfl) ?_
 refine RH.tk 3 hS rfl (fun wq hq => Y.load Tryd.underlying30 rfl (hB11.ext hq).mem (sz_apiDigest _) rfl) ?_
 refine RH.one 1 kr_ ?_
 refine RS.st rfl (St.strBytes Tryd.underlying9 Tryd.underlying32 Tryd.underlying5 rfl (by rw [bs_size]; exact hyl)) de_ fun v94 w26 hR26 => ?_
 obtain ⟨hO94, hx26, hf26⟩ := hR26
 rw [bs_toList] at hO94
 have hS := hS.thenExt hx26
 refine ⟨hS, ?_⟩
 refine RH.one 2 kr_ ?_
 refine RS.call rfl (fun _ _ h => by cases h) Tryd.func7 rfl rfl rfl (sum_any _ u _ hO94.by (fun _ k hk => hO94.lt k hk) (hK.ext hS) hyl) de_ fun v95 w27 hR27 => ?_
 obtain ⟨rfl, hx27⟩ := hR27
 have hS := hS.thenExt hx27
 refine ⟨hS, ?_⟩
 refine RH.tk 4 hS rfl (fun wq hq => Y.neq_apiDigest rfl rfl) ?_
 refine RH.one 5 kr_ ?_
 refine RS.callOr rfl Tryd.func33 rfl rfl rfl (prefuse_any _ _ _) (by simp) (fun ch w28 hP28 => ?_) ?_
 ·
  skip
  obtain ⟨h1, rfl, hx⟩ := hP28
  exact (⟨10, by rw [robj_last hgd hbh hgn hkk hd4 hgt hr, if_pos (by simpa using h1)], rfl, (hE.thenExt hS).thenExt hx⟩ : RobS b ids ahead depth at_ g w _ _)
 rintro v98 w28 hR28
 obtain ⟨h1, rfl, hx28⟩ := hR28
 have hS := hS.thenExt hx28
 refine ⟨hS, ?_⟩
 refine RH.done kr_ ?_
 have hx29 := hS; have hz29 := hx29.size; have hE := hE.thenExt hx29; have hK := hK.ext hx29; have hb := hb.ext hx29; have hB0 := hB0.ext hx29; have hB8 := hB8.ext hx29; have hB11 := hB11.ext hx29
 refine hK14 _ _ ?_; try clear hK14
 refine CW.sr fun K15 hK15 => ?_
 refine WL.v (Y.load Tryd.underlying30 rfl hB11.mem (sz_apiDigest _) rfl) ?_
 refine WL.m rfl ?_
 refine WL.m rfl ?_
 refine WL.store (g := g8) (pre := []) (old := digC Dig.zero) (post := []) (new := digC d) rfl rfl rfl rfl (sz_apiDigest _) (by simpa using hB8) ln_ (one_digC) (fun w30 hc30 hB30_ => ?_)
 have hz30 := hc30.size; have hE := hE.stepO hc30 (fun k h => (by show (k = g) ∨ _; omega)); have hK := hK.chg hc30 (fun h => by change 0 = _ at h; omega); have hb := hb.chg hc30 (fun h0 k hk h => by first | exact hbg h0 k hk h | (have := hbl h0 k hk; omega)); have hB0 := hB0; have hB11 := hB11.chg hc30 no_
 have hB8 : Blk w30 g8 30 (digC d) := by simpa using hB30_
 have hB0 := hB0.chg hc30 (fun h => by have h : g = g8 := h; omega)
 refine WL.a rfl ?_
 refine WL.a rfl ?_
 refine WL.nil (hK15 _ _ ?_); try clear hK15
 refine CW.ret ?_
 exact ⟨_, _, _, rfl, hB8.mem, digC_length _, rfl, ⟨d, u, (depth + 1) * k, a3, by rw [robj_last hgd hbh hgn hkk hd4 hgt hr, if_neg (by simpa using h1)], rfl, hE, hB0⟩⟩
end Go.Proofs.YtfanmpbapabboaaDoor
