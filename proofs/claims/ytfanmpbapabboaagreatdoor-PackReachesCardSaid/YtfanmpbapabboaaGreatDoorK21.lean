/- Parts of a proof: what its last text leans on. No condition. -/
import Derived.Test.YtfanmpbapabboaaGreatDoorK20
set_option linter.unusedSimpArgs false
set_option linter.unusedVariables false
/- The reference's head of a commit, walked. No condition. -/
namespace Go.Pl
open Go.Fw
def gheadR : Rdg ComD := gbind gnum fun n bs at_ => if 8 < n then .error 4 else gbind (fun bs at_ => gmany gdig bs n at_) (fun ps => gbind gtext fun au => gbind gtext fun no _ at_ => .ok ((⟨ps, Go.Fw.bs au, Go.Fw.bs no, []⟩ : ComD), at_)) bs at_
theorem snd_head : Snd gheadR (fun c _ => c.parents.length ≤ 8 ∧ c.author.size ≤ 131072 ∧ c.note.size ≤ 131072 ∧ c.ops = []) := by
 refine (snd_num.bind fun n => Snd.guard (Snd.bind (snd_many (enc := fun d : Dig => d.1) (Q := fun _ => True) (snd_dig.mono fun d l h => ⟨h, trivial⟩) n) fun ps => snd_text.bind fun au => snd_text.bind fun no => Snd.pure)).mono ?_
 rintro c l ⟨n, l1, l2, rfl, ⟨rfl, _⟩, h8, ps, l3, l4, rfl, ⟨rfl, rfl, _⟩, au, l5, l6, rfl, ⟨rfl, ha⟩, no, l7, l8, rfl, ⟨rfl, hn⟩, rfl, rfl⟩
 exact ⟨by simp only; omega, by simp only [bs_size]; exact ha, by simp only [bs_size]; exact hn, rfl⟩
theorem nz_head : Nz gheadR := nz_num.bind fun n => Nz.guard de_ ((nz_many nz_dig n).bind fun ps => nz_text.bind fun au => nz_text.bind fun no => Nz.pure)
section
variable {b : List UInt8} {n a1 a2 a3 a4 : Nat} {e : Int} {ps : List Dig} {au no : List UInt8}
theorem hd1 (h : gnum b 0 = .error e) : gheadR b 0 = .error e := gbind_err h
theorem hd2 (h : gnum b 0 = .ok (n, a1)) (h8 : 8 < n) : gheadR b 0 = .error 4 := by rw [gheadR, gbind_ok h, if_pos h8]
theorem hd3 (h : gnum b 0 = .ok (n, a1)) (h8 : ¬ 8 < n) (hp : gmany gdig b n a1 = .error e) : gheadR b 0 = .error e := by rw [gheadR, gbind_ok h, if_neg h8]; exact gbind_err hp
theorem hd4 (h : gnum b 0 = .ok (n, a1)) (h8 : ¬ 8 < n) (hp : gmany gdig b n a1 = .ok (ps, a2)) (ha : gtext b a2 = .error e) : gheadR b 0 = .error e := by rw [gheadR, gbind_ok h, if_neg h8]; rw [gbind_ok (f := fun bs at_ => gmany gdig bs n at_) hp]; exact gbind_err ha
theorem hd5 (h : gnum b 0 = .ok (n, a1)) (h8 : ¬ 8 < n) (hp : gmany gdig b n a1 = .ok (ps, a2)) (ha : gtext b a2 = .ok (au, a3)) (hn : gtext b a3 = .error e) : gheadR b 0 = .error e := by rw [gheadR, gbind_ok h, if_neg h8]; rw [gbind_ok (f := fun bs at_ => gmany gdig bs n at_) hp, gbind_ok ha]; exact gbind_err hn
theorem hd6 (h : gnum b 0 = .ok (n, a1)) (h8 : ¬ 8 < n) (hp : gmany gdig b n a1 = .ok (ps, a2)) (ha : gtext b a2 = .ok (au, a3)) (hn : gtext b a3 = .ok (no, a4)) : gheadR b 0 = .ok ((⟨ps, Go.Fw.bs au, Go.Fw.bs no, []⟩ : ComD), a4) := by rw [gheadR, gbind_ok h, if_neg h8]; rw [gbind_ok (f := fun bs at_ => gmany gdig bs n at_) hp, gbind_ok ha, gbind_ok hn]
end
def heE (b : List UInt8) : Int := match gheadR b 0 with | .error e => e | .ok _ => 0
def heC (b : List UInt8) : ComD := match gheadR b 0 with | .error _ => ⟨[], Go.Fw.bs [], Go.Fw.bs [], []⟩ | .ok (c, _) => c
def heX (b : List UInt8) : Int := match gheadR b 0 with | .error _ => 0 | .ok (_, a) => (a : Int)
theorem he_err {b : List UInt8} {e : Int} (h : gheadR b 0 = .error e) : heE b = e ∧ heC b = ⟨[], Go.Fw.bs [], Go.Fw.bs [], []⟩ ∧ heX b = 0 := by simp only [heE, heC, heX, h]; exact ⟨trivial, trivial, trivial⟩
theorem he_ok {b : List UInt8} {c : ComD} {a : Nat} (h : gheadR b 0 = .ok (c, a)) : heE b = 0 ∧ heC b = c ∧ heX b = (a : Int) := by simp only [heE, heC, heX, h]; exact ⟨trivial, trivial, trivial⟩
theorem heE_zero {b : List UInt8} (h : heE b = 0) : ∃ c a, gheadR b 0 = .ok (c, a) ∧ heC b = c ∧ heX b = (a : Int) := by
 cases hg : gheadR b 0 with
 | error e => rw [(he_err hg).1] at h; exact absurd h (nz_head _ _ _ hg)
 | ok p => exact ⟨p.1, p.2, rfl, (he_ok hg).2⟩
theorem heE_ne {b : List UInt8} (h : heE b ≠ 0) : gheadR b 0 = .error (heE b) := by
 cases hg : gheadR b 0 with
 | error e => rw [(he_err hg).1]
 | ok p => exact absurd (he_ok hg).1 h
end Go.Pl
namespace Go.Proofs.YtfanmpbapabboaaGreatDoor
open Go.RowKit Go.Fw Go.Pl
abbrev TC : TypeId := 45
def HeadR (b : List UInt8) (w : World) (v : Value) (w' : World) : Prop := (∃ A m c, v = .tuple #[.agg (comC (.slice A m c) (heC b).author (heC b).note (.slice none 0 0)).toArray, .int .i64 (heX b), .int .i64 (heE b)] ∧
 (heE b = 0 → Own w' TD 32 (.slice A m c) (flatD (heC b).parents) ∧ ∀ k, (Value.slice A m c).ownBlock = some k → w.heap.size ≤ k)) ∧ Ext w w'
theorem HeadR.err {b : List UInt8} {w w' : World} {A : Option Addr} {m c : Nat} {e : Int} (h : gheadR b 0 = .error e) (hx : Ext w w') : HeadR b w (.tuple #[.agg (comC (.slice A m c) (bs []) (bs []) (.slice none 0 0)).toArray, .int .i64 0, .int .i64 e]) w' := by
 obtain ⟨h1, h2, h3⟩ := he_err h
 refine ⟨⟨A, m, c, by rw [h1, h2, h3], fun h0 => absurd (h1 ▸ h0) (nz_head _ _ _ h)⟩, hx⟩
theorem HeadR.ok {b : List UInt8} {w w' : World} {A : Option Addr} {m c a : Nat} {cm : ComD} (h : gheadR b 0 = .ok (cm, a)) (hx : Ext w w') (hO : Own w' TD 32 (.slice A m c) (flatD cm.parents)) (hf : ∀ k, (Value.slice A m c).ownBlock = some k → w.heap.size ≤ k) :
  HeadR b w (.tuple #[.agg (comC (.slice A m c) cm.author cm.note (.slice none 0 0)).toArray, .int .i64 (a : Int), .int .i64 0]) w' := by
 obtain ⟨h1, h2, h3⟩ := he_ok h
 exact ⟨⟨A, m, c, by rw [h1, h2, h3], fun _ => by rw [h2]; exact ⟨hO, hf⟩⟩, hx⟩
set_option maxRecDepth 20000 in
theorem rHead_any (s : ByteArray) (w : World) (hsm : s.size ≤ 9223372036854770000) : Calls Tryz.prog 29 #[.string s] w (Ret (HeadR s.toList w)) := by
 have hsl := toList_length s
 obtain ⟨ic, hic, hzc⟩ := info_com
 refine calls_of_CWct 81 2 4 [3, 4] [(0, .string s)] Tryz.func29 rfl rfl rfl Tryz.underlying45 rfl kr_ (by simp) args1 ?_
 have hE : Ext w w := Chg.refl
 refine CW.sr fun K1 hK1 => ?_
 refine WL.alloc (hic) (hzc) rfl de_ fun g2 w1 hx1 hg2 hB2 => ?_
 have hlt2 := hB2.lt; have hz1 := hx1.size
 have hM2 := hB2.mem; have hz1 := hx1.size; have hE := hE.thenExt hx1
 refine WL.a rfl ?_
 refine WL.a rfl ?_
 refine WL.nil (hK1 _ _ ?_); try clear hK1
 refine CW.sr fun K2 hK2 => ?_
 refine WL.alloc (hic) (hzc) rfl de_ fun g5 w2 hx2 hg5 hB5 => ?_
 have hlt5 := hB5.lt; have hz2 := hx2.size
 have hM5 := hB5.mem; have hz2 := hx2.size; have hE := hE.thenExt hx2; have hB2 := hB2.ext hx2
 refine WL.nil (hK2 _ _ ?_); try clear hK2
 refine CW.sr fun K3 hK3 => ?_
 refine WL.m rfl ?_
 refine WL.call Tryz.func30 rfl rfl rfl (rGetNum_t s 0 _ om_ (Nat.zero_le _)) (by simp) ?_; rintro v w3 ⟨rfl, hx3⟩; have hz3 := hx3.size; have hE := hE.thenExt hx3; have hB2 := hB2.ext hx3; have hB5 := hB5.ext hx3
 refine WL.m rfl ?_
 refine WL.v (Y.extract rfl rfl) ?_
 refine WL.v (Y.extract rfl rfl) ?_
 refine WL.v (Y.extract rfl rfl) ?_
 refine WL.a rfl ?_
 refine WL.a rfl ?_
 refine WL.a rfl ?_
 refine WL.nil (hK3 _ _ ?_); try clear hK3
 refine CW.seq fun K4 hK4 => ?_
 refine CW.sr fun K5 hK5 => ?_
 refine WL.m rfl ?_
 refine WL.v (Y.neq rfl rfl) ?_
 refine WL.nil (hK5 _ _ ?_); try clear hK5
 (first | refine cd_ rfl ?_ ?_ | refine ce_ rfl ?_ ?_ | refine cn_ rfl ?_ ?_ | refine cb_ rfl ?_ ?_) <;> intro ht6
 ·
  -- then
  refine CW.sr fun K7 hK7 => ?_
  refine WL.v (Y.load Tryz.underlying45 rfl hB5.mem (sz_apiCommit _ _ _ _) rfl) ?_
  refine WL.m rfl ?_
  refine WL.store (g := g2) (pre := []) (old := comZ) (post := []) (new := comC (.slice none 0 0) (bs []) (bs []) (.slice none 0 0)) rfl rfl rfl rfl (sz_apiCommit _ _ _ _) (by simpa using hB2) ln_ (one_com) (fun w4 hc4 hB4_ => ?_)
  have hz4 := hc4.size; have hE := hE.step hc4 (fun k h => by omega); have hB5 := hB5.chg hc4 no_
  have hB2 : Blk w4 g2 TC (comC (.slice none 0 0) (bs []) (bs []) (.slice none 0 0)) := by simpa using hB4_
  refine WL.a rfl ?_
  refine WL.a rfl ?_
  refine WL.nil (hK7 _ _ ?_); try clear hK7
  refine CW.ret ?_
  exact ⟨_, _, _, rfl, hB2.mem, rfl, rfl, HeadR.err (hd1 (gE_ne (by assumption)).1) hE⟩
 refine CW.skip ?_
 refine hK4 _ _ ?_; try clear hK4
 refine CW.seq fun K8 hK8 => ?_
 refine CW.seq fun K9 hK9 => ?_
 obtain ⟨n, a1, hg, hN, hX⟩ := gE_zero (bs := s.toList) (at_ := 0) om_
 rw [hN, hX]
 have hlen := gnum_len hg (Nat.zero_le _)
 refine CW.region ?_
 refine WL.m rfl ?_
 refine WL.v (Y.gtr rfl rfl) ?_
 refine WL.nil (hK9 _ _ ?_); try clear hK9
 (first | refine cd_ rfl ?_ ?_ | refine ce_ rfl ?_ ?_ | refine cn_ rfl ?_ ?_ | refine cb_ rfl ?_ ?_) <;> intro ht10
 ·
  -- then
  refine CW.sr fun K11 hK11 => ?_
  refine WL.v (Y.load Tryz.underlying45 rfl hB5.mem (sz_apiCommit _ _ _ _) rfl) ?_
  refine WL.store (g := g2) (pre := []) (old := comZ) (post := []) (new := comC (.slice none 0 0) (bs []) (bs []) (.slice none 0 0)) rfl rfl rfl rfl (sz_apiCommit _ _ _ _) (by simpa using hB2) ln_ (one_com) (fun w5 hc5 hB5_ => ?_)
  have hz5 := hc5.size; have hE := hE.step hc5 (fun k h => by omega); have hB5 := hB5.chg hc5 no_
  have hB2 : Blk w5 g2 TC (comC (.slice none 0 0) (bs []) (bs []) (.slice none 0 0)) := by simpa using hB5_
  refine WL.a rfl ?_
  refine WL.a rfl ?_
  refine WL.nil (hK11 _ _ ?_); try clear hK11
  refine CW.ret ?_
  exact ⟨_, _, _, rfl, hB2.mem, rfl, rfl, HeadR.err (hd2 hg om_) hE⟩
 refine CW.skip ?_
 refine hK8 _ _ ?_; try clear hK8
 refine CW.seq fun K12 hK12 => ?_
 refine CW.sr fun K13 hK13 => ?_
 refine WL.a rfl ?_
 refine WL.nil (hK13 _ _ ?_); try clear hK13
 refine CW.block ?_
 refine CW.loop (X := Nat × List Dig × Value × Nat) (fun x => [(0, .string s), (2, .pointer (some ⟨g2, 0, none⟩)), (5, .pointer (some ⟨g5, 0, none⟩)), (6, .int .i64 (n : Int)), (7, .int .i64 (x.2.2.2 : Int)), (9, .int .i64 (x.1 : Int))]) (fun x w0 => x.1 ≤ n ∧ x.2.1.length = x.1 ∧ x.2.2.2 ≤ s.size ∧ gmany gdig s.toList n a1 = gcat x.2.1 (gmany gdig s.toList (n - x.1) x.2.2.2) ∧ Ext w w0 ∧ Blk w0 g2 TC comZ ∧ Blk w0 g5 TC (comC x.2.2.1 (bs []) (bs []) (.slice none 0 0)) ∧ Own w0 TD 32 x.2.2.1 (flatD x.2.1) ∧ (∀ k, x.2.2.1.ownBlock = some k → w2.heap.size ≤ k) ∧ w2.heap.size ≤ w0.heap.size) (fun x => n - x.1) (0, [], .slice none 0 0, a1) Fr.ok ⟨Nat.zero_le _, rfl, (by show a1 ≤ _; omega), (gcat_nil _).symm, hE, hB2, hB5, Own.nil, fun k h => by simp [Value.ownBlock] at h, om_⟩ ?_
 intro x w6 hl6
 obtain ⟨i, ps, pv, p⟩ := x
 dsimp only at hl6 ⊢
 obtain ⟨hi, hpl, hp, hgm, hE, hB2, hB5, hO, hfp, hz6⟩ := hl6
 obtain ⟨Ap, mp, cp, rfl⟩ := hO.lens
 have hlo := hO.lt
 refine CW.seq fun K14 hK14 => ?_
 refine CW.sr fun K15 hK15 => ?_
 refine WL.m rfl ?_
 refine WL.m rfl ?_
 refine WL.v (Y.lss rfl rfl) ?_
 refine WL.nil (hK15 _ _ ?_); try clear hK15
 (first | refine cd_ rfl ?_ ?_ | refine ce_ rfl ?_ ?_ | refine cn_ rfl ?_ ?_ | refine cb_ rfl ?_ ?_) <;> intro ht16
 ·
  -- then
  refine CW.skip ?_
  refine hK14 _ _ ?_; try clear hK14
  refine CW.seq fun K17 hK17 => ?_
  refine CW.block ?_
  refine CW.sr fun K18 hK18 => ?_
  refine WL.m rfl ?_
  refine WL.m rfl ?_
  refine WL.call Tryz.func54 rfl rfl rfl (rDig_any s p _ om_ hp) (by simp) ?_; rintro v w7 ⟨rfl, hx7⟩; have hz7 := hx7.size; have hE := hE.thenExt hx7; have hB2 := hB2.ext hx7; have hB5 := hB5.ext hx7
  refine WL.m rfl ?_
  refine WL.v (Y.extract rfl rfl) ?_
  refine WL.v (Y.extract rfl rfl) ?_
  refine as_apiDigest rfl (by simp) de_ fun g10 w8 hx8 hg10 hB10 => ?_
  have hlt10 := hB10.lt; have hz8 := hx8.size
  have hM10 := hB10.mem; have hz8 := hx8.size; have hE := hE.thenExt hx8; have hB2 := hB2.ext hx8; have hB5 := hB5.ext hx8
  refine WL.a rfl ?_
  refine WL.nil (hK18 _ _ ?_); try clear hK18
  refine CW.seq fun K19 hK19 => ?_
  refine CW.sr fun K20 hK20 => ?_
  refine WL.m rfl ?_
  refine WL.v (Y.not rfl) ?_
  refine WL.nil (hK20 _ _ ?_); try clear hK20
  (first | refine cd_ rfl ?_ ?_ | refine ce_ rfl ?_ ?_ | refine cn_ rfl ?_ ?_ | refine cb_ rfl ?_ ?_) <;> intro ht21
  ·
   -- then
   refine CW.sr fun K22 hK22 => ?_
   refine WL.v (Y.load Tryz.underlying45 rfl hB5.mem (sz_apiCommit _ _ _ _) rfl) ?_
   refine WL.store (g := g2) (pre := []) (old := comZ) (post := []) (new := comC (.slice Ap mp cp) (bs []) (bs []) (.slice none 0 0)) rfl rfl rfl rfl (sz_apiCommit _ _ _ _) (by simpa using hB2) ln_ (one_com) (fun w9 hc9 hB9_ => ?_)
   have hz9 := hc9.size; have hE := hE.step hc9 (fun k h => by omega); have hB5 := hB5.chg hc9 no_; have hB10 := hB10.chg hc9 no_
   have hB2 : Blk w9 g2 TC (comC (.slice Ap mp cp) (bs []) (bs []) (.slice none 0 0)) := by simpa using hB9_
   refine WL.a rfl ?_
   refine WL.a rfl ?_
   refine WL.nil (hK22 _ _ ?_); try clear hK22
   refine CW.ret ?_
   exact ⟨_, _, _, rfl, hB2.mem, rfl, rfl, HeadR.err (hd3 hg om_ (by rw [hgm, show n - i = (n - i - 1) + 1 by omega, gcat_err (gdB_no (by first | assumption | (simp only [gdB, decide_eq_false_iff_not]; omega)))])) hE⟩
  refine CW.skip ?_
  refine hK19 _ _ ?_; try clear hK19
  refine CW.sr fun K23 hK23 => ?_
  refine WL.v (Y.fieldAddr fo_apiCommit0 rfl) ?_
  refine WL.v (Y.load1 Tryz.underlying23 rfl hB5.mem.com0 rfl) ?_
  refine WL.v (Y.load Tryz.underlying38 rfl hB10.mem (sz_apiDigest _) rfl) ?_
  refine WL.st (St.buildSlice rfl (bs1_dig _)) de_ fun v48 w10 hR10 => ?_
  obtain ⟨g48, rfl, hg48, hB48, hx10⟩ := hR10
  have hz10 := hx10.size
  have hE := hE.thenExt hx10
  have hB2 := hB2.ext hx10
  have hB5 := hB5.ext hx10
  have hB10 := hB10.ext hx10
  refine WL.st (St.append Tryz.underlying23 Tryz.underlying23 ai_dig rfl rfl (hO.ext ((hx7.thenExt hx8).thenExt hx10)) (Src.one hB48 (digC_length _)) one_digC (by rw [flat_length digC_length]; omega)) de_ fun v49 w11 hR11 => ?_
  obtain ⟨hO11, hc11, hf11⟩ := hR11
  have hz11 := hc11.size
  have hE := hE.step hc11 (fun k h => by have := hfp k h; omega)
  have hB2 := hB2.chg hc11 (fun h => by have := hfp _ h; have := hlo _ h; omega)
  have hB5 := hB5.chg hc11 (fun h => by have := hfp _ h; have := hlo _ h; omega)
  have hB10 := hB10.chg hc11 (fun h => by have := hfp _ h; have := hlo _ h; omega)
  have hf11 : ∀ k, v49.ownBlock = some k → w2.heap.size ≤ k := by
   rcases hf11 with h | h
   ·
    intro k hk; rw [h] at hk; exact hfp k hk
   ·
    intro k hk; have := h k hk; omega
  obtain ⟨A11, m11, c11, rfl⟩ := hO11.lens
  refine WL.v (Y.fieldAddr fo_apiCommit0 rfl) ?_
  refine WL.store (g := g5) (pre := []) (old := [.slice Ap mp cp]) (post := [.string (bs []), .string (bs []), .slice none 0 0]) (new := [.slice A11 m11 c11]) rfl rfl rfl rfl kr_ hB5 ln_ (one1 rfl) (fun w12 hc12 hB12_ => ?_)
  have hz12 := hc12.size; have hE := hE.step hc12 (fun k h => by omega); have hB2 := hB2.chg hc12 no_; have hB10 := hB10.chg hc12 no_
  have hB5 : Blk w12 g5 TC (comC (.slice A11 m11 c11) (bs []) (bs []) (.slice none 0 0)) := hB12_
  have hO11 := hO11.chg hc12 (fun k hk h => by have := hf11 k hk; omega)
  refine WL.nil (hK23 _ _ ?_); try clear hK23
  refine CW.region ?_
  refine WL.m rfl ?_
  refine WL.v (Y.add rfl rfl o2_) ?_
  refine WL.a rfl ?_
  refine WL.nil (hK17 _ _ ?_); try clear hK17
  refine CW.region ?_
  refine WL.m rfl ?_
  refine WL.v (Y.add rfl rfl o2_) ?_
  refine WL.a rfl ?_
  refine WL.nil ?_
  have hy := gdB_yes (b := s.toList) (at_ := p) (by first | assumption | (simp only [gdB, decide_eq_true_eq]; omega))
  refine ⟨(i + 1, ps ++ [gdD s.toList p], .slice A11 m11 c11, p + 32), by show n - (i + 1) < n - i; omega, Fr.ok, by show i + 1 ≤ n; omega, by simp [hpl], by show p + 32 ≤ _; omega, ?_, hE, hB2, hB5, by simpa [flatD] using hO11, hf11, by omega⟩
  show gmany gdig s.toList n a1 = gcat (ps ++ [gdD s.toList p]) (gmany gdig s.toList (n - (i + 1)) (p + 32))
  obtain ⟨k, hk⟩ : ∃ k, n - i = k + 1 := ⟨n - i - 1, by omega⟩
  rw [hgm, hk, gcat_ok hy.1, show n - (i + 1) = k by omega]
 refine CW.exit ?_
 refine hK12 _ _ ?_; try clear hK12
 refine CW.seq fun K24 hK24 => ?_
 have hps : gmany gdig s.toList n a1 = .ok (ps, p) := by rw [hgm, show n - i = 0 by omega]; exact gcat_end
 refine CW.region ?_
 refine WL.m rfl ?_
 refine WL.m rfl ?_
 refine WL.call Tryz.func55 rfl rfl rfl (rGetText_any s p _ om_ hp) (by simp) ?_; rintro v w13 ⟨rfl, hx13⟩; have hz13 := hx13.size; have hE := hE.thenExt hx13; have hB2 := hB2.ext hx13; have hB5 := hB5.ext hx13
 refine WL.m rfl ?_
 refine WL.v (Y.extract rfl rfl) ?_
 refine WL.v (Y.extract rfl rfl) ?_
 refine WL.v (Y.extract rfl rfl) ?_
 refine WL.a rfl ?_
 refine WL.a rfl ?_
 refine WL.a rfl ?_
 refine WL.nil (hK24 _ _ ?_); try clear hK24
 refine CW.seq fun K25 hK25 => ?_
 refine CW.sr fun K26 hK26 => ?_
 refine WL.m rfl ?_
 refine WL.v (Y.neq rfl rfl) ?_
 refine WL.nil (hK26 _ _ ?_); try clear hK26
 (first | refine cd_ rfl ?_ ?_ | refine ce_ rfl ?_ ?_ | refine cn_ rfl ?_ ?_ | refine cb_ rfl ?_ ?_) <;> intro ht27
 ·
  -- then
  refine CW.sr fun K28 hK28 => ?_
  refine WL.v (Y.load Tryz.underlying45 rfl hB5.mem (sz_apiCommit _ _ _ _) rfl) ?_
  refine WL.m rfl ?_
  refine WL.store (g := g2) (pre := []) (old := comZ) (post := []) (new := comC (.slice Ap mp cp) (bs []) (bs []) (.slice none 0 0)) rfl rfl rfl rfl (sz_apiCommit _ _ _ _) (by simpa using hB2) ln_ (one_com) (fun w14 hc14 hB14_ => ?_)
  have hz14 := hc14.size; have hE := hE.step hc14 (fun k h => by omega); have hB5 := hB5.chg hc14 no_
  have hB2 : Blk w14 g2 TC (comC (.slice Ap mp cp) (bs []) (bs []) (.slice none 0 0)) := by simpa using hB14_
  refine WL.a rfl ?_
  refine WL.a rfl ?_
  refine WL.nil (hK28 _ _ ?_); try clear hK28
  refine CW.ret ?_
  exact ⟨_, _, _, rfl, hB2.mem, rfl, rfl, HeadR.err (hd4 hg om_ hps (gtE_ne (by assumption))) hE⟩
 refine CW.skip ?_
 refine hK25 _ _ ?_; try clear hK25
 refine CW.seq fun K29 hK29 => ?_
 obtain ⟨au, a3, hau, hT3, hX3⟩ := gtE_zero (bs := s.toList) (at_ := p) om_
 rw [hT3, hX3]
 have hl3 := gtext_len hau om_
 refine CW.region ?_
 refine WL.m rfl ?_
 refine WL.m rfl ?_
 refine WL.call Tryz.func55 rfl rfl rfl (rGetText_any s a3 _ om_ om_) (by simp) ?_; rintro v w15 ⟨rfl, hx15⟩; have hz15 := hx15.size; have hE := hE.thenExt hx15; have hB2 := hB2.ext hx15; have hB5 := hB5.ext hx15
 refine WL.m rfl ?_
 refine WL.v (Y.extract rfl rfl) ?_
 refine WL.v (Y.extract rfl rfl) ?_
 refine WL.v (Y.extract rfl rfl) ?_
 refine WL.a rfl ?_
 refine WL.a rfl ?_
 refine WL.a rfl ?_
 refine WL.nil (hK29 _ _ ?_); try clear hK29
 refine CW.seq fun K30 hK30 => ?_
 refine CW.sr fun K31 hK31 => ?_
 refine WL.m rfl ?_
 refine WL.v (Y.neq rfl rfl) ?_
 refine WL.nil (hK31 _ _ ?_); try clear hK31
 (first | refine cd_ rfl ?_ ?_ | refine ce_ rfl ?_ ?_ | refine cn_ rfl ?_ ?_ | refine cb_ rfl ?_ ?_) <;> intro ht32
 ·
  -- then
  refine CW.sr fun K33 hK33 => ?_
  refine WL.v (Y.load Tryz.underlying45 rfl hB5.mem (sz_apiCommit _ _ _ _) rfl) ?_
  refine WL.m rfl ?_
  refine WL.store (g := g2) (pre := []) (old := comZ) (post := []) (new := comC (.slice Ap mp cp) (bs []) (bs []) (.slice none 0 0)) rfl rfl rfl rfl (sz_apiCommit _ _ _ _) (by simpa using hB2) ln_ (one_com) (fun w16 hc16 hB16_ => ?_)
  have hz16 := hc16.size; have hE := hE.step hc16 (fun k h => by omega); have hB5 := hB5.chg hc16 no_
  have hB2 : Blk w16 g2 TC (comC (.slice Ap mp cp) (bs []) (bs []) (.slice none 0 0)) := by simpa using hB16_
  refine WL.a rfl ?_
  refine WL.a rfl ?_
  refine WL.nil (hK33 _ _ ?_); try clear hK33
  refine CW.ret ?_
  exact ⟨_, _, _, rfl, hB2.mem, rfl, rfl, HeadR.err (hd5 hg om_ hps hau (gtE_ne (by assumption))) hE⟩
 refine CW.skip ?_
 refine hK30 _ _ ?_; try clear hK30
 refine CW.seq fun K34 hK34 => ?_
 obtain ⟨no, a4, hno, hT4, hX4⟩ := gtE_zero (bs := s.toList) (at_ := a3) om_
 rw [hT4, hX4]
 have hl4 := gtext_len hno om_
 refine CW.region ?_
 refine WL.m rfl ?_
 refine WL.v (Y.fieldAddr fo_apiCommit1 rfl) ?_
 refine WL.store (g := g5) (pre := [.slice Ap mp cp]) (old := [.string (bs [])]) (post := [.string (bs []), .slice none 0 0]) (new := [.string (bs au)]) rfl rfl rfl rfl kr_ hB5 ln_ (one1 rfl) (fun w17 hc17 hB17_ => ?_)
 have hz17 := hc17.size; have hE := hE.step hc17 (fun k h => by omega); have hB2 := hB2.chg hc17 no_
 have hB5 : Blk w17 g5 TC (comC (.slice Ap mp cp) (bs au) (bs []) (.slice none 0 0)) := hB17_
 have hO := (hO.ext (hx13.thenExt hx15)).chg hc17 (fun k hk h => by have := hfp k hk; omega)
 refine WL.nil (hK34 _ _ ?_); try clear hK34
 refine CW.sr fun K35 hK35 => ?_
 refine WL.m rfl ?_
 refine WL.v (Y.fieldAddr fo_apiCommit2 rfl) ?_
 refine WL.store (g := g5) (pre := [.slice Ap mp cp, .string (bs au)]) (old := [.string (bs [])]) (post := [.slice none 0 0]) (new := [.string (bs no)]) rfl rfl rfl rfl kr_ hB5 ln_ (one1 rfl) (fun w18 hc18 hB18_ => ?_)
 have hz18 := hc18.size; have hE := hE.step hc18 (fun k h => by omega); have hB2 := hB2.chg hc18 no_
 have hB5 : Blk w18 g5 TC (comC (.slice Ap mp cp) (bs au) (bs no) (.slice none 0 0)) := hB18_
 have hO := hO.chg hc18 (fun k hk h => by have := hfp k hk; omega)
 refine WL.nil (hK35 _ _ ?_); try clear hK35
 refine CW.sr fun K36 hK36 => ?_
 refine WL.v (Y.load Tryz.underlying45 rfl hB5.mem (sz_apiCommit _ _ _ _) rfl) ?_
 refine WL.m rfl ?_
 refine WL.store (g := g2) (pre := []) (old := comZ) (post := []) (new := comC (.slice Ap mp cp) (bs au) (bs no) (.slice none 0 0)) rfl rfl rfl rfl (sz_apiCommit _ _ _ _) (by simpa using hB2) ln_ (one_com) (fun w19 hc19 hB19_ => ?_)
 have hz19 := hc19.size; have hE := hE.step hc19 (fun k h => by omega); have hB5 := hB5.chg hc19 no_
 have hB2 : Blk w19 g2 TC (comC (.slice Ap mp cp) (bs au) (bs no) (.slice none 0 0)) := by simpa using hB19_
 have hO := hO.chg hc19 (fun k hk h => by have := hfp k hk; omega)
 refine WL.a rfl ?_
 refine WL.a rfl ?_
 refine WL.nil (hK36 _ _ ?_); try clear hK36
 refine CW.ret ?_
 exact ⟨_, _, _, rfl, hB2.mem, rfl, rfl, HeadR.ok (hd6 hg om_ hps hau hno) hE hO (fun k hk => by have := hfp k hk; omega)⟩
end Go.Proofs.YtfanmpbapabboaaGreatDoor
/- The reference's Decode, walked. No condition. -/
namespace Go.Pl
open Go.Fw
theorem gcom_head : gcomR = gbind gheadR fun c => gbind gnum fun m bs at_ => if 2000 < m then .error 4 else gbind (fun bs at_ => gmany gop bs m at_) (fun ops _ at_ => .ok (({ c with ops := ops } : ComD), at_)) bs at_ := by
 funext bs at_
 unfold gcomR gheadR gbind
 cases gnum bs at_ with
 | error e => rfl
 | ok p =>
  obtain ⟨n, a⟩ := p
  simp only []
  by_cases h8 : 8 < n
  ·
   simp only [h8, if_true]
  simp only [h8, if_false]
  cases gmany gdig bs n a with
  | error e => rfl
  | ok p =>
   obtain ⟨ps, a⟩ := p
   simp only []
   cases gtext bs a with
   | error e => rfl
   | ok p =>
    obtain ⟨au, a⟩ := p
    simp only []
    cases gtext bs a with
    | error e => rfl
    | ok p => rfl
section
variable {b : List UInt8} {m a a5 a6 : Nat} {e : Int} {c : ComD} {ops : List OpD}
theorem dh1 (h : gheadR b 0 = .error e) : decI b = .error e := by rw [decI, gcom_eq, gcom_head, gbind_err h]
theorem dh2 (h : gheadR b 0 = .ok (c, a)) (hm : gnum b a = .error e) : decI b = .error e := by rw [decI, gcom_eq, gcom_head, gbind_ok h, gbind_err hm]
theorem dh3 (h : gheadR b 0 = .ok (c, a)) (hm : gnum b a = .ok (m, a5)) (h2 : 2000 < m) : decI b = .error 4 := by rw [decI, gcom_eq, gcom_head, gbind_ok h, gbind_ok hm, if_pos h2]
theorem dh4 (h : gheadR b 0 = .ok (c, a)) (hm : gnum b a = .ok (m, a5)) (h2 : ¬ 2000 < m) (ho : gmany gop b m a5 = .error e) : decI b = .error e := by
 rw [decI, gcom_eq, gcom_head, gbind_ok h, gbind_ok hm, if_neg h2, gbind_err (f := fun bs at_ => gmany gop bs m at_) ho]
theorem dh5 (h : gheadR b 0 = .ok (c, a)) (hm : gnum b a = .ok (m, a5)) (h2 : ¬ 2000 < m) (ho : gmany gop b m a5 = .ok (ops, a6)) : gcomR b 0 = .ok (({ c with ops := ops } : ComD), a6) := by
 rw [gcom_head, gbind_ok h, gbind_ok hm, if_neg h2, gbind_ok (f := fun bs at_ => gmany gop bs m at_) ho]
theorem dh6 (h : gcomR b 0 = .ok (c, a6)) (hne : a6 ≠ b.length) : decI b = .error 7 := by rw [decI, gcom_eq, h]; simp [hne]
theorem dh7 (h : gcomR b 0 = .ok (c, b.length)) (hm : mayI c ≠ 0) : decI b = .error (mayI c) := by rw [decI, gcom_eq, h]; simp [hm]
theorem dh8 (h : gcomR b 0 = .ok (c, b.length)) (hm : mayI c = 0) : decI b = .ok c := by rw [decI, gcom_eq, h]; simp [hm]
end
theorem goR {b : List UInt8} {at_ : Nat} (h : goE b at_ = 0) : ∃ a, gop b at_ = .ok (goV b at_, a) ∧ goX b at_ = (a : Int) := by
 cases hg : gop b at_ with
 | error e => rw [(go_err hg).1] at h; exact absurd h (nz_op _ _ _ hg)
 | ok p => exact ⟨p.2, by rw [(go_ok hg).2.1], (go_ok hg).2.2⟩
theorem goE_ne {b : List UInt8} {at_ : Nat} (h : goE b at_ ≠ 0) : gop b at_ = .error (goE b at_) := by
 cases hg : gop b at_ with
 | error e => rw [(go_err hg).1]
 | ok p => exact absurd (go_ok hg).1 h
end Go.Pl
namespace Go.Proofs.YtfanmpbapabboaaGreatDoor
open Go.RowKit Go.Fw Go.Pl
theorem dz {b : List UInt8} {w w' : World} {v : Value} {e : Int} (hl : ¬ 131072 < b.length) (h : decI b = .error e) (hx : Ext w w') (hv : v = .tuple #[.agg comZ.toArray, .int .i64 e]) : DecR b w v w' :=
 DecR.zero (by rw [decC, if_neg hl, h]) (by rw [decE, if_neg hl, h]) hx hv
set_option maxRecDepth 20000 in
theorem rDecode_any (s : ByteArray) (w : World) (hsm : s.size ≤ 9223372036854770000) : Calls Tryz.prog 16 #[.string s] w (Ret (DecR s.toList w)) := by
 have hsl := toList_length s
 obtain ⟨ic, hic, hzc⟩ := info_com
 refine calls_of_CWct 78 2 4 [3] [(0, .string s)] Tryz.func16 rfl rfl rfl Tryz.underlying45 rfl kr_ (by simp) args1 ?_
 have hE : Ext w w := Chg.refl
 refine CW.sr fun K1 hK1 => ?_
 refine WL.alloc (hic) (hzc) rfl de_ fun g2 w1 hx1 hg2 hB2 => ?_
 have hlt2 := hB2.lt; have hz1 := hx1.size
 have hM2 := hB2.mem; have hz1 := hx1.size; have hE := hE.thenExt hx1
 refine WL.a rfl ?_
 refine WL.nil (hK1 _ _ ?_); try clear hK1
 refine CW.seq fun K2 hK2 => ?_
 refine CW.sr fun K3 hK3 => ?_
 refine WL.m rfl ?_
 refine WL.v (Y.len_string Tryz.underlying9 rfl) ?_
 refine WL.v (Y.gtr rfl rfl) ?_
 refine WL.nil (hK3 _ _ ?_); try clear hK3
 (first | refine cd_ rfl ?_ ?_ | refine ce_ rfl ?_ ?_ | refine cn_ rfl ?_ ?_ | refine cb_ rfl ?_ ?_) <;> intro ht4
 ·
  -- then
  refine CW.sr fun K5 hK5 => ?_
  refine WL.v (Y.build0 (build_apiCommit _)) ?_
  refine WL.store (g := g2) (pre := []) (old := comZ) (post := []) (new := comZ) rfl rfl rfl rfl (sz_apiCommit _ _ _ _) (by simpa using hB2) ln_ (one_comZ) (fun w2 hc2 hB2_ => ?_)
  have hz2 := hc2.size; have hE := hE.step hc2 (fun k h => by omega)
  have hB2 : Blk w2 g2 TC comZ := by simpa using hB2_
  refine WL.a rfl ?_
  refine WL.nil (hK5 _ _ ?_); try clear hK5
  refine CW.ret ?_
  exact ⟨_, _, _, rfl, hB2.mem, rfl, rfl, DecR.zero (by rw [decC, if_pos om_]) (by rw [decE, if_pos om_]) hE rfl⟩
 refine CW.skip ?_
 refine hK2 _ _ ?_; try clear hK2
 refine CW.sr fun K6 hK6 => ?_
 refine WL.m rfl ?_
 refine WL.call Tryz.func29 rfl rfl rfl (rHead_any s _ om_) (by simp) ?_; rintro v21 w3 hR3
 obtain ⟨⟨Ah, mh, ch, rfl, hOh⟩, hx3⟩ := hR3
 have hz3 := hx3.size
 have hE := hE.thenExt hx3
 have hB2 := hB2.ext hx3
 refine WL.m rfl ?_
 refine WL.v (Y.extract rfl rfl) ?_
 refine WL.v (Y.extract rfl rfl) ?_
 refine WL.v (Y.extract rfl rfl) ?_
 refine as_apiCommit rfl (by simp) de_ fun g4 w4 hx4 hg4 hB4 => ?_
 have hlt4 := hB4.lt; have hz4 := hx4.size
 have hM4 := hB4.mem; have hz4 := hx4.size; have hE := hE.thenExt hx4; have hB2 := hB2.ext hx4
 refine WL.a rfl ?_
 refine WL.a rfl ?_
 refine WL.nil (hK6 _ _ ?_); try clear hK6
 refine CW.seq fun K7 hK7 => ?_
 refine CW.sr fun K8 hK8 => ?_
 refine WL.m rfl ?_
 refine WL.v (Y.neq rfl rfl) ?_
 refine WL.nil (hK8 _ _ ?_); try clear hK8
 (first | refine cd_ rfl ?_ ?_ | refine ce_ rfl ?_ ?_ | refine cn_ rfl ?_ ?_ | refine cb_ rfl ?_ ?_) <;> intro ht9
 ·
  -- then
  refine CW.sr fun K10 hK10 => ?_
  refine WL.v (Y.build0 (build_apiCommit _)) ?_
  refine WL.m rfl ?_
  refine WL.store (g := g2) (pre := []) (old := comZ) (post := []) (new := comZ) rfl rfl rfl rfl (sz_apiCommit _ _ _ _) (by simpa using hB2) ln_ (one_comZ) (fun w5 hc5 hB5_ => ?_)
  have hz5 := hc5.size; have hE := hE.step hc5 (fun k h => by omega); have hB4 := hB4.chg hc5 no_
  have hB2 : Blk w5 g2 TC comZ := by simpa using hB5_
  refine WL.a rfl ?_
  refine WL.nil (hK10 _ _ ?_); try clear hK10
  refine CW.ret ?_
  exact ⟨_, _, _, rfl, hB2.mem, rfl, rfl, dz om_ (dh1 (heE_ne (by assumption))) hE rfl⟩
 refine CW.skip ?_
 refine hK7 _ _ ?_; try clear hK7
 refine CW.seq fun K11 hK11 => ?_
 obtain ⟨c0, a0, hgh, hC0, hX0⟩ := heE_zero (b := s.toList) om_
 obtain ⟨hOh, hfh⟩ := hOh om_
 obtain ⟨_, ha0, hc8, hau, hno, hops⟩ := snd_head _ _ _ _ (Nat.zero_le _) hgh
 rw [hC0] at hB4 hOh
 rw [hX0]
 have hlh := hOh.lt
 have hOh := hOh.ext hx4
 refine CW.region ?_
 refine WL.m rfl ?_
 refine WL.m rfl ?_
 refine WL.call Tryz.func30 rfl rfl rfl (rGetNum_t s a0 _ om_ om_) (by simp) ?_; rintro v w6 ⟨rfl, hx6⟩; have hz6 := hx6.size; have hE := hE.thenExt hx6; have hB2 := hB2.ext hx6; have hB4 := hB4.ext hx6
 refine WL.m rfl ?_
 refine WL.v (Y.extract rfl rfl) ?_
 refine WL.v (Y.extract rfl rfl) ?_
 refine WL.v (Y.extract rfl rfl) ?_
 refine WL.a rfl ?_
 refine WL.a rfl ?_
 refine WL.a rfl ?_
 refine WL.nil (hK11 _ _ ?_); try clear hK11
 refine CW.seq fun K12 hK12 => ?_
 refine CW.sr fun K13 hK13 => ?_
 refine WL.m rfl ?_
 refine WL.v (Y.neq rfl rfl) ?_
 refine WL.nil (hK13 _ _ ?_); try clear hK13
 (first | refine cd_ rfl ?_ ?_ | refine ce_ rfl ?_ ?_ | refine cn_ rfl ?_ ?_ | refine cb_ rfl ?_ ?_) <;> intro ht14
 ·
  -- then
  refine CW.sr fun K15 hK15 => ?_
  refine WL.v (Y.build0 (build_apiCommit _)) ?_
  refine WL.m rfl ?_
  refine WL.store (g := g2) (pre := []) (old := comZ) (post := []) (new := comZ) rfl rfl rfl rfl (sz_apiCommit _ _ _ _) (by simpa using hB2) ln_ (one_comZ) (fun w7 hc7 hB7_ => ?_)
  have hz7 := hc7.size; have hE := hE.step hc7 (fun k h => by omega); have hB4 := hB4.chg hc7 no_
  have hB2 : Blk w7 g2 TC comZ := by simpa using hB7_
  refine WL.a rfl ?_
  refine WL.nil (hK15 _ _ ?_); try clear hK15
  refine CW.ret ?_
  exact ⟨_, _, _, rfl, hB2.mem, rfl, rfl, dz om_ (dh2 hgh (gE_ne (by assumption)).1) hE rfl⟩
 refine CW.skip ?_
 refine hK12 _ _ ?_; try clear hK12
 refine CW.seq fun K16 hK16 => ?_
 refine CW.seq fun K17 hK17 => ?_
 obtain ⟨n, a1, hg, hN, hX⟩ := gE_zero (bs := s.toList) (at_ := a0) om_
 rw [hN, hX]
 have hlen := gnum_len hg om_
 have hOh := hOh.ext hx6
 refine CW.region ?_
 refine WL.m rfl ?_
 refine WL.v (Y.gtr rfl rfl) ?_
 refine WL.nil (hK17 _ _ ?_); try clear hK17
 (first | refine cd_ rfl ?_ ?_ | refine ce_ rfl ?_ ?_ | refine cn_ rfl ?_ ?_ | refine cb_ rfl ?_ ?_) <;> intro ht18
 ·
  -- then
  refine CW.sr fun K19 hK19 => ?_
  refine WL.v (Y.build0 (build_apiCommit _)) ?_
  refine WL.store (g := g2) (pre := []) (old := comZ) (post := []) (new := comZ) rfl rfl rfl rfl (sz_apiCommit _ _ _ _) (by simpa using hB2) ln_ (one_comZ) (fun w8 hc8 hB8_ => ?_)
  have hz8 := hc8.size; have hE := hE.step hc8 (fun k h => by omega); have hB4 := hB4.chg hc8 no_
  have hB2 : Blk w8 g2 TC comZ := by simpa using hB8_
  refine WL.a rfl ?_
  refine WL.nil (hK19 _ _ ?_); try clear hK19
  refine CW.ret ?_
  exact ⟨_, _, _, rfl, hB2.mem, rfl, rfl, dz om_ (dh3 hgh hg om_) hE rfl⟩
 refine CW.skip ?_
 refine hK16 _ _ ?_; try clear hK16
 refine CW.seq fun K20 hK20 => ?_
 refine CW.sr fun K21 hK21 => ?_
 refine WL.a rfl ?_
 refine WL.nil (hK21 _ _ ?_); try clear hK21
 refine CW.block ?_
 refine CW.loop (X := Nat × List OpD × Value × Nat) (fun x => [(0, .string s), (2, .pointer (some ⟨g2, 0, none⟩)), (4, .pointer (some ⟨g4, 0, none⟩)), (7, .int .i64 (n : Int)), (8, .int .i64 (x.2.2.2 : Int)), (10, .int .i64 (x.1 : Int))]) (fun x w0 => x.1 ≤ n ∧ x.2.1.length = x.1 ∧ x.2.2.2 ≤ s.size ∧ gmany gop s.toList n a1 = gcat x.2.1 (gmany gop s.toList (n - x.1) x.2.2.2) ∧ Ext w w0 ∧ Blk w0 g2 TC comZ ∧ Blk w0 g4 TC (comC (.slice Ah mh ch) c0.author c0.note x.2.2.1) ∧ Own w0 TD 32 (.slice Ah mh ch) (flatD c0.parents) ∧ Own w0 TO 37 x.2.2.1 (flatO x.2.1) ∧ (∀ k, x.2.2.1.ownBlock = some k → w4.heap.size ≤ k) ∧ w4.heap.size ≤ w0.heap.size) (fun x => n - x.1) (0, [], .slice none 0 0, a1) Fr.ok ⟨Nat.zero_le _, rfl, (by show a1 ≤ _; omega), (gcat_nil _).symm, hE, hB2, hB4, hOh, Own.nil, fun k h => by simp [Value.ownBlock] at h, om_⟩ ?_
 intro x w9 hl9
 obtain ⟨i, os, ov, p⟩ := x
 dsimp only at hl9 ⊢
 obtain ⟨hi, hpl, hp, hgm, hE, hB2, hB4, hOh, hO, hfp, hz9⟩ := hl9
 obtain ⟨Ap, mp, cp, rfl⟩ := hO.lens
 have hlo := hO.lt
 refine CW.seq fun K22 hK22 => ?_
 refine CW.sr fun K23 hK23 => ?_
 refine WL.m rfl ?_
 refine WL.m rfl ?_
 refine WL.v (Y.lss rfl rfl) ?_
 refine WL.nil (hK23 _ _ ?_); try clear hK23
 (first | refine cd_ rfl ?_ ?_ | refine ce_ rfl ?_ ?_ | refine cn_ rfl ?_ ?_ | refine cb_ rfl ?_ ?_) <;> intro ht24
 ·
  -- then
  refine CW.skip ?_
  refine hK22 _ _ ?_; try clear hK22
  refine CW.seq fun K25 hK25 => ?_
  refine CW.block ?_
  refine CW.sr fun K26 hK26 => ?_
  refine WL.m rfl ?_
  refine WL.m rfl ?_
  refine WL.call Tryz.func31 rfl rfl rfl (rOp_any s p _ om_ hp) (by simp) ?_; rintro v w10 ⟨rfl, hx10⟩; have hz10 := hx10.size; have hE := hE.thenExt hx10; have hB2 := hB2.ext hx10; have hB4 := hB4.ext hx10
  refine WL.m rfl ?_
  refine WL.v (Y.extract rfl rfl) ?_
  refine WL.v (Y.extract rfl rfl) ?_
  refine WL.v (Y.extract rfl rfl) ?_
  refine as_apiOp rfl (by simp) de_ fun g11 w11 hx11 hg11 hB11 => ?_
  have hlt11 := hB11.lt; have hz11 := hx11.size
  have hM11 := hB11.mem; have hz11 := hx11.size; have hE := hE.thenExt hx11; have hB2 := hB2.ext hx11; have hB4 := hB4.ext hx11
  refine WL.a rfl ?_
  refine WL.a rfl ?_
  refine WL.nil (hK26 _ _ ?_); try clear hK26
  refine CW.seq fun K27 hK27 => ?_
  refine CW.sr fun K28 hK28 => ?_
  refine WL.m rfl ?_
  refine WL.v (Y.neq rfl rfl) ?_
  refine WL.nil (hK28 _ _ ?_); try clear hK28
  (first | refine cd_ rfl ?_ ?_ | refine ce_ rfl ?_ ?_ | refine cn_ rfl ?_ ?_ | refine cb_ rfl ?_ ?_) <;> intro ht29
  ·
   -- then
   refine CW.sr fun K30 hK30 => ?_
   refine WL.v (Y.build0 (build_apiCommit _)) ?_
   refine WL.m rfl ?_
   refine WL.store (g := g2) (pre := []) (old := comZ) (post := []) (new := comZ) rfl rfl rfl rfl (sz_apiCommit _ _ _ _) (by simpa using hB2) ln_ (one_comZ) (fun w12 hc12 hB12_ => ?_)
   have hz12 := hc12.size; have hE := hE.step hc12 (fun k h => by omega); have hB4 := hB4.chg hc12 no_; have hB11 := hB11.chg hc12 no_
   have hB2 : Blk w12 g2 TC comZ := by simpa using hB12_
   refine WL.a rfl ?_
   refine WL.nil (hK30 _ _ ?_); try clear hK30
   refine CW.ret ?_
   exact ⟨_, _, _, rfl, hB2.mem, rfl, rfl, dz om_ (dh4 hgh hg om_ (by rw [hgm, show n - i = (n - i - 1) + 1 by omega, gcat_err (goE_ne (by assumption))])) hE rfl⟩
  refine CW.skip ?_
  refine hK27 _ _ ?_; try clear hK27
  refine CW.seq fun K31 hK31 => ?_
  obtain ⟨q, hgo1, hgx⟩ := goR (b := s.toList) (at_ := p) om_
  rw [hgx]
  have hlq := snd_op _ _ _ _ om_ hgo1
  refine CW.region ?_
  refine WL.v (Y.fieldAddr fo_apiCommit3 rfl) ?_
  refine WL.v (Y.load1 Tryz.underlying43 rfl hB4.mem.com3 rfl) ?_
  refine WL.v (Y.load Tryz.underlying89 rfl hB11.mem (sz_apiOp _) rfl) ?_
  refine WL.st (St.buildSlice rfl (bs1_op _)) de_ fun v62 w13 hR13 => ?_
  obtain ⟨g62, rfl, hg62, hB62, hx13⟩ := hR13
  have hz13 := hx13.size
  have hE := hE.thenExt hx13
  have hB2 := hB2.ext hx13
  have hB4 := hB4.ext hx13
  have hB11 := hB11.ext hx13
  have hOh := hOh.ext ((hx10.thenExt hx11).thenExt hx13)
  refine WL.st (St.append Tryz.underlying43 Tryz.underlying43 ai_op rfl rfl (hO.ext ((hx10.thenExt hx11).thenExt hx13)) (Src.one hB62 (opC_length _)) one_opC (by rw [flat_length opC_length]; omega)) de_ fun v63 w14 hR14 => ?_
  obtain ⟨hO14, hc14, hf14⟩ := hR14
  have hz14 := hc14.size
  have hE := hE.step hc14 (fun k h => by have := hfp k h; omega)
  have hB2 := hB2.chg hc14 (fun h => by have := hfp _ h; have := hlo _ h; omega)
  have hB4 := hB4.chg hc14 (fun h => by have := hfp _ h; have := hlo _ h; omega)
  have hB11 := hB11.chg hc14 (fun h => by have := hfp _ h; have := hlo _ h; omega)
  have hOh := hOh.chg hc14 (fun k hk h => by have := hfh k hk; have := hlh k hk; have := hfp _ h; omega)
  have hf14 : ∀ k, v63.ownBlock = some k → w4.heap.size ≤ k := by
   rcases hf14 with h | h
   ·
    intro k hk; rw [h] at hk; exact hfp k hk
   ·
    intro k hk; have := h k hk; omega
  obtain ⟨A14, m14, c14, rfl⟩ := hO14.lens
  refine WL.v (Y.fieldAddr fo_apiCommit3 rfl) ?_
  refine WL.store (g := g4) (pre := [(.slice Ah mh ch), .string c0.author, .string c0.note]) (old := [.slice Ap mp cp]) (post := []) (new := [.slice A14 m14 c14]) rfl rfl rfl rfl kr_ hB4 ln_ (one1 rfl) (fun w15 hc15 hB15_ => ?_)
  have hz15 := hc15.size; have hE := hE.step hc15 (fun k h => by omega); have hB2 := hB2.chg hc15 no_; have hB11 := hB11.chg hc15 no_
  have hB4 : Blk w15 g4 TC (comC (.slice Ah mh ch) c0.author c0.note (.slice A14 m14 c14)) := hB15_
  have hO14 := hO14.chg hc15 (fun k hk h => by have := hf14 k hk; omega)
  have hOh := hOh.chg hc15 (fun k hk h => by have := hlh k hk; omega)
  refine WL.nil (hK31 _ _ ?_); try clear hK31
  refine CW.region ?_
  refine WL.m rfl ?_
  refine WL.a rfl ?_
  refine WL.nil (hK25 _ _ ?_); try clear hK25
  refine CW.region ?_
  refine WL.m rfl ?_
  refine WL.v (Y.add rfl rfl o2_) ?_
  refine WL.a rfl ?_
  refine WL.nil ?_
  refine ⟨(i + 1, os ++ [goV s.toList p], .slice A14 m14 c14, q), by show n - (i + 1) < n - i; omega, Fr.ok, by show i + 1 ≤ n; omega, by simp [hpl], by show q ≤ _; omega, ?_, hE, hB2, hB4, hOh, by simpa [flatO] using hO14, hf14, by omega⟩
  show gmany gop s.toList n a1 = gcat (os ++ [goV s.toList p]) (gmany gop s.toList (n - (i + 1)) q)
  obtain ⟨k, hk⟩ : ∃ k, n - i = k + 1 := ⟨n - i - 1, by omega⟩
  rw [hgm, hk, gcat_ok hgo1, show n - (i + 1) = k by omega]
 refine CW.exit ?_
 refine hK20 _ _ ?_; try clear hK20
 refine CW.seq fun K32 hK32 => ?_
 refine CW.seq fun K33 hK33 => ?_
 have hps : gmany gop s.toList n a1 = .ok (os, p) := by rw [hgm, show n - i = 0 by omega]; exact gcat_end
 have hgc := dh5 hgh hg om_ hps
 refine CW.region ?_
 refine WL.m rfl ?_
 refine WL.m rfl ?_
 refine WL.v (Y.len_string Tryz.underlying9 rfl) ?_
 refine WL.v (Y.neq rfl rfl) ?_
 refine WL.nil (hK33 _ _ ?_); try clear hK33
 (first | refine cd_ rfl ?_ ?_ | refine ce_ rfl ?_ ?_ | refine cn_ rfl ?_ ?_ | refine cb_ rfl ?_ ?_) <;> intro ht34
 ·
  -- then
  refine CW.sr fun K35 hK35 => ?_
  refine WL.v (Y.build0 (build_apiCommit _)) ?_
  refine WL.store (g := g2) (pre := []) (old := comZ) (post := []) (new := comZ) rfl rfl rfl rfl (sz_apiCommit _ _ _ _) (by simpa using hB2) ln_ (one_comZ) (fun w16 hc16 hB16_ => ?_)
  have hz16 := hc16.size; have hE := hE.step hc16 (fun k h => by omega); have hB4 := hB4.chg hc16 no_
  have hB2 : Blk w16 g2 TC comZ := by simpa using hB16_
  refine WL.a rfl ?_
  refine WL.nil (hK35 _ _ ?_); try clear hK35
  refine CW.ret ?_
  exact ⟨_, _, _, rfl, hB2.mem, rfl, rfl, dz om_ (dh6 hgc om_) hE rfl⟩
 refine CW.skip ?_
 refine hK32 _ _ ?_; try clear hK32
 refine CW.seq fun K36 hK36 => ?_
 have hpe : p = s.toList.length := by omega
 rw [hpe] at hgc
 refine CW.region ?_
 refine WL.v (Y.load Tryz.underlying45 rfl hB4.mem (sz_apiCommit _ _ _ _) rfl) ?_
 refine WL.call Tryz.func32 rfl rfl rfl (rMay_any _ ({ c0 with ops := os } : ComD) _ ⟨_, _, rfl, hOh.sl digC_length de_, hO.sl opC_length de_, by unfold maxLen; show c0.author.size ≤ _; omega, by unfold maxLen; show c0.note.size ≤ _; omega⟩) (by simp) ?_; rintro v w17 ⟨rfl, hx17⟩; have hz17 := hx17.size; have hE := hE.thenExt hx17; have hB2 := hB2.ext hx17; have hB4 := hB4.ext hx17
 refine WL.a rfl ?_
 refine WL.nil (hK36 _ _ ?_); try clear hK36
 refine CW.seq fun K37 hK37 => ?_
 refine CW.sr fun K38 hK38 => ?_
 refine WL.m rfl ?_
 refine WL.v (Y.neq rfl rfl) ?_
 refine WL.nil (hK38 _ _ ?_); try clear hK38
 (first | refine cd_ rfl ?_ ?_ | refine ce_ rfl ?_ ?_ | refine cn_ rfl ?_ ?_ | refine cb_ rfl ?_ ?_) <;> intro ht39
 ·
  -- then
  refine CW.sr fun K40 hK40 => ?_
  refine WL.v (Y.build0 (build_apiCommit _)) ?_
  refine WL.m rfl ?_
  refine WL.store (g := g2) (pre := []) (old := comZ) (post := []) (new := comZ) rfl rfl rfl rfl (sz_apiCommit _ _ _ _) (by simpa using hB2) ln_ (one_comZ) (fun w18 hc18 hB18_ => ?_)
  have hz18 := hc18.size; have hE := hE.step hc18 (fun k h => by omega); have hB4 := hB4.chg hc18 no_
  have hB2 : Blk w18 g2 TC comZ := by simpa using hB18_
  refine WL.a rfl ?_
  refine WL.nil (hK40 _ _ ?_); try clear hK40
  refine CW.ret ?_
  exact ⟨_, _, _, rfl, hB2.mem, rfl, rfl, dz om_ (dh7 hgc (by assumption)) hE rfl⟩
 refine CW.skip ?_
 refine hK37 _ _ ?_; try clear hK37
 refine CW.seq fun K41 hK41 => ?_
 have hm0 : mayI ({ c0 with ops := os } : ComD) = 0 := by omega
 refine CW.region ?_
 refine WL.v (Y.load Tryz.underlying45 rfl hB4.mem (sz_apiCommit _ _ _ _) rfl) ?_
 refine WL.store (g := g2) (pre := []) (old := comZ) (post := []) (new := comC (.slice Ah mh ch) c0.author c0.note (.slice Ap mp cp)) rfl rfl rfl rfl (sz_apiCommit _ _ _ _) (by simpa using hB2) ln_ (one_com) (fun w19 hc19 hB19_ => ?_)
 have hz19 := hc19.size; have hE := hE.step hc19 (fun k h => by omega); have hB4 := hB4.chg hc19 no_
 have hB2 : Blk w19 g2 TC (comC (.slice Ah mh ch) c0.author c0.note (.slice Ap mp cp)) := by simpa using hB19_
 have hOh := (hOh.ext hx17).chg hc19 (fun k hk h => by have := hfh k hk; omega)
 have hO := (hO.ext hx17).chg hc19 (fun k hk h => by have := hfp k hk; omega)
 refine WL.a rfl ?_
 refine WL.nil (hK41 _ _ ?_); try clear hK41
 refine CW.ret ?_
 have hdi := dh8 hgc hm0
 have hdc : decC s.toList = ({ c0 with ops := os } : ComD) := by rw [decC, if_neg om_, hdi]
 have hde : decE s.toList = 0 := by rw [decE, if_neg om_, hdi]
 exact ⟨_, _, _, rfl, hB2.mem, rfl, rfl, _, _, by rw [hdc, hde], hE, by rw [hdc]; exact hOh.sl digC_length de_, by rw [hdc]; exact hO.sl opC_length de_, fun k hk => by have := hfh k hk; omega, fun k hk => by have := hfp k hk; omega⟩
end Go.Proofs.YtfanmpbapabboaaGreatDoor
