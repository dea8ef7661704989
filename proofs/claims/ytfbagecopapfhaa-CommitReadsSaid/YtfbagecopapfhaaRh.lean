/- The reference's head of a commit, walked. No condition. -/
import Derived.Test.YtfbagecopapfhaaRs
set_option linter.unusedSimpArgs false
set_option linter.unusedVariables false
namespace Go.Pl
open Go.Fw
def gheadR : Rdg ComD := gbind gnum fun n bs at_ => if 8 < n then .error 4 else gbind (fun bs at_ => gmany gdig bs n at_) (fun ps => gbind gtext fun au => gbind gtext fun no _ at_ => .ok ((⟨ps, Go.Fw.bs au, Go.Fw.bs no, []⟩ : ComD), at_)) bs at_
theorem snd_head : Snd gheadR (fun c _ => c.parents.length ≤ 8 ∧ c.author.size ≤ 131072 ∧ c.note.size ≤ 131072 ∧ c.ops = []) := by
  refine (snd_num.bind fun n => Snd.guard (Snd.bind (snd_many (enc := fun d : Dig => d.1) (Q := fun _ => True) (snd_dig.mono fun d l h => ⟨h, trivial⟩) n) fun ps => snd_text.bind fun au => snd_text.bind fun no => Snd.pure)).mono ?_
  rintro c l ⟨n, l1, l2, rfl, ⟨rfl, _⟩, h8, ps, l3, l4, rfl, ⟨rfl, rfl, _⟩, au, l5, l6, rfl, ⟨rfl, ha⟩, no, l7, l8, rfl, ⟨rfl, hn⟩, rfl, rfl⟩
  exact ⟨by simp only; omega, by simp only [bs_size]; exact ha, by simp only [bs_size]; exact hn, rfl⟩
theorem nz_head : Nz gheadR := nz_num.bind fun n => Nz.guard (by decide) ((nz_many nz_dig n).bind fun ps => nz_text.bind fun au => nz_text.bind fun no => Nz.pure)
section
variable {b : List UInt8} {n a1 a2 a3 a4 : Nat} {e : Int} {ps : List Dig} {au no : List UInt8}
theorem hd1 (h : gnum b 0 = .error e) : gheadR b 0 = .error e := gbind_err h
theorem hd2 (h : gnum b 0 = .ok (n, a1)) (h8 : 8 < n) : gheadR b 0 = .error 4 := by rw [gheadR, gbind_ok h, if_pos h8]
theorem hd3 (h : gnum b 0 = .ok (n, a1)) (h8 : ¬ 8 < n) (hp : gmany gdig b n a1 = .error e) : gheadR b 0 = .error e := by rw [gheadR, gbind_ok h, if_neg h8]; exact gbind_err hp
theorem hd4 (h : gnum b 0 = .ok (n, a1)) (h8 : ¬ 8 < n) (hp : gmany gdig b n a1 = .ok (ps, a2)) (ha : gtext b a2 = .error e) : gheadR b 0 = .error e := by rw [gheadR, gbind_ok h, if_neg h8]; rw [gbind_ok (f := fun bs at_ => gmany gdig bs n at_) hp]; exact gbind_err ha
theorem hd5 (h : gnum b 0 = .ok (n, a1)) (h8 : ¬ 8 < n) (hp : gmany gdig b n a1 = .ok (ps, a2)) (ha : gtext b a2 = .ok (au, a3)) (hn : gtext b a3 = .error e) : gheadR b 0 = .error e := by rw [gheadR, gbind_ok h, if_neg h8]; rw [gbind_ok (f := fun bs at_ => gmany gdig bs n at_) hp, gbind_ok ha]; exact gbind_err hn
theorem hd6 (h : gnum b 0 = .ok (n, a1)) (h8 : ¬ 8 < n) (hp : gmany gdig b n a1 = .ok (ps, a2)) (ha : gtext b a2 = .ok (au, a3)) (hn : gtext b a3 = .ok (no, a4)) : gheadR b 0 = .ok ((⟨ps, Go.Fw.bs au, Go.Fw.bs no, []⟩ : ComD), a4) := by rw [gheadR, gbind_ok h, if_neg h8]; rw [gbind_ok (f := fun bs at_ => gmany gdig bs n at_) hp, gbind_ok ha, gbind_ok hn]
end
def heE (b : List UInt8) : Int := match gheadR b 0 with | .error e => e | .ok _ => 0
def heC (b : List UInt8) : ComD := match gheadR b 0 with | .error _ => ⟨[], Go.Fw.bs [], Go.Fw.bs [], []⟩ | .ok (c, _) => c
def heX (b : List UInt8) : Int := match gheadR b 0 with | .error _ => 0 | .ok (_, a) => (a : Int)
theorem he_err {b : List UInt8} {e : Int} (h : gheadR b 0 = .error e) : heE b = e ∧ heC b = ⟨[], Go.Fw.bs [], Go.Fw.bs [], []⟩ ∧ heX b = 0 := by simp only [heE, heC, heX, h]; exact ⟨trivial, trivial, trivial⟩
theorem he_ok {b : List UInt8} {c : ComD} {a : Nat} (h : gheadR b 0 = .ok (c, a)) : heE b = 0 ∧ heC b = c ∧ heX b = (a : Int) := by simp only [heE, heC, heX, h]; exact ⟨trivial, trivial, trivial⟩
theorem heE_zero {b : List UInt8} (h : heE b = 0) : ∃ c a, gheadR b 0 = .ok (c, a) ∧ heC b = c ∧ heX b = (a : Int) := by
  cases hg : gheadR b 0 with
  | error e => rw [(he_err hg).1] at h; exact absurd h (nz_head _ _ _ hg)
  | ok p => exact ⟨p.1, p.2, rfl, (he_ok hg).2⟩
theorem heE_ne {b : List UInt8} (h : heE b ≠ 0) : gheadR b 0 = .error (heE b) := by
  cases hg : gheadR b 0 with
  | error e => rw [(he_err hg).1]
  | ok p => exact absurd (he_ok hg).1 h
end Go.Pl
namespace Go.Proofs.Ytfbagecopapfhaa
open Go.RowKit Go.Fw Go.Pl
abbrev TC : TypeId := 31
/-- What head hands back. -/
def HeadR (b : List UInt8) (w : World) (v : Value) (w' : World) : Prop := (∃ A m c, v = .tuple #[.agg (comC (.slice A m c) (heC b).author (heC b).note (.slice none 0 0)).toArray, .int .i64 (heX b), .int .i64 (heE b)] ∧
  (heE b = 0 → Own w' TD 32 (.slice A m c) (flatD (heC b).parents) ∧ ∀ k, (Value.slice A m c).ownBlock = some k → w.heap.size ≤ k)) ∧ Ext w w'
theorem HeadR.err {b : List UInt8} {w w' : World} {A : Option Addr} {m c : Nat} {e : Int} (h : gheadR b 0 = .error e) (hx : Ext w w') : HeadR b w (.tuple #[.agg (comC (.slice A m c) (bs []) (bs []) (.slice none 0 0)).toArray, .int .i64 0, .int .i64 e]) w' := by
  obtain ⟨h1, h2, h3⟩ := he_err h
  refine ⟨⟨A, m, c, by rw [h1, h2, h3], fun h0 => absurd (h1 ▸ h0) (nz_head _ _ _ h)⟩, hx⟩
theorem HeadR.ok {b : List UInt8} {w w' : World} {A : Option Addr} {m c a : Nat} {cm : ComD} (h : gheadR b 0 = .ok (cm, a)) (hx : Ext w w') (hO : Own w' TD 32 (.slice A m c) (flatD cm.parents)) (hf : ∀ k, (Value.slice A m c).ownBlock = some k → w.heap.size ≤ k) :
    HeadR b w (.tuple #[.agg (comC (.slice A m c) cm.author cm.note (.slice none 0 0)).toArray, .int .i64 (a : Int), .int .i64 0]) w' := by
  obtain ⟨h1, h2, h3⟩ := he_ok h
  exact ⟨⟨A, m, c, by rw [h1, h2, h3], fun _ => by rw [h2]; exact ⟨hO, hf⟩⟩, hx⟩

set_option maxRecDepth 20000 in
theorem rHead_any (s : ByteArray) (w : World) (hsm : s.size ≤ 9223372036854770000) : Calls Try.prog 39 #[.string s] w (Ret (HeadR s.toList w)) := by
  have hsl := toList_length s
  obtain ⟨ic, hic, hzc⟩ := info_com
  refine calls_of_CWct 81 2 4 [3, 4] [(0, .string s)] Try.func39 rfl rfl rfl Try.underlying31 rfl (by kernel_rfl) (by simp) args1 ?_
  have hE : Ext w w := Chg.refl
  refine CW.seq fun K1 hK1 => ?_
  refine CW.region ?_   -- region 0
  refine WL.alloc (hic) (hzc) rfl (by decide) fun g2 w1 hx1 hg2 hB2 => ?_   -- t2 := alloc 31
  have hlt2 := hB2.lt; have hz1 := hx1.size
  have hM2 := hB2.mem; have hz1 := hx1.size; have hE := hE.thenExt hx1
  refine WL.val (Y.assign rfl) (by decide) ?_   -- t3 := assign c(0:i64)
  refine WL.val (Y.assign rfl) (by decide) ?_   -- t4 := assign c(0:i64)
  refine WL.nil ?_
  refine hK1 _ _ ?_; try clear hK1 K1
  refine CW.seq fun K2 hK2 => ?_
  refine CW.region ?_   -- region 1
  refine WL.alloc (hic) (hzc) rfl (by decide) fun g5 w2 hx2 hg5 hB5 => ?_   -- t5 := alloc 31
  have hlt5 := hB5.lt; have hz2 := hx2.size
  have hM5 := hB5.mem; have hz2 := hx2.size; have hE := hE.thenExt hx2; have hB2 := hB2.ext hx2
  refine WL.nil ?_
  refine hK2 _ _ ?_; try clear hK2 K2
  refine CW.seq fun K3 hK3 => ?_
  refine CW.region ?_   -- region 2
  refine WL.val (Y.move rfl) (by decide) ?_   -- t19 := move t0
  refine WL.call Try.func40 rfl rfl rfl (rGetNum_t s 0 _ (by omega) (Nat.zero_le _)) (by simp) ?_; rintro v w3 ⟨rfl, hx3⟩; have hz3 := hx3.size; have hE := hE.thenExt hx3; have hB2 := hB2.ext hx3; have hB5 := hB5.ext hx3   -- t20 := call F40(t19, c(0:i64)) : 9,3
  refine WL.val (Y.move rfl) (by decide) ?_   -- t18 := move t20
  refine WL.val (Y.extract rfl rfl) (by decide) ?_   -- t21 := extract t18 0
  refine WL.val (Y.extract rfl rfl) (by decide) ?_   -- t22 := extract t18 1
  refine WL.val (Y.extract rfl rfl) (by decide) ?_   -- t23 := extract t18 2
  refine WL.val (Y.assign rfl) (by decide) ?_   -- t6 := assign t21
  refine WL.val (Y.assign rfl) (by decide) ?_   -- t7 := assign t22
  refine WL.val (Y.assign rfl) (by decide) ?_   -- t8 := assign t23
  refine WL.nil ?_
  refine hK3 _ _ ?_; try clear hK3 K3
  refine CW.seq fun K4 hK4 => ?_
  refine CW.seq fun K5 hK5 => ?_
  refine CW.region ?_   -- region 3
  refine WL.val (Y.move rfl) (by decide) ?_   -- t24 := move t8
  refine WL.val (Y.neq rfl rfl) (by decide) ?_   -- t25 := binOp neq 3 t24 c(0:i64) 3
  refine WL.nil ?_
  refine hK5 _ _ ?_; try clear hK5 K5
  first | refine CW.condD rfl (fun ht6 => ?_) (fun ht6 => ?_) | refine CW.condND rfl (fun ht6 => ?_) (fun ht6 => ?_) | refine CW.condN rfl (fun ht6 => ?_) (fun ht6 => ?_) | refine CW.cond rfl (fun ht6 => ?_) (fun ht6 => ?_)
  · -- then
    refine CW.seq fun K7 hK7 => ?_
    refine CW.region ?_   -- region 4
    refine WL.val (Y.load Try.underlying31 rfl hB5.mem (sz_apiCommit _ _ _ _) rfl) (by decide) ?_   -- t26 := load 31 t5
    refine WL.val (Y.move rfl) (by decide) ?_   -- t27 := move t8
    refine WL.store (g := g2) (pre := []) (old := comZ) (post := []) (new := comC (.slice none 0 0) (bs []) (bs []) (.slice none 0 0)) rfl rfl rfl rfl (sz_apiCommit _ _ _ _) (by simpa using hB2) (by first | rfl | (simp [digC_length, opC_length]; done) | (simp only [digC_length, opC_length]; omega)) (one_com) (fun w4 hc4 hB4_ => ?_)   -- _ := store 31 t2 t26
    have hz4 := hc4.size; have hE := hE.step hc4 (fun k h => by omega); have hB5 := hB5.chg hc4 (fun h => by omega)
    have hB2 : Blk w4 g2 TC (comC (.slice none 0 0) (bs []) (bs []) (.slice none 0 0)) := by simpa using hB4_
    refine WL.val (Y.assign rfl) (by decide) ?_   -- t3 := assign c(0:i64)
    refine WL.val (Y.assign rfl) (by decide) ?_   -- t4 := assign t27
    refine WL.nil ?_
    refine hK7 _ _ ?_; try clear hK7 K7
    refine CW.ret ?_
    exact ⟨_, _, _, rfl, hB2.mem, rfl, rfl, HeadR.err (hd1 (gE_ne (by assumption)).1) hE⟩
  -- else
  refine CW.skip ?_
  refine hK4 _ _ ?_; try clear hK4 K4
  refine CW.seq fun K8 hK8 => ?_
  refine CW.seq fun K9 hK9 => ?_
  obtain ⟨n, a1, hg, hN, hX⟩ := gE_zero (bs := s.toList) (at_ := 0) (by omega)
  rw [hN, hX]
  have hlen := gnum_len hg (Nat.zero_le _)
  refine CW.region ?_   -- region 5
  refine WL.val (Y.move rfl) (by decide) ?_   -- t28 := move t6
  refine WL.val (Y.gtr rfl rfl) (by decide) ?_   -- t29 := binOp gtr 3 t28 c(8:i64) 3
  refine WL.nil ?_
  refine hK9 _ _ ?_; try clear hK9 K9
  first | refine CW.condD rfl (fun ht10 => ?_) (fun ht10 => ?_) | refine CW.condND rfl (fun ht10 => ?_) (fun ht10 => ?_) | refine CW.condN rfl (fun ht10 => ?_) (fun ht10 => ?_) | refine CW.cond rfl (fun ht10 => ?_) (fun ht10 => ?_)
  · -- then
    refine CW.seq fun K11 hK11 => ?_
    refine CW.region ?_   -- region 6
    refine WL.val (Y.load Try.underlying31 rfl hB5.mem (sz_apiCommit _ _ _ _) rfl) (by decide) ?_   -- t30 := load 31 t5
    refine WL.store (g := g2) (pre := []) (old := comZ) (post := []) (new := comC (.slice none 0 0) (bs []) (bs []) (.slice none 0 0)) rfl rfl rfl rfl (sz_apiCommit _ _ _ _) (by simpa using hB2) (by first | rfl | (simp [digC_length, opC_length]; done) | (simp only [digC_length, opC_length]; omega)) (one_com) (fun w5 hc5 hB5_ => ?_)   -- _ := store 31 t2 t30
    have hz5 := hc5.size; have hE := hE.step hc5 (fun k h => by omega); have hB5 := hB5.chg hc5 (fun h => by omega)
    have hB2 : Blk w5 g2 TC (comC (.slice none 0 0) (bs []) (bs []) (.slice none 0 0)) := by simpa using hB5_
    refine WL.val (Y.assign rfl) (by decide) ?_   -- t3 := assign c(0:i64)
    refine WL.val (Y.assign rfl) (by decide) ?_   -- t4 := assign c(4:i64)
    refine WL.nil ?_
    refine hK11 _ _ ?_; try clear hK11 K11
    refine CW.ret ?_
    exact ⟨_, _, _, rfl, hB2.mem, rfl, rfl, HeadR.err (hd2 hg (by omega)) hE⟩
  -- else
  refine CW.skip ?_
  refine hK8 _ _ ?_; try clear hK8 K8
  refine CW.seq fun K12 hK12 => ?_
  refine CW.seq fun K13 hK13 => ?_
  refine CW.region ?_   -- region 7
  refine WL.val (Y.assign rfl) (by decide) ?_   -- t9 := assign c(0:i64)
  refine WL.nil ?_
  refine hK13 _ _ ?_; try clear hK13 K13
  refine CW.block ?_   -- block 0
  refine CW.loop (X := Nat × List Dig × Value × Nat) (fun x => [(0, .string s), (2, .pointer (some ⟨g2, 0, none⟩)), (5, .pointer (some ⟨g5, 0, none⟩)), (6, .int .i64 (n : Int)), (7, .int .i64 (x.2.2.2 : Int)), (9, .int .i64 (x.1 : Int))]) (fun x w0 => x.1 ≤ n ∧ x.2.1.length = x.1 ∧ x.2.2.2 ≤ s.size ∧ gmany gdig s.toList n a1 = gcat x.2.1 (gmany gdig s.toList (n - x.1) x.2.2.2) ∧ Ext w w0 ∧ Blk w0 g2 TC comZ ∧ Blk w0 g5 TC (comC x.2.2.1 (bs []) (bs []) (.slice none 0 0)) ∧ Own w0 TD 32 x.2.2.1 (flatD x.2.1) ∧ (∀ k, x.2.2.1.ownBlock = some k → w2.heap.size ≤ k) ∧ w2.heap.size ≤ w0.heap.size) (fun x => n - x.1) (0, [], .slice none 0 0, a1) (by repeat (first | exact Fr.le.nil | refine Fr.le.cons rfl ?_)) ⟨Nat.zero_le _, rfl, (by show a1 ≤ _; omega), (gcat_nil _).symm, hE, hB2, hB5, Own.nil, fun k h => by simp [Value.ownBlock] at h, (by omega)⟩ ?_
  intro x w6 hl6
  obtain ⟨i, ps, pv, p⟩ := x
  dsimp only at hl6 ⊢
  obtain ⟨hi, hpl, hp, hgm, hE, hB2, hB5, hO, hfp, hz6⟩ := hl6
  obtain ⟨Ap, mp, cp, rfl⟩ := hO.lens
  have hlo := hO.lt
  refine CW.seq fun K14 hK14 => ?_
  refine CW.seq fun K15 hK15 => ?_
  refine CW.region ?_   -- region 8
  refine WL.val (Y.move rfl) (by decide) ?_   -- t31 := move t9
  refine WL.val (Y.move rfl) (by decide) ?_   -- t32 := move t6
  refine WL.val (Y.lss rfl rfl) (by decide) ?_   -- t33 := binOp lss 3 t31 t32 3
  refine WL.nil ?_
  refine hK15 _ _ ?_; try clear hK15 K15
  first | refine CW.condD rfl (fun ht16 => ?_) (fun ht16 => ?_) | refine CW.condND rfl (fun ht16 => ?_) (fun ht16 => ?_) | refine CW.condN rfl (fun ht16 => ?_) (fun ht16 => ?_) | refine CW.cond rfl (fun ht16 => ?_) (fun ht16 => ?_)
  · -- then
    refine CW.skip ?_
    refine hK14 _ _ ?_; try clear hK14 K14
    refine CW.seq fun K17 hK17 => ?_
    refine CW.block ?_   -- block 1
    refine CW.seq fun K18 hK18 => ?_
    refine CW.region ?_   -- region 10
    refine WL.val (Y.move rfl) (by decide) ?_   -- t37 := move t0
    refine WL.val (Y.move rfl) (by decide) ?_   -- t38 := move t7
    refine WL.call Try.func57 rfl rfl rfl (rDig_any s p _ (by omega) hp) (by simp) ?_; rintro v w7 ⟨rfl, hx7⟩; have hz7 := hx7.size; have hE := hE.thenExt hx7; have hB2 := hB2.ext hx7; have hB5 := hB5.ext hx7   -- t39 := call F57(t37, t38) : 9,3
    refine WL.val (Y.move rfl) (by decide) ?_   -- t36 := move t39
    refine WL.val (Y.extract rfl rfl) (by decide) ?_   -- t40 := extract t36 0
    refine WL.val (Y.extract rfl rfl) (by decide) ?_   -- t41 := extract t36 1
    refine as_apiDigest rfl (by simp) (by decide) fun g10 w8 hx8 hg10 hB10 => ?_   -- alloc 51; store 51 t10 t40
    have hlt10 := hB10.lt; have hz8 := hx8.size
    have hM10 := hB10.mem; have hz8 := hx8.size; have hE := hE.thenExt hx8; have hB2 := hB2.ext hx8; have hB5 := hB5.ext hx8
    refine WL.val (Y.assign rfl) (by decide) ?_   -- t11 := assign t41
    refine WL.nil ?_
    refine hK18 _ _ ?_; try clear hK18 K18
    refine CW.seq fun K19 hK19 => ?_
    refine CW.seq fun K20 hK20 => ?_
    refine CW.region ?_   -- region 11
    refine WL.val (Y.move rfl) (by decide) ?_   -- t42 := move t11
    refine WL.val (Y.not rfl) (by decide) ?_   -- t43 := unOp not 4 t42
    refine WL.nil ?_
    refine hK20 _ _ ?_; try clear hK20 K20
    first | refine CW.condD rfl (fun ht21 => ?_) (fun ht21 => ?_) | refine CW.condND rfl (fun ht21 => ?_) (fun ht21 => ?_) | refine CW.condN rfl (fun ht21 => ?_) (fun ht21 => ?_) | refine CW.cond rfl (fun ht21 => ?_) (fun ht21 => ?_)
    · -- then
      refine CW.seq fun K22 hK22 => ?_
      refine CW.region ?_   -- region 12
      refine WL.val (Y.load Try.underlying31 rfl hB5.mem (sz_apiCommit _ _ _ _) rfl) (by decide) ?_   -- t44 := load 31 t5
      refine WL.store (g := g2) (pre := []) (old := comZ) (post := []) (new := comC (.slice Ap mp cp) (bs []) (bs []) (.slice none 0 0)) rfl rfl rfl rfl (sz_apiCommit _ _ _ _) (by simpa using hB2) (by first | rfl | (simp [digC_length, opC_length]; done) | (simp only [digC_length, opC_length]; omega)) (one_com) (fun w9 hc9 hB9_ => ?_)   -- _ := store 31 t2 t44
      have hz9 := hc9.size; have hE := hE.step hc9 (fun k h => by omega); have hB5 := hB5.chg hc9 (fun h => by omega); have hB10 := hB10.chg hc9 (fun h => by omega)
      have hB2 : Blk w9 g2 TC (comC (.slice Ap mp cp) (bs []) (bs []) (.slice none 0 0)) := by simpa using hB9_
      refine WL.val (Y.assign rfl) (by decide) ?_   -- t3 := assign c(0:i64)
      refine WL.val (Y.assign rfl) (by decide) ?_   -- t4 := assign c(8:i64)
      refine WL.nil ?_
      refine hK22 _ _ ?_; try clear hK22 K22
      refine CW.ret ?_
      exact ⟨_, _, _, rfl, hB2.mem, rfl, rfl, HeadR.err (hd3 hg (by omega) (by rw [hgm, show n - i = (n - i - 1) + 1 by omega, gcat_err (gdB_no (by first | assumption | (simp only [gdB, decide_eq_false_iff_not]; omega)))])) hE⟩
    -- else
    refine CW.skip ?_
    refine hK19 _ _ ?_; try clear hK19 K19
    refine CW.seq fun K23 hK23 => ?_
    refine CW.region ?_   -- region 13
    refine WL.val (Y.fieldAddr fo_apiCommit0 rfl) (by decide) ?_   -- t45 := fieldAddr 31 t5 0
    refine WL.val (Y.load1 Try.underlying29 rfl hB5.mem.com0 rfl) (by decide) ?_   -- t46 := load 29 t45
    refine WL.val (Y.load Try.underlying51 rfl hB10.mem (sz_apiDigest _) rfl) (by decide) ?_   -- t47 := load 51 t10
    refine WL.st (St.buildSlice rfl (bs1_dig _)) (by decide) fun v48 w10 hR10 => ?_   -- t48 := buildSlice 29 1 [(0,t47)]
    obtain ⟨g48, rfl, hg48, hB48, hx10⟩ := hR10
    have hz10 := hx10.size
    have hE := hE.thenExt hx10
    have hB2 := hB2.ext hx10
    have hB5 := hB5.ext hx10
    have hB10 := hB10.ext hx10
    refine WL.st (St.append Try.underlying29 Try.underlying29 ai_dig rfl rfl (hO.ext ((hx7.thenExt hx8).thenExt hx10)) (Src.one hB48 (digC_length _)) one_digC (by rw [flat_length digC_length]; omega)) (by decide) fun v49 w11 hR11 => ?_   -- t49 := call append(t46, t48) : 29,29
    obtain ⟨hO11, hc11, hf11⟩ := hR11
    have hz11 := hc11.size
    have hE := hE.step hc11 (fun k h => by have := hfp k h; omega)
    have hB2 := hB2.chg hc11 (fun h => by have := hfp _ h; have := hlo _ h; omega)
    have hB5 := hB5.chg hc11 (fun h => by have := hfp _ h; have := hlo _ h; omega)
    have hB10 := hB10.chg hc11 (fun h => by have := hfp _ h; have := hlo _ h; omega)
    have hf11 : ∀ k, v49.ownBlock = some k → w2.heap.size ≤ k := by
      rcases hf11 with h | h
      · intro k hk; rw [h] at hk; exact hfp k hk
      · intro k hk; have := h k hk; omega
    obtain ⟨A11, m11, c11, rfl⟩ := hO11.lens
    refine WL.val (Y.fieldAddr fo_apiCommit0 rfl) (by decide) ?_   -- t50 := fieldAddr 31 t5 0
    refine WL.store (g := g5) (pre := []) (old := [.slice Ap mp cp]) (post := [.string (bs []), .string (bs []), .slice none 0 0]) (new := [.slice A11 m11 c11]) rfl rfl rfl rfl (by kernel_rfl) hB5 (by first | rfl | (simp [digC_length, opC_length]; done) | (simp only [digC_length, opC_length]; omega)) (one1 rfl) (fun w12 hc12 hB12_ => ?_)   -- _ := store 29 t50 t49
    have hz12 := hc12.size; have hE := hE.step hc12 (fun k h => by omega); have hB2 := hB2.chg hc12 (fun h => by omega); have hB10 := hB10.chg hc12 (fun h => by omega)
    have hB5 : Blk w12 g5 TC (comC (.slice A11 m11 c11) (bs []) (bs []) (.slice none 0 0)) := hB12_
    have hO11 := hO11.chg hc12 (fun k hk h => by have := hf11 k hk; omega)
    refine WL.nil ?_
    refine hK23 _ _ ?_; try clear hK23 K23
    refine CW.region ?_   -- region 14
    refine WL.val (Y.move rfl) (by decide) ?_   -- t51 := move t7
    refine WL.val (Y.add rfl rfl ⟨by omega, by omega⟩) (by decide) ?_   -- t52 := binOp add 3 t51 c(32:i64) 3
    refine WL.val (Y.assign rfl) (by decide) ?_   -- t7 := assign t52
    refine WL.nil ?_
    refine hK17 _ _ ?_; try clear hK17 K17
    refine CW.region ?_   -- region 9
    refine WL.val (Y.move rfl) (by decide) ?_   -- t34 := move t9
    refine WL.val (Y.add rfl rfl ⟨by omega, by omega⟩) (by decide) ?_   -- t35 := binOp add 3 t34 c(1:i64) 3
    refine WL.val (Y.assign rfl) (by decide) ?_   -- t9 := assign t35
    refine WL.nil ?_
    have hy := gdB_yes (b := s.toList) (at_ := p) (by first | assumption | (simp only [gdB, decide_eq_true_eq]; omega))
    refine ⟨(i + 1, ps ++ [gdD s.toList p], .slice A11 m11 c11, p + 32), by show n - (i + 1) < n - i; omega, (by repeat (first | exact Fr.le.nil | refine Fr.le.cons rfl ?_)), by show i + 1 ≤ n; omega, by simp [hpl], by show p + 32 ≤ _; omega, ?_, hE, hB2, hB5, by simpa [flatD] using hO11, hf11, by omega⟩
    show gmany gdig s.toList n a1 = gcat (ps ++ [gdD s.toList p]) (gmany gdig s.toList (n - (i + 1)) (p + 32))
    obtain ⟨k, hk⟩ : ∃ k, n - i = k + 1 := ⟨n - i - 1, by omega⟩
    rw [hgm, hk, gcat_ok hy.1, show n - (i + 1) = k by omega]
  -- else
  refine CW.exit ?_   -- exit 0
  refine hK12 _ _ ?_; try clear hK12 K12
  refine CW.seq fun K24 hK24 => ?_
  have hps : gmany gdig s.toList n a1 = .ok (ps, p) := by rw [hgm, show n - i = 0 by omega]; exact gcat_end
  refine CW.region ?_   -- region 15
  refine WL.val (Y.move rfl) (by decide) ?_   -- t54 := move t0
  refine WL.val (Y.move rfl) (by decide) ?_   -- t55 := move t7
  refine WL.call Try.func58 rfl rfl rfl (rGetText_any s p _ (by omega) hp) (by simp) ?_; rintro v w13 ⟨rfl, hx13⟩; have hz13 := hx13.size; have hE := hE.thenExt hx13; have hB2 := hB2.ext hx13; have hB5 := hB5.ext hx13   -- t56 := call F58(t54, t55) : 9,3
  refine WL.val (Y.move rfl) (by decide) ?_   -- t53 := move t56
  refine WL.val (Y.extract rfl rfl) (by decide) ?_   -- t57 := extract t53 0
  refine WL.val (Y.extract rfl rfl) (by decide) ?_   -- t58 := extract t53 1
  refine WL.val (Y.extract rfl rfl) (by decide) ?_   -- t59 := extract t53 2
  refine WL.val (Y.assign rfl) (by decide) ?_   -- t12 := assign t57
  refine WL.val (Y.assign rfl) (by decide) ?_   -- t13 := assign t58
  refine WL.val (Y.assign rfl) (by decide) ?_   -- t14 := assign t59
  refine WL.nil ?_
  refine hK24 _ _ ?_; try clear hK24 K24
  refine CW.seq fun K25 hK25 => ?_
  refine CW.seq fun K26 hK26 => ?_
  refine CW.region ?_   -- region 16
  refine WL.val (Y.move rfl) (by decide) ?_   -- t60 := move t14
  refine WL.val (Y.neq rfl rfl) (by decide) ?_   -- t61 := binOp neq 3 t60 c(0:i64) 3
  refine WL.nil ?_
  refine hK26 _ _ ?_; try clear hK26 K26
  first | refine CW.condD rfl (fun ht27 => ?_) (fun ht27 => ?_) | refine CW.condND rfl (fun ht27 => ?_) (fun ht27 => ?_) | refine CW.condN rfl (fun ht27 => ?_) (fun ht27 => ?_) | refine CW.cond rfl (fun ht27 => ?_) (fun ht27 => ?_)
  · -- then
    refine CW.seq fun K28 hK28 => ?_
    refine CW.region ?_   -- region 17
    refine WL.val (Y.load Try.underlying31 rfl hB5.mem (sz_apiCommit _ _ _ _) rfl) (by decide) ?_   -- t62 := load 31 t5
    refine WL.val (Y.move rfl) (by decide) ?_   -- t63 := move t14
    refine WL.store (g := g2) (pre := []) (old := comZ) (post := []) (new := comC (.slice Ap mp cp) (bs []) (bs []) (.slice none 0 0)) rfl rfl rfl rfl (sz_apiCommit _ _ _ _) (by simpa using hB2) (by first | rfl | (simp [digC_length, opC_length]; done) | (simp only [digC_length, opC_length]; omega)) (one_com) (fun w14 hc14 hB14_ => ?_)   -- _ := store 31 t2 t62
    have hz14 := hc14.size; have hE := hE.step hc14 (fun k h => by omega); have hB5 := hB5.chg hc14 (fun h => by omega)
    have hB2 : Blk w14 g2 TC (comC (.slice Ap mp cp) (bs []) (bs []) (.slice none 0 0)) := by simpa using hB14_
    refine WL.val (Y.assign rfl) (by decide) ?_   -- t3 := assign c(0:i64)
    refine WL.val (Y.assign rfl) (by decide) ?_   -- t4 := assign t63
    refine WL.nil ?_
    refine hK28 _ _ ?_; try clear hK28 K28
    refine CW.ret ?_
    exact ⟨_, _, _, rfl, hB2.mem, rfl, rfl, HeadR.err (hd4 hg (by omega) hps (gtE_ne (by assumption))) hE⟩
  -- else
  refine CW.skip ?_
  refine hK25 _ _ ?_; try clear hK25 K25
  refine CW.seq fun K29 hK29 => ?_
  obtain ⟨au, a3, hau, hT3, hX3⟩ := gtE_zero (bs := s.toList) (at_ := p) (by omega)
  rw [hT3, hX3]
  have hl3 := gtext_len hau (by omega)
  refine CW.region ?_   -- region 18
  refine WL.val (Y.move rfl) (by decide) ?_   -- t65 := move t0
  refine WL.val (Y.move rfl) (by decide) ?_   -- t66 := move t13
  refine WL.call Try.func58 rfl rfl rfl (rGetText_any s a3 _ (by omega) (by omega)) (by simp) ?_; rintro v w15 ⟨rfl, hx15⟩; have hz15 := hx15.size; have hE := hE.thenExt hx15; have hB2 := hB2.ext hx15; have hB5 := hB5.ext hx15   -- t67 := call F58(t65, t66) : 9,3
  refine WL.val (Y.move rfl) (by decide) ?_   -- t64 := move t67
  refine WL.val (Y.extract rfl rfl) (by decide) ?_   -- t68 := extract t64 0
  refine WL.val (Y.extract rfl rfl) (by decide) ?_   -- t69 := extract t64 1
  refine WL.val (Y.extract rfl rfl) (by decide) ?_   -- t70 := extract t64 2
  refine WL.val (Y.assign rfl) (by decide) ?_   -- t15 := assign t68
  refine WL.val (Y.assign rfl) (by decide) ?_   -- t16 := assign t69
  refine WL.val (Y.assign rfl) (by decide) ?_   -- t17 := assign t70
  refine WL.nil ?_
  refine hK29 _ _ ?_; try clear hK29 K29
  refine CW.seq fun K30 hK30 => ?_
  refine CW.seq fun K31 hK31 => ?_
  refine CW.region ?_   -- region 19
  refine WL.val (Y.move rfl) (by decide) ?_   -- t71 := move t17
  refine WL.val (Y.neq rfl rfl) (by decide) ?_   -- t72 := binOp neq 3 t71 c(0:i64) 3
  refine WL.nil ?_
  refine hK31 _ _ ?_; try clear hK31 K31
  first | refine CW.condD rfl (fun ht32 => ?_) (fun ht32 => ?_) | refine CW.condND rfl (fun ht32 => ?_) (fun ht32 => ?_) | refine CW.condN rfl (fun ht32 => ?_) (fun ht32 => ?_) | refine CW.cond rfl (fun ht32 => ?_) (fun ht32 => ?_)
  · -- then
    refine CW.seq fun K33 hK33 => ?_
    refine CW.region ?_   -- region 20
    refine WL.val (Y.load Try.underlying31 rfl hB5.mem (sz_apiCommit _ _ _ _) rfl) (by decide) ?_   -- t73 := load 31 t5
    refine WL.val (Y.move rfl) (by decide) ?_   -- t74 := move t17
    refine WL.store (g := g2) (pre := []) (old := comZ) (post := []) (new := comC (.slice Ap mp cp) (bs []) (bs []) (.slice none 0 0)) rfl rfl rfl rfl (sz_apiCommit _ _ _ _) (by simpa using hB2) (by first | rfl | (simp [digC_length, opC_length]; done) | (simp only [digC_length, opC_length]; omega)) (one_com) (fun w16 hc16 hB16_ => ?_)   -- _ := store 31 t2 t73
    have hz16 := hc16.size; have hE := hE.step hc16 (fun k h => by omega); have hB5 := hB5.chg hc16 (fun h => by omega)
    have hB2 : Blk w16 g2 TC (comC (.slice Ap mp cp) (bs []) (bs []) (.slice none 0 0)) := by simpa using hB16_
    refine WL.val (Y.assign rfl) (by decide) ?_   -- t3 := assign c(0:i64)
    refine WL.val (Y.assign rfl) (by decide) ?_   -- t4 := assign t74
    refine WL.nil ?_
    refine hK33 _ _ ?_; try clear hK33 K33
    refine CW.ret ?_
    exact ⟨_, _, _, rfl, hB2.mem, rfl, rfl, HeadR.err (hd5 hg (by omega) hps hau (gtE_ne (by assumption))) hE⟩
  -- else
  refine CW.skip ?_
  refine hK30 _ _ ?_; try clear hK30 K30
  refine CW.seq fun K34 hK34 => ?_
  obtain ⟨no, a4, hno, hT4, hX4⟩ := gtE_zero (bs := s.toList) (at_ := a3) (by omega)
  rw [hT4, hX4]
  have hl4 := gtext_len hno (by omega)
  refine CW.region ?_   -- region 21
  refine WL.val (Y.move rfl) (by decide) ?_   -- t75 := move t12
  refine WL.val (Y.fieldAddr fo_apiCommit1 rfl) (by decide) ?_   -- t76 := fieldAddr 31 t5 1
  refine WL.store (g := g5) (pre := [.slice Ap mp cp]) (old := [.string (bs [])]) (post := [.string (bs []), .slice none 0 0]) (new := [.string (bs au)]) rfl rfl rfl rfl (by kernel_rfl) hB5 (by first | rfl | (simp [digC_length, opC_length]; done) | (simp only [digC_length, opC_length]; omega)) (one1 rfl) (fun w17 hc17 hB17_ => ?_)   -- _ := store 9 t76 t75
  have hz17 := hc17.size; have hE := hE.step hc17 (fun k h => by omega); have hB2 := hB2.chg hc17 (fun h => by omega)
  have hB5 : Blk w17 g5 TC (comC (.slice Ap mp cp) (bs au) (bs []) (.slice none 0 0)) := hB17_
  have hO := (hO.ext (hx13.thenExt hx15)).chg hc17 (fun k hk h => by have := hfp k hk; omega)
  refine WL.nil ?_
  refine hK34 _ _ ?_; try clear hK34 K34
  refine CW.seq fun K35 hK35 => ?_
  refine CW.region ?_   -- region 22
  refine WL.val (Y.move rfl) (by decide) ?_   -- t77 := move t15
  refine WL.val (Y.fieldAddr fo_apiCommit2 rfl) (by decide) ?_   -- t78 := fieldAddr 31 t5 2
  refine WL.store (g := g5) (pre := [.slice Ap mp cp, .string (bs au)]) (old := [.string (bs [])]) (post := [.slice none 0 0]) (new := [.string (bs no)]) rfl rfl rfl rfl (by kernel_rfl) hB5 (by first | rfl | (simp [digC_length, opC_length]; done) | (simp only [digC_length, opC_length]; omega)) (one1 rfl) (fun w18 hc18 hB18_ => ?_)   -- _ := store 9 t78 t77
  have hz18 := hc18.size; have hE := hE.step hc18 (fun k h => by omega); have hB2 := hB2.chg hc18 (fun h => by omega)
  have hB5 : Blk w18 g5 TC (comC (.slice Ap mp cp) (bs au) (bs no) (.slice none 0 0)) := hB18_
  have hO := hO.chg hc18 (fun k hk h => by have := hfp k hk; omega)
  refine WL.nil ?_
  refine hK35 _ _ ?_; try clear hK35 K35
  refine CW.seq fun K36 hK36 => ?_
  refine CW.region ?_   -- region 23
  refine WL.val (Y.load Try.underlying31 rfl hB5.mem (sz_apiCommit _ _ _ _) rfl) (by decide) ?_   -- t79 := load 31 t5
  refine WL.val (Y.move rfl) (by decide) ?_   -- t80 := move t16
  refine WL.store (g := g2) (pre := []) (old := comZ) (post := []) (new := comC (.slice Ap mp cp) (bs au) (bs no) (.slice none 0 0)) rfl rfl rfl rfl (sz_apiCommit _ _ _ _) (by simpa using hB2) (by first | rfl | (simp [digC_length, opC_length]; done) | (simp only [digC_length, opC_length]; omega)) (one_com) (fun w19 hc19 hB19_ => ?_)   -- _ := store 31 t2 t79
  have hz19 := hc19.size; have hE := hE.step hc19 (fun k h => by omega); have hB5 := hB5.chg hc19 (fun h => by omega)
  have hB2 : Blk w19 g2 TC (comC (.slice Ap mp cp) (bs au) (bs no) (.slice none 0 0)) := by simpa using hB19_
  have hO := hO.chg hc19 (fun k hk h => by have := hfp k hk; omega)
  refine WL.val (Y.assign rfl) (by decide) ?_   -- t3 := assign t80
  refine WL.val (Y.assign rfl) (by decide) ?_   -- t4 := assign c(0:i64)
  refine WL.nil ?_
  refine hK36 _ _ ?_; try clear hK36 K36
  refine CW.ret ?_
  exact ⟨_, _, _, rfl, hB2.mem, rfl, rfl, HeadR.ok (hd6 hg (by omega) hps hau hno) hE hO (fun k hk => by have := hfp k hk; omega)⟩
end Go.Proofs.Ytfbagecopapfhaa
