/- The reader of a commit: all of it, walked. No condition. -/
import Derived.Test.YtoncdfpohdchgaaDoorRx
set_option linter.unusedSimpArgs false
set_option linter.unusedVariables false
namespace Go.Proofs.YtoncdfpohdchgaaDoor
open Go.RowKit Go.Fw Go.Pl
/-- The reading of a commit was given up. -/
abbrev CmS (b : List UInt8) (g : Nat) (w : World) (ch : List PanicEntry) (w' : World) : Prop := ∃ e, decI b = .error e ∧ ch = pan e ∧ Chg (· = g) w w'

theorem pcommit_any (g : Nat) (bv : Value) (b : List UInt8) (w : World) (hB : Blk w g 111 (rdC bv ((0 : Nat) : Int) (.slice none 0 0) (bs []) (bs []) (.slice none 0 0))) (hb : By w bv b) (hbg : b ≠ [] → ∀ k, bv.ownBlock = some k → k ≠ g) : Calls Tryd.prog 55 #[.pointer (some ⟨g, 0, none⟩)] w (RetOr (fun v w' => v = .tuple #[] ∧ ∃ c pv ov, decI b = .ok c ∧ Rdr w g bv w' b.length pv c.parents c.author c.note ov c.ops) (CmS b g w)) := by
  have hb0 := hb
  obtain ⟨A, mb, cb, rfl, hlb, hmcb, hcmb, _, _⟩ := hb0
  have hb0 := hb
  have hs : Rdr w g (.slice A mb cb) w 0 (.slice none 0 0) [] (bs []) (bs []) (.slice none 0 0) [] := ⟨hB.lt, Chg.refl, hB, .inl ⟨rfl, rfl⟩, fun k h => by simp [Value.ownBlock] at h, .inl ⟨rfl, rfl⟩, fun k h => by simp [Value.ownBlock] at h, fun k h => by simp [Value.ownBlock] at h⟩
  unfold maxLen at hcmb
  refine calls_of_CW_or 104 [] [(0, .pointer (some ⟨g, 0, none⟩))] Tryd.func55 rfl rfl rfl (by simp) args1 ?_
  refine CW.seq fun K1 hK1 => ?_
  refine CW.region ?_   -- region 0
  refine WL.val (Y.move rfl) (by decide) ?_   -- t4 := move t0
  refine WL.val (Y.nilCheck rfl) (by decide) ?_   -- t5 := nilCheck t4
  refine WL.val (Y.fieldAddr fo_commitreader0 rfl) (by decide) ?_   -- t6 := fieldAddr 111 t5 0
  refine WL.callOr Tryd.func65 rfl rfl rfl (pnum_any g _ (.slice A mb cb) b 0 _ _ hs.blk hb hbg (Nat.zero_le _)) (by simp) (fun ch w1 hP1 => ?_) ?_   -- t7 := call F65(t6) : 109
  · skip
    obtain ⟨e, h1, rfl, hc⟩ := hP1
    exact (⟨e, dec_e1 h1, rfl, hc⟩ : CmS b g w _ _)
  rintro v7 w1 hR1
  obtain ⟨n, a1, hg1, rfl, hc1, hB1⟩ := hR1
  have hs := hs.turn hc1 hB1
  have hl1 := gnum_len hg1 (Nat.zero_le _)
  refine WL.val (Y.assign rfl) (by decide) ?_   -- t2 := assign t7
  refine WL.nil ?_
  refine hK1 _ _ ?_; try clear hK1 K1
  refine CW.seq fun K2 hK2 => ?_
  refine CW.region ?_   -- region 1
  refine WL.val (Y.move rfl) (by decide) ?_   -- t8 := move t0
  refine WL.val (Y.nilCheck rfl) (by decide) ?_   -- t9 := nilCheck t8
  refine WL.val (Y.fieldAddr fo_commitreader0 rfl) (by decide) ?_   -- t10 := fieldAddr 111 t9 0
  refine WL.val (Y.move rfl) (by decide) ?_   -- t11 := move t2
  refine WL.val (Y.gtr rfl rfl) (by decide) ?_   -- t12 := binOp gtr 3 t11 c(8:i64) 3
  refine WL.callOr Tryd.func66 rfl rfl rfl (refuse_any _ _ _ _) (by simp) (fun ch w2 hP2 => ?_) ?_   -- t13 := call F66(t10, t12, c(4:i64)) : 109,4,23
  · skip
    obtain ⟨h1, rfl, hx⟩ := hP2
    have := of_decide_eq_true h1
    exact (⟨4, dec_e2 hg1 (by omega), rfl, (hs.ext hx).chg⟩ : CmS b g w _ _)
  rintro v13 w2 hR2
  obtain ⟨h1, rfl, hx2⟩ := hR2
  have hn := of_decide_eq_false h1
  have hn : ¬ 8 < n := by omega
  have hs := hs.ext hx2
  refine WL.nil ?_
  refine hK2 _ _ ?_; try clear hK2 K2
  refine CW.seq fun K3 hK3 => ?_
  refine CW.seq fun K4 hK4 => ?_
  refine CW.region ?_   -- region 2
  refine WL.val (Y.move rfl) (by decide) ?_   -- t14 := move t2
  refine WL.val (Y.move rfl) (by decide) ?_   -- t15 := move c(0:i64)
  refine WL.nil ?_
  refine hK4 _ _ ?_; try clear hK4 K4
  refine CW.block ?_   -- block 0
  refine CW.loop (X := Nat × List Dig × Value × Nat) (fun x => [(0, .pointer (some ⟨g, 0, none⟩)), (14, .int .i64 (n : Int)), (15, .int .i64 (x.1 : Int))]) (fun x w0 => x.1 ≤ n ∧ x.2.1.length = x.1 ∧ x.2.2.2 ≤ b.length ∧ gmany gdig b n a1 = gcat x.2.1 (gmany gdig b (n - x.1) x.2.2.2) ∧ Rdr w g (.slice A mb cb) w0 x.2.2.2 x.2.2.1 x.2.1 (bs []) (bs []) (.slice none 0 0) []) (fun x => n - x.1) (0, [], .slice none 0 0, a1) (by repeat (first | exact Fr.le.nil | refine Fr.le.cons rfl ?_)) ⟨Nat.zero_le _, rfl, hl1.2, (gcat_nil _).symm, hs⟩ ?_
  intro x w3 hl3
  clear hs
  obtain ⟨i, ps, pv, p⟩ := x
  dsimp only at hl3 ⊢
  obtain ⟨hi, hpl, hp, hgm, hs⟩ := hl3
  have hb := hb0.chg hs.chg hbg
  refine CW.seq fun K5 hK5 => ?_
  refine CW.region ?_   -- region 3
  refine WL.val (Y.lss rfl rfl) (by decide) ?_   -- t16 := binOp lss 3 t15 t14 3
  refine WL.nil ?_
  refine hK5 _ _ ?_; try clear hK5 K5
  refine CW.seq fun K6 hK6 => ?_
  first | refine CW.condD rfl (fun ht7 => ?_) (fun ht7 => ?_) | refine CW.condND rfl (fun ht7 => ?_) (fun ht7 => ?_) | refine CW.condN rfl (fun ht7 => ?_) (fun ht7 => ?_) | refine CW.cond rfl (fun ht7 => ?_) (fun ht7 => ?_)
  · -- then
    refine CW.skip ?_
    refine hK6 _ _ ?_; try clear hK6 K6
    refine CW.seq fun K8 hK8 => ?_
    refine CW.block ?_   -- block 1
    refine CW.held (fun _ => True) (by kernel_rfl) 16 rfl fun w4 hx4 => ?_
    have hs := hs.ext hx4
    have hb := hb.ext hx4
    have hB := hs.blk
    obtain ⟨k, hk⟩ : ∃ k, n - i = k + 1 := ⟨n - i - 1, by omega⟩
    rw [hk] at hgm
    refine RH.take 0 (fun _ _ _ _ h => h) (by kernel_rfl) trivial rfl (by kernel_rfl) (by kernel_rfl) (fun wq hq => Y.move rfl) (by decide) ?_   -- t17 := move t0
    refine RH.take 1 (fun _ _ _ _ h => h) (by kernel_rfl) trivial rfl (by kernel_rfl) (by kernel_rfl) (fun wq hq => Y.move rfl) (by decide) ?_   -- t18 := move t0
    refine RH.take 2 (fun _ _ _ _ h => h) (by kernel_rfl) trivial rfl (by kernel_rfl) (by kernel_rfl) (fun wq hq => Y.nilCheck rfl) (by decide) ?_   -- t19 := nilCheck t18
    refine RH.take 3 (fun _ _ _ _ h => h) (by kernel_rfl) trivial rfl (by kernel_rfl) (by kernel_rfl) (fun wq hq => Y.fieldAddr fo_commitreader1 rfl) (by decide) ?_   -- t20 := fieldAddr 111 t19 1
    refine RH.take 4 (fun _ _ _ _ h => h) (by kernel_rfl) trivial rfl (by kernel_rfl) (by kernel_rfl) (fun wq hq => Y.fieldAddr fo_apiCommit0 rfl) (by decide) ?_   -- t21 := fieldAddr 76 t20 0
    refine RH.take 6 (fun _ _ _ _ h => h) (by kernel_rfl) trivial rfl (by kernel_rfl) (by kernel_rfl) (fun wq hq => Y.move rfl) (by decide) ?_   -- t23 := move t0
    refine RH.take 7 (fun _ _ _ _ h => h) (by kernel_rfl) trivial rfl (by kernel_rfl) (by kernel_rfl) (fun wq hq => Y.nilCheck rfl) (by decide) ?_   -- t24 := nilCheck t23
    refine RH.take 8 (fun _ _ _ _ h => h) (by kernel_rfl) trivial rfl (by kernel_rfl) (by kernel_rfl) (fun wq hq => Y.fieldAddr fo_commitreader0 rfl) (by decide) ?_   -- t25 := fieldAddr 111 t24 0
    refine RH.two 5 9 (by kernel_rfl) ?_ ?_
    · skip
      refine RS.val rfl (Y.load1 Tryd.underlying29 rfl hB.mem.reader1.com0 rfl) (by decide) ⟨trivial, ?_⟩   -- t22 := load 29 t21
      refine RH.one 9 (by kernel_rfl) ?_
      refine RS.callOr rfl Tryd.func67 rfl rfl rfl (pdigest_any g _ (.slice A mb cb) b p _ _ hs.blk hb hbg hp) (by simp) (fun ch w5 hP5 => ?_) ?_   -- call F67(t25) : 109
      · skip
        obtain ⟨e, h1, rfl, hc⟩ := hP5
        exact (⟨e, dec_e3 hg1 hn (by rw [hgm]; exact gcat_err h1), rfl, hs.chg.trans hc (fun _ _ h => h)⟩ : CmS b g w _ _)
      rintro v26 w5 hR5
      obtain ⟨d, q, hd, rfl, hc5, hB5⟩ := hR5
      have hs := hs.turn hc5 hB5
      have hB := hs.blk
      have hql := gdig_len hd
      refine ⟨trivial, ?_⟩
      refine RH.one 10 (by kernel_rfl) ?_
      refine RS.st rfl (St.buildSlice rfl (bs1_dig d)) (by decide) fun v27 w6 hR6 => ?_   -- buildSlice 29 1 [(0,t26)]
      obtain ⟨k2, rfl, hg6, hB6, hx6⟩ := hR6
      have hs := hs.ext hx6
      have hB := hs.blk
      refine ⟨trivial, ?_⟩
      refine RH.one 11 (by kernel_rfl) ?_
      refine RS.st rfl (St.append Tryd.underlying29 Tryd.underlying29 ai_dig rfl rfl hs.ownP (Src.one hB6 (digC_length _)) one_digC (by rw [flat_length digC_length]; omega)) (by decide) fun v28 w7 hR7 => ?_   -- call append(t22, t27) : 29,29
      have hB7 := hs.stillP hR7.2.1
      obtain ⟨A7, m7, c7, rfl⟩ := hR7.1.lens
      refine ⟨trivial, ?_⟩
      refine RH.take 12 (fun _ _ _ _ h => h) (by kernel_rfl) trivial rfl (by kernel_rfl) (by kernel_rfl) (fun wq hq => Y.nilCheck rfl) (by decide) ?_   -- t29 := nilCheck t17
      refine RH.take 13 (fun _ _ _ _ h => h) (by kernel_rfl) trivial rfl (by kernel_rfl) (by kernel_rfl) (fun wq hq => Y.fieldAddr fo_commitreader1 rfl) (by decide) ?_   -- t30 := fieldAddr 111 t29 1
      refine RH.take 14 (fun _ _ _ _ h => h) (by kernel_rfl) trivial rfl (by kernel_rfl) (by kernel_rfl) (fun wq hq => Y.fieldAddr fo_apiCommit0 rfl) (by decide) ?_   -- t31 := fieldAddr 76 t30 0
      refine RH.one 15 (by kernel_rfl) ?_
      refine RS.store rfl (g := g) (pre := [(.slice A mb cb), .int .i64 (q : Int)]) (old := [pv]) (post := [.string (bs []), .string (bs []), .slice none 0 0]) (new := [.slice A7 m7 c7]) rfl rfl rfl rfl (by kernel_rfl) hB7 rfl (one1 rfl) (fun w8 hc8 hB8_ => ?_)   -- store 29 t31 t28
      have hs := hs.pushP (d := d) hR7 hc8 hB8_
      refine ⟨trivial, ?_⟩
      refine RH.done (by kernel_rfl) ?_
      refine hK8 _ _ ?_; try clear hK8 K8
      refine CW.region ?_   -- region 5
      refine WL.val (Y.add rfl rfl ⟨by omega, by omega⟩) (by decide) ?_   -- t32 := binOp add 3 t15 c(1:i64) 3
      refine WL.val (Y.move rfl) (by decide) ?_   -- t15 := move t32
      refine WL.nil ?_
      refine ⟨(i + 1, ps ++ [d], _, q), by show n - (i + 1) < n - i; omega, (by repeat (first | exact Fr.le.nil | refine Fr.le.cons rfl ?_)), by show i + 1 ≤ n; omega, by simp [hpl], hql, ?_, hs⟩
      show gmany gdig b n a1 = gcat (ps ++ [d]) (gmany gdig b (n - (i + 1)) q)
      rw [hgm, gcat_ok hd, show n - (i + 1) = k by omega]
    · skip
      refine RS.callOr rfl Tryd.func67 rfl rfl rfl (pdigest_any g _ (.slice A mb cb) b p _ _ hs.blk hb hbg hp) (by simp) (fun ch w9 hP9 => ?_) ?_   -- call F67(t25) : 109
      · skip
        obtain ⟨e, h1, rfl, hc⟩ := hP9
        exact (⟨e, dec_e3 hg1 hn (by rw [hgm]; exact gcat_err h1), rfl, hs.chg.trans hc (fun _ _ h => h)⟩ : CmS b g w _ _)
      rintro v26 w9 hR9
      obtain ⟨d, q, hd, rfl, hc5, hB5⟩ := hR9
      have hs := hs.turn hc5 hB5
      have hB := hs.blk
      have hql := gdig_len hd
      refine ⟨trivial, ?_⟩
      refine RH.two 5 10 (by kernel_rfl) ?_ ?_
      · skip
        refine RS.val rfl (Y.load1 Tryd.underlying29 rfl hB.mem.reader1.com0 rfl) (by decide) ⟨trivial, ?_⟩   -- t22 := load 29 t21
        refine RH.one 10 (by kernel_rfl) ?_
        refine RS.st rfl (St.buildSlice rfl (bs1_dig d)) (by decide) fun v27 w10 hR10 => ?_   -- buildSlice 29 1 [(0,t26)]
        obtain ⟨k2, rfl, hg6, hB6, hx6⟩ := hR10
        have hs := hs.ext hx6
        have hB := hs.blk
        refine ⟨trivial, ?_⟩
        refine RH.one 11 (by kernel_rfl) ?_
        refine RS.st rfl (St.append Tryd.underlying29 Tryd.underlying29 ai_dig rfl rfl hs.ownP (Src.one hB6 (digC_length _)) one_digC (by rw [flat_length digC_length]; omega)) (by decide) fun v28 w11 hR11 => ?_   -- call append(t22, t27) : 29,29
        have hB7 := hs.stillP hR11.2.1
        obtain ⟨A7, m7, c7, rfl⟩ := hR11.1.lens
        refine ⟨trivial, ?_⟩
        refine RH.take 12 (fun _ _ _ _ h => h) (by kernel_rfl) trivial rfl (by kernel_rfl) (by kernel_rfl) (fun wq hq => Y.nilCheck rfl) (by decide) ?_   -- t29 := nilCheck t17
        refine RH.take 13 (fun _ _ _ _ h => h) (by kernel_rfl) trivial rfl (by kernel_rfl) (by kernel_rfl) (fun wq hq => Y.fieldAddr fo_commitreader1 rfl) (by decide) ?_   -- t30 := fieldAddr 111 t29 1
        refine RH.take 14 (fun _ _ _ _ h => h) (by kernel_rfl) trivial rfl (by kernel_rfl) (by kernel_rfl) (fun wq hq => Y.fieldAddr fo_apiCommit0 rfl) (by decide) ?_   -- t31 := fieldAddr 76 t30 0
        refine RH.one 15 (by kernel_rfl) ?_
        refine RS.store rfl (g := g) (pre := [(.slice A mb cb), .int .i64 (q : Int)]) (old := [pv]) (post := [.string (bs []), .string (bs []), .slice none 0 0]) (new := [.slice A7 m7 c7]) rfl rfl rfl rfl (by kernel_rfl) hB7 rfl (one1 rfl) (fun w12 hc12 hB12_ => ?_)   -- store 29 t31 t28
        have hs := hs.pushP (d := d) hR11 hc12 hB12_
        refine ⟨trivial, ?_⟩
        refine RH.done (by kernel_rfl) ?_
        refine hK8 _ _ ?_; try clear hK8 K8
        refine CW.region ?_   -- region 5
        refine WL.val (Y.add rfl rfl ⟨by omega, by omega⟩) (by decide) ?_   -- t32 := binOp add 3 t15 c(1:i64) 3
        refine WL.val (Y.move rfl) (by decide) ?_   -- t15 := move t32
        refine WL.nil ?_
        refine ⟨(i + 1, ps ++ [d], _, q), by show n - (i + 1) < n - i; omega, (by repeat (first | exact Fr.le.nil | refine Fr.le.cons rfl ?_)), by show i + 1 ≤ n; omega, by simp [hpl], hql, ?_, hs⟩
        show gmany gdig b n a1 = gcat (ps ++ [d]) (gmany gdig b (n - (i + 1)) q)
        rw [hgm, gcat_ok hd, show n - (i + 1) = k by omega]
      · skip
        refine RS.st rfl (St.buildSlice rfl (bs1_dig d)) (by decide) fun v27 w13 hR13 => ?_   -- buildSlice 29 1 [(0,t26)]
        obtain ⟨k2, rfl, hg6, hB6, hx6⟩ := hR13
        have hs := hs.ext hx6
        have hB := hs.blk
        refine ⟨trivial, ?_⟩
        refine RH.one 5 (by kernel_rfl) ?_
        refine RS.val rfl (Y.load1 Tryd.underlying29 rfl hB.mem.reader1.com0 rfl) (by decide) ⟨trivial, ?_⟩   -- t22 := load 29 t21
        refine RH.one 11 (by kernel_rfl) ?_
        refine RS.st rfl (St.append Tryd.underlying29 Tryd.underlying29 ai_dig rfl rfl hs.ownP (Src.one hB6 (digC_length _)) one_digC (by rw [flat_length digC_length]; omega)) (by decide) fun v28 w14 hR14 => ?_   -- call append(t22, t27) : 29,29
        have hB7 := hs.stillP hR14.2.1
        obtain ⟨A7, m7, c7, rfl⟩ := hR14.1.lens
        refine ⟨trivial, ?_⟩
        refine RH.take 12 (fun _ _ _ _ h => h) (by kernel_rfl) trivial rfl (by kernel_rfl) (by kernel_rfl) (fun wq hq => Y.nilCheck rfl) (by decide) ?_   -- t29 := nilCheck t17
        refine RH.take 13 (fun _ _ _ _ h => h) (by kernel_rfl) trivial rfl (by kernel_rfl) (by kernel_rfl) (fun wq hq => Y.fieldAddr fo_commitreader1 rfl) (by decide) ?_   -- t30 := fieldAddr 111 t29 1
        refine RH.take 14 (fun _ _ _ _ h => h) (by kernel_rfl) trivial rfl (by kernel_rfl) (by kernel_rfl) (fun wq hq => Y.fieldAddr fo_apiCommit0 rfl) (by decide) ?_   -- t31 := fieldAddr 76 t30 0
        refine RH.one 15 (by kernel_rfl) ?_
        refine RS.store rfl (g := g) (pre := [(.slice A mb cb), .int .i64 (q : Int)]) (old := [pv]) (post := [.string (bs []), .string (bs []), .slice none 0 0]) (new := [.slice A7 m7 c7]) rfl rfl rfl rfl (by kernel_rfl) hB7 rfl (one1 rfl) (fun w15 hc15 hB15_ => ?_)   -- store 29 t31 t28
        have hs := hs.pushP (d := d) hR14 hc15 hB15_
        refine ⟨trivial, ?_⟩
        refine RH.done (by kernel_rfl) ?_
        refine hK8 _ _ ?_; try clear hK8 K8
        refine CW.region ?_   -- region 5
        refine WL.val (Y.add rfl rfl ⟨by omega, by omega⟩) (by decide) ?_   -- t32 := binOp add 3 t15 c(1:i64) 3
        refine WL.val (Y.move rfl) (by decide) ?_   -- t15 := move t32
        refine WL.nil ?_
        refine ⟨(i + 1, ps ++ [d], _, q), by show n - (i + 1) < n - i; omega, (by repeat (first | exact Fr.le.nil | refine Fr.le.cons rfl ?_)), by show i + 1 ≤ n; omega, by simp [hpl], hql, ?_, hs⟩
        show gmany gdig b n a1 = gcat (ps ++ [d]) (gmany gdig b (n - (i + 1)) q)
        rw [hgm, gcat_ok hd, show n - (i + 1) = k by omega]
  -- else
  refine CW.exit ?_   -- exit 0
  refine hK3 _ _ ?_; try clear hK3 K3
  refine CW.seq fun K9 hK9 => ?_
  have hps : gmany gdig b n a1 = .ok (ps, p) := by rw [hgm, show n - i = 0 by omega]; exact gcat_end
  refine CW.region ?_   -- region 6
  refine WL.val (Y.move rfl) (by decide) ?_   -- t33 := move t0
  refine WL.val (Y.move rfl) (by decide) ?_   -- t34 := move t0
  refine WL.val (Y.nilCheck rfl) (by decide) ?_   -- t35 := nilCheck t34
  refine WL.val (Y.fieldAddr fo_commitreader0 rfl) (by decide) ?_   -- t36 := fieldAddr 111 t35 0
  refine WL.callOr Tryd.func68 rfl rfl rfl (ptext_any g _ (.slice A mb cb) b p _ _ hs.blk hb hbg hp) (by simp) (fun ch w16 hP16 => ?_) ?_   -- t37 := call F68(t36) : 109
  · skip
    obtain ⟨e, h1, rfl, hc⟩ := hP16
    exact (⟨e, dec_e4 hg1 hn hps h1, rfl, hs.chg.trans hc (fun _ _ h => h)⟩ : CmS b g w _ _)
  rintro v37 w16 hR16
  obtain ⟨au, a3, hau, rfl, hc16, hB16⟩ := hR16
  have hs := hs.turn hc16 hB16
  have hla := gtext_len hau hp
  refine WL.val (Y.nilCheck rfl) (by decide) ?_   -- t38 := nilCheck t33
  refine WL.val (Y.fieldAddr fo_commitreader1 rfl) (by decide) ?_   -- t39 := fieldAddr 111 t38 1
  refine WL.val (Y.fieldAddr fo_apiCommit1 rfl) (by decide) ?_   -- t40 := fieldAddr 76 t39 1
  refine WL.store (g := g) (pre := [(.slice A mb cb), .int .i64 (a3 : Int), pv]) (old := [.string (bs [])]) (post := [.string (bs []), .slice none 0 0]) (new := [.string (bs au)]) rfl rfl rfl rfl (by kernel_rfl) hs.blk (by first | rfl | (simp [digC_length, opC_length]; done) | (simp only [digC_length, opC_length]; omega)) (one1 rfl) (fun w17 hc17 hB17_ => ?_)   -- _ := store 9 t40 t37
  have hs := hs.turn hc17 (q := a3) (au' := bs au) hB17_
  have hb := hb0.chg hs.chg hbg
  refine WL.nil ?_
  refine hK9 _ _ ?_; try clear hK9 K9
  refine CW.seq fun K10 hK10 => ?_
  refine CW.region ?_   -- region 7
  refine WL.val (Y.move rfl) (by decide) ?_   -- t41 := move t0
  refine WL.val (Y.move rfl) (by decide) ?_   -- t42 := move t0
  refine WL.val (Y.nilCheck rfl) (by decide) ?_   -- t43 := nilCheck t42
  refine WL.val (Y.fieldAddr fo_commitreader0 rfl) (by decide) ?_   -- t44 := fieldAddr 111 t43 0
  refine WL.callOr Tryd.func68 rfl rfl rfl (ptext_any g _ (.slice A mb cb) b a3 _ _ hs.blk hb hbg hla.2.1) (by simp) (fun ch w18 hP18 => ?_) ?_   -- t45 := call F68(t44) : 109
  · skip
    obtain ⟨e, h1, rfl, hc⟩ := hP18
    exact (⟨e, dec_e5 hg1 hn hps hau h1, rfl, hs.chg.trans hc (fun _ _ h => h)⟩ : CmS b g w _ _)
  rintro v45 w18 hR18
  obtain ⟨no, a4, hno, rfl, hc18, hB18⟩ := hR18
  have hs := hs.turn hc18 hB18
  have hln := gtext_len hno hla.2.1
  refine WL.val (Y.nilCheck rfl) (by decide) ?_   -- t46 := nilCheck t41
  refine WL.val (Y.fieldAddr fo_commitreader1 rfl) (by decide) ?_   -- t47 := fieldAddr 111 t46 1
  refine WL.val (Y.fieldAddr fo_apiCommit2 rfl) (by decide) ?_   -- t48 := fieldAddr 76 t47 2
  refine WL.store (g := g) (pre := [(.slice A mb cb), .int .i64 (a4 : Int), pv, .string (bs au)]) (old := [.string (bs [])]) (post := [.slice none 0 0]) (new := [.string (bs no)]) rfl rfl rfl rfl (by kernel_rfl) hs.blk (by first | rfl | (simp [digC_length, opC_length]; done) | (simp only [digC_length, opC_length]; omega)) (one1 rfl) (fun w19 hc19 hB19_ => ?_)   -- _ := store 9 t48 t45
  have hs := hs.turn hc19 (q := a4) (no' := bs no) hB19_
  have hb := hb0.chg hs.chg hbg
  refine WL.nil ?_
  refine hK10 _ _ ?_; try clear hK10 K10
  refine CW.seq fun K11 hK11 => ?_
  refine CW.region ?_   -- region 8
  refine WL.val (Y.move rfl) (by decide) ?_   -- t49 := move t0
  refine WL.val (Y.nilCheck rfl) (by decide) ?_   -- t50 := nilCheck t49
  refine WL.val (Y.fieldAddr fo_commitreader0 rfl) (by decide) ?_   -- t51 := fieldAddr 111 t50 0
  refine WL.callOr Tryd.func65 rfl rfl rfl (pnum_any g _ (.slice A mb cb) b a4 _ _ hs.blk hb hbg hln.2.1) (by simp) (fun ch w20 hP20 => ?_) ?_   -- t52 := call F65(t51) : 109
  · skip
    obtain ⟨e, h1, rfl, hc⟩ := hP20
    exact (⟨e, dec_e6 hg1 hn hps hau hno h1, rfl, hs.chg.trans hc (fun _ _ h => h)⟩ : CmS b g w _ _)
  rintro v52 w20 hR20
  obtain ⟨m, a5, hgm1, rfl, hc20, hB20⟩ := hR20
  have hs := hs.turn hc20 hB20
  have hl5 := gnum_len hgm1 hln.2.1
  refine WL.val (Y.assign rfl) (by decide) ?_   -- t2 := assign t52
  refine WL.nil ?_
  refine hK11 _ _ ?_; try clear hK11 K11
  refine CW.seq fun K12 hK12 => ?_
  refine CW.region ?_   -- region 9
  refine WL.val (Y.move rfl) (by decide) ?_   -- t53 := move t0
  refine WL.val (Y.nilCheck rfl) (by decide) ?_   -- t54 := nilCheck t53
  refine WL.val (Y.fieldAddr fo_commitreader0 rfl) (by decide) ?_   -- t55 := fieldAddr 111 t54 0
  refine WL.val (Y.move rfl) (by decide) ?_   -- t56 := move t2
  refine WL.val (Y.gtr rfl rfl) (by decide) ?_   -- t57 := binOp gtr 3 t56 c(2000:i64) 3
  refine WL.callOr Tryd.func66 rfl rfl rfl (refuse_any _ _ _ _) (by simp) (fun ch w21 hP21 => ?_) ?_   -- t58 := call F66(t55, t57, c(4:i64)) : 109,4,23
  · skip
    obtain ⟨h1, rfl, hx⟩ := hP21
    have := of_decide_eq_true h1
    exact (⟨4, dec_e7 hg1 hn hps hau hno hgm1 (by omega), rfl, (hs.ext hx).chg⟩ : CmS b g w _ _)
  rintro v58 w21 hR21
  obtain ⟨h1, rfl, hx21⟩ := hR21
  have hm := of_decide_eq_false h1
  have hm : ¬ 2000 < m := by omega
  have hs := hs.ext hx21
  refine WL.nil ?_
  refine hK12 _ _ ?_; try clear hK12 K12
  refine CW.seq fun K13 hK13 => ?_
  refine CW.seq fun K14 hK14 => ?_
  refine CW.region ?_   -- region 10
  refine WL.val (Y.move rfl) (by decide) ?_   -- t59 := move t2
  refine WL.val (Y.move rfl) (by decide) ?_   -- t60 := move c(0:i64)
  refine WL.nil ?_
  refine hK14 _ _ ?_; try clear hK14 K14
  refine CW.block ?_   -- block 2
  refine CW.loop (X := Nat × List OpD × Value × Nat) (fun x => [(0, .pointer (some ⟨g, 0, none⟩)), (59, .int .i64 (m : Int)), (60, .int .i64 (x.1 : Int))]) (fun x w0 => x.1 ≤ m ∧ x.2.1.length = x.1 ∧ x.2.2.2 ≤ b.length ∧ gmany gop b m a5 = gcat x.2.1 (gmany gop b (m - x.1) x.2.2.2) ∧ Rdr w g (.slice A mb cb) w0 x.2.2.2 pv ps (bs au) (bs no) x.2.2.1 x.2.1) (fun x => m - x.1) (0, [], .slice none 0 0, a5) (by repeat (first | exact Fr.le.nil | refine Fr.le.cons rfl ?_)) ⟨Nat.zero_le _, rfl, hl5.2, (gcat_nil _).symm, hs⟩ ?_
  intro x w22 hl22
  clear hs
  obtain ⟨j, os, ov, r⟩ := x
  dsimp only at hl22 ⊢
  obtain ⟨hj, hol, hr, hgo, hs⟩ := hl22
  have hb := hb0.chg hs.chg hbg
  refine CW.seq fun K15 hK15 => ?_
  refine CW.region ?_   -- region 11
  refine WL.val (Y.lss rfl rfl) (by decide) ?_   -- t61 := binOp lss 3 t60 t59 3
  refine WL.nil ?_
  refine hK15 _ _ ?_; try clear hK15 K15
  refine CW.seq fun K16 hK16 => ?_
  first | refine CW.condD rfl (fun ht17 => ?_) (fun ht17 => ?_) | refine CW.condND rfl (fun ht17 => ?_) (fun ht17 => ?_) | refine CW.condN rfl (fun ht17 => ?_) (fun ht17 => ?_) | refine CW.cond rfl (fun ht17 => ?_) (fun ht17 => ?_)
  · -- then
    refine CW.skip ?_
    refine hK16 _ _ ?_; try clear hK16 K16
    refine CW.seq fun K18 hK18 => ?_
    refine CW.block ?_   -- block 3
    refine CW.held (fun _ => True) (by kernel_rfl) 14 rfl fun w23 hx23 => ?_
    have hs := hs.ext hx23
    have hb := hb.ext hx23
    have hB := hs.blk
    obtain ⟨k, hk⟩ : ∃ k, m - j = k + 1 := ⟨m - j - 1, by omega⟩
    rw [hk] at hgo
    refine RH.take 0 (fun _ _ _ _ h => h) (by kernel_rfl) trivial rfl (by kernel_rfl) (by kernel_rfl) (fun wq hq => Y.move rfl) (by decide) ?_   -- t62 := move t0
    refine RH.take 1 (fun _ _ _ _ h => h) (by kernel_rfl) trivial rfl (by kernel_rfl) (by kernel_rfl) (fun wq hq => Y.move rfl) (by decide) ?_   -- t63 := move t0
    refine RH.take 2 (fun _ _ _ _ h => h) (by kernel_rfl) trivial rfl (by kernel_rfl) (by kernel_rfl) (fun wq hq => Y.nilCheck rfl) (by decide) ?_   -- t64 := nilCheck t63
    refine RH.take 3 (fun _ _ _ _ h => h) (by kernel_rfl) trivial rfl (by kernel_rfl) (by kernel_rfl) (fun wq hq => Y.fieldAddr fo_commitreader1 rfl) (by decide) ?_   -- t65 := fieldAddr 111 t64 1
    refine RH.take 4 (fun _ _ _ _ h => h) (by kernel_rfl) trivial rfl (by kernel_rfl) (by kernel_rfl) (fun wq hq => Y.fieldAddr fo_apiCommit3 rfl) (by decide) ?_   -- t66 := fieldAddr 76 t65 3
    refine RH.take 6 (fun _ _ _ _ h => h) (by kernel_rfl) trivial rfl (by kernel_rfl) (by kernel_rfl) (fun wq hq => Y.move rfl) (by decide) ?_   -- t68 := move t0
    refine RH.two 5 7 (by kernel_rfl) ?_ ?_
    · skip
      refine RS.val rfl (Y.load1 Tryd.underlying74 rfl hB.mem.reader1.com3 rfl) (by decide) ⟨trivial, ?_⟩   -- t67 := load 74 t66
      refine RH.one 7 (by kernel_rfl) ?_
      refine RS.callOr rfl Tryd.func69 rfl rfl rfl (pop_any g _ (.slice A mb cb) b r _ _ hs.blk hb hbg hr) (by simp) (fun ch w24 hP24 => ?_) ?_   -- call F69(t68) : 127
      · skip
        obtain ⟨e, h1, rfl, hc⟩ := hP24
        exact (⟨e, dec_e8 hg1 hn hps hau hno hgm1 hm (by rw [hgo]; exact gcat_err h1), rfl, hs.chg.trans hc (fun _ _ h => h)⟩ : CmS b g w _ _)
      rintro v69 w24 hR24
      obtain ⟨y, q, hy, rfl, hc5, hB5⟩ := hR24
      have hs := hs.turn hc5 hB5
      have hB := hs.blk
      have hql := gop_len hy hr
      refine ⟨trivial, ?_⟩
      refine RH.one 8 (by kernel_rfl) ?_
      refine RS.st rfl (St.buildSlice rfl (bs1_op y)) (by decide) fun v70 w25 hR25 => ?_   -- buildSlice 74 1 [(0,t69)]
      obtain ⟨k2, rfl, hg6, hB6, hx6⟩ := hR25
      have hs := hs.ext hx6
      have hB := hs.blk
      refine ⟨trivial, ?_⟩
      refine RH.one 9 (by kernel_rfl) ?_
      refine RS.st rfl (St.append Tryd.underlying74 Tryd.underlying74 ai_op rfl rfl hs.ownO (Src.one hB6 (opC_length _)) one_opC (by rw [flat_length opC_length]; omega)) (by decide) fun v71 w26 hR26 => ?_   -- call append(t67, t70) : 74,74
      have hB7 := hs.stillO hR26.2.1
      obtain ⟨A7, m7, c7, rfl⟩ := hR26.1.lens
      refine ⟨trivial, ?_⟩
      refine RH.take 10 (fun _ _ _ _ h => h) (by kernel_rfl) trivial rfl (by kernel_rfl) (by kernel_rfl) (fun wq hq => Y.nilCheck rfl) (by decide) ?_   -- t72 := nilCheck t62
      refine RH.take 11 (fun _ _ _ _ h => h) (by kernel_rfl) trivial rfl (by kernel_rfl) (by kernel_rfl) (fun wq hq => Y.fieldAddr fo_commitreader1 rfl) (by decide) ?_   -- t73 := fieldAddr 111 t72 1
      refine RH.take 12 (fun _ _ _ _ h => h) (by kernel_rfl) trivial rfl (by kernel_rfl) (by kernel_rfl) (fun wq hq => Y.fieldAddr fo_apiCommit3 rfl) (by decide) ?_   -- t74 := fieldAddr 76 t73 3
      refine RH.one 13 (by kernel_rfl) ?_
      refine RS.store rfl (g := g) (pre := [(.slice A mb cb), .int .i64 (q : Int), pv, .string (bs au), .string (bs no)]) (old := [ov]) (post := []) (new := [.slice A7 m7 c7]) rfl rfl rfl rfl (by kernel_rfl) hB7 rfl (one1 rfl) (fun w27 hc27 hB27_ => ?_)   -- store 74 t74 t71
      have hs := hs.pushO (x := y) hR26 hc27 hB27_
      refine ⟨trivial, ?_⟩
      refine RH.done (by kernel_rfl) ?_
      refine hK18 _ _ ?_; try clear hK18 K18
      refine CW.region ?_   -- region 13
      refine WL.val (Y.add rfl rfl ⟨by omega, by omega⟩) (by decide) ?_   -- t75 := binOp add 3 t60 c(1:i64) 3
      refine WL.val (Y.move rfl) (by decide) ?_   -- t60 := move t75
      refine WL.nil ?_
      refine ⟨(j + 1, os ++ [y], _, q), by show m - (j + 1) < m - j; omega, (by repeat (first | exact Fr.le.nil | refine Fr.le.cons rfl ?_)), by show j + 1 ≤ m; omega, by simp [hol], hql, ?_, hs⟩
      show gmany gop b m a5 = gcat (os ++ [y]) (gmany gop b (m - (j + 1)) q)
      rw [hgo, gcat_ok hy, show m - (j + 1) = k by omega]
    · skip
      refine RS.callOr rfl Tryd.func69 rfl rfl rfl (pop_any g _ (.slice A mb cb) b r _ _ hs.blk hb hbg hr) (by simp) (fun ch w28 hP28 => ?_) ?_   -- call F69(t68) : 127
      · skip
        obtain ⟨e, h1, rfl, hc⟩ := hP28
        exact (⟨e, dec_e8 hg1 hn hps hau hno hgm1 hm (by rw [hgo]; exact gcat_err h1), rfl, hs.chg.trans hc (fun _ _ h => h)⟩ : CmS b g w _ _)
      rintro v69 w28 hR28
      obtain ⟨y, q, hy, rfl, hc5, hB5⟩ := hR28
      have hs := hs.turn hc5 hB5
      have hB := hs.blk
      have hql := gop_len hy hr
      refine ⟨trivial, ?_⟩
      refine RH.two 5 8 (by kernel_rfl) ?_ ?_
      · skip
        refine RS.val rfl (Y.load1 Tryd.underlying74 rfl hB.mem.reader1.com3 rfl) (by decide) ⟨trivial, ?_⟩   -- t67 := load 74 t66
        refine RH.one 8 (by kernel_rfl) ?_
        refine RS.st rfl (St.buildSlice rfl (bs1_op y)) (by decide) fun v70 w29 hR29 => ?_   -- buildSlice 74 1 [(0,t69)]
        obtain ⟨k2, rfl, hg6, hB6, hx6⟩ := hR29
        have hs := hs.ext hx6
        have hB := hs.blk
        refine ⟨trivial, ?_⟩
        refine RH.one 9 (by kernel_rfl) ?_
        refine RS.st rfl (St.append Tryd.underlying74 Tryd.underlying74 ai_op rfl rfl hs.ownO (Src.one hB6 (opC_length _)) one_opC (by rw [flat_length opC_length]; omega)) (by decide) fun v71 w30 hR30 => ?_   -- call append(t67, t70) : 74,74
        have hB7 := hs.stillO hR30.2.1
        obtain ⟨A7, m7, c7, rfl⟩ := hR30.1.lens
        refine ⟨trivial, ?_⟩
        refine RH.take 10 (fun _ _ _ _ h => h) (by kernel_rfl) trivial rfl (by kernel_rfl) (by kernel_rfl) (fun wq hq => Y.nilCheck rfl) (by decide) ?_   -- t72 := nilCheck t62
        refine RH.take 11 (fun _ _ _ _ h => h) (by kernel_rfl) trivial rfl (by kernel_rfl) (by kernel_rfl) (fun wq hq => Y.fieldAddr fo_commitreader1 rfl) (by decide) ?_   -- t73 := fieldAddr 111 t72 1
        refine RH.take 12 (fun _ _ _ _ h => h) (by kernel_rfl) trivial rfl (by kernel_rfl) (by kernel_rfl) (fun wq hq => Y.fieldAddr fo_apiCommit3 rfl) (by decide) ?_   -- t74 := fieldAddr 76 t73 3
        refine RH.one 13 (by kernel_rfl) ?_
        refine RS.store rfl (g := g) (pre := [(.slice A mb cb), .int .i64 (q : Int), pv, .string (bs au), .string (bs no)]) (old := [ov]) (post := []) (new := [.slice A7 m7 c7]) rfl rfl rfl rfl (by kernel_rfl) hB7 rfl (one1 rfl) (fun w31 hc31 hB31_ => ?_)   -- store 74 t74 t71
        have hs := hs.pushO (x := y) hR30 hc31 hB31_
        refine ⟨trivial, ?_⟩
        refine RH.done (by kernel_rfl) ?_
        refine hK18 _ _ ?_; try clear hK18 K18
        refine CW.region ?_   -- region 13
        refine WL.val (Y.add rfl rfl ⟨by omega, by omega⟩) (by decide) ?_   -- t75 := binOp add 3 t60 c(1:i64) 3
        refine WL.val (Y.move rfl) (by decide) ?_   -- t60 := move t75
        refine WL.nil ?_
        refine ⟨(j + 1, os ++ [y], _, q), by show m - (j + 1) < m - j; omega, (by repeat (first | exact Fr.le.nil | refine Fr.le.cons rfl ?_)), by show j + 1 ≤ m; omega, by simp [hol], hql, ?_, hs⟩
        show gmany gop b m a5 = gcat (os ++ [y]) (gmany gop b (m - (j + 1)) q)
        rw [hgo, gcat_ok hy, show m - (j + 1) = k by omega]
      · skip
        refine RS.st rfl (St.buildSlice rfl (bs1_op y)) (by decide) fun v70 w32 hR32 => ?_   -- buildSlice 74 1 [(0,t69)]
        obtain ⟨k2, rfl, hg6, hB6, hx6⟩ := hR32
        have hs := hs.ext hx6
        have hB := hs.blk
        refine ⟨trivial, ?_⟩
        refine RH.one 5 (by kernel_rfl) ?_
        refine RS.val rfl (Y.load1 Tryd.underlying74 rfl hB.mem.reader1.com3 rfl) (by decide) ⟨trivial, ?_⟩   -- t67 := load 74 t66
        refine RH.one 9 (by kernel_rfl) ?_
        refine RS.st rfl (St.append Tryd.underlying74 Tryd.underlying74 ai_op rfl rfl hs.ownO (Src.one hB6 (opC_length _)) one_opC (by rw [flat_length opC_length]; omega)) (by decide) fun v71 w33 hR33 => ?_   -- call append(t67, t70) : 74,74
        have hB7 := hs.stillO hR33.2.1
        obtain ⟨A7, m7, c7, rfl⟩ := hR33.1.lens
        refine ⟨trivial, ?_⟩
        refine RH.take 10 (fun _ _ _ _ h => h) (by kernel_rfl) trivial rfl (by kernel_rfl) (by kernel_rfl) (fun wq hq => Y.nilCheck rfl) (by decide) ?_   -- t72 := nilCheck t62
        refine RH.take 11 (fun _ _ _ _ h => h) (by kernel_rfl) trivial rfl (by kernel_rfl) (by kernel_rfl) (fun wq hq => Y.fieldAddr fo_commitreader1 rfl) (by decide) ?_   -- t73 := fieldAddr 111 t72 1
        refine RH.take 12 (fun _ _ _ _ h => h) (by kernel_rfl) trivial rfl (by kernel_rfl) (by kernel_rfl) (fun wq hq => Y.fieldAddr fo_apiCommit3 rfl) (by decide) ?_   -- t74 := fieldAddr 76 t73 3
        refine RH.one 13 (by kernel_rfl) ?_
        refine RS.store rfl (g := g) (pre := [(.slice A mb cb), .int .i64 (q : Int), pv, .string (bs au), .string (bs no)]) (old := [ov]) (post := []) (new := [.slice A7 m7 c7]) rfl rfl rfl rfl (by kernel_rfl) hB7 rfl (one1 rfl) (fun w34 hc34 hB34_ => ?_)   -- store 74 t74 t71
        have hs := hs.pushO (x := y) hR33 hc34 hB34_
        refine ⟨trivial, ?_⟩
        refine RH.done (by kernel_rfl) ?_
        refine hK18 _ _ ?_; try clear hK18 K18
        refine CW.region ?_   -- region 13
        refine WL.val (Y.add rfl rfl ⟨by omega, by omega⟩) (by decide) ?_   -- t75 := binOp add 3 t60 c(1:i64) 3
        refine WL.val (Y.move rfl) (by decide) ?_   -- t60 := move t75
        refine WL.nil ?_
        refine ⟨(j + 1, os ++ [y], _, q), by show m - (j + 1) < m - j; omega, (by repeat (first | exact Fr.le.nil | refine Fr.le.cons rfl ?_)), by show j + 1 ≤ m; omega, by simp [hol], hql, ?_, hs⟩
        show gmany gop b m a5 = gcat (os ++ [y]) (gmany gop b (m - (j + 1)) q)
        rw [hgo, gcat_ok hy, show m - (j + 1) = k by omega]
  -- else
  refine CW.exit ?_   -- exit 2
  refine hK13 _ _ ?_; try clear hK13 K13
  refine CW.seq fun K19 hK19 => ?_
  have hB := hs.blk
  have hos : gmany gop b m a5 = .ok (os, r) := by rw [hgo, show m - j = 0 by omega]; exact gcat_end
  refine CW.held (fun wq => Ext w22 wq) (by kernel_rfl) 16 rfl fun w35 hS => ?_
  refine RH.take 0 (fun _ _ _ _ h => h) (by kernel_rfl) hS rfl (by kernel_rfl) (by kernel_rfl) (fun wq hq => Y.move rfl) (by decide) ?_   -- t76 := move t0
  refine RH.take 1 (fun _ _ _ _ h => h) (by kernel_rfl) hS rfl (by kernel_rfl) (by kernel_rfl) (fun wq hq => Y.nilCheck rfl) (by decide) ?_   -- t77 := nilCheck t76
  refine RH.take 2 (fun _ _ _ _ h => h) (by kernel_rfl) hS rfl (by kernel_rfl) (by kernel_rfl) (fun wq hq => Y.fieldAddr fo_commitreader0 rfl) (by decide) ?_   -- t78 := fieldAddr 111 t77 0
  refine RH.take 3 (fun _ _ _ _ h => h) (by kernel_rfl) hS rfl (by kernel_rfl) (by kernel_rfl) (fun wq hq => Y.move rfl) (by decide) ?_   -- t79 := move t0
  refine RH.take 4 (fun _ _ _ _ h => h) (by kernel_rfl) hS rfl (by kernel_rfl) (by kernel_rfl) (fun wq hq => Y.nilCheck rfl) (by decide) ?_   -- t80 := nilCheck t79
  refine RH.take 5 (fun _ _ _ _ h => h) (by kernel_rfl) hS rfl (by kernel_rfl) (by kernel_rfl) (fun wq hq => Y.fieldAddr fo_commitreader0 rfl) (by decide) ?_   -- t81 := fieldAddr 111 t80 0
  refine RH.take 6 (fun _ _ _ _ h => h) (by kernel_rfl) hS rfl (by kernel_rfl) (by kernel_rfl) (fun wq hq => Y.fieldAddr fo_commitplace1 rfl) (by decide) ?_   -- t82 := fieldAddr 109 t81 1
  refine RH.take 7 (fun _ _ _ _ h => h) (by kernel_rfl) hS rfl (by kernel_rfl) (by kernel_rfl) (fun wq hq => Y.load1 Tryd.underlying3 rfl (hB.ext hq).mem.reader0.place1 rfl) (by decide) ?_   -- t83 := load 3 t82
  refine RH.take 8 (fun _ _ _ _ h => h) (by kernel_rfl) hS rfl (by kernel_rfl) (by kernel_rfl) (fun wq hq => Y.move rfl) (by decide) ?_   -- t84 := move t0
  refine RH.take 9 (fun _ _ _ _ h => h) (by kernel_rfl) hS rfl (by kernel_rfl) (by kernel_rfl) (fun wq hq => Y.nilCheck rfl) (by decide) ?_   -- t85 := nilCheck t84
  refine RH.take 10 (fun _ _ _ _ h => h) (by kernel_rfl) hS rfl (by kernel_rfl) (by kernel_rfl) (fun wq hq => Y.fieldAddr fo_commitreader0 rfl) (by decide) ?_   -- t86 := fieldAddr 111 t85 0
  refine RH.take 11 (fun _ _ _ _ h => h) (by kernel_rfl) hS rfl (by kernel_rfl) (by kernel_rfl) (fun wq hq => Y.fieldAddr fo_commitplace0 rfl) (by decide) ?_   -- t87 := fieldAddr 109 t86 0
  refine RH.take 12 (fun _ _ _ _ h => h) (by kernel_rfl) hS rfl (by kernel_rfl) (by kernel_rfl) (fun wq hq => Y.load1 Tryd.underlying33 rfl (hB.ext hq).mem.reader0.place0 rfl) (by decide) ?_   -- t88 := load 33 t87
  refine RH.take 13 (fun _ _ _ _ h => h) (by kernel_rfl) hS rfl (by kernel_rfl) (by kernel_rfl) (fun wq hq => Y.len_slice Tryd.underlying33 rfl) (by decide) ?_   -- t89 := call len(t88) : 33
  refine RH.take 14 (fun _ _ _ _ h => h) (by kernel_rfl) hS rfl (by kernel_rfl) (by kernel_rfl) (fun wq hq => Y.neq rfl rfl) (by decide) ?_   -- t90 := binOp neq 3 t83 t89 3
  refine RH.one 15 (by kernel_rfl) ?_
  refine RS.callOr rfl Tryd.func66 rfl rfl rfl (refuse_any _ _ _ _) (by simp) (fun ch w36 hP36 => ?_) ?_   -- call F66(t78, t90, c(7:i64)) : 109,4,23
  · skip
    obtain ⟨h1, rfl, hx⟩ := hP36
    have h2 := of_decide_eq_true h1
    exact (⟨7, dec_e9 hg1 hn hps hau hno hgm1 hm hos (by omega), rfl, ((hs.ext hS).ext hx).chg⟩ : CmS b g w _ _)
  rintro v91 w36 hR36
  obtain ⟨h1, rfl, hx36⟩ := hR36
  have hS := hS.thenExt hx36
  have h2 := of_decide_eq_false h1
  have hend : r = b.length := by omega
  refine ⟨hS, ?_⟩
  refine RH.done (by kernel_rfl) ?_
  have hx37 := hS
  have hs := hs.ext hx37
  have hB := hs.blk
  refine hK19 _ _ ?_; try clear hK19 K19
  refine CW.seq fun K20 hK20 => ?_
  refine CW.region ?_   -- region 15
  refine WL.val (Y.move rfl) (by decide) ?_   -- t92 := move t0
  refine WL.val (Y.nilCheck rfl) (by decide) ?_   -- t93 := nilCheck t92
  refine WL.val (Y.fieldAddr fo_commitreader1 rfl) (by decide) ?_   -- t94 := fieldAddr 111 t93 1
  refine WL.val (Y.load Tryd.underlying76 rfl hB.mem.reader1 (sz_apiCommit _ _ _ _) rfl) (by decide) ?_   -- t95 := load 76 t94
  refine WL.call Tryd.func70 rfl rfl rfl ((may_any _ ⟨ps, bs au, bs no, os⟩ _ (hs.com (by rw [bs_size]; unfold maxLen; omega) (by rw [bs_size]; unfold maxLen; omega)))) (by simp) ?_; rintro v w38 ⟨rfl, hx38⟩   -- t96 := call F70(t95) : 76
  refine WL.val (Y.assign rfl) (by decide) ?_   -- t3 := assign t96
  refine WL.nil ?_
  refine hK20 _ _ ?_; try clear hK20 K20
  refine CW.region ?_   -- region 16
  refine WL.val (Y.move rfl) (by decide) ?_   -- t97 := move t0
  refine WL.val (Y.nilCheck rfl) (by decide) ?_   -- t98 := nilCheck t97
  refine WL.val (Y.fieldAddr fo_commitreader0 rfl) (by decide) ?_   -- t99 := fieldAddr 111 t98 0
  refine WL.val (Y.move rfl) (by decide) ?_   -- t100 := move t3
  refine WL.val (Y.neq rfl rfl) (by decide) ?_   -- t101 := binOp neq 23 t100 c(0:i64) 23
  refine WL.val (Y.move rfl) (by decide) ?_   -- t102 := move t3
  refine WL.callOr Tryd.func66 rfl rfl rfl (refuse_any _ _ _ _) (by simp) (fun ch w39 hP39 => ?_) ?_   -- t103 := call F66(t99, t101, t102) : 109,4,23
  · skip
    obtain ⟨h1, rfl, hx⟩ := hP39
    exact (⟨_, dec_e10 hg1 hn hps hau hno hgm1 hm hos hend (of_decide_eq_true h1), rfl, ((hs.ext hx38).ext hx).chg⟩ : CmS b g w _ _)
  rintro v103 w39 hR39
  obtain ⟨h1, rfl, hx39⟩ := hR39
  have h0 := Decidable.not_not.1 (of_decide_eq_false h1)
  refine WL.nil ?_
  refine ⟨_, rfl, ?_⟩
  exact ⟨rfl, _, pv, ov, dec_ok hg1 hn hps hau hno hgm1 hm hos hend h0, by have h := (hs.ext hx38).ext hx39; rwa [hend] at h⟩
end Go.Proofs.YtoncdfpohdchgaaDoor
