/- Trees that nobody made: what the program answers of them. EditNobody, walked. No condition. -/
import Derived.Test.YtmndofgagngcgaaJn
set_option linter.unusedSimpArgs false
set_option linter.unusedVariables false
namespace Go.Proofs.Ytmndofgagngcgaa
open Go.RowKit Go.Fw Go.Fu Go.Pl
def zeroT : List Value := [.pointer none, .map none, .map none, .int .i64 0]
theorem build_zeroT (w : World) : (Instr.build TF #[]).run Try.prog w = .ok (.agg zeroT.toArray) w := by kernel_rfl
theorem build_fugueTree (w : World) : (Instr.build TF #[]).run Try.prog w = .ok (.agg zeroT.toArray) w := by kernel_rfl
theorem ai_ptrT : AppInfo Try.prog 23 1 8 := by
  have h : (Try.prog.info? 23).map (fun i => (i.size, i.bytes, i.zero)) = some (1, 8, some (.pointer none)) := by kernel_rfl
  obtain ⟨i, hi, h⟩ := Option.map_eq_some_iff.1 h
  injection h with h1 h2
  injection h2 with h2 h3
  exact ⟨i, _, hi, h3, h1, rfl, h2, by decide, by decide⟩
theorem run_bs2q {P : Program} {t e : TypeId} {ie : TypeInfo} {z : Value} {a b : Value} (hu : P.underlying t = some (.slice e)) (hi : P.info? e = some ie) (hz : ie.zero = some z) (h1 : ie.size = 1) (ha : a.cells = #[a]) (hb : b.cells = #[b]) (w : World) :
    (Instr.buildSlice t 2 [(0, a), (1, b)].toArray).run P w = .ok (.slice (some ⟨w.heap.size, 0, none⟩) 2 2) (w.alloc (.cells [a, b].toArray e)) := by
  refine run_buildSlice w t e 2 _ _ ie z hu hi hz (by omega) (by omega) ?_
  have h := Go.Great.fill_whole (s := ie.size) (by omega) [a, b] ((Array.range (2 * ie.size)).map (z.cells[· % z.cells.size]!)) (by intro u hu; simp at hu; rcases hu with rfl | rfl <;> simp [*]) (by simp)
  simpa [ha, hb] using h
theorem bs2_ptrT (a b : Option Addr) (w : World) : (Instr.buildSlice 47 2 [(0, .pointer a), (1, .pointer b)].toArray).run Try.prog w = .ok (.slice (some ⟨w.heap.size, 0, none⟩) 2 2) (w.alloc (.cells [.pointer a, .pointer b].toArray 23)) := by
  obtain ⟨i, z, hi, hz, hk, _⟩ := ai_ptrT
  exact run_bs2q Try.underlying47 hi hz hk rfl rfl w

theorem umade_n (w : World) : Calls Try.prog 37 #[.pointer none] w (Ret fun v w' => v = .bool false ∧ Ext w w') := by
  refine calls_of_CW 12 [2] [(0, .pointer none)] Try.func37 rfl rfl rfl (by simp) args1 ?_
  have hE : Ext w w := Chg.refl
  refine CW.seq fun K1 hK1 => ?_
  refine CW.region ?_
  refine WL.val (Y.assign rfl) (by decide) ?_
  refine WL.nil ?_
  refine hK1 _ _ ?_; try clear hK1 K1
  refine CW.seq fun K2 hK2 => ?_
  refine CW.region ?_
  refine WL.val (Y.move rfl) (by decide) ?_
  refine WL.val (Y.neq_fugueTree rfl rfl) (by decide) ?_
  refine WL.val (Y.move rfl) (by decide) ?_
  refine WL.know (d := 5) (u := .bool false) rfl (by rfl) ?_
  refine WL.goff rfl rfl (by decide) ?_
  refine WL.goff rfl rfl (by decide) ?_
  refine WL.goff rfl rfl (by decide) ?_
  refine WL.goff rfl rfl (by decide) ?_
  refine WL.goff rfl rfl (by decide) ?_
  refine WL.val (Y.pick rfl rfl) (by decide) ?_
  refine WL.val (Y.assign rfl) (by decide) ?_
  refine WL.nil ?_
  refine hK2 _ _ ?_; try clear hK2 K2
  refine CW.ret ⟨_, rfl, ?_⟩
  exact ⟨rfl, hE⟩
theorem uwalk_n (gb : Nat) (w : World) : Calls Try.prog 55 #[.pointer none, .func (.func 56) #[] #[.pointer (some ⟨gb, 0, none⟩)]] w (Ret fun v w' => True ∧ Ext w w') := by
  refine calls_of_CW 15 [] [(0, .pointer none), (1, .func (.func 56) #[] #[.pointer (some ⟨gb, 0, none⟩)])] Try.func55 rfl rfl rfl (by simp) args2 ?_
  have hE : Ext w w := Chg.refl
  refine CW.seq fun K1 hK1 => ?_
  refine CW.region ?_
  refine WL.box rfl rfl (by decide) fun g3 w1 hx1 hg3 hB3 => ?_
  have hlt3 := hB3.lt; have hz1 := hx1.size
  have hM3 := hB3.mem; have hz1 := hx1.size; have hE := hE.thenExt hx1
  refine WL.nil ?_
  refine hK1 _ _ ?_; try clear hK1 K1
  refine CW.seq fun K2 hK2 => ?_
  refine CW.seq fun K3 hK3 => ?_
  refine CW.region ?_
  refine WL.val (Y.move rfl) (by decide) ?_
  refine WL.call Try.func37 rfl rfl rfl (umade_n _) (by simp) ?_; rintro v w2 ⟨rfl, hx2⟩; have hz2 := hx2.size; have hE := hE.thenExt hx2; have hB3 := hB3.ext hx2
  refine WL.val (Y.not rfl) (by decide) ?_
  refine WL.nil ?_
  refine hK3 _ _ ?_; try clear hK3 K3
  first | refine CW.condD rfl (fun ht4 => ?_) (fun ht4 => ?_) | refine CW.condND rfl (fun ht4 => ?_) (fun ht4 => ?_) | refine CW.condN rfl (fun ht4 => ?_) (fun ht4 => ?_) | refine CW.cond rfl (fun ht4 => ?_) (fun ht4 => ?_)
  · -- then
    refine CW.ret ⟨_, rfl, ?_⟩
    exact ⟨trivial, hE⟩
  first | exact absurd (show true = false by assumption) (by decide) | exact absurd (show false = true by assumption) (by decide) | (exfalso; simp_all; done)

theorem ulist_n (w : World) : Calls Try.prog 36 #[.pointer none] w (Ret fun v w' => v = .slice none 0 0 ∧ Ext w w') := by
  refine calls_of_CW 8 [2] [(0, .pointer none)] Try.func36 rfl rfl rfl (by simp) args1 ?_
  have hE : Ext w w := Chg.refl
  refine CW.seq fun K1 hK1 => ?_
  refine CW.region ?_
  refine WL.val (Y.assign rfl) (by decide) ?_
  refine WL.nil ?_
  refine hK1 _ _ ?_; try clear hK1 K1
  refine CW.seq fun K2 hK2 => ?_
  refine CW.region ?_
  refine WL.alloc1 (z := .slice none 0 0) (by kernel_rfl) rfl (by decide) fun g3 w1 hx1 hg3 hB3 => ?_
  have hlt3 := hB3.lt; have hz1 := hx1.size
  have hM3 := hB3.mem; have hz1 := hx1.size; have hE := hE.thenExt hx1
  refine WL.nil ?_
  refine hK2 _ _ ?_; try clear hK2 K2
  refine CW.seq fun K3 hK3 => ?_
  refine CW.region ?_
  refine WL.val (Y.move rfl) (by decide) ?_
  refine WL.val (Y.makeFunc rfl) (by decide) ?_
  refine WL.call Try.func55 rfl rfl rfl (uwalk_n g3 _) (by simp) ?_; rintro v6 w2 hR2
  obtain ⟨_, hx2⟩ := hR2
  have hz2 := hx2.size
  have hE := hE.thenExt hx2
  have hB3 := hB3.ext hx2
  refine WL.nil ?_
  refine hK3 _ _ ?_; try clear hK3 K3
  refine CW.seq fun K4 hK4 => ?_
  refine CW.region ?_
  refine WL.val (Y.load1 Try.underlying97 rfl hB3.mem.cell0 rfl) (by decide) ?_
  refine WL.val (Y.assign rfl) (by decide) ?_
  refine WL.nil ?_
  refine hK4 _ _ ?_; try clear hK4 K4
  refine CW.ret ⟨_, rfl, ?_⟩
  exact ⟨rfl, hE⟩
theorem ucopy_n (w : World) : Calls Try.prog 22 #[.pointer none] w (Ret fun v w' => v = .pointer none ∧ Ext w w') := by
  refine calls_of_CW 45 [2] [(0, .pointer none)] Try.func22 rfl rfl rfl (by simp) args1 ?_
  have hE : Ext w w := Chg.refl
  refine CW.seq fun K1 hK1 => ?_
  refine CW.region ?_
  refine WL.box rfl rfl (by decide) fun g1 w1 hx1 hg1 hB1 => ?_
  have hlt1 := hB1.lt; have hz1 := hx1.size
  have hM1 := hB1.mem; have hz1 := hx1.size; have hE := hE.thenExt hx1
  refine WL.val (Y.assign rfl) (by decide) ?_
  refine WL.nil ?_
  refine hK1 _ _ ?_; try clear hK1 K1
  refine CW.seq fun K2 hK2 => ?_
  refine CW.seq fun K3 hK3 => ?_
  refine CW.region ?_
  refine WL.val (Y.load1 Try.underlying23 rfl hB1.mem.cell0 rfl) (by decide) ?_
  refine WL.call Try.func37 rfl rfl rfl (umade_n _) (by simp) ?_; rintro v w2 ⟨rfl, hx2⟩; have hz2 := hx2.size; have hE := hE.thenExt hx2; have hB1 := hB1.ext hx2
  refine WL.val (Y.not rfl) (by decide) ?_
  refine WL.nil ?_
  refine hK3 _ _ ?_; try clear hK3 K3
  first | refine CW.condD rfl (fun ht4 => ?_) (fun ht4 => ?_) | refine CW.condND rfl (fun ht4 => ?_) (fun ht4 => ?_) | refine CW.condN rfl (fun ht4 => ?_) (fun ht4 => ?_) | refine CW.cond rfl (fun ht4 => ?_) (fun ht4 => ?_)
  · -- then
    refine CW.seq fun K5 hK5 => ?_
    refine CW.region ?_
    refine WL.val (Y.assign rfl) (by decide) ?_
    refine WL.nil ?_
    refine hK5 _ _ ?_; try clear hK5 K5
    refine CW.ret ⟨_, rfl, ?_⟩
    exact ⟨rfl, hE⟩
  first | exact absurd (show true = false by assumption) (by decide) | exact absurd (show false = true by assumption) (by decide) | (exfalso; simp_all; done)

theorem uall_n (w : World) : Calls Try.prog 32 #[.pointer none] w (Ret fun v w' => ∃ b, v = .func (.func 51) #[] #[.pointer (some ⟨b, 0, none⟩)] ∧ w.heap.size ≤ b ∧ Blk w' b 23 [.pointer none] ∧ Ext w w') := by
  refine calls_of_CW 4 [2] [(0, .pointer none)] Try.func32 rfl rfl rfl (by simp) args1 ?_
  have hE : Ext w w := Chg.refl
  refine CW.seq fun K1 hK1 => ?_
  refine CW.region ?_
  refine WL.box rfl rfl (by decide) fun g1 w1 hx1 hg1 hB1 => ?_
  have hlt1 := hB1.lt; have hz1 := hx1.size
  have hM1 := hB1.mem; have hz1 := hx1.size; have hE := hE.thenExt hx1
  refine WL.val (Y.assign rfl) (by decide) ?_
  refine WL.nil ?_
  refine hK1 _ _ ?_; try clear hK1 K1
  refine CW.seq fun K2 hK2 => ?_
  refine CW.region ?_
  refine WL.val (Y.makeFunc rfl) (by decide) ?_
  refine WL.val (Y.assign rfl) (by decide) ?_
  refine WL.nil ?_
  refine hK2 _ _ ?_; try clear hK2 K2
  refine CW.ret ⟨_, rfl, ?_⟩
  exact ⟨g1, rfl, hg1, hB1, hE⟩
theorem uall1_n (b : Nat) (w_ : World) (hb_ : Blk w_ b 23 [.pointer none]) : IterN Try.prog 51 [.pointer (some ⟨b, 0, none⟩)] w_ (fun _ (_ : Unit) _ => True) (fun _ => ([] : List (RefD × UInt8))) allEnc8 (fun _ => False) (fun _ _ _ => False) (fun _ _ _ => True) (fun _ => True) (fun _ _ _ => True) := by
  intro ln w J Jx hx0 hS hJ hJx hJN hR
  have hb0 := hb_.ext hx0
  refine calls_of_CW 24 [] [(0, .func (.yield ln) #[] #[]), (1, .pointer (some ⟨b, 0, none⟩))] Try.func51 rfl rfl rfl (by simp) args2 ?_
  have hE : Ext w w := Chg.refl
  refine CW.seq fun K1 hK1 => ?_
  refine CW.region ?_
  refine WL.val (Y.load1 Try.underlying23 rfl (hb0.ext hE).mem.cell0 rfl) (by decide) ?_
  refine WL.call Try.func36 rfl rfl rfl (ulist_n _) (by simp) ?_; rintro v6 w1 hR1
  obtain ⟨rfl, hx1⟩ := hR1
  have hz1 := hx1.size
  have hE := hE.thenExt hx1
  refine WL.val (Y.len_slice Try.underlying97 rfl) (by decide) ?_
  refine WL.val (Y.move rfl) (by decide) ?_
  refine WL.nil ?_
  refine hK1 _ _ ?_; try clear hK1 K1
  refine CW.block ?_
  refine CW.loop (X := Unit) (fun x => [(6, .slice none 0 0), (7, .int .i64 0), (8, .int .i64 0)]) (fun x w0 => J () 0 w0) (fun x => 0) () (by repeat (first | exact Fr.le.nil | refine Fr.le.cons rfl ?_)) (hS () _ hE trivial) ?_
  intro x w2 hl2
  skip
  refine CW.seq fun K2 hK2 => ?_
  refine CW.region ?_
  refine WL.val (Y.lss rfl rfl) (by decide) ?_
  refine WL.nil ?_
  refine hK2 _ _ ?_; try clear hK2 K2
  refine CW.seq fun K3 hK3 => ?_
  first | refine CW.condD rfl (fun ht4 => ?_) (fun ht4 => ?_) | refine CW.condND rfl (fun ht4 => ?_) (fun ht4 => ?_) | refine CW.condN rfl (fun ht4 => ?_) (fun ht4 => ?_) | refine CW.cond rfl (fun ht4 => ?_) (fun ht4 => ?_)
  · exact absurd (show (0 : Int) < 0 by assumption) (by decide)
  refine CW.exit ?_
  refine ⟨_, rfl, ?_⟩
  exact ⟨.inl ⟨(), hl2⟩, trivial⟩

theorem uops_n (b : List UInt8) (w : World) : Calls Try.prog 11 #[.pointer none, .string (bs b)] w (Ret fun v w' => v = .tuple #[.slice none 0 0, .int .i64 2] ∧ Ext w w') := by
  refine calls_of_CN 54 [4, 5] [(0, .pointer none), (1, .string (bs b))] Try.func11 rfl rfl rfl (by simp) args2 ?_
  have hE : Ext w w := Chg.refl
  refine CN.seq fun K1 hK1 => ?_
  refine CN.of_CW ?_
  refine CW.region ?_
  refine WL.val (Y.assign rfl) (by first | decide | exact Nat.le_of_ble_eq_true rfl) ?_
  refine WL.val (Y.assign rfl) (by first | decide | exact Nat.le_of_ble_eq_true rfl) ?_
  refine WL.nil ?_
  refine hK1 _ _ _ ?_; try clear hK1 K1
  refine CN.seq fun K2 hK2 => ?_
  refine CN.seq fun K3 hK3 => ?_
  refine CN.of_CW ?_
  refine CW.region ?_
  refine WL.val (Y.move rfl) (by first | decide | exact Nat.le_of_ble_eq_true rfl) ?_
  refine WL.call Try.func22 rfl rfl rfl (ucopy_n _) (by simp) ?_; rintro v14 w1 hR1
  obtain ⟨rfl, hx1⟩ := hR1
  have hz1 := hx1.size
  have hE := hE.thenExt hx1
  refine WL.val (Y.eql_fugueTree rfl rfl) (by first | decide | exact Nat.le_of_ble_eq_true rfl) ?_
  refine WL.nil ?_
  refine hK3 _ _ _ ?_; try clear hK3 K3
  first | refine CN.condD rfl (fun ht4 => ?_) (fun ht4 => ?_) | refine CN.condND rfl (fun ht4 => ?_) (fun ht4 => ?_) | refine CN.condN rfl (fun ht4 => ?_) (fun ht4 => ?_) | refine CN.cond rfl (fun ht4 => ?_) (fun ht4 => ?_)
  · -- then
    refine CN.seq fun K5 hK5 => ?_
    refine CN.of_CW ?_
    refine CW.region ?_
    refine WL.val (Y.assign rfl) (by first | decide | exact Nat.le_of_ble_eq_true rfl) ?_
    refine WL.val (Y.assign rfl) (by first | decide | exact Nat.le_of_ble_eq_true rfl) ?_
    refine WL.nil ?_
    refine hK5 _ _ _ ?_; try clear hK5 K5
    refine CN.ret ?_
    exact ⟨[], rfl, by simp, (fun D hD => by simp at hD), _, rfl, fun w_ hc => ⟨rfl, hE.step hc (fun k h => by simp at h)⟩⟩
  first | exact absurd (show true = false by assumption) (by decide) | exact absurd (show false = true by assumption) (by decide) | (exfalso; simp_all; done)

theorem ublame_n (w : World) : Calls Try.prog 18 #[.pointer none] w (Ret fun v w' => v = .slice none 0 0 ∧ Ext w w') := by
  refine calls_of_CN 41 [2] [(0, .pointer none)] Try.func18 rfl rfl rfl (by simp) args1 ?_
  have hE : Ext w w := Chg.refl
  refine CN.seq fun K1 hK1 => ?_
  refine CN.of_CW ?_
  refine CW.region ?_
  refine WL.val (Y.assign rfl) (by first | decide | exact Nat.le_of_ble_eq_true rfl) ?_
  refine WL.nil ?_
  refine hK1 _ _ _ ?_; try clear hK1 K1
  refine CN.seq fun K2 hK2 => ?_
  refine CN.of_CW ?_
  refine CW.region ?_
  refine WL.alloc1 (z := .slice none 0 0) (by kernel_rfl) rfl (by first | decide | exact Nat.le_of_ble_eq_true rfl) fun g3 w1 hx1 hg3 hB3 => ?_
  have hlt3 := hB3.lt; have hz1 := hx1.size
  have hM3 := hB3.mem; have hz1 := hx1.size; have hE := hE.thenExt hx1
  refine WL.nil ?_
  refine hK2 _ _ _ ?_; try clear hK2 K2
  refine CN.seq fun K3 hK3 => ?_
  refine CN.seq fun K4 hK4 => ?_
  refine CN.of_CW ?_
  refine CW.region ?_
  refine WL.val (Y.move rfl) (by first | decide | exact Nat.le_of_ble_eq_true rfl) ?_
  refine WL.call Try.func32 rfl rfl rfl (uall_n _) (by simp) ?_; rintro v6 w2 hR2
  obtain ⟨b6, rfl, hgb, hBb, hx2⟩ := hR2
  have hz2 := hx2.size
  have hE := hE.thenExt hx2
  have hB3 := hB3.ext hx2
  refine WL.nil ?_
  refine hK4 _ _ _ ?_; try clear hK4 K4
  refine CN.block ?_
  refine CN.rangeN (rfl) Try.func51 rfl rfl (uall1_n b6 _ hBb) (fun _ => rfl) (by first | decide | exact Nat.le_of_ble_eq_true rfl) (fun _ h => h.elim) (fun _ _ _ _ _ _ h => h) (fun _ _ V => Blk V g3 TSR [.slice none 0 0] ∧ Ext w V) (fun _ _ _ => False) ?_ ?_ ?_ ?_ ?_ ?_ ?_
  · intro w1_ s_ V hw_ hz_ hc_ hs_
    exact ⟨(hB3.ext hw_).ext hc_, (hE.thenExt hw_).thenExt hc_⟩
  · intro s_ i_ V V_ hi_ hc_
    exact ⟨hi_.1.chg hc_ (fun h => by rcases h with h | h; exact h; omega), hi_.2.step hc_ (fun k h => by rcases h with h | h; exact h.elim; omega)⟩
  · intro s_ e_ V V_ hi_ hc_
    exact hi_.elim
  · intro s_ i_ V hi_
    trivial
  · intro s_ i_ x_ w3 hi_ hx_ hat_ hz_
    exact absurd hx_ (by simp)
  · intro s_ w12 hi_ hD_ hfin_
    obtain ⟨hB3, hE⟩ := hi_
    refine hK3 _ _ _ ?_; try clear hK3 K3
    refine CN.seq fun K7 hK7 => ?_
    refine CN.of_CW ?_
    refine CW.region ?_
    refine WL.val (Y.load1 Try.underlying38 rfl hB3.mem.cell0 rfl) (by first | decide | exact Nat.le_of_ble_eq_true rfl) ?_
    refine WL.val (Y.assign rfl) (by first | decide | exact Nat.le_of_ble_eq_true rfl) ?_
    refine WL.nil ?_
    refine hK7 _ _ _ ?_; try clear hK7 K7
    refine CN.ret ?_
    exact ⟨[w2.heap.size], rfl, by simp, (fun D hD => by simp at hD; subst hD; exact hD_), _, rfl, fun w_ hc => ⟨rfl, hE.step hc (fun k h => by simp at h; omega)⟩⟩
  · intro s_ e_ w13 hi_ hD_ hfin_ he_
    exact hi_.elim

theorem umade_z (g : Nat) (w : World) (hB : Blk w g TF zeroT) : Calls Try.prog 37 #[.pointer (some ⟨g, 0, none⟩)] w (Ret fun v w' => v = .bool false ∧ Ext w w') := by
  refine calls_of_CW 12 [2] [(0, .pointer (some ⟨g, 0, none⟩))] Try.func37 rfl rfl rfl (by simp) args1 ?_
  have hE : Ext w w := Chg.refl
  refine CW.seq fun K1 hK1 => ?_
  refine CW.region ?_
  refine WL.val (Y.assign rfl) (by decide) ?_
  refine WL.nil ?_
  refine hK1 _ _ ?_; try clear hK1 K1
  refine CW.seq fun K2 hK2 => ?_
  refine CW.region ?_
  refine WL.val (Y.move rfl) (by decide) ?_
  refine WL.val (Y.neq_fugueTree rfl rfl) (by decide) ?_
  refine WL.val (Y.move rfl) (by decide) ?_
  refine WL.know (d := 5) (u := .bool true) rfl (by rfl) ?_
  refine WL.gval rfl rfl (Y.move rfl) (by decide) ?_
  refine WL.gval rfl rfl (Y.nilCheck rfl) (by decide) ?_
  refine WL.gval rfl rfl (Y.fieldAddr fo_fugueTree0 rfl) (by decide) ?_
  refine WL.gval rfl rfl (Y.load1 Try.underlying42 rfl (show w.cell? (Addr.add ⟨g, 0, none⟩ 0) = some (.pointer none) from hB.mem.cell 0 rfl) rfl) (by decide) ?_
  refine WL.gval rfl rfl (Y.neq_fuguenode rfl rfl) (by decide) ?_
  refine WL.val (Y.pick rfl rfl) (by decide) ?_
  refine WL.val (Y.assign rfl) (by decide) ?_
  refine WL.nil ?_
  refine hK2 _ _ ?_; try clear hK2 K2
  refine CW.ret ⟨_, rfl, ?_⟩
  exact ⟨rfl, hE⟩
theorem uwalk_z (g : Nat) (gb : Nat) (w : World) (hB : Blk w g TF zeroT) : Calls Try.prog 55 #[.pointer (some ⟨g, 0, none⟩), .func (.func 56) #[] #[.pointer (some ⟨gb, 0, none⟩)]] w (Ret fun v w' => True ∧ Ext w w') := by
  refine calls_of_CW 15 [] [(0, .pointer (some ⟨g, 0, none⟩)), (1, .func (.func 56) #[] #[.pointer (some ⟨gb, 0, none⟩)])] Try.func55 rfl rfl rfl (by simp) args2 ?_
  have hE : Ext w w := Chg.refl
  refine CW.seq fun K1 hK1 => ?_
  refine CW.region ?_
  refine WL.box rfl rfl (by decide) fun g3 w1 hx1 hg3 hB3 => ?_
  have hlt3 := hB3.lt; have hz1 := hx1.size
  have hM3 := hB3.mem; have hz1 := hx1.size; have hE := hE.thenExt hx1
  refine WL.nil ?_
  refine hK1 _ _ ?_; try clear hK1 K1
  refine CW.seq fun K2 hK2 => ?_
  refine CW.seq fun K3 hK3 => ?_
  refine CW.region ?_
  refine WL.val (Y.move rfl) (by decide) ?_
  refine WL.call Try.func37 rfl rfl rfl (umade_z g _ (hB.ext hE)) (by simp) ?_; rintro v w2 ⟨rfl, hx2⟩; have hz2 := hx2.size; have hE := hE.thenExt hx2; have hB3 := hB3.ext hx2
  refine WL.val (Y.not rfl) (by decide) ?_
  refine WL.nil ?_
  refine hK3 _ _ ?_; try clear hK3 K3
  first | refine CW.condD rfl (fun ht4 => ?_) (fun ht4 => ?_) | refine CW.condND rfl (fun ht4 => ?_) (fun ht4 => ?_) | refine CW.condN rfl (fun ht4 => ?_) (fun ht4 => ?_) | refine CW.cond rfl (fun ht4 => ?_) (fun ht4 => ?_)
  · -- then
    refine CW.ret ⟨_, rfl, ?_⟩
    exact ⟨trivial, hE⟩
  first | exact absurd (show true = false by assumption) (by decide) | exact absurd (show false = true by assumption) (by decide) | (exfalso; simp_all; done)

theorem ulist_z (g : Nat) (w : World) (hB : Blk w g TF zeroT) : Calls Try.prog 36 #[.pointer (some ⟨g, 0, none⟩)] w (Ret fun v w' => v = .slice none 0 0 ∧ Ext w w') := by
  refine calls_of_CW 8 [2] [(0, .pointer (some ⟨g, 0, none⟩))] Try.func36 rfl rfl rfl (by simp) args1 ?_
  have hE : Ext w w := Chg.refl
  refine CW.seq fun K1 hK1 => ?_
  refine CW.region ?_
  refine WL.val (Y.assign rfl) (by decide) ?_
  refine WL.nil ?_
  refine hK1 _ _ ?_; try clear hK1 K1
  refine CW.seq fun K2 hK2 => ?_
  refine CW.region ?_
  refine WL.alloc1 (z := .slice none 0 0) (by kernel_rfl) rfl (by decide) fun g3 w1 hx1 hg3 hB3 => ?_
  have hlt3 := hB3.lt; have hz1 := hx1.size
  have hM3 := hB3.mem; have hz1 := hx1.size; have hE := hE.thenExt hx1
  refine WL.nil ?_
  refine hK2 _ _ ?_; try clear hK2 K2
  refine CW.seq fun K3 hK3 => ?_
  refine CW.region ?_
  refine WL.val (Y.move rfl) (by decide) ?_
  refine WL.val (Y.makeFunc rfl) (by decide) ?_
  refine WL.call Try.func55 rfl rfl rfl (uwalk_z g g3 _ (hB.ext hE)) (by simp) ?_; rintro v6 w2 hR2
  obtain ⟨_, hx2⟩ := hR2
  have hz2 := hx2.size
  have hE := hE.thenExt hx2
  have hB3 := hB3.ext hx2
  refine WL.nil ?_
  refine hK3 _ _ ?_; try clear hK3 K3
  refine CW.seq fun K4 hK4 => ?_
  refine CW.region ?_
  refine WL.val (Y.load1 Try.underlying97 rfl hB3.mem.cell0 rfl) (by decide) ?_
  refine WL.val (Y.assign rfl) (by decide) ?_
  refine WL.nil ?_
  refine hK4 _ _ ?_; try clear hK4 K4
  refine CW.ret ⟨_, rfl, ?_⟩
  exact ⟨rfl, hE⟩
theorem ucopy_z (g : Nat) (w : World) (hB : Blk w g TF zeroT) : Calls Try.prog 22 #[.pointer (some ⟨g, 0, none⟩)] w (Ret fun v w' => v = .pointer none ∧ Ext w w') := by
  refine calls_of_CW 45 [2] [(0, .pointer (some ⟨g, 0, none⟩))] Try.func22 rfl rfl rfl (by simp) args1 ?_
  have hE : Ext w w := Chg.refl
  refine CW.seq fun K1 hK1 => ?_
  refine CW.region ?_
  refine WL.box rfl rfl (by decide) fun g1 w1 hx1 hg1 hB1 => ?_
  have hlt1 := hB1.lt; have hz1 := hx1.size
  have hM1 := hB1.mem; have hz1 := hx1.size; have hE := hE.thenExt hx1
  refine WL.val (Y.assign rfl) (by decide) ?_
  refine WL.nil ?_
  refine hK1 _ _ ?_; try clear hK1 K1
  refine CW.seq fun K2 hK2 => ?_
  refine CW.seq fun K3 hK3 => ?_
  refine CW.region ?_
  refine WL.val (Y.load1 Try.underlying23 rfl hB1.mem.cell0 rfl) (by decide) ?_
  refine WL.call Try.func37 rfl rfl rfl (umade_z g _ (hB.ext hE)) (by simp) ?_; rintro v w2 ⟨rfl, hx2⟩; have hz2 := hx2.size; have hE := hE.thenExt hx2; have hB1 := hB1.ext hx2
  refine WL.val (Y.not rfl) (by decide) ?_
  refine WL.nil ?_
  refine hK3 _ _ ?_; try clear hK3 K3
  first | refine CW.condD rfl (fun ht4 => ?_) (fun ht4 => ?_) | refine CW.condND rfl (fun ht4 => ?_) (fun ht4 => ?_) | refine CW.condN rfl (fun ht4 => ?_) (fun ht4 => ?_) | refine CW.cond rfl (fun ht4 => ?_) (fun ht4 => ?_)
  · -- then
    refine CW.seq fun K5 hK5 => ?_
    refine CW.region ?_
    refine WL.val (Y.assign rfl) (by decide) ?_
    refine WL.nil ?_
    refine hK5 _ _ ?_; try clear hK5 K5
    refine CW.ret ⟨_, rfl, ?_⟩
    exact ⟨rfl, hE⟩
  first | exact absurd (show true = false by assumption) (by decide) | exact absurd (show false = true by assumption) (by decide) | (exfalso; simp_all; done)

theorem uall_z (g : Nat) (w : World) : Calls Try.prog 32 #[.pointer (some ⟨g, 0, none⟩)] w (Ret fun v w' => ∃ b, v = .func (.func 51) #[] #[.pointer (some ⟨b, 0, none⟩)] ∧ w.heap.size ≤ b ∧ Blk w' b 23 [.pointer (some ⟨g, 0, none⟩)] ∧ Ext w w') := by
  refine calls_of_CW 4 [2] [(0, .pointer (some ⟨g, 0, none⟩))] Try.func32 rfl rfl rfl (by simp) args1 ?_
  have hE : Ext w w := Chg.refl
  refine CW.seq fun K1 hK1 => ?_
  refine CW.region ?_
  refine WL.box rfl rfl (by decide) fun g1 w1 hx1 hg1 hB1 => ?_
  have hlt1 := hB1.lt; have hz1 := hx1.size
  have hM1 := hB1.mem; have hz1 := hx1.size; have hE := hE.thenExt hx1
  refine WL.val (Y.assign rfl) (by decide) ?_
  refine WL.nil ?_
  refine hK1 _ _ ?_; try clear hK1 K1
  refine CW.seq fun K2 hK2 => ?_
  refine CW.region ?_
  refine WL.val (Y.makeFunc rfl) (by decide) ?_
  refine WL.val (Y.assign rfl) (by decide) ?_
  refine WL.nil ?_
  refine hK2 _ _ ?_; try clear hK2 K2
  refine CW.ret ⟨_, rfl, ?_⟩
  exact ⟨g1, rfl, hg1, hB1, hE⟩
theorem uall1_z (g : Nat) (b : Nat) (w_ : World) (hB_ : Blk w_ g TF zeroT) (hb_ : Blk w_ b 23 [.pointer (some ⟨g, 0, none⟩)]) : IterN Try.prog 51 [.pointer (some ⟨b, 0, none⟩)] w_ (fun _ (_ : Unit) _ => True) (fun _ => ([] : List (RefD × UInt8))) allEnc8 (fun _ => False) (fun _ _ _ => False) (fun _ _ _ => True) (fun _ => True) (fun _ _ _ => True) := by
  intro ln w J Jx hx0 hS hJ hJx hJN hR
  have hb0 := hb_.ext hx0
  have hB := hB_.ext hx0
  refine calls_of_CW 24 [] [(0, .func (.yield ln) #[] #[]), (1, .pointer (some ⟨b, 0, none⟩))] Try.func51 rfl rfl rfl (by simp) args2 ?_
  have hE : Ext w w := Chg.refl
  refine CW.seq fun K1 hK1 => ?_
  refine CW.region ?_
  refine WL.val (Y.load1 Try.underlying23 rfl (hb0.ext hE).mem.cell0 rfl) (by decide) ?_
  refine WL.call Try.func36 rfl rfl rfl (ulist_z g _ (hB.ext hE)) (by simp) ?_; rintro v6 w1 hR1
  obtain ⟨rfl, hx1⟩ := hR1
  have hz1 := hx1.size
  have hE := hE.thenExt hx1
  refine WL.val (Y.len_slice Try.underlying97 rfl) (by decide) ?_
  refine WL.val (Y.move rfl) (by decide) ?_
  refine WL.nil ?_
  refine hK1 _ _ ?_; try clear hK1 K1
  refine CW.block ?_
  refine CW.loop (X := Unit) (fun x => [(6, .slice none 0 0), (7, .int .i64 0), (8, .int .i64 0)]) (fun x w0 => J () 0 w0) (fun x => 0) () (by repeat (first | exact Fr.le.nil | refine Fr.le.cons rfl ?_)) (hS () _ hE trivial) ?_
  intro x w2 hl2
  skip
  refine CW.seq fun K2 hK2 => ?_
  refine CW.region ?_
  refine WL.val (Y.lss rfl rfl) (by decide) ?_
  refine WL.nil ?_
  refine hK2 _ _ ?_; try clear hK2 K2
  refine CW.seq fun K3 hK3 => ?_
  first | refine CW.condD rfl (fun ht4 => ?_) (fun ht4 => ?_) | refine CW.condND rfl (fun ht4 => ?_) (fun ht4 => ?_) | refine CW.condN rfl (fun ht4 => ?_) (fun ht4 => ?_) | refine CW.cond rfl (fun ht4 => ?_) (fun ht4 => ?_)
  · exact absurd (show (0 : Int) < 0 by assumption) (by decide)
  refine CW.exit ?_
  refine ⟨_, rfl, ?_⟩
  exact ⟨.inl ⟨(), hl2⟩, trivial⟩

theorem uops_z (g : Nat) (b : List UInt8) (w : World) (hB : Blk w g TF zeroT) : Calls Try.prog 11 #[.pointer (some ⟨g, 0, none⟩), .string (bs b)] w (Ret fun v w' => v = .tuple #[.slice none 0 0, .int .i64 2] ∧ Ext w w') := by
  refine calls_of_CN 54 [4, 5] [(0, .pointer (some ⟨g, 0, none⟩)), (1, .string (bs b))] Try.func11 rfl rfl rfl (by simp) args2 ?_
  have hE : Ext w w := Chg.refl
  refine CN.seq fun K1 hK1 => ?_
  refine CN.of_CW ?_
  refine CW.region ?_
  refine WL.val (Y.assign rfl) (by first | decide | exact Nat.le_of_ble_eq_true rfl) ?_
  refine WL.val (Y.assign rfl) (by first | decide | exact Nat.le_of_ble_eq_true rfl) ?_
  refine WL.nil ?_
  refine hK1 _ _ _ ?_; try clear hK1 K1
  refine CN.seq fun K2 hK2 => ?_
  refine CN.seq fun K3 hK3 => ?_
  refine CN.of_CW ?_
  refine CW.region ?_
  refine WL.val (Y.move rfl) (by first | decide | exact Nat.le_of_ble_eq_true rfl) ?_
  refine WL.call Try.func22 rfl rfl rfl (ucopy_z g _ (hB.ext hE)) (by simp) ?_; rintro v14 w1 hR1
  obtain ⟨rfl, hx1⟩ := hR1
  have hz1 := hx1.size
  have hE := hE.thenExt hx1
  refine WL.val (Y.eql_fugueTree rfl rfl) (by first | decide | exact Nat.le_of_ble_eq_true rfl) ?_
  refine WL.nil ?_
  refine hK3 _ _ _ ?_; try clear hK3 K3
  first | refine CN.condD rfl (fun ht4 => ?_) (fun ht4 => ?_) | refine CN.condND rfl (fun ht4 => ?_) (fun ht4 => ?_) | refine CN.condN rfl (fun ht4 => ?_) (fun ht4 => ?_) | refine CN.cond rfl (fun ht4 => ?_) (fun ht4 => ?_)
  · -- then
    refine CN.seq fun K5 hK5 => ?_
    refine CN.of_CW ?_
    refine CW.region ?_
    refine WL.val (Y.assign rfl) (by first | decide | exact Nat.le_of_ble_eq_true rfl) ?_
    refine WL.val (Y.assign rfl) (by first | decide | exact Nat.le_of_ble_eq_true rfl) ?_
    refine WL.nil ?_
    refine hK5 _ _ _ ?_; try clear hK5 K5
    refine CN.ret ?_
    exact ⟨[], rfl, by simp, (fun D hD => by simp at hD), _, rfl, fun w_ hc => ⟨rfl, hE.step hc (fun k h => by simp at h)⟩⟩
  first | exact absurd (show true = false by assumption) (by decide) | exact absurd (show false = true by assumption) (by decide) | (exfalso; simp_all; done)

theorem ublame_z (g : Nat) (w : World) (hB : Blk w g TF zeroT) : Calls Try.prog 18 #[.pointer (some ⟨g, 0, none⟩)] w (Ret fun v w' => v = .slice none 0 0 ∧ Ext w w') := by
  refine calls_of_CN 41 [2] [(0, .pointer (some ⟨g, 0, none⟩))] Try.func18 rfl rfl rfl (by simp) args1 ?_
  have hE : Ext w w := Chg.refl
  refine CN.seq fun K1 hK1 => ?_
  refine CN.of_CW ?_
  refine CW.region ?_
  refine WL.val (Y.assign rfl) (by first | decide | exact Nat.le_of_ble_eq_true rfl) ?_
  refine WL.nil ?_
  refine hK1 _ _ _ ?_; try clear hK1 K1
  refine CN.seq fun K2 hK2 => ?_
  refine CN.of_CW ?_
  refine CW.region ?_
  refine WL.alloc1 (z := .slice none 0 0) (by kernel_rfl) rfl (by first | decide | exact Nat.le_of_ble_eq_true rfl) fun g3 w1 hx1 hg3 hB3 => ?_
  have hlt3 := hB3.lt; have hz1 := hx1.size
  have hM3 := hB3.mem; have hz1 := hx1.size; have hE := hE.thenExt hx1
  refine WL.nil ?_
  refine hK2 _ _ _ ?_; try clear hK2 K2
  refine CN.seq fun K3 hK3 => ?_
  refine CN.seq fun K4 hK4 => ?_
  refine CN.of_CW ?_
  refine CW.region ?_
  refine WL.val (Y.move rfl) (by first | decide | exact Nat.le_of_ble_eq_true rfl) ?_
  refine WL.call Try.func32 rfl rfl rfl (uall_z g _) (by simp) ?_; rintro v6 w2 hR2
  obtain ⟨b6, rfl, hgb, hBb, hx2⟩ := hR2
  have hz2 := hx2.size
  have hE := hE.thenExt hx2
  have hB3 := hB3.ext hx2
  refine WL.nil ?_
  refine hK4 _ _ _ ?_; try clear hK4 K4
  refine CN.block ?_
  refine CN.rangeN (rfl) Try.func51 rfl rfl (uall1_z g b6 _ (hB.ext hE) hBb) (fun _ => rfl) (by first | decide | exact Nat.le_of_ble_eq_true rfl) (fun _ h => h.elim) (fun _ _ _ _ _ _ h => h) (fun _ _ V => Blk V g3 TSR [.slice none 0 0] ∧ Ext w V) (fun _ _ _ => False) ?_ ?_ ?_ ?_ ?_ ?_ ?_
  · intro w1_ s_ V hw_ hz_ hc_ hs_
    exact ⟨(hB3.ext hw_).ext hc_, (hE.thenExt hw_).thenExt hc_⟩
  · intro s_ i_ V V_ hi_ hc_
    exact ⟨hi_.1.chg hc_ (fun h => by rcases h with h | h; exact h; omega), hi_.2.step hc_ (fun k h => by rcases h with h | h; exact h.elim; omega)⟩
  · intro s_ e_ V V_ hi_ hc_
    exact hi_.elim
  · intro s_ i_ V hi_
    trivial
  · intro s_ i_ x_ w3 hi_ hx_ hat_ hz_
    exact absurd hx_ (by simp)
  · intro s_ w12 hi_ hD_ hfin_
    obtain ⟨hB3, hE⟩ := hi_
    refine hK3 _ _ _ ?_; try clear hK3 K3
    refine CN.seq fun K7 hK7 => ?_
    refine CN.of_CW ?_
    refine CW.region ?_
    refine WL.val (Y.load1 Try.underlying38 rfl hB3.mem.cell0 rfl) (by first | decide | exact Nat.le_of_ble_eq_true rfl) ?_
    refine WL.val (Y.assign rfl) (by first | decide | exact Nat.le_of_ble_eq_true rfl) ?_
    refine WL.nil ?_
    refine hK7 _ _ _ ?_; try clear hK7 K7
    refine CN.ret ?_
    exact ⟨[w2.heap.size], rfl, by simp, (fun D hD => by simp at hD; subst hD; exact hD_), _, rfl, fun w_ hc => ⟨rfl, hE.step hc (fun k h => by simp at h; omega)⟩⟩
  · intro s_ e_ w13 hi_ hD_ hfin_ he_
    exact hi_.elim

end Go.Proofs.Ytmndofgagngcgaa
