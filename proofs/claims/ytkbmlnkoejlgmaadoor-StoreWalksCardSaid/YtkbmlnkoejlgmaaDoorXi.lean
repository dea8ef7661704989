/- Laws of a store that go over it: count, walked. No condition. -/
import Derived.Test.YtkbmlnkoejlgmaaDoorXh
set_option linter.unusedSimpArgs false
set_option linter.unusedVariables false
namespace Go.Proofs.YtkbmlnkoejlgmaaDoor
open Go.RowKit Go.Fw Go.Pl Go.Sort
/-- How far count comes. -/
def cntL (n : Nat) (most : Int) : Int := if 1 ≤ most ∧ most ≤ n then most else n
theorem cntL_le (n : Nat) (most : Int) : cntL n most ≤ n := by unfold cntL; split <;> omega

theorem count_any (g r : Nat) (l : List Ent) (most : Int) (w : World) (hT : StoreAt w g r l) : Calls Tryd.prog 17 #[.pointer (some ⟨g, 0, none⟩), .int .i64 most] w (Ret fun v w' => v = .int .i64 (cntL l.length most) ∧ Ext w w') := by
  have hfew := hT.few
  refine calls_of_CN 16 [4] [(0, .pointer (some ⟨g, 0, none⟩)), (1, .int .i64 most)] Tryd.func17 rfl rfl rfl (by simp) args2 ?_
  have hE : Ext w w := Chg.refl
  refine CN.seq fun K1 hK1 => ?_
  refine CN.of_CW ?_
  refine CW.region ?_   -- region 0
  refine WL.box rfl rfl (by first | decide | exact Nat.le_of_ble_eq_true rfl) fun g3 w1 hx1 hg3 hB3 => ?_   -- t3 := box 3 t1
  have hlt3 := hB3.lt; have hz1 := hx1.size
  have hM3 := hB3.mem; have hz1 := hx1.size; have hE := hE.thenExt hx1; have hT := hT.ext hx1
  refine WL.val (Y.assign rfl) (by first | decide | exact Nat.le_of_ble_eq_true rfl) ?_   -- t4 := assign c(0:i64)
  refine WL.nil ?_
  refine hK1 _ _ _ ?_; try clear hK1 K1
  refine CN.seq fun K2 hK2 => ?_
  refine CN.of_CW ?_
  refine CW.region ?_   -- region 1
  refine WL.allocStore1 (by kernel_rfl) rfl (by simp) rfl rfl (by first | decide | exact Nat.le_of_ble_eq_true rfl) fun g5 w2 hx2 hg5 hB5 => ?_   -- alloc 3; store 3 t5 c(0:i64)
  have hlt5 := hB5.lt; have hz2 := hx2.size
  have hM5 := hB5.mem; have hz2 := hx2.size; have hE := hE.thenExt hx2; have hT := hT.ext hx2; have hB3 := hB3.ext hx2
  refine WL.nil ?_
  refine hK2 _ _ _ ?_; try clear hK2 K2
  refine CN.seq fun K3 hK3 => ?_
  refine CN.seq fun K4 hK4 => ?_
  refine CN.of_CW ?_
  refine CW.region ?_   -- region 2
  refine WL.val (Y.move rfl) (by first | decide | exact Nat.le_of_ble_eq_true rfl) ?_   -- t6 := move t0
  refine WL.call Tryd.func16 rfl rfl rfl (sall_any ⟨g, 0, none⟩ _) (by simp) ?_; rintro v7 w3 hR3   -- t7 := call F16(t6) : 23
  obtain ⟨b, rfl, hgb, hBb, hx3⟩ := hR3
  have hz3 := hx3.size
  have hE := hE.thenExt hx3
  have hT := hT.ext hx3
  have hB3 := hB3.ext hx3
  have hB5 := hB5.ext hx3
  refine WL.nil ?_
  refine hK4 _ _ _ ?_; try clear hK4 K4
  refine CN.block ?_   -- block 0
  refine CN.range (rfl) Tryd.func27 rfl rfl (sall1_any g r b l _ hT hBb) (fun _ => rfl) (by first | decide | exact Nat.le_of_ble_eq_true rfl) (fun _ h => h.elim) (fun w1 s V hz hs i hk => by have := hs.lo; have := hk.1; omega) (fun s i V => s.bs.length = l.length ∧ (w3.heap.size ≤ s.lo ∧ ∀ j : Nat, 1 ≤ j → j ≤ i → (j : Int) ≠ most) ∧ Blk V g3 3 [.int .i64 most] ∧ Blk V g5 3 [.int .i64 (i : Int)] ∧ Ext w V) (fun _ e V => e = .exit 0 ∧ ∃ n : Int, n = cntL l.length most ∧ Blk V g5 3 [.int .i64 n] ∧ Ext w V) ?_ ?_ ?_ ?_ ?_ ?_
  · intro w1_ s_ V hw_ hz_ hc_ hs_
    exact ⟨by rw [hs_.len, namesL_length], ⟨by have := hs_.lo; omega, fun j h1 h2 => by omega⟩, (hB3.ext hw_).ext hc_, (hB5.ext hw_).ext hc_, (hE.thenExt hw_).thenExt hc_⟩
  · intro s_ i_ V V_ hi_ hc_
    obtain ⟨hbl, hlo, hB3, hB5, hE⟩ := hi_
    exact ⟨hbl, hlo, hB3.chg hc_ (fun h => by rcases h with h | h; exact h; omega), hB5.chg hc_ (fun h => by rcases h with h | h; exact h; omega), hE.step hc_ (fun k h => by rcases h with h | h; exact h.elim; omega)⟩
  · intro s_ e_ V V_ hi_ hc_
    obtain ⟨rfl, n, hn, hB5, hE⟩ := hi_
    exact ⟨rfl, n, hn, hB5.chg hc_ (fun h => by rcases h with h | h; exact h; omega), hE.step hc_ (fun k h => by rcases h with h | h; exact h.elim; omega)⟩
  · intro s_ i_ x_ w4 hi_ hx_ hat_ hz_
    obtain ⟨hbl, hlo, hB3, hB5, hE⟩ := hi_
    have hil : i_ < l.length := by
      have := (List.getElem?_eq_some_iff.1 hx_).1
      simp only [allXs, List.length_zip, namesL_length] at this
      omega
    refine CW.skip ?_
    have hE_ : Ext w4 w4 := Chg.refl
    refine ⟨hE_, fun w5 hc_ => ?_⟩
    have hz5 := hc_.size
    have hB3 := hB3.chg hc_ (fun h => by omega)
    have hB5 := hB5.chg hc_ (fun h => by omega)
    have hE := hE.step hc_ (fun k h => by omega)
    refine CW.block ?_   -- block 1
    refine CW.seq fun K5 hK5 => ?_
    refine CW.region ?_   -- region 3
    refine WL.val (Y.load1 Tryd.underlying3 rfl hB5.mem.cell0 rfl) (by first | decide | exact Nat.le_of_ble_eq_true rfl) ?_   -- t10 := load 3 t5
    refine WL.val (Y.add rfl rfl ⟨by omega, by omega⟩) (by first | decide | exact Nat.le_of_ble_eq_true rfl) ?_   -- t11 := binOp add 3 t10 c(1:i64) 3
    refine WL.store (g := g5) (pre := []) (old := [.int .i64 (i_ : Int)]) (post := []) (new := [.int .i64 ((i_ : Int) + 1)]) rfl rfl rfl rfl (by kernel_rfl) (by simpa using hB5) (by first | rfl | (simp [digC_length, opC_length]; done) | (simp only [digC_length, opC_length]; omega)) (one1 rfl) (fun w6 hc6 hB6_ => ?_)   -- _ := store 3 t5 t11
    have hz6 := hc6.size; have hE := hE.step hc6 (fun k h => by omega); have hB3 := hB3.chg hc6 (fun h => by omega)
    have hB5 : Blk w6 g5 3 [.int .i64 ((i_ : Int) + 1)] := by simpa using hB6_
    refine WL.nil ?_
    refine hK5 _ _ ?_; try clear hK5 K5
    refine CW.seq fun K6 hK6 => ?_
    refine CW.region ?_   -- region 4
    refine WL.val (Y.load1 Tryd.underlying3 rfl hB5.mem.cell0 rfl) (by first | decide | exact Nat.le_of_ble_eq_true rfl) ?_   -- t12 := load 3 t5
    refine WL.val (Y.load1 Tryd.underlying3 rfl hB3.mem.cell0 rfl) (by first | decide | exact Nat.le_of_ble_eq_true rfl) ?_   -- t13 := load 3 t3
    refine WL.val (Y.eql rfl rfl) (by first | decide | exact Nat.le_of_ble_eq_true rfl) ?_   -- t14 := binOp eql 3 t12 t13 3
    refine WL.nil ?_
    refine hK6 _ _ ?_; try clear hK6 K6
    first | refine CW.condD rfl (fun ht7 => ?_) (fun ht7 => ?_) | refine CW.condND rfl (fun ht7 => ?_) (fun ht7 => ?_) | refine CW.condN rfl (fun ht7 => ?_) (fun ht7 => ?_) | refine CW.cond rfl (fun ht7 => ?_) (fun ht7 => ?_)
    · -- then
      refine CW.exit ?_   -- exit 0
      exact ⟨⟨rfl, (i_ : Int) + 1, by unfold cntL; rw [if_pos (by omega)]; assumption, hB5, hE⟩, hc6.mono fun k _ h => by omega⟩
    -- else
    refine CW.skip ?_
    exact ⟨⟨hbl, ⟨hlo.1, fun j h1 h2 => by by_cases e : j = i_ + 1; (subst e; simpa using ht7); exact hlo.2 j h1 (by omega)⟩, hB3, by simpa using hB5, hE⟩, hc6.mono fun k _ h => ⟨fun hk => by have := hk.1; have := hlo.1; omega, by omega, by omega⟩⟩
  · intro s_ w7 hi_ hD_
    obtain ⟨hbl, hi_⟩ := hi_
    have hxl : (allXs l s_).length = l.length := by simp only [allXs, List.length_zip, namesL_length, hbl]; omega
    rw [hxl] at hi_
    obtain ⟨n, hn, hB5, hE⟩ : ∃ n : Int, n = cntL l.length most ∧ Blk w7 g5 3 [.int .i64 n] ∧ Ext w w7 := ⟨_, by unfold cntL; rw [if_neg (fun h => by have := hi_.1.2 most.toNat; omega)], hi_.2.2.1, hi_.2.2.2⟩
    refine hK3 _ _ _ ?_; try clear hK3 K3
    refine CN.seq fun K8 hK8 => ?_
    refine CN.of_CW ?_
    refine CW.region ?_   -- region 5
    refine WL.val (Y.load1 Tryd.underlying3 rfl hB5.mem.cell0 rfl) (by first | decide | exact Nat.le_of_ble_eq_true rfl) ?_   -- t15 := load 3 t5
    refine WL.val (Y.assign rfl) (by first | decide | exact Nat.le_of_ble_eq_true rfl) ?_   -- t4 := assign t15
    refine WL.nil ?_
    refine hK8 _ _ _ ?_; try clear hK8 K8
    refine CN.ret ?_
    exact ⟨[w3.heap.size], rfl, by simp, (fun D hD => by simp at hD; subst hD; exact hD_), _, rfl, fun w_ hc => ⟨by rw [hn], hE.step hc (fun k h => by simp at h; omega)⟩⟩ -- w3
  · intro s_ e_ w8 hi_ hD_ he_
    obtain ⟨rfl, hi_⟩ := hi_
    obtain ⟨n, hn, hB5, hE⟩ := hi_
    refine hK3 _ _ _ ?_; try clear hK3 K3
    refine CN.seq fun K9 hK9 => ?_
    refine CN.of_CW ?_
    refine CW.region ?_   -- region 5
    refine WL.val (Y.load1 Tryd.underlying3 rfl hB5.mem.cell0 rfl) (by first | decide | exact Nat.le_of_ble_eq_true rfl) ?_   -- t15 := load 3 t5
    refine WL.val (Y.assign rfl) (by first | decide | exact Nat.le_of_ble_eq_true rfl) ?_   -- t4 := assign t15
    refine WL.nil ?_
    refine hK9 _ _ _ ?_; try clear hK9 K9
    refine CN.ret ?_
    exact ⟨[w3.heap.size], rfl, by simp, (fun D hD => by simp at hD; subst hD; exact hD_), _, rfl, fun w_ hc => ⟨by rw [hn], hE.step hc (fun k h => by simp at h; omega)⟩⟩ -- w3
end Go.Proofs.YtkbmlnkoejlgmaaDoor
