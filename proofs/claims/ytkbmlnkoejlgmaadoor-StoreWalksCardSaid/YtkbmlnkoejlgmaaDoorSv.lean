/- digest.Sum, walked: SHA-256. No condition. -/
import Derived.Test.YtkbmlnkoejlgmaaDoorSu
set_option linter.unusedSimpArgs false
set_option linter.unusedVariables false
namespace Go.Proofs.YtkbmlnkoejlgmaaDoor
open Go.RowKit Go.Fw Go.Pl

theorem sum_any (u : Value) (b : List UInt8) (w : World) (hb : By w u b) (hbl : b ≠ [] → ∀ k, u.ownBlock = some k → k < w.heap.size) (hK : Mem w ⟨0, 0, none⟩ (wds keysL)) (hr : b.length ≤ 140737488351232) : Calls Tryd.prog 11 #[u] w (Ret fun v w' => v = digV (shaD b) ∧ Ext w w') := by
  obtain ⟨A, m, c, rfl⟩ := hb.lens
  have hk0 : (0 : Nat) < w.heap.size := hK.lt (fun h => by cases h)
  obtain ⟨id, hid, hzd, _⟩ := info_apiDigest
  refine calls_of_CWc 10 2 32 [(0, .slice A m c)] Tryd.func11 rfl rfl rfl Tryd.underlying28 rfl (by kernel_rfl) (by simp) args1 ?_
  have hE : Ext w w := Chg.refl
  refine CW.seq fun K1 hK1 => ?_
  refine CW.region ?_   -- region 0
  refine WL.alloc (hid) (hzd) rfl (by decide) fun g2 w1 hx1 hg2 hB2 => ?_   -- t2 := alloc 28
  have hlt2 := hB2.lt; have hz1 := hx1.size
  have hM2 := hB2.mem; have hz1 := hx1.size; have hE := hE.thenExt hx1
  refine WL.nil ?_
  refine hK1 _ _ ?_; try clear hK1 K1
  refine CW.seq fun K2 hK2 => ?_
  refine CW.region ?_   -- region 1
  refine WL.call Tryd.func24 rfl rfl rfl (new_any _) (by simp) ?_; rintro v4 w2 hR2   -- t4 := call F24() : 
  obtain ⟨g4, rfl, hg4, hB4, hx2⟩ := hR2
  have hz2 := hx2.size
  have hE := hE.thenExt hx2
  have hB2 := hB2.ext hx2
  refine WL.val (Y.assign rfl) (by decide) ?_   -- t3 := assign t4
  refine WL.nil ?_
  refine hK2 _ _ ?_; try clear hK2 K2
  refine CW.seq fun K3 hK3 => ?_
  refine CW.region ?_   -- region 2
  refine WL.val (Y.move rfl) (by decide) ?_   -- t5 := move t3
  refine WL.val (Y.move rfl) (by decide) ?_   -- t6 := move t0
  refine WL.call Tryd.func25 rfl rfl rfl (write_any g4 [] (List.replicate 64 0) _ b _ hB4 restOf_nil (hb.ext hE) (fun h k hk => by have := hbl h k hk; omega) (hK.ext hE) (by omega) (by simp; omega)) (by simp) ?_; rintro v7 w3 hR3   -- t7 := call F25(t5, t6) : 61,26
  obtain ⟨rest, hB4, hR4, hc3⟩ := hR3
  rw [List.nil_append] at hB4 hR4
  have hz3 := hc3.size
  have hE := hE.step hc3 (fun k h => by omega)
  have hB2 := hB2.chg hc3 (fun h => by have := hB2.lt; omega)
  refine WL.nil ?_
  refine hK3 _ _ ?_; try clear hK3 K3
  refine CW.seq fun K4 hK4 => ?_
  refine CW.region ?_   -- region 3
  refine WL.val (Y.move rfl) (by decide) ?_   -- t8 := move t3
  refine WL.call Tryd.func26 rfl rfl rfl (hsum_any g4 b rest _ hB4 hR4 (hK.ext hE) hr) (by simp) ?_; rintro v w4 ⟨rfl, hx4⟩; have hz4 := hx4.size; have hE := hE.thenExt hx4; have hB2 := hB2.ext hx4   -- t9 := call F26(t8) : 61
  refine WL.store (g := g2) (pre := []) (old := digC Dig.zero) (post := []) (new := digC (shaD b)) rfl rfl rfl rfl (sz_apiDigest _) (by simpa using hB2) (by first | (simp only [List.length_cons, List.length_nil, List.length_map, List.length_replicate, V8.ws, digC_length]; done) | rfl | (simp [digC_length, opC_length]; done) | (simp only [digC_length, opC_length]; omega)) (one_digC) (fun w5 hc5 hB5_ => ?_)   -- _ := store 28 t2 t9
  have hz5 := hc5.size; have hE := hE.step hc5 (fun k h => by omega)
  have hB2 : Blk w5 g2 TDi (digC (shaD b)) := by simpa using hB5_
  refine WL.nil ?_
  refine hK4 _ _ ?_; try clear hK4 K4
  refine CW.ret ?_
  exact ⟨_, _, rfl, hB2.mem, digC_length _, rfl, hE⟩
end Go.Proofs.YtkbmlnkoejlgmaaDoor
