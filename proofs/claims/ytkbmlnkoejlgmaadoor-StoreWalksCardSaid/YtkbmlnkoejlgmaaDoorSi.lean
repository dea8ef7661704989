/- The reference's mix, walked. No condition. -/
import Derived.Test.YtkbmlnkoejlgmaaDoorSe
set_option linter.unusedSimpArgs false
set_option linter.unusedVariables false
namespace Go.Pl
open Go.Fw
def wordsL : List UInt8 := [52, 50, 56, 97, 50, 102, 57, 56, 55, 49, 51, 55, 52, 52, 57, 49, 98, 53, 99, 48, 102, 98, 99, 102, 101, 57, 98, 53, 100, 98, 97, 53, 51, 57, 53, 54, 99, 50, 53, 98, 53, 57, 102, 49, 49, 49, 102, 49, 57, 50, 51, 102, 56, 50, 97, 52, 97, 98, 49, 99, 53, 101, 100, 53, 100, 56, 48, 55, 97, 97, 57, 56, 49, 50, 56, 51, 53, 98, 48, 49, 50, 52, 51, 49, 56, 53, 98, 101, 53, 53, 48, 99, 55, 100, 99, 51, 55, 50, 98, 101, 53, 100, 55, 52, 56, 48, 100, 101, 98, 49, 102, 101, 57, 98, 100, 99, 48, 54, 97, 55, 99, 49, 57, 98, 102, 49, 55, 52, 101, 52, 57, 98, 54, 57, 99, 49, 101, 102, 98, 101, 52, 55, 56, 54, 48, 102, 99, 49, 57, 100, 99, 54, 50, 52, 48, 99, 97, 49, 99, 99, 50, 100, 101, 57, 50, 99, 54, 102, 52, 97, 55, 52, 56, 52, 97, 97, 53, 99, 98, 48, 97, 57, 100, 99, 55, 54, 102, 57, 56, 56, 100, 97, 57, 56, 51, 101, 53, 49, 53, 50, 97, 56, 51, 49, 99, 54, 54, 100, 98, 48, 48, 51, 50, 55, 99, 56, 98, 102, 53, 57, 55, 102, 99, 55, 99, 54, 101, 48, 48, 98, 102, 51, 100, 53, 97, 55, 57, 49, 52, 55, 48, 54, 99, 97, 54, 51, 53, 49, 49, 52, 50, 57, 50, 57, 54, 55, 50, 55, 98, 55, 48, 97, 56, 53, 50, 101, 49, 98, 50, 49, 51, 56, 52, 100, 50, 99, 54, 100, 102, 99, 53, 51, 51, 56, 48, 100, 49, 51, 54, 53, 48, 97, 55, 51, 53, 52, 55, 54, 54, 97, 48, 97, 98, 98, 56, 49, 99, 50, 99, 57, 50, 101, 57, 50, 55, 50, 50, 99, 56, 53, 97, 50, 98, 102, 101, 56, 97, 49, 97, 56, 49, 97, 54, 54, 52, 98, 99, 50, 52, 98, 56, 98, 55, 48, 99, 55, 54, 99, 53, 49, 97, 51, 100, 49, 57, 50, 101, 56, 49, 57, 100, 54, 57, 57, 48, 54, 50, 52, 102, 52, 48, 101, 51, 53, 56, 53, 49, 48, 54, 97, 97, 48, 55, 48, 49, 57, 97, 52, 99, 49, 49, 54, 49, 101, 51, 55, 54, 99, 48, 56, 50, 55, 52, 56, 55, 55, 52, 99, 51, 52, 98, 48, 98, 99, 98, 53, 51, 57, 49, 99, 48, 99, 98, 51, 52, 101, 100, 56, 97, 97, 52, 97, 53, 98, 57, 99, 99, 97, 52, 102, 54, 56, 50, 101, 54, 102, 102, 51, 55, 52, 56, 102, 56, 50, 101, 101, 55, 56, 97, 53, 54, 51, 54, 102, 56, 52, 99, 56, 55, 56, 49, 52, 56, 99, 99, 55, 48, 50, 48, 56, 57, 48, 98, 101, 102, 102, 102, 97, 97, 52, 53, 48, 54, 99, 101, 98, 98, 101, 102, 57, 97, 51, 102, 55, 99, 54, 55, 49, 55, 56, 102, 50]
set_option maxRecDepth 100000 in
theorem words_ok : ∀ i : Nat, i < 64 → wordL wordsL i 8 = keysL.getD i 0 := by decide +kernel
theorem or_add4 (a b c d : Nat) (hb : b < 256) (hc : c < 256) (hd : d < 256) : ((a <<< 24 ||| b <<< 16) ||| c <<< 8) ||| d = a <<< 24 + b <<< 16 + c <<< 8 + d := by
  have e1 : a <<< 24 ||| b <<< 16 = a <<< 24 + b <<< 16 := (Nat.shiftLeft_add_eq_or_of_lt (by rw [Nat.shiftLeft_eq]; omega) a).symm
  have e2 : a <<< 24 + b <<< 16 = (a * 256 + b) <<< 16 := by simp only [Nat.shiftLeft_eq]; omega
  have e3 : (a * 256 + b) <<< 16 ||| c <<< 8 = (a * 256 + b) <<< 16 + c <<< 8 := (Nat.shiftLeft_add_eq_or_of_lt (by rw [Nat.shiftLeft_eq]; omega) _).symm
  have e4 : (a * 256 + b) <<< 16 + c <<< 8 = ((a * 256 + b) * 256 + c) <<< 8 := by simp only [Nat.shiftLeft_eq]; omega
  have e5 : ((a * 256 + b) * 256 + c) <<< 8 ||| d = ((a * 256 + b) * 256 + c) <<< 8 + d := (Nat.shiftLeft_add_eq_or_of_lt (by omega) _).symm
  rw [e1, e2, e3, e4, e5]
def wordP (b : List UInt8) (i : Nat) : UInt32 := (((b.getD (4 * i) 0).toUInt32 <<< UInt32.ofNat 24 + (b.getD (4 * i + 1) 0).toUInt32 <<< UInt32.ofNat 16) + (b.getD (4 * i + 2) 0).toUInt32 <<< UInt32.ofNat 8) + (b.getD (4 * i + 3) 0).toUInt32
theorem word_add (p q r s : UInt8) : ((p.toUInt32 <<< UInt32.ofNat 24 + q.toUInt32 <<< UInt32.ofNat 16) + r.toUInt32 <<< UInt32.ofNat 8) + s.toUInt32 = ((p.toUInt32 <<< UInt32.ofNat 24 ||| q.toUInt32 <<< UInt32.ofNat 16) ||| r.toUInt32 <<< UInt32.ofNat 8) ||| s.toUInt32 := by
  apply UInt32.toNat_inj.1
  have hp := p.toNat_lt
  have hq := q.toNat_lt
  have hr := r.toNat_lt
  have hs := s.toNat_lt
  have f1 : ∀ (x : UInt8) (m : Nat), m < 32 → x.toNat * 2 ^ m < 4294967296 → (x.toUInt32 <<< UInt32.ofNat m).toNat = x.toNat <<< m := by
    intro x m hm hx
    rw [UInt32.toNat_shiftLeft, UInt8.toNat_toUInt32, UInt32.toNat_ofNat', show m % 2 ^ 32 % 32 = m by omega, Nat.shiftLeft_eq, Nat.mod_eq_of_lt hx]
  have g1 := f1 p 24 (by omega) (by omega)
  have g2 := f1 q 16 (by omega) (by omega)
  have g3 := f1 r 8 (by omega) (by omega)
  rw [UInt32.toNat_or, UInt32.toNat_or, UInt32.toNat_or, UInt32.toNat_add, UInt32.toNat_add, UInt32.toNat_add, g1, g2, g3, UInt8.toNat_toUInt32, or_add4 _ _ _ _ hq hr hs]
  simp only [Nat.shiftLeft_eq]
  omega
theorem wordP_eq (b : List UInt8) (i : Nat) : wordP b i = wordB b i := word_add _ _ _ _
end Go.Pl
namespace Go.Proofs.YtkbmlnkoejlgmaaDoor
open Go.RowKit Go.Fw Go.Pl
abbrev TW : TypeId := 72
abbrev sz0_uint32 := @sz_u32
theorem ai_w : AppInfo Tryd.prog 72 1 4 := by
  have h : (Tryd.prog.info? 72).map (fun i => (i.size, i.bytes, i.zero)) = some (1, 4, some (.int .u32 0)) := by kernel_rfl
  obtain ⟨i, hi, h⟩ := Option.map_eq_some_iff.1 h
  injection h with h1 h2
  injection h2 with h2 h3
  exact ⟨i, _, hi, h3, h1, rfl, h2, by decide, by decide⟩
theorem bs1_w (x : UInt32) (w : World) : (Instr.buildSlice 85 1 [(0, wd x)].toArray).run Tryd.prog w = .ok (.slice (some ⟨w.heap.size, 0, none⟩) 1 1) (w.alloc (.cells [wd x].toArray 72)) := by
  obtain ⟨i, z, hi, hz, hk, _⟩ := ai_w
  exact run_bs1 Tryd.underlying85 hi hz (by omega) (by omega) rfl (by rw [hk]; rfl) w
theorem run_bsV {P : Program} {t e : TypeId} {b : Nat} (hu : P.underlying t = some (.slice e)) (hi : AppInfo P e 1 b) (l : List Value) (hc1 : ∀ u ∈ l, u.oneCell' = true) (h0 : 0 < l.length) (hs : l.length ≤ 16777216) (w : World) :
    (Instr.buildSlice t l.length ((l.zipIdx 0).map fun x => (x.2, x.1)).toArray).run P w = .ok (.slice (some ⟨w.heap.size, 0, none⟩) l.length l.length) (w.alloc (.cells l.toArray e)) := by
  obtain ⟨i, z, hi, hz, hk, hzs, hb, h1, h2⟩ := hi
  refine run_buildSlice w t e l.length _ _ i z hu hi hz (by rw [hk]; omega) (by rw [hk]; omega) ?_
  rw [hk]
  have h := Go.Great.fill_whole (s := 1) (by decide) l ((Array.range (l.length * 1)).map (z.cells[· % z.cells.size]!)) (by intro u hu; have := hc1 u hu; cases u <;> first | rfl | simp [Value.oneCell'] at this) (by simp)
  rw [flat_cells1 hc1] at h
  exact h
theorem bs8_w (v : V8) (w : World) : (Instr.buildSlice 85 8 [(0, wd v.a), (1, wd v.b), (2, wd v.c), (3, wd v.d), (4, wd v.e), (5, wd v.f), (6, wd v.g), (7, wd v.h)].toArray).run Tryd.prog w = .ok (.slice (some ⟨w.heap.size, 0, none⟩) 8 8) (w.alloc (.cells (wds v.ws).toArray 72)) :=
  run_bsV Tryd.underlying85 ai_w (wds v.ws) wds_one (by show 0 < 8; decide) (by show 8 ≤ _; decide) w
theorem word_key {s : ByteArray} (h : s.data = wordsL.toArray) {i : Nat} (hi : i < 64) : wd (wordL s.toList i 8) = wd (keysL.getD i 0) := by
  rw [ByteArray.toList_eq, h]
  exact congrArg wd (words_ok i hi)

set_option maxRecDepth 20000 in
set_option maxHeartbeats 4000000 in
theorem mix_any (s : V8) (sa : Addr) (sc : Nat) (u : Value) (b : List UInt8) (w : World) (hs : Mem w sa (wds s.ws)) (hb : By w u b) (hlen : b.length = 64) : Calls Tryd.prog 42 #[.slice (some sa) 8 sc, u] w (Ret fun r w' => ∃ g, r = .slice (some ⟨g, 0, none⟩) 8 8 ∧ w.heap.size ≤ g ∧ Blk w' g TW (wds (mixV s b).ws) ∧ Ext w w') := by
  obtain ⟨A, m, c, rfl⟩ := hb.lens
  obtain ⟨hm, hmc, hcm⟩ := hb.len
  obtain ⟨a, rfl, hba⟩ := hb.mem.1 (by omega)
  have hab : a.block < w.heap.size := hba.lt (fun h => by have := congrArg List.length h; rw [bytesC_length, hlen] at this; cases this)
  refine calls_of_CW 251 [4] [(0, .slice (some sa) 8 sc), (1, .slice (some a) m c)] Tryd.func42 rfl rfl rfl (by simp) args2 ?_
  have hE : Ext w w := Chg.refl
  refine CW.seq fun K1 hK1 => ?_
  refine CW.region ?_   -- region 0
  refine WL.val (Y.assign rfl) (by decide) ?_   -- t4 := assign c(nilslice)
  refine WL.nil ?_
  refine hK1 _ _ ?_; try clear hK1 K1
  refine CW.seq fun K2 hK2 => ?_
  refine CW.region ?_   -- region 1
  refine WL.val (Y.assign rfl) (by decide) ?_   -- t5 := assign c(nilslice)
  refine WL.nil ?_
  refine hK2 _ _ ?_; try clear hK2 K2
  refine CW.seq fun K3 hK3 => ?_
  refine CW.seq fun K4 hK4 => ?_
  refine CW.region ?_   -- region 2
  refine WL.val (Y.assign rfl) (by decide) ?_   -- t6 := assign c(0:i64)
  refine WL.nil ?_
  refine hK4 _ _ ?_; try clear hK4 K4
  refine CW.block ?_   -- block 0
  refine CW.loop (X := Nat × Value) (fun x => [(0, .slice (some sa) 8 sc), (1, .slice (some a) m c), (5, x.2), (6, .int .i64 (x.1 : Int))]) (fun x w0 => x.1 ≤ 16 ∧ Ext w w0 ∧ Own w0 TW 1 x.2 (wds (schedN b x.1)) ∧ (∀ k, x.2.ownBlock = some k → w.heap.size ≤ k)) (fun x => 16 - x.1) (0, .slice none 0 0) (by repeat (first | exact Fr.le.nil | refine Fr.le.cons rfl ?_)) ⟨Nat.zero_le _, hE, Own.nil, fun k h => by simp [Value.ownBlock] at h⟩ ?_
  intro x w1 hl1
  obtain ⟨x, u⟩ := x
  dsimp only at hl1 ⊢
  obtain ⟨hx, hE, hO, hfu⟩ := hl1
  obtain ⟨B, mb, cb, rfl⟩ := hO.lens
  have hbm := hba.ext hE
  have hz1 := hE.size
  refine CW.seq fun K5 hK5 => ?_
  refine CW.seq fun K6 hK6 => ?_
  refine CW.region ?_   -- region 3
  refine WL.val (Y.move rfl) (by decide) ?_   -- t21 := move t6
  refine WL.val (Y.lss rfl rfl) (by decide) ?_   -- t22 := binOp lss 3 t21 c(16:i64) 3
  refine WL.nil ?_
  refine hK6 _ _ ?_; try clear hK6 K6
  first | refine CW.condD rfl (fun ht7 => ?_) (fun ht7 => ?_) | refine CW.condND rfl (fun ht7 => ?_) (fun ht7 => ?_) | refine CW.condN rfl (fun ht7 => ?_) (fun ht7 => ?_) | refine CW.cond rfl (fun ht7 => ?_) (fun ht7 => ?_)
  · -- then
    refine CW.skip ?_
    refine hK5 _ _ ?_; try clear hK5 K5
    refine CW.seq fun K8 hK8 => ?_
    refine CW.block ?_   -- block 1
    refine CW.held (fun wq => Chg (fun k => w.heap.size ≤ k) w1 wq) (by kernel_rfl) 37 rfl fun w2 hx2 => ?_; have hz2 := hx2.size; have hE := hE.thenExt hx2
    have hS : Chg (fun k => w.heap.size ≤ k) w1 w2 := hx2.mono fun _ _ f => f.elim
    have hO := hO.ext hx2
    refine RH.take 0 (fun _ _ _ _ h => h) (by kernel_rfl) hS rfl (by kernel_rfl) (by kernel_rfl) (fun wq hq => Y.move rfl) (by decide) ?_   -- t25 := move t5
    refine RH.take 1 (fun _ _ _ _ h => h) (by kernel_rfl) hS rfl (by kernel_rfl) (by kernel_rfl) (fun wq hq => Y.move rfl) (by decide) ?_   -- t26 := move t1
    refine RH.take 2 (fun _ _ _ _ h => h) (by kernel_rfl) hS rfl (by kernel_rfl) (by kernel_rfl) (fun wq hq => Y.move rfl) (by decide) ?_   -- t27 := move t6
    refine RH.take 3 (fun _ _ _ _ h => h) (by kernel_rfl) hS rfl (by kernel_rfl) (by kernel_rfl) (fun wq hq => Y.mul rfl rfl ⟨by omega, by omega⟩) (by decide) ?_   -- t28 := binOp mul 3 c(4:i64) t27 3
    refine RH.take 4 (fun _ _ _ _ h => h) (by kernel_rfl) hS rfl (by kernel_rfl) (by kernel_rfl) (fun wq hq => Y.indexAddrN Tryd.underlying26 rfl rfl sz0_uint8 (i := 4 * x) (by omega)) (by decide) ?_   -- t29 := indexAddr 26 t26 t28
    refine RH.take 5 (fun _ _ _ _ h => h) (by kernel_rfl) hS rfl (by kernel_rfl) (by kernel_rfl) (fun wq hq => Y.load1 Tryd.underlying5 rfl ((hbm.chg hq (Nat.not_le.2 hab)).bt (by omega)) rfl) (by decide) ?_   -- t30 := load 5 t29
    refine RH.take 6 (fun _ _ _ _ h => h) (by kernel_rfl) hS rfl (by kernel_rfl) (by kernel_rfl) (fun wq hq => Y.conv8W Tryd.underlying5 Tryd.underlying72 rfl) (by decide) ?_   -- t31 := convert 5 72 t30
    refine RH.take 7 (fun _ _ _ _ h => h) (by kernel_rfl) hS rfl (by kernel_rfl) (by kernel_rfl) (fun wq hq => Y.shlW 24 rfl rfl rfl (by decide)) (by decide) ?_   -- t32 := binOp shl 72 t31 c(24:u64) 81
    refine RH.take 8 (fun _ _ _ _ h => h) (by kernel_rfl) hS rfl (by kernel_rfl) (by kernel_rfl) (fun wq hq => Y.move rfl) (by decide) ?_   -- t33 := move t1
    refine RH.take 9 (fun _ _ _ _ h => h) (by kernel_rfl) hS rfl (by kernel_rfl) (by kernel_rfl) (fun wq hq => Y.move rfl) (by decide) ?_   -- t34 := move t6
    refine RH.take 10 (fun _ _ _ _ h => h) (by kernel_rfl) hS rfl (by kernel_rfl) (by kernel_rfl) (fun wq hq => Y.mul rfl rfl ⟨by omega, by omega⟩) (by decide) ?_   -- t35 := binOp mul 3 c(4:i64) t34 3
    refine RH.take 11 (fun _ _ _ _ h => h) (by kernel_rfl) hS rfl (by kernel_rfl) (by kernel_rfl) (fun wq hq => Y.add rfl rfl ⟨by omega, by omega⟩) (by decide) ?_   -- t36 := binOp add 3 t35 c(1:i64) 3
    refine RH.take 12 (fun _ _ _ _ h => h) (by kernel_rfl) hS rfl (by kernel_rfl) (by kernel_rfl) (fun wq hq => Y.indexAddrN Tryd.underlying26 rfl rfl sz0_uint8 (i := 4 * x + 1) (by omega)) (by decide) ?_   -- t37 := indexAddr 26 t33 t36
    refine RH.take 13 (fun _ _ _ _ h => h) (by kernel_rfl) hS rfl (by kernel_rfl) (by kernel_rfl) (fun wq hq => Y.load1 Tryd.underlying5 rfl ((hbm.chg hq (Nat.not_le.2 hab)).bt (by omega)) rfl) (by decide) ?_   -- t38 := load 5 t37
    refine RH.take 14 (fun _ _ _ _ h => h) (by kernel_rfl) hS rfl (by kernel_rfl) (by kernel_rfl) (fun wq hq => Y.conv8W Tryd.underlying5 Tryd.underlying72 rfl) (by decide) ?_   -- t39 := convert 5 72 t38
    refine RH.take 15 (fun _ _ _ _ h => h) (by kernel_rfl) hS rfl (by kernel_rfl) (by kernel_rfl) (fun wq hq => Y.shlW 16 rfl rfl rfl (by decide)) (by decide) ?_   -- t40 := binOp shl 72 t39 c(16:u64) 81
    refine RH.take 16 (fun _ _ _ _ h => h) (by kernel_rfl) hS rfl (by kernel_rfl) (by kernel_rfl) (fun wq hq => Y.addW rfl rfl) (by decide) ?_   -- t41 := binOp add 72 t32 t40 72
    refine RH.take 17 (fun _ _ _ _ h => h) (by kernel_rfl) hS rfl (by kernel_rfl) (by kernel_rfl) (fun wq hq => Y.move rfl) (by decide) ?_   -- t42 := move t1
    refine RH.take 18 (fun _ _ _ _ h => h) (by kernel_rfl) hS rfl (by kernel_rfl) (by kernel_rfl) (fun wq hq => Y.move rfl) (by decide) ?_   -- t43 := move t6
    refine RH.take 19 (fun _ _ _ _ h => h) (by kernel_rfl) hS rfl (by kernel_rfl) (by kernel_rfl) (fun wq hq => Y.mul rfl rfl ⟨by omega, by omega⟩) (by decide) ?_   -- t44 := binOp mul 3 c(4:i64) t43 3
    refine RH.take 20 (fun _ _ _ _ h => h) (by kernel_rfl) hS rfl (by kernel_rfl) (by kernel_rfl) (fun wq hq => Y.add rfl rfl ⟨by omega, by omega⟩) (by decide) ?_   -- t45 := binOp add 3 t44 c(2:i64) 3
    refine RH.take 21 (fun _ _ _ _ h => h) (by kernel_rfl) hS rfl (by kernel_rfl) (by kernel_rfl) (fun wq hq => Y.indexAddrN Tryd.underlying26 rfl rfl sz0_uint8 (i := 4 * x + 2) (by omega)) (by decide) ?_   -- t46 := indexAddr 26 t42 t45
    refine RH.take 22 (fun _ _ _ _ h => h) (by kernel_rfl) hS rfl (by kernel_rfl) (by kernel_rfl) (fun wq hq => Y.load1 Tryd.underlying5 rfl ((hbm.chg hq (Nat.not_le.2 hab)).bt (by omega)) rfl) (by decide) ?_   -- t47 := load 5 t46
    refine RH.take 23 (fun _ _ _ _ h => h) (by kernel_rfl) hS rfl (by kernel_rfl) (by kernel_rfl) (fun wq hq => Y.conv8W Tryd.underlying5 Tryd.underlying72 rfl) (by decide) ?_   -- t48 := convert 5 72 t47
    refine RH.take 24 (fun _ _ _ _ h => h) (by kernel_rfl) hS rfl (by kernel_rfl) (by kernel_rfl) (fun wq hq => Y.shlW 8 rfl rfl rfl (by decide)) (by decide) ?_   -- t49 := binOp shl 72 t48 c(8:u64) 81
    refine RH.take 25 (fun _ _ _ _ h => h) (by kernel_rfl) hS rfl (by kernel_rfl) (by kernel_rfl) (fun wq hq => Y.addW rfl rfl) (by decide) ?_   -- t50 := binOp add 72 t41 t49 72
    refine RH.take 26 (fun _ _ _ _ h => h) (by kernel_rfl) hS rfl (by kernel_rfl) (by kernel_rfl) (fun wq hq => Y.move rfl) (by decide) ?_   -- t51 := move t1
    refine RH.take 27 (fun _ _ _ _ h => h) (by kernel_rfl) hS rfl (by kernel_rfl) (by kernel_rfl) (fun wq hq => Y.move rfl) (by decide) ?_   -- t52 := move t6
    refine RH.take 28 (fun _ _ _ _ h => h) (by kernel_rfl) hS rfl (by kernel_rfl) (by kernel_rfl) (fun wq hq => Y.mul rfl rfl ⟨by omega, by omega⟩) (by decide) ?_   -- t53 := binOp mul 3 c(4:i64) t52 3
    refine RH.take 29 (fun _ _ _ _ h => h) (by kernel_rfl) hS rfl (by kernel_rfl) (by kernel_rfl) (fun wq hq => Y.add rfl rfl ⟨by omega, by omega⟩) (by decide) ?_   -- t54 := binOp add 3 t53 c(3:i64) 3
    refine RH.take 30 (fun _ _ _ _ h => h) (by kernel_rfl) hS rfl (by kernel_rfl) (by kernel_rfl) (fun wq hq => Y.indexAddrN Tryd.underlying26 rfl rfl sz0_uint8 (i := 4 * x + 3) (by omega)) (by decide) ?_   -- t55 := indexAddr 26 t51 t54
    refine RH.take 31 (fun _ _ _ _ h => h) (by kernel_rfl) hS rfl (by kernel_rfl) (by kernel_rfl) (fun wq hq => Y.load1 Tryd.underlying5 rfl ((hbm.chg hq (Nat.not_le.2 hab)).bt (by omega)) rfl) (by decide) ?_   -- t56 := load 5 t55
    refine RH.take 32 (fun _ _ _ _ h => h) (by kernel_rfl) hS rfl (by kernel_rfl) (by kernel_rfl) (fun wq hq => Y.conv8W Tryd.underlying5 Tryd.underlying72 rfl) (by decide) ?_   -- t57 := convert 5 72 t56
    refine RH.take 33 (fun _ _ _ _ h => h) (by kernel_rfl) hS rfl (by kernel_rfl) (by kernel_rfl) (fun wq hq => Y.addW rfl rfl) (by decide) ?_   -- t58 := binOp add 72 t50 t57 72
    refine RH.one 34 (by kernel_rfl) ?_
    refine RS.st rfl (St.buildSlice rfl (bs1_w _)) (by decide) fun v59 w3 hR3 => ?_   -- buildSlice 85 1 [(0,t58)]
    obtain ⟨g59, rfl, hg59, hB59, hx3⟩ := hR3
    have hz3 := hx3.size
    have hE := hE.thenExt hx3
    have hO := hO.ext hx3
    have hS := hS.thenExt hx3
    refine ⟨hS, ?_⟩
    refine RH.one 35 (by kernel_rfl) ?_
    refine RS.st rfl (St.append Tryd.underlying85 Tryd.underlying85 ai_w rfl rfl hO (Src.one hB59 rfl) (one1 rfl) (by rw [List.length_map, schedN_length]; omega)) (by decide) fun v60 w4 hR4 => ?_   -- call append(t25, t59) : 85,85
    obtain ⟨hO4, hc4, hf4⟩ := hR4
    have hz4 := hc4.size
    have hE := hE.step hc4 (fun k h => hfu k h)
    have hf4 : ∀ k, v60.ownBlock = some k → w.heap.size ≤ k := by
      rcases hf4 with h | h
      · intro k hk; rw [h] at hk; exact hfu k hk
      · intro k hk; have := h k hk; omega
    have hS := hS.trans hc4 (fun k _ h => hfu k h)
    refine ⟨hS, ?_⟩
    refine RH.take 36 (fun _ _ _ _ h => h) (by kernel_rfl) hS rfl (by kernel_rfl) (by kernel_rfl) (fun wq hq => Y.assign rfl) (by decide) ?_   -- t5 := assign t60
    refine RH.done (by kernel_rfl) ?_
    refine hK8 _ _ ?_; try clear hK8 K8
    refine CW.region ?_   -- region 4
    refine WL.val (Y.move rfl) (by decide) ?_   -- t23 := move t6
    refine WL.val (Y.add rfl rfl ⟨by omega, by omega⟩) (by decide) ?_   -- t24 := binOp add 3 t23 c(1:i64) 3
    refine WL.val (Y.assign rfl) (by decide) ?_   -- t6 := assign t24
    refine WL.nil ?_
    refine ⟨(x + 1, v60), by show 16 - (x + 1) < 16 - x; omega, (by repeat (first | exact Fr.le.nil | refine Fr.le.cons rfl ?_)), by show x + 1 ≤ 16; omega, hE, ?_, hf4⟩
    show Own _ TW 1 v60 (wds (schedN b (x + 1)))
    rw [sched_lo b (by omega), ← wordP_eq, wds, List.map_append]
    exact hO4
  -- else
  refine CW.exit ?_   -- exit 0
  refine hK3 _ _ ?_; try clear hK3 K3
  refine CW.seq fun K9 hK9 => ?_
  refine CW.seq fun K10 hK10 => ?_
  refine CW.region ?_   -- region 6
  refine WL.val (Y.assign rfl) (by decide) ?_   -- t7 := assign c(16:i64)
  refine WL.nil ?_
  refine hK10 _ _ ?_; try clear hK10 K10
  refine CW.block ?_   -- block 2
  refine CW.loop (X := Nat × Value) (fun x => [(0, .slice (some sa) 8 sc), (5, x.2), (7, .int .i64 (x.1 : Int))]) (fun x w0 => 16 ≤ x.1 ∧ x.1 ≤ 64 ∧ Ext w w0 ∧ Own w0 TW 1 x.2 (wds (schedN b x.1)) ∧ (∀ k, x.2.ownBlock = some k → w.heap.size ≤ k)) (fun x => 64 - x.1) (16, .slice B mb cb) (by repeat (first | exact Fr.le.nil | refine Fr.le.cons rfl ?_)) ⟨Nat.le_refl _, (by show 16 ≤ 64; decide), hE, by rw [show x = 16 by omega] at hO; exact hO, hfu⟩ ?_
  intro x w5 hl5
  clear hE hO hfu hx
  obtain ⟨x, u⟩ := x
  dsimp only at hl5 ⊢
  obtain ⟨hxa, hxb, hE, hO, hfu⟩ := hl5
  obtain ⟨B, mb, cb, rfl⟩ := hO.lens
  obtain ⟨hA, _, hlm, _, _⟩ := hO.mem B mb cb rfl
  rw [List.length_map, schedN_length] at hlm
  obtain ⟨d, rfl, hMW⟩ := hA (by omega)
  have hz5 := hE.size
  refine CW.seq fun K11 hK11 => ?_
  refine CW.seq fun K12 hK12 => ?_
  refine CW.region ?_   -- region 7
  refine WL.val (Y.move rfl) (by decide) ?_   -- t61 := move t7
  refine WL.val (Y.lss rfl rfl) (by decide) ?_   -- t62 := binOp lss 3 t61 c(64:i64) 3
  refine WL.nil ?_
  refine hK12 _ _ ?_; try clear hK12 K12
  first | refine CW.condD rfl (fun ht13 => ?_) (fun ht13 => ?_) | refine CW.condND rfl (fun ht13 => ?_) (fun ht13 => ?_) | refine CW.condN rfl (fun ht13 => ?_) (fun ht13 => ?_) | refine CW.cond rfl (fun ht13 => ?_) (fun ht13 => ?_)
  · -- then
    refine CW.skip ?_
    refine hK11 _ _ ?_; try clear hK11 K11
    refine CW.seq fun K14 hK14 => ?_
    refine CW.block ?_   -- block 3
    refine CW.seq fun K15 hK15 => ?_
    refine CW.quiet (fun wq => Ext w5 wq) (by kernel_rfl) (by kernel_rfl) Chg.drew ?_
    refine QL.val (fun wq hq => Y.move rfl) (by decide) ?_   -- t65 := move t5
    refine QL.val (fun wq hq => Y.move rfl) (by decide) ?_   -- t66 := move t7
    refine QL.val (fun wq hq => Y.sub rfl rfl ⟨by omega, by omega⟩) (by decide) ?_   -- t67 := binOp sub 3 t66 c(15:i64) 3
    refine QL.val (fun wq hq => Y.indexAddr Tryd.underlying85 rfl rfl sz0_uint32 (by omega) (by omega)) (by decide) ?_   -- t68 := indexAddr 85 t65 t67
    refine QL.val (fun wq hq => Y.load1 Tryd.underlying72 rfl ((hMW.ext hq).wdI (j := x - 15) (by omega) (sched_get (by omega))) rfl) (by decide) ?_   -- t69 := load 72 t68
    refine QL.call Tryd.func49 rfl rfl rfl (fun wq hq => ret_ext (turn_any _ 7 _ (by decide) (by decide)) hq) (by simp) ?_   -- t70 := call F49(t69, c(7:u64)) : 72,81
    refine QL.val (fun wq hq => Y.move rfl) (by decide) ?_   -- t71 := move t5
    refine QL.val (fun wq hq => Y.move rfl) (by decide) ?_   -- t72 := move t7
    refine QL.val (fun wq hq => Y.sub rfl rfl ⟨by omega, by omega⟩) (by decide) ?_   -- t73 := binOp sub 3 t72 c(15:i64) 3
    refine QL.val (fun wq hq => Y.indexAddr Tryd.underlying85 rfl rfl sz0_uint32 (by omega) (by omega)) (by decide) ?_   -- t74 := indexAddr 85 t71 t73
    refine QL.val (fun wq hq => Y.load1 Tryd.underlying72 rfl ((hMW.ext hq).wdI (j := x - 15) (by omega) (sched_get (by omega))) rfl) (by decide) ?_   -- t75 := load 72 t74
    refine QL.call Tryd.func49 rfl rfl rfl (fun wq hq => ret_ext (turn_any _ 18 _ (by decide) (by decide)) hq) (by simp) ?_   -- t76 := call F49(t75, c(18:u64)) : 72,81
    refine QL.val (fun wq hq => Y.xorW rfl rfl) (by decide) ?_   -- t77 := binOp xor 72 t70 t76 72
    refine QL.val (fun wq hq => Y.move rfl) (by decide) ?_   -- t78 := move t5
    refine QL.val (fun wq hq => Y.move rfl) (by decide) ?_   -- t79 := move t7
    refine QL.val (fun wq hq => Y.sub rfl rfl ⟨by omega, by omega⟩) (by decide) ?_   -- t80 := binOp sub 3 t79 c(15:i64) 3
    refine QL.val (fun wq hq => Y.indexAddr Tryd.underlying85 rfl rfl sz0_uint32 (by omega) (by omega)) (by decide) ?_   -- t81 := indexAddr 85 t78 t80
    refine QL.val (fun wq hq => Y.load1 Tryd.underlying72 rfl ((hMW.ext hq).wdI (j := x - 15) (by omega) (sched_get (by omega))) rfl) (by decide) ?_   -- t82 := load 72 t81
    refine QL.val (fun wq hq => Y.shrW 3 rfl rfl rfl (by decide)) (by decide) ?_   -- t83 := binOp shr 72 t82 c(3:u64) 81
    refine QL.val (fun wq hq => Y.xorW rfl rfl) (by decide) ?_   -- t84 := binOp xor 72 t77 t83 72
    refine QL.val (fun wq hq => Y.assign rfl) (by decide) ?_   -- t8 := assign t84
    refine QL.nil fun w6 hx6 => ?_
    have hz6 := hx6.size
    have hE := hE.thenExt hx6
    refine hK15 _ _ ?_; try clear hK15 K15
    refine CW.seq fun K16 hK16 => ?_
    refine CW.quiet (fun wq => Ext w6 wq) (by kernel_rfl) (by kernel_rfl) Chg.drew ?_
    refine QL.val (fun wq hq => Y.move rfl) (by decide) ?_   -- t85 := move t5
    refine QL.val (fun wq hq => Y.move rfl) (by decide) ?_   -- t86 := move t7
    refine QL.val (fun wq hq => Y.sub rfl rfl ⟨by omega, by omega⟩) (by decide) ?_   -- t87 := binOp sub 3 t86 c(2:i64) 3
    refine QL.val (fun wq hq => Y.indexAddr Tryd.underlying85 rfl rfl sz0_uint32 (by omega) (by omega)) (by decide) ?_   -- t88 := indexAddr 85 t85 t87
    refine QL.val (fun wq hq => Y.load1 Tryd.underlying72 rfl ((hMW.ext (hx6.thenExt hq)).wdI (j := x - 2) (by omega) (sched_get (by omega))) rfl) (by decide) ?_   -- t89 := load 72 t88
    refine QL.call Tryd.func49 rfl rfl rfl (fun wq hq => ret_ext (turn_any _ 17 _ (by decide) (by decide)) hq) (by simp) ?_   -- t90 := call F49(t89, c(17:u64)) : 72,81
    refine QL.val (fun wq hq => Y.move rfl) (by decide) ?_   -- t91 := move t5
    refine QL.val (fun wq hq => Y.move rfl) (by decide) ?_   -- t92 := move t7
    refine QL.val (fun wq hq => Y.sub rfl rfl ⟨by omega, by omega⟩) (by decide) ?_   -- t93 := binOp sub 3 t92 c(2:i64) 3
    refine QL.val (fun wq hq => Y.indexAddr Tryd.underlying85 rfl rfl sz0_uint32 (by omega) (by omega)) (by decide) ?_   -- t94 := indexAddr 85 t91 t93
    refine QL.val (fun wq hq => Y.load1 Tryd.underlying72 rfl ((hMW.ext (hx6.thenExt hq)).wdI (j := x - 2) (by omega) (sched_get (by omega))) rfl) (by decide) ?_   -- t95 := load 72 t94
    refine QL.call Tryd.func49 rfl rfl rfl (fun wq hq => ret_ext (turn_any _ 19 _ (by decide) (by decide)) hq) (by simp) ?_   -- t96 := call F49(t95, c(19:u64)) : 72,81
    refine QL.val (fun wq hq => Y.xorW rfl rfl) (by decide) ?_   -- t97 := binOp xor 72 t90 t96 72
    refine QL.val (fun wq hq => Y.move rfl) (by decide) ?_   -- t98 := move t5
    refine QL.val (fun wq hq => Y.move rfl) (by decide) ?_   -- t99 := move t7
    refine QL.val (fun wq hq => Y.sub rfl rfl ⟨by omega, by omega⟩) (by decide) ?_   -- t100 := binOp sub 3 t99 c(2:i64) 3
    refine QL.val (fun wq hq => Y.indexAddr Tryd.underlying85 rfl rfl sz0_uint32 (by omega) (by omega)) (by decide) ?_   -- t101 := indexAddr 85 t98 t100
    refine QL.val (fun wq hq => Y.load1 Tryd.underlying72 rfl ((hMW.ext (hx6.thenExt hq)).wdI (j := x - 2) (by omega) (sched_get (by omega))) rfl) (by decide) ?_   -- t102 := load 72 t101
    refine QL.val (fun wq hq => Y.shrW 10 rfl rfl rfl (by decide)) (by decide) ?_   -- t103 := binOp shr 72 t102 c(10:u64) 81
    refine QL.val (fun wq hq => Y.xorW rfl rfl) (by decide) ?_   -- t104 := binOp xor 72 t97 t103 72
    refine QL.val (fun wq hq => Y.assign rfl) (by decide) ?_   -- t9 := assign t104
    refine QL.nil fun w7 hx7 => ?_
    have hz7 := hx7.size
    have hE := hE.thenExt hx7
    refine hK16 _ _ ?_; try clear hK16 K16
    refine CW.held (fun _ => True) (by kernel_rfl) 19 rfl fun w8 hx8 => ?_; have hz8 := hx8.size; have hE := hE.thenExt hx8
    have hO := hO.ext ((hx6.thenExt hx7).thenExt hx8)
    have hMW := hMW.ext ((hx6.thenExt hx7).thenExt hx8)
    refine RH.take 0 (fun _ _ _ _ h => h) (by kernel_rfl) trivial rfl (by kernel_rfl) (by kernel_rfl) (fun wq hq => Y.move rfl) (by decide) ?_   -- t105 := move t5
    refine RH.take 1 (fun _ _ _ _ h => h) (by kernel_rfl) trivial rfl (by kernel_rfl) (by kernel_rfl) (fun wq hq => Y.move rfl) (by decide) ?_   -- t106 := move t5
    refine RH.take 2 (fun _ _ _ _ h => h) (by kernel_rfl) trivial rfl (by kernel_rfl) (by kernel_rfl) (fun wq hq => Y.move rfl) (by decide) ?_   -- t107 := move t7
    refine RH.take 3 (fun _ _ _ _ h => h) (by kernel_rfl) trivial rfl (by kernel_rfl) (by kernel_rfl) (fun wq hq => Y.sub rfl rfl ⟨by omega, by omega⟩) (by decide) ?_   -- t108 := binOp sub 3 t107 c(16:i64) 3
    refine RH.take 4 (fun _ _ _ _ h => h) (by kernel_rfl) trivial rfl (by kernel_rfl) (by kernel_rfl) (fun wq hq => Y.indexAddr Tryd.underlying85 rfl rfl sz0_uint32 (by omega) (by omega)) (by decide) ?_   -- t109 := indexAddr 85 t106 t108
    refine RH.take 6 (fun _ _ _ _ h => h) (by kernel_rfl) trivial rfl (by kernel_rfl) (by kernel_rfl) (fun wq hq => Y.move rfl) (by decide) ?_   -- t111 := move t8
    refine RH.take 8 (fun _ _ _ _ h => h) (by kernel_rfl) trivial rfl (by kernel_rfl) (by kernel_rfl) (fun wq hq => Y.move rfl) (by decide) ?_   -- t113 := move t5
    refine RH.take 9 (fun _ _ _ _ h => h) (by kernel_rfl) trivial rfl (by kernel_rfl) (by kernel_rfl) (fun wq hq => Y.move rfl) (by decide) ?_   -- t114 := move t7
    refine RH.take 10 (fun _ _ _ _ h => h) (by kernel_rfl) trivial rfl (by kernel_rfl) (by kernel_rfl) (fun wq hq => Y.sub rfl rfl ⟨by omega, by omega⟩) (by decide) ?_   -- t115 := binOp sub 3 t114 c(7:i64) 3
    refine RH.take 11 (fun _ _ _ _ h => h) (by kernel_rfl) trivial rfl (by kernel_rfl) (by kernel_rfl) (fun wq hq => Y.indexAddr Tryd.underlying85 rfl rfl sz0_uint32 (by omega) (by omega)) (by decide) ?_   -- t116 := indexAddr 85 t113 t115
    refine RH.take 14 (fun _ _ _ _ h => h) (by kernel_rfl) trivial rfl (by kernel_rfl) (by kernel_rfl) (fun wq hq => Y.move rfl) (by decide) ?_   -- t119 := move t9
    refine RH.two 5 12 (by kernel_rfl) ?_ ?_
    · skip
      refine RS.val rfl (Y.load1 Tryd.underlying72 rfl (hMW.wdI (j := x - 16) (by omega) (sched_get (by omega))) rfl) (by decide) ⟨trivial, ?_⟩   -- t110 := load 72 t109
      refine RH.take 7 (fun _ _ _ _ h => h) (by kernel_rfl) trivial rfl (by kernel_rfl) (by kernel_rfl) (fun wq hq => Y.addW rfl rfl) (by decide) ?_   -- t112 := binOp add 72 t110 t111 72
      refine RH.one 12 (by kernel_rfl) ?_
      refine RS.val rfl (Y.load1 Tryd.underlying72 rfl (hMW.wdI (j := x - 7) (by omega) (sched_get (by omega))) rfl) (by decide) ⟨trivial, ?_⟩   -- t117 := load 72 t116
      refine RH.take 13 (fun _ _ _ _ h => h) (by kernel_rfl) trivial rfl (by kernel_rfl) (by kernel_rfl) (fun wq hq => Y.addW rfl rfl) (by decide) ?_   -- t118 := binOp add 72 t112 t117 72
      refine RH.take 15 (fun _ _ _ _ h => h) (by kernel_rfl) trivial rfl (by kernel_rfl) (by kernel_rfl) (fun wq hq => Y.addW rfl rfl) (by decide) ?_   -- t120 := binOp add 72 t118 t119 72
      refine RH.one 16 (by kernel_rfl) ?_
      refine RS.st rfl (St.buildSlice rfl (bs1_w _)) (by decide) fun v121 w9 hR9 => ?_   -- buildSlice 85 1 [(0,t120)]
      obtain ⟨g121, rfl, hg121, hB121, hx9⟩ := hR9
      have hz9 := hx9.size
      have hE := hE.thenExt hx9
      have hO := hO.ext hx9
      refine ⟨trivial, ?_⟩
      refine RH.one 17 (by kernel_rfl) ?_
      refine RS.st rfl (St.append Tryd.underlying85 Tryd.underlying85 ai_w rfl rfl hO (Src.one hB121 rfl) (one1 rfl) (by rw [List.length_map, schedN_length]; omega)) (by decide) fun v122 w10 hR10 => ?_   -- call append(t105, t121) : 85,85
      obtain ⟨hO10, hc10, hf10⟩ := hR10
      have hz10 := hc10.size
      have hE := hE.step hc10 (fun k h => hfu k h)
      have hf10 : ∀ k, v122.ownBlock = some k → w.heap.size ≤ k := by
        rcases hf10 with h | h
        · intro k hk; rw [h] at hk; exact hfu k hk
        · intro k hk; have := h k hk; omega
      refine ⟨trivial, ?_⟩
      refine RH.take 18 (fun _ _ _ _ h => h) (by kernel_rfl) trivial rfl (by kernel_rfl) (by kernel_rfl) (fun wq hq => Y.assign rfl) (by decide) ?_   -- t5 := assign t122
      refine RH.done (by kernel_rfl) ?_
      refine hK14 _ _ ?_; try clear hK14 K14
      refine CW.region ?_   -- region 8
      refine WL.val (Y.move rfl) (by decide) ?_   -- t63 := move t7
      refine WL.val (Y.add rfl rfl ⟨by omega, by omega⟩) (by decide) ?_   -- t64 := binOp add 3 t63 c(1:i64) 3
      refine WL.val (Y.assign rfl) (by decide) ?_   -- t7 := assign t64
      refine WL.nil ?_
      refine ⟨(x + 1, v122), by show 64 - (x + 1) < 64 - x; omega, (by repeat (first | exact Fr.le.nil | refine Fr.le.cons rfl ?_)), by show 16 ≤ x + 1; omega, by show x + 1 ≤ 64; omega, hE, ?_, hf10⟩
      show Own _ TW 1 v122 (wds (schedN b (x + 1)))
      rw [sched_hi b (by omega), wds, List.map_append]
      exact hO10
    · skip
      refine RS.val rfl (Y.load1 Tryd.underlying72 rfl (hMW.wdI (j := x - 7) (by omega) (sched_get (by omega))) rfl) (by decide) ⟨trivial, ?_⟩   -- t117 := load 72 t116
      refine RH.one 5 (by kernel_rfl) ?_
      refine RS.val rfl (Y.load1 Tryd.underlying72 rfl (hMW.wdI (j := x - 16) (by omega) (sched_get (by omega))) rfl) (by decide) ⟨trivial, ?_⟩   -- t110 := load 72 t109
      refine RH.take 7 (fun _ _ _ _ h => h) (by kernel_rfl) trivial rfl (by kernel_rfl) (by kernel_rfl) (fun wq hq => Y.addW rfl rfl) (by decide) ?_   -- t112 := binOp add 72 t110 t111 72
      refine RH.take 13 (fun _ _ _ _ h => h) (by kernel_rfl) trivial rfl (by kernel_rfl) (by kernel_rfl) (fun wq hq => Y.addW rfl rfl) (by decide) ?_   -- t118 := binOp add 72 t112 t117 72
      refine RH.take 15 (fun _ _ _ _ h => h) (by kernel_rfl) trivial rfl (by kernel_rfl) (by kernel_rfl) (fun wq hq => Y.addW rfl rfl) (by decide) ?_   -- t120 := binOp add 72 t118 t119 72
      refine RH.one 16 (by kernel_rfl) ?_
      refine RS.st rfl (St.buildSlice rfl (bs1_w _)) (by decide) fun v121 w11 hR11 => ?_   -- buildSlice 85 1 [(0,t120)]
      obtain ⟨g121, rfl, hg121, hB121, hx11⟩ := hR11
      have hz11 := hx11.size
      have hE := hE.thenExt hx11
      have hO := hO.ext hx11
      refine ⟨trivial, ?_⟩
      refine RH.one 17 (by kernel_rfl) ?_
      refine RS.st rfl (St.append Tryd.underlying85 Tryd.underlying85 ai_w rfl rfl hO (Src.one hB121 rfl) (one1 rfl) (by rw [List.length_map, schedN_length]; omega)) (by decide) fun v122 w12 hR12 => ?_   -- call append(t105, t121) : 85,85
      obtain ⟨hO12, hc12, hf12⟩ := hR12
      have hz12 := hc12.size
      have hE := hE.step hc12 (fun k h => hfu k h)
      have hf12 : ∀ k, v122.ownBlock = some k → w.heap.size ≤ k := by
        rcases hf12 with h | h
        · intro k hk; rw [h] at hk; exact hfu k hk
        · intro k hk; have := h k hk; omega
      refine ⟨trivial, ?_⟩
      refine RH.take 18 (fun _ _ _ _ h => h) (by kernel_rfl) trivial rfl (by kernel_rfl) (by kernel_rfl) (fun wq hq => Y.assign rfl) (by decide) ?_   -- t5 := assign t122
      refine RH.done (by kernel_rfl) ?_
      refine hK14 _ _ ?_; try clear hK14 K14
      refine CW.region ?_   -- region 8
      refine WL.val (Y.move rfl) (by decide) ?_   -- t63 := move t7
      refine WL.val (Y.add rfl rfl ⟨by omega, by omega⟩) (by decide) ?_   -- t64 := binOp add 3 t63 c(1:i64) 3
      refine WL.val (Y.assign rfl) (by decide) ?_   -- t7 := assign t64
      refine WL.nil ?_
      refine ⟨(x + 1, v122), by show 64 - (x + 1) < 64 - x; omega, (by repeat (first | exact Fr.le.nil | refine Fr.le.cons rfl ?_)), by show 16 ≤ x + 1; omega, by show x + 1 ≤ 64; omega, hE, ?_, hf12⟩
      show Own _ TW 1 v122 (wds (schedN b (x + 1)))
      rw [sched_hi b (by omega), wds, List.map_append]
      exact hO12
  -- else
  have e64 : x = 64 := by omega
  have hm64 : mb = 64 := by omega
  rw [e64] at hO hMW
  refine CW.exit ?_   -- exit 2
  refine hK9 _ _ ?_; try clear hK9 K9
  refine CW.seq fun K17 hK17 => ?_
  refine CW.quiet (fun wq => Ext w5 wq) (by kernel_rfl) (by kernel_rfl) Chg.drew ?_
  refine QL.val (fun wq hq => Y.move rfl) (by decide) ?_   -- t123 := move t0
  refine QL.val (fun wq hq => Y.indexAddrN (i := 0) Tryd.underlying85 rfl rfl sz0_uint32 (by decide)) (by decide) ?_   -- t124 := indexAddr 85 t123 c(0:i64)
  refine QL.val (fun wq hq => Y.load1 Tryd.underlying72 rfl ((hs.ext (hE.thenExt hq)).wd (i := 0) rfl) rfl) (by decide) ?_   -- t125 := load 72 t124
  refine QL.val (fun wq hq => Y.move rfl) (by decide) ?_   -- t126 := move t0
  refine QL.val (fun wq hq => Y.indexAddrN (i := 1) Tryd.underlying85 rfl rfl sz0_uint32 (by decide)) (by decide) ?_   -- t127 := indexAddr 85 t126 c(1:i64)
  refine QL.val (fun wq hq => Y.load1 Tryd.underlying72 rfl ((hs.ext (hE.thenExt hq)).wd (i := 1) rfl) rfl) (by decide) ?_   -- t128 := load 72 t127
  refine QL.val (fun wq hq => Y.move rfl) (by decide) ?_   -- t129 := move t0
  refine QL.val (fun wq hq => Y.indexAddrN (i := 2) Tryd.underlying85 rfl rfl sz0_uint32 (by decide)) (by decide) ?_   -- t130 := indexAddr 85 t129 c(2:i64)
  refine QL.val (fun wq hq => Y.load1 Tryd.underlying72 rfl ((hs.ext (hE.thenExt hq)).wd (i := 2) rfl) rfl) (by decide) ?_   -- t131 := load 72 t130
  refine QL.val (fun wq hq => Y.move rfl) (by decide) ?_   -- t132 := move t0
  refine QL.val (fun wq hq => Y.indexAddrN (i := 3) Tryd.underlying85 rfl rfl sz0_uint32 (by decide)) (by decide) ?_   -- t133 := indexAddr 85 t132 c(3:i64)
  refine QL.val (fun wq hq => Y.load1 Tryd.underlying72 rfl ((hs.ext (hE.thenExt hq)).wd (i := 3) rfl) rfl) (by decide) ?_   -- t134 := load 72 t133
  refine QL.val (fun wq hq => Y.assign rfl) (by decide) ?_   -- t10 := assign t125
  refine QL.val (fun wq hq => Y.assign rfl) (by decide) ?_   -- t11 := assign t128
  refine QL.val (fun wq hq => Y.assign rfl) (by decide) ?_   -- t12 := assign t131
  refine QL.val (fun wq hq => Y.assign rfl) (by decide) ?_   -- t13 := assign t134
  refine QL.nil fun w13 hx13 => ?_
  have hz13 := hx13.size
  have hE := hE.thenExt hx13
  refine hK17 _ _ ?_; try clear hK17 K17
  refine CW.seq fun K18 hK18 => ?_
  refine CW.quiet (fun wq => Ext w13 wq) (by kernel_rfl) (by kernel_rfl) Chg.drew ?_
  refine QL.val (fun wq hq => Y.move rfl) (by decide) ?_   -- t135 := move t0
  refine QL.val (fun wq hq => Y.indexAddrN (i := 4) Tryd.underlying85 rfl rfl sz0_uint32 (by decide)) (by decide) ?_   -- t136 := indexAddr 85 t135 c(4:i64)
  refine QL.val (fun wq hq => Y.load1 Tryd.underlying72 rfl ((hs.ext (hE.thenExt hq)).wd (i := 4) rfl) rfl) (by decide) ?_   -- t137 := load 72 t136
  refine QL.val (fun wq hq => Y.move rfl) (by decide) ?_   -- t138 := move t0
  refine QL.val (fun wq hq => Y.indexAddrN (i := 5) Tryd.underlying85 rfl rfl sz0_uint32 (by decide)) (by decide) ?_   -- t139 := indexAddr 85 t138 c(5:i64)
  refine QL.val (fun wq hq => Y.load1 Tryd.underlying72 rfl ((hs.ext (hE.thenExt hq)).wd (i := 5) rfl) rfl) (by decide) ?_   -- t140 := load 72 t139
  refine QL.val (fun wq hq => Y.move rfl) (by decide) ?_   -- t141 := move t0
  refine QL.val (fun wq hq => Y.indexAddrN (i := 6) Tryd.underlying85 rfl rfl sz0_uint32 (by decide)) (by decide) ?_   -- t142 := indexAddr 85 t141 c(6:i64)
  refine QL.val (fun wq hq => Y.load1 Tryd.underlying72 rfl ((hs.ext (hE.thenExt hq)).wd (i := 6) rfl) rfl) (by decide) ?_   -- t143 := load 72 t142
  refine QL.val (fun wq hq => Y.move rfl) (by decide) ?_   -- t144 := move t0
  refine QL.val (fun wq hq => Y.indexAddrN (i := 7) Tryd.underlying85 rfl rfl sz0_uint32 (by decide)) (by decide) ?_   -- t145 := indexAddr 85 t144 c(7:i64)
  refine QL.val (fun wq hq => Y.load1 Tryd.underlying72 rfl ((hs.ext (hE.thenExt hq)).wd (i := 7) rfl) rfl) (by decide) ?_   -- t146 := load 72 t145
  refine QL.val (fun wq hq => Y.assign rfl) (by decide) ?_   -- t14 := assign t137
  refine QL.val (fun wq hq => Y.assign rfl) (by decide) ?_   -- t15 := assign t140
  refine QL.val (fun wq hq => Y.assign rfl) (by decide) ?_   -- t16 := assign t143
  refine QL.val (fun wq hq => Y.assign rfl) (by decide) ?_   -- t17 := assign t146
  refine QL.nil fun w14 hx14 => ?_
  have hz14 := hx14.size
  have hE := hE.thenExt hx14
  refine hK18 _ _ ?_; try clear hK18 K18
  refine CW.seq fun K19 hK19 => ?_
  refine CW.seq fun K20 hK20 => ?_
  refine CW.region ?_   -- region 14
  refine WL.val (Y.assign rfl) (by decide) ?_   -- t18 := assign c(0:i64)
  refine WL.nil ?_
  refine hK20 _ _ ?_; try clear hK20 K20
  refine CW.block ?_   -- block 4
  refine CW.loop (X := Nat) (fun x => [(0, .slice (some sa) 8 sc), (5, .slice (some d) mb cb), (10, wd (rounds (schedN b 64) x s).a), (11, wd (rounds (schedN b 64) x s).b), (12, wd (rounds (schedN b 64) x s).c), (13, wd (rounds (schedN b 64) x s).d), (14, wd (rounds (schedN b 64) x s).e), (15, wd (rounds (schedN b 64) x s).f), (16, wd (rounds (schedN b 64) x s).g), (17, wd (rounds (schedN b 64) x s).h), (18, .int .i64 (x : Int))]) (fun x w0 => x ≤ 64 ∧ Ext w14 w0) (fun x => 64 - x) 0 (by repeat (first | exact Fr.le.nil | refine Fr.le.cons rfl ?_)) ⟨Nat.zero_le _, Chg.refl⟩ ?_
  intro x w15 hl15
  obtain ⟨hxc, hy15⟩ := hl15
  have hE := hE.thenExt hy15
  have hz15 := hE.size
  generalize hv : rounds (schedN b 64) x s = v
  refine CW.seq fun K21 hK21 => ?_
  refine CW.seq fun K22 hK22 => ?_
  refine CW.region ?_   -- region 15
  refine WL.val (Y.move rfl) (by decide) ?_   -- t147 := move t18
  refine WL.val (Y.lss rfl rfl) (by decide) ?_   -- t148 := binOp lss 3 t147 c(64:i64) 3
  refine WL.nil ?_
  refine hK22 _ _ ?_; try clear hK22 K22
  first | refine CW.condD rfl (fun ht23 => ?_) (fun ht23 => ?_) | refine CW.condND rfl (fun ht23 => ?_) (fun ht23 => ?_) | refine CW.condN rfl (fun ht23 => ?_) (fun ht23 => ?_) | refine CW.cond rfl (fun ht23 => ?_) (fun ht23 => ?_)
  · -- then
    refine CW.skip ?_
    refine hK21 _ _ ?_; try clear hK21 K21
    refine CW.seq fun K24 hK24 => ?_
    refine CW.block ?_   -- block 5
    refine CW.seq fun K25 hK25 => ?_
    refine CW.quiet (fun wq => Ext w15 wq) (by kernel_rfl) (by kernel_rfl) Chg.drew ?_
    refine QL.val (fun wq hq => Y.move rfl) (by decide) ?_   -- t151 := move t17
    refine QL.val (fun wq hq => Y.move rfl) (by decide) ?_   -- t152 := move t14
    refine QL.call Tryd.func49 rfl rfl rfl (fun wq hq => ret_ext (turn_any _ 6 _ (by decide) (by decide)) hq) (by simp) ?_   -- t153 := call F49(t152, c(6:u64)) : 72,81
    refine QL.val (fun wq hq => Y.move rfl) (by decide) ?_   -- t154 := move t14
    refine QL.call Tryd.func49 rfl rfl rfl (fun wq hq => ret_ext (turn_any _ 11 _ (by decide) (by decide)) hq) (by simp) ?_   -- t155 := call F49(t154, c(11:u64)) : 72,81
    refine QL.val (fun wq hq => Y.xorW rfl rfl) (by decide) ?_   -- t156 := binOp xor 72 t153 t155 72
    refine QL.val (fun wq hq => Y.move rfl) (by decide) ?_   -- t157 := move t14
    refine QL.call Tryd.func49 rfl rfl rfl (fun wq hq => ret_ext (turn_any _ 25 _ (by decide) (by decide)) hq) (by simp) ?_   -- t158 := call F49(t157, c(25:u64)) : 72,81
    refine QL.val (fun wq hq => Y.xorW rfl rfl) (by decide) ?_   -- t159 := binOp xor 72 t156 t158 72
    refine QL.val (fun wq hq => Y.addW rfl rfl) (by decide) ?_   -- t160 := binOp add 72 t151 t159 72
    refine QL.val (fun wq hq => Y.move rfl) (by decide) ?_   -- t161 := move t14
    refine QL.val (fun wq hq => Y.move rfl) (by decide) ?_   -- t162 := move t15
    refine QL.val (fun wq hq => Y.andW rfl rfl) (by decide) ?_   -- t163 := binOp and 72 t161 t162 72
    refine QL.val (fun wq hq => Y.move rfl) (by decide) ?_   -- t164 := move t14
    refine QL.val (fun wq hq => Y.notW rfl) (by decide) ?_   -- t165 := unOp xor 72 t164
    refine QL.val (fun wq hq => Y.move rfl) (by decide) ?_   -- t166 := move t16
    refine QL.val (fun wq hq => Y.andW rfl rfl) (by decide) ?_   -- t167 := binOp and 72 t165 t166 72
    refine QL.val (fun wq hq => Y.xorW rfl rfl) (by decide) ?_   -- t168 := binOp xor 72 t163 t167 72
    refine QL.val (fun wq hq => Y.addW rfl rfl) (by decide) ?_   -- t169 := binOp add 72 t160 t168 72
    refine QL.val (fun wq hq => Y.move rfl) (by decide) ?_   -- t170 := move t18
    refine QL.call Tryd.func40 rfl rfl rfl (fun wq hq => ret_ext (word_any _ x _ (by show 8 * x + 8 ≤ 512; omega) (by show 512 ≤ _; decide)) hq) (by simp) ?_   -- t171 := call F40(c(STR), t170) : 9,3
    refine QL.know (d := 171) (u := wd (keysL.getD x 0)) rfl (word_key rfl (by omega)) ?_
    refine QL.val (fun wq hq => Y.addW rfl rfl) (by decide) ?_   -- t172 := binOp add 72 t169 t171 72
    refine QL.val (fun wq hq => Y.move rfl) (by decide) ?_   -- t173 := move t5
    refine QL.val (fun wq hq => Y.move rfl) (by decide) ?_   -- t174 := move t18
    refine QL.val (fun wq hq => Y.indexAddrN Tryd.underlying85 rfl rfl sz0_uint32 (by omega)) (by decide) ?_   -- t175 := indexAddr 85 t173 t174
    refine QL.val (fun wq hq => Y.load1 Tryd.underlying72 rfl ((hMW.ext (((hx13.thenExt hx14).thenExt hy15).thenExt hq)).wd (sched_get (by omega))) rfl) (by decide) ?_   -- t176 := load 72 t175
    refine QL.val (fun wq hq => Y.addW rfl rfl) (by decide) ?_   -- t177 := binOp add 72 t172 t176 72
    refine QL.val (fun wq hq => Y.assign rfl) (by decide) ?_   -- t19 := assign t177
    refine QL.nil fun w16 hx16 => ?_
    have hz16 := hx16.size
    have hE := hE.thenExt hx16
    refine hK25 _ _ ?_; try clear hK25 K25
    refine CW.seq fun K26 hK26 => ?_
    refine CW.region ?_   -- region 18
    refine WL.val (Y.move rfl) (by decide) ?_   -- t178 := move t10
    refine WL.call Tryd.func49 rfl rfl rfl (turn_any _ 2 _ (by decide) (by decide)) (by simp) ?_; rintro v w17 ⟨rfl, hx17⟩; have hz17 := hx17.size; have hE := hE.thenExt hx17   -- t179 := call F49(t178, c(2:u64)) : 72,81
    refine WL.val (Y.move rfl) (by decide) ?_   -- t180 := move t10
    refine WL.call Tryd.func49 rfl rfl rfl (turn_any _ 13 _ (by decide) (by decide)) (by simp) ?_; rintro v w18 ⟨rfl, hx18⟩; have hz18 := hx18.size; have hE := hE.thenExt hx18   -- t181 := call F49(t180, c(13:u64)) : 72,81
    refine WL.val (Y.xorW rfl rfl) (by decide) ?_   -- t182 := binOp xor 72 t179 t181 72
    refine WL.val (Y.move rfl) (by decide) ?_   -- t183 := move t10
    refine WL.call Tryd.func49 rfl rfl rfl (turn_any _ 22 _ (by decide) (by decide)) (by simp) ?_; rintro v w19 ⟨rfl, hx19⟩; have hz19 := hx19.size; have hE := hE.thenExt hx19   -- t184 := call F49(t183, c(22:u64)) : 72,81
    refine WL.val (Y.xorW rfl rfl) (by decide) ?_   -- t185 := binOp xor 72 t182 t184 72
    refine WL.val (Y.move rfl) (by decide) ?_   -- t186 := move t10
    refine WL.val (Y.move rfl) (by decide) ?_   -- t187 := move t11
    refine WL.val (Y.andW rfl rfl) (by decide) ?_   -- t188 := binOp and 72 t186 t187 72
    refine WL.val (Y.move rfl) (by decide) ?_   -- t189 := move t10
    refine WL.val (Y.move rfl) (by decide) ?_   -- t190 := move t12
    refine WL.val (Y.andW rfl rfl) (by decide) ?_   -- t191 := binOp and 72 t189 t190 72
    refine WL.val (Y.xorW rfl rfl) (by decide) ?_   -- t192 := binOp xor 72 t188 t191 72
    refine WL.val (Y.move rfl) (by decide) ?_   -- t193 := move t11
    refine WL.val (Y.move rfl) (by decide) ?_   -- t194 := move t12
    refine WL.val (Y.andW rfl rfl) (by decide) ?_   -- t195 := binOp and 72 t193 t194 72
    refine WL.val (Y.xorW rfl rfl) (by decide) ?_   -- t196 := binOp xor 72 t192 t195 72
    refine WL.val (Y.addW rfl rfl) (by decide) ?_   -- t197 := binOp add 72 t185 t196 72
    refine WL.val (Y.assign rfl) (by decide) ?_   -- t20 := assign t197
    refine WL.nil ?_
    refine hK26 _ _ ?_; try clear hK26 K26
    refine CW.seq fun K27 hK27 => ?_
    refine CW.region ?_   -- region 19
    refine WL.val (Y.move rfl) (by decide) ?_   -- t198 := move t16
    refine WL.val (Y.assign rfl) (by decide) ?_   -- t17 := assign t198
    refine WL.nil ?_
    refine hK27 _ _ ?_; try clear hK27 K27
    refine CW.seq fun K28 hK28 => ?_
    refine CW.region ?_   -- region 20
    refine WL.val (Y.move rfl) (by decide) ?_   -- t199 := move t15
    refine WL.val (Y.assign rfl) (by decide) ?_   -- t16 := assign t199
    refine WL.nil ?_
    refine hK28 _ _ ?_; try clear hK28 K28
    refine CW.seq fun K29 hK29 => ?_
    refine CW.region ?_   -- region 21
    refine WL.val (Y.move rfl) (by decide) ?_   -- t200 := move t14
    refine WL.val (Y.assign rfl) (by decide) ?_   -- t15 := assign t200
    refine WL.nil ?_
    refine hK29 _ _ ?_; try clear hK29 K29
    refine CW.seq fun K30 hK30 => ?_
    refine CW.region ?_   -- region 22
    refine WL.val (Y.move rfl) (by decide) ?_   -- t201 := move t13
    refine WL.val (Y.move rfl) (by decide) ?_   -- t202 := move t19
    refine WL.val (Y.addW rfl rfl) (by decide) ?_   -- t203 := binOp add 72 t201 t202 72
    refine WL.val (Y.assign rfl) (by decide) ?_   -- t14 := assign t203
    refine WL.nil ?_
    refine hK30 _ _ ?_; try clear hK30 K30
    refine CW.seq fun K31 hK31 => ?_
    refine CW.region ?_   -- region 23
    refine WL.val (Y.move rfl) (by decide) ?_   -- t204 := move t12
    refine WL.val (Y.assign rfl) (by decide) ?_   -- t13 := assign t204
    refine WL.nil ?_
    refine hK31 _ _ ?_; try clear hK31 K31
    refine CW.seq fun K32 hK32 => ?_
    refine CW.region ?_   -- region 24
    refine WL.val (Y.move rfl) (by decide) ?_   -- t205 := move t11
    refine WL.val (Y.assign rfl) (by decide) ?_   -- t12 := assign t205
    refine WL.nil ?_
    refine hK32 _ _ ?_; try clear hK32 K32
    refine CW.seq fun K33 hK33 => ?_
    refine CW.region ?_   -- region 25
    refine WL.val (Y.move rfl) (by decide) ?_   -- t206 := move t10
    refine WL.val (Y.assign rfl) (by decide) ?_   -- t11 := assign t206
    refine WL.nil ?_
    refine hK33 _ _ ?_; try clear hK33 K33
    refine CW.region ?_   -- region 26
    refine WL.val (Y.move rfl) (by decide) ?_   -- t207 := move t19
    refine WL.val (Y.move rfl) (by decide) ?_   -- t208 := move t20
    refine WL.val (Y.addW rfl rfl) (by decide) ?_   -- t209 := binOp add 72 t207 t208 72
    refine WL.val (Y.assign rfl) (by decide) ?_   -- t10 := assign t209
    refine WL.nil ?_
    refine hK24 _ _ ?_; try clear hK24 K24
    refine CW.region ?_   -- region 16
    refine WL.val (Y.move rfl) (by decide) ?_   -- t149 := move t18
    refine WL.val (Y.add rfl rfl ⟨by omega, by omega⟩) (by decide) ?_   -- t150 := binOp add 3 t149 c(1:i64) 3
    refine WL.val (Y.assign rfl) (by decide) ?_   -- t18 := assign t150
    refine WL.nil ?_
    have e : rounds (schedN b 64) (x + 1) s = rnd v (keysL.getD x 0) ((schedN b 64).getD x 0) := by rw [rounds, hv]
    refine ⟨x + 1, by show 64 - (x + 1) < 64 - x; omega, ?_, by show x + 1 ≤ 64; omega, (((hy15.thenExt hx16).thenExt hx17).thenExt hx18).thenExt hx19⟩
    show Fr.le [(0, .slice (some sa) 8 sc), (5, .slice (some d) mb cb), (10, wd (rounds (schedN b 64) (x + 1) s).a), (11, wd (rounds (schedN b 64) (x + 1) s).b), (12, wd (rounds (schedN b 64) (x + 1) s).c), (13, wd (rounds (schedN b 64) (x + 1) s).d), (14, wd (rounds (schedN b 64) (x + 1) s).e), (15, wd (rounds (schedN b 64) (x + 1) s).f), (16, wd (rounds (schedN b 64) (x + 1) s).g), (17, wd (rounds (schedN b 64) (x + 1) s).h), (18, .int .i64 ((x + 1 : Nat) : Int))] _
    rw [e]
    exact (by repeat (first | exact Fr.le.nil | refine Fr.le.cons rfl ?_))
  -- else
  refine CW.exit ?_   -- exit 4
  refine hK19 _ _ ?_; try clear hK19 K19
  refine CW.seq fun K34 hK34 => ?_
  refine CW.held (fun wq => Ext w15 wq) (by kernel_rfl) 42 rfl fun w20 hS => ?_
  refine RH.take 0 (fun _ _ _ _ h => h) (by kernel_rfl) hS rfl (by kernel_rfl) (by kernel_rfl) (fun wq hq => Y.move rfl) (by decide) ?_   -- t210 := move t0
  refine RH.take 1 (fun _ _ _ _ h => h) (by kernel_rfl) hS rfl (by kernel_rfl) (by kernel_rfl) (fun wq hq => Y.indexAddrN (i := 0) Tryd.underlying85 rfl rfl sz0_uint32 (by decide)) (by decide) ?_   -- t211 := indexAddr 85 t210 c(0:i64)
  refine RH.take 2 (fun _ _ _ _ h => h) (by kernel_rfl) hS rfl (by kernel_rfl) (by kernel_rfl) (fun wq hq => Y.load1 Tryd.underlying72 rfl ((hs.ext (hE.thenExt hq)).wd (i := 0) rfl) rfl) (by decide) ?_   -- t212 := load 72 t211
  refine RH.take 3 (fun _ _ _ _ h => h) (by kernel_rfl) hS rfl (by kernel_rfl) (by kernel_rfl) (fun wq hq => Y.move rfl) (by decide) ?_   -- t213 := move t10
  refine RH.take 4 (fun _ _ _ _ h => h) (by kernel_rfl) hS rfl (by kernel_rfl) (by kernel_rfl) (fun wq hq => Y.addW rfl rfl) (by decide) ?_   -- t214 := binOp add 72 t212 t213 72
  refine RH.take 5 (fun _ _ _ _ h => h) (by kernel_rfl) hS rfl (by kernel_rfl) (by kernel_rfl) (fun wq hq => Y.move rfl) (by decide) ?_   -- t215 := move t0
  refine RH.take 6 (fun _ _ _ _ h => h) (by kernel_rfl) hS rfl (by kernel_rfl) (by kernel_rfl) (fun wq hq => Y.indexAddrN (i := 1) Tryd.underlying85 rfl rfl sz0_uint32 (by decide)) (by decide) ?_   -- t216 := indexAddr 85 t215 c(1:i64)
  refine RH.take 7 (fun _ _ _ _ h => h) (by kernel_rfl) hS rfl (by kernel_rfl) (by kernel_rfl) (fun wq hq => Y.load1 Tryd.underlying72 rfl ((hs.ext (hE.thenExt hq)).wd (i := 1) rfl) rfl) (by decide) ?_   -- t217 := load 72 t216
  refine RH.take 8 (fun _ _ _ _ h => h) (by kernel_rfl) hS rfl (by kernel_rfl) (by kernel_rfl) (fun wq hq => Y.move rfl) (by decide) ?_   -- t218 := move t11
  refine RH.take 9 (fun _ _ _ _ h => h) (by kernel_rfl) hS rfl (by kernel_rfl) (by kernel_rfl) (fun wq hq => Y.addW rfl rfl) (by decide) ?_   -- t219 := binOp add 72 t217 t218 72
  refine RH.take 10 (fun _ _ _ _ h => h) (by kernel_rfl) hS rfl (by kernel_rfl) (by kernel_rfl) (fun wq hq => Y.move rfl) (by decide) ?_   -- t220 := move t0
  refine RH.take 11 (fun _ _ _ _ h => h) (by kernel_rfl) hS rfl (by kernel_rfl) (by kernel_rfl) (fun wq hq => Y.indexAddrN (i := 2) Tryd.underlying85 rfl rfl sz0_uint32 (by decide)) (by decide) ?_   -- t221 := indexAddr 85 t220 c(2:i64)
  refine RH.take 12 (fun _ _ _ _ h => h) (by kernel_rfl) hS rfl (by kernel_rfl) (by kernel_rfl) (fun wq hq => Y.load1 Tryd.underlying72 rfl ((hs.ext (hE.thenExt hq)).wd (i := 2) rfl) rfl) (by decide) ?_   -- t222 := load 72 t221
  refine RH.take 13 (fun _ _ _ _ h => h) (by kernel_rfl) hS rfl (by kernel_rfl) (by kernel_rfl) (fun wq hq => Y.move rfl) (by decide) ?_   -- t223 := move t12
  refine RH.take 14 (fun _ _ _ _ h => h) (by kernel_rfl) hS rfl (by kernel_rfl) (by kernel_rfl) (fun wq hq => Y.addW rfl rfl) (by decide) ?_   -- t224 := binOp add 72 t222 t223 72
  refine RH.take 15 (fun _ _ _ _ h => h) (by kernel_rfl) hS rfl (by kernel_rfl) (by kernel_rfl) (fun wq hq => Y.move rfl) (by decide) ?_   -- t225 := move t0
  refine RH.take 16 (fun _ _ _ _ h => h) (by kernel_rfl) hS rfl (by kernel_rfl) (by kernel_rfl) (fun wq hq => Y.indexAddrN (i := 3) Tryd.underlying85 rfl rfl sz0_uint32 (by decide)) (by decide) ?_   -- t226 := indexAddr 85 t225 c(3:i64)
  refine RH.take 17 (fun _ _ _ _ h => h) (by kernel_rfl) hS rfl (by kernel_rfl) (by kernel_rfl) (fun wq hq => Y.load1 Tryd.underlying72 rfl ((hs.ext (hE.thenExt hq)).wd (i := 3) rfl) rfl) (by decide) ?_   -- t227 := load 72 t226
  refine RH.take 18 (fun _ _ _ _ h => h) (by kernel_rfl) hS rfl (by kernel_rfl) (by kernel_rfl) (fun wq hq => Y.move rfl) (by decide) ?_   -- t228 := move t13
  refine RH.take 19 (fun _ _ _ _ h => h) (by kernel_rfl) hS rfl (by kernel_rfl) (by kernel_rfl) (fun wq hq => Y.addW rfl rfl) (by decide) ?_   -- t229 := binOp add 72 t227 t228 72
  refine RH.take 20 (fun _ _ _ _ h => h) (by kernel_rfl) hS rfl (by kernel_rfl) (by kernel_rfl) (fun wq hq => Y.move rfl) (by decide) ?_   -- t230 := move t0
  refine RH.take 21 (fun _ _ _ _ h => h) (by kernel_rfl) hS rfl (by kernel_rfl) (by kernel_rfl) (fun wq hq => Y.indexAddrN (i := 4) Tryd.underlying85 rfl rfl sz0_uint32 (by decide)) (by decide) ?_   -- t231 := indexAddr 85 t230 c(4:i64)
  refine RH.take 22 (fun _ _ _ _ h => h) (by kernel_rfl) hS rfl (by kernel_rfl) (by kernel_rfl) (fun wq hq => Y.load1 Tryd.underlying72 rfl ((hs.ext (hE.thenExt hq)).wd (i := 4) rfl) rfl) (by decide) ?_   -- t232 := load 72 t231
  refine RH.take 23 (fun _ _ _ _ h => h) (by kernel_rfl) hS rfl (by kernel_rfl) (by kernel_rfl) (fun wq hq => Y.move rfl) (by decide) ?_   -- t233 := move t14
  refine RH.take 24 (fun _ _ _ _ h => h) (by kernel_rfl) hS rfl (by kernel_rfl) (by kernel_rfl) (fun wq hq => Y.addW rfl rfl) (by decide) ?_   -- t234 := binOp add 72 t232 t233 72
  refine RH.take 25 (fun _ _ _ _ h => h) (by kernel_rfl) hS rfl (by kernel_rfl) (by kernel_rfl) (fun wq hq => Y.move rfl) (by decide) ?_   -- t235 := move t0
  refine RH.take 26 (fun _ _ _ _ h => h) (by kernel_rfl) hS rfl (by kernel_rfl) (by kernel_rfl) (fun wq hq => Y.indexAddrN (i := 5) Tryd.underlying85 rfl rfl sz0_uint32 (by decide)) (by decide) ?_   -- t236 := indexAddr 85 t235 c(5:i64)
  refine RH.take 27 (fun _ _ _ _ h => h) (by kernel_rfl) hS rfl (by kernel_rfl) (by kernel_rfl) (fun wq hq => Y.load1 Tryd.underlying72 rfl ((hs.ext (hE.thenExt hq)).wd (i := 5) rfl) rfl) (by decide) ?_   -- t237 := load 72 t236
  refine RH.take 28 (fun _ _ _ _ h => h) (by kernel_rfl) hS rfl (by kernel_rfl) (by kernel_rfl) (fun wq hq => Y.move rfl) (by decide) ?_   -- t238 := move t15
  refine RH.take 29 (fun _ _ _ _ h => h) (by kernel_rfl) hS rfl (by kernel_rfl) (by kernel_rfl) (fun wq hq => Y.addW rfl rfl) (by decide) ?_   -- t239 := binOp add 72 t237 t238 72
  refine RH.take 30 (fun _ _ _ _ h => h) (by kernel_rfl) hS rfl (by kernel_rfl) (by kernel_rfl) (fun wq hq => Y.move rfl) (by decide) ?_   -- t240 := move t0
  refine RH.take 31 (fun _ _ _ _ h => h) (by kernel_rfl) hS rfl (by kernel_rfl) (by kernel_rfl) (fun wq hq => Y.indexAddrN (i := 6) Tryd.underlying85 rfl rfl sz0_uint32 (by decide)) (by decide) ?_   -- t241 := indexAddr 85 t240 c(6:i64)
  refine RH.take 32 (fun _ _ _ _ h => h) (by kernel_rfl) hS rfl (by kernel_rfl) (by kernel_rfl) (fun wq hq => Y.load1 Tryd.underlying72 rfl ((hs.ext (hE.thenExt hq)).wd (i := 6) rfl) rfl) (by decide) ?_   -- t242 := load 72 t241
  refine RH.take 33 (fun _ _ _ _ h => h) (by kernel_rfl) hS rfl (by kernel_rfl) (by kernel_rfl) (fun wq hq => Y.move rfl) (by decide) ?_   -- t243 := move t16
  refine RH.take 34 (fun _ _ _ _ h => h) (by kernel_rfl) hS rfl (by kernel_rfl) (by kernel_rfl) (fun wq hq => Y.addW rfl rfl) (by decide) ?_   -- t244 := binOp add 72 t242 t243 72
  refine RH.take 35 (fun _ _ _ _ h => h) (by kernel_rfl) hS rfl (by kernel_rfl) (by kernel_rfl) (fun wq hq => Y.move rfl) (by decide) ?_   -- t245 := move t0
  refine RH.take 36 (fun _ _ _ _ h => h) (by kernel_rfl) hS rfl (by kernel_rfl) (by kernel_rfl) (fun wq hq => Y.indexAddrN (i := 7) Tryd.underlying85 rfl rfl sz0_uint32 (by decide)) (by decide) ?_   -- t246 := indexAddr 85 t245 c(7:i64)
  refine RH.take 37 (fun _ _ _ _ h => h) (by kernel_rfl) hS rfl (by kernel_rfl) (by kernel_rfl) (fun wq hq => Y.load1 Tryd.underlying72 rfl ((hs.ext (hE.thenExt hq)).wd (i := 7) rfl) rfl) (by decide) ?_   -- t247 := load 72 t246
  refine RH.take 38 (fun _ _ _ _ h => h) (by kernel_rfl) hS rfl (by kernel_rfl) (by kernel_rfl) (fun wq hq => Y.move rfl) (by decide) ?_   -- t248 := move t17
  refine RH.take 39 (fun _ _ _ _ h => h) (by kernel_rfl) hS rfl (by kernel_rfl) (by kernel_rfl) (fun wq hq => Y.addW rfl rfl) (by decide) ?_   -- t249 := binOp add 72 t247 t248 72
  refine RH.one 40 (by kernel_rfl) ?_
  refine RS.st rfl (St.buildSlice rfl (bs8_w (⟨s.a + v.a, s.b + v.b, s.c + v.c, s.d + v.d, s.e + v.e, s.f + v.f, s.g + v.g, s.h + v.h⟩ : V8))) (by decide) fun v250 w21 hR21 => ?_   -- buildSlice 85 8 [(0,t214), (1,t219), (2,t224), (3,t229), (4,t234), (5,t239), (6,t244), (7,t249)]
  have hzS := hS.size
  obtain ⟨g250, rfl, hg250, hB250, hx21⟩ := hR21
  have hz21 := hx21.size
  have hS := hS.thenExt hx21
  refine ⟨hS, ?_⟩
  refine RH.take 41 (fun _ _ _ _ h => h) (by kernel_rfl) hS rfl (by kernel_rfl) (by kernel_rfl) (fun wq hq => Y.assign rfl) (by decide) ?_   -- t4 := assign t250
  refine RH.done (by kernel_rfl) ?_
  have hx22 := hS; have hz22 := hx22.size; have hE := hE.thenExt hx22
  refine hK34 _ _ ?_; try clear hK34 K34
  refine CW.ret ⟨_, rfl, ?_⟩
  have hvv : v = rounds (schedN b 64) 64 s := by rw [← hv, show x = 64 by omega]
  have e : mixV s b = (⟨s.a + v.a, s.b + v.b, s.c + v.c, s.d + v.d, s.e + v.e, s.f + v.f, s.g + v.g, s.h + v.h⟩ : V8) := by
    rw [mixV, ← hvv, V8.add]
    rw [UInt32.add_comm v.a s.a, UInt32.add_comm v.b s.b, UInt32.add_comm v.c s.c, UInt32.add_comm v.d s.d, UInt32.add_comm v.e s.e, UInt32.add_comm v.f s.f, UInt32.add_comm v.g s.g, UInt32.add_comm v.h s.h]
  refine ⟨g250, rfl, by omega, ?_, hE⟩
  rw [e]
  exact hB250
end Go.Proofs.YtkbmlnkoejlgmaaDoor
