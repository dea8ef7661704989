/- Words of 32 bits: their arithmetic as the model's, as rules. No condition; no program. -/
-- @alt f{recension/commit.May}: Ko -> Kg
import Derived.Test.YtkbmlnkoejlgmaaDoorKg
set_option linter.unusedSimpArgs false
set_option linter.unusedVariables false
namespace Go.Fw
open Go.RowKit
def wd (x : UInt32) : Value := .int .u32 (x.toNat : Int)
theorem wd_one {x : UInt32} : (wd x).oneCell' = true := rfl
theorem wd_inj {x y : UInt32} (h : wd x = wd y) : x = y := by
  unfold wd at h
  injection h with _ h
  exact UInt32.toNat_inj.1 (by omega)
theorem wrap32 (n : Nat) : IntKind.u32.wrap (n : Int) = ((n % 4294967296 : Nat) : Int) := by simp [IntKind.wrap, IntKind.bits, IntKind.signed]
theorem wrap8 (n : Nat) : IntKind.u8.wrap (n : Int) = ((n % 256 : Nat) : Int) := by simp [IntKind.wrap, IntKind.bits, IntKind.signed]
theorem wrap64 (n : Nat) : IntKind.u64.wrap (n : Int) = ((n % 18446744073709551616 : Nat) : Int) := by simp [IntKind.wrap, IntKind.bits, IntKind.signed]
theorem ofInt32 (x : UInt32) : BitVec.ofInt 32 (x.toNat : Int) = x.toBitVec := by
  rw [BitVec.ofInt_natCast]
  apply BitVec.eq_of_toNat_eq
  simp
theorem w_add (x y : UInt32) : IntKind.u32.wrap ((x.toNat : Int) + (y.toNat : Int)) = ((x + y).toNat : Int) := by
  rw [← Int.natCast_add, wrap32, UInt32.toNat_add]
theorem w_or (x y : UInt32) : IntKind.u32.wrap ((BitVec.ofInt IntKind.u32.bits (x.toNat : Int) ||| BitVec.ofInt IntKind.u32.bits (y.toNat : Int)).toNat : Int) = ((x ||| y).toNat : Int) := by
  show IntKind.u32.wrap ((BitVec.ofInt 32 (x.toNat : Int) ||| BitVec.ofInt 32 (y.toNat : Int)).toNat : Int) = _
  rw [ofInt32, ofInt32, wrap32, ← UInt32.toBitVec_or, UInt32.toNat_toBitVec, Nat.mod_eq_of_lt (UInt32.toNat_lt _)]
theorem w_and (x y : UInt32) : IntKind.u32.wrap ((BitVec.ofInt IntKind.u32.bits (x.toNat : Int) &&& BitVec.ofInt IntKind.u32.bits (y.toNat : Int)).toNat : Int) = ((x &&& y).toNat : Int) := by
  show IntKind.u32.wrap ((BitVec.ofInt 32 (x.toNat : Int) &&& BitVec.ofInt 32 (y.toNat : Int)).toNat : Int) = _
  rw [ofInt32, ofInt32, wrap32, ← UInt32.toBitVec_and, UInt32.toNat_toBitVec, Nat.mod_eq_of_lt (UInt32.toNat_lt _)]
theorem w_xor (x y : UInt32) : IntKind.u32.wrap ((BitVec.ofInt IntKind.u32.bits (x.toNat : Int) ^^^ BitVec.ofInt IntKind.u32.bits (y.toNat : Int)).toNat : Int) = ((x ^^^ y).toNat : Int) := by
  show IntKind.u32.wrap ((BitVec.ofInt 32 (x.toNat : Int) ^^^ BitVec.ofInt 32 (y.toNat : Int)).toNat : Int) = _
  rw [ofInt32, ofInt32, wrap32, ← UInt32.toBitVec_xor, UInt32.toNat_toBitVec, Nat.mod_eq_of_lt (UInt32.toNat_lt _)]
theorem w_shl (x : UInt32) {n : Nat} (h : n < 32) : IntKind.u32.wrap ((x.toNat : Int) * 2 ^ (min n IntKind.u32.bits)) = ((x <<< UInt32.ofNat n).toNat : Int) := by
  have e : min n IntKind.u32.bits = n := Nat.min_eq_left (by show n ≤ 32; omega)
  have e2 : ((2 : Int) ^ n) = ((2 ^ n : Nat) : Int) := by simp
  rw [e, e2, ← Int.natCast_mul, wrap32, UInt32.toNat_shiftLeft, Nat.shiftLeft_eq]
  rw [show (UInt32.ofNat n).toNat % 32 = n by rw [UInt32.toNat_ofNat']; omega]
theorem w_shr (x : UInt32) {n : Nat} (h : n < 32) : (x.toNat : Int).fdiv (2 ^ (min n IntKind.u32.bits)) = ((x >>> UInt32.ofNat n).toNat : Int) := by
  have e : min n IntKind.u32.bits = n := Nat.min_eq_left (by show n ≤ 32; omega)
  have e2 : ((2 : Int) ^ n) = ((2 ^ n : Nat) : Int) := by simp
  rw [e, e2, Int.fdiv_eq_ediv_of_nonneg _ (Int.natCast_nonneg _), ← Int.natCast_ediv, UInt32.toNat_shiftRight, Nat.shiftRight_eq_div_pow]
  rw [show (UInt32.ofNat n).toNat % 32 = n by rw [UInt32.toNat_ofNat']; omega]
theorem w_of8 (b : UInt8) : IntKind.u32.wrap (b.toNat : Int) = ((b.toUInt32).toNat : Int) := by
  rw [wrap32, UInt8.toNat_toUInt32, Nat.mod_eq_of_lt (by have := b.toNat_lt; omega)]
theorem w_to8 (x : UInt32) : IntKind.u8.wrap (x.toNat : Int) = ((x.toUInt8).toNat : Int) := by
  rw [wrap8, UInt32.toNat_toUInt8]
section
variable {P : Program} {n : NN} {fr : Fr} {w : World} {ty : TypeId} {x y : Operand} {p q : UInt32} {t t' : TypeId}
theorem Y.addW (hx : ev fr x = some (wd p)) (hy : ev fr y = some (wd q)) : Yw P n fr (.binOp .add t x y t') ty w (wd (p + q)) w := by
  have := Y.add_k (P := P) (n := n) (w := w) (ty := ty) (t := t) (t' := t') hx hy
  rw [w_add] at this; exact this
theorem w_mul (x y : UInt32) : IntKind.u32.wrap ((x.toNat : Int) * (y.toNat : Int)) = ((x * y).toNat : Int) := by
  rw [← Int.natCast_mul, wrap32, UInt32.toNat_mul]
theorem Y.mulW (hx : ev fr x = some (wd p)) (hy : ev fr y = some (wd q)) : Yw P n fr (.binOp .mul t x y t') ty w (wd (p * q)) w := by
  have := Y.mul_k (P := P) (n := n) (w := w) (ty := ty) (t := t) (t' := t') hx hy
  rw [w_mul] at this; exact this
theorem Y.convNW {m : Nat} {k : IntKind} {s d : TypeId} {ds : TypeDesc} (hs : P.underlying s = some ds) (hd : P.underlying d = some (.int .u32)) (hx : ev fr x = some (.int k (m : Int))) : Yw P n fr (.convert s d x) ty w (wd (UInt32.ofNat m)) w := by
  have := Y.conv_int (P := P) (n := n) (w := w) (ty := ty) hs hd hx
  rw [wrap32, ← UInt32.toNat_ofNat'] at this; exact this
theorem Y.orW (hx : ev fr x = some (wd p)) (hy : ev fr y = some (wd q)) : Yw P n fr (.binOp .or t x y t') ty w (wd (p ||| q)) w := Y.or_k hx hy (w_or p q)
theorem Y.andW (hx : ev fr x = some (wd p)) (hy : ev fr y = some (wd q)) : Yw P n fr (.binOp .and t x y t') ty w (wd (p &&& q)) w :=
  Y.bin hx hy (by simp [wd, eqGuard_at_int]) (by
    have e : binOp .and t (wd p) (wd q) = pure (wd (p &&& q)) := by simp only [wd, binOp, ne_eq, not_true_eq_false, if_false, Op.intBits, w_and]
    rw [e]; rfl)
theorem Y.xorW (hx : ev fr x = some (wd p)) (hy : ev fr y = some (wd q)) : Yw P n fr (.binOp .xor t x y t') ty w (wd (p ^^^ q)) w :=
  Y.bin hx hy (by simp [wd, eqGuard_at_int]) (by
    have e : binOp .xor t (wd p) (wd q) = pure (wd (p ^^^ q)) := by simp only [wd, binOp, ne_eq, not_true_eq_false, if_false, Op.intBits, w_xor]
    rw [e]; rfl)
theorem Y.shlW (m : Nat) {k' : IntKind} {z : Int} (hx : ev fr x = some (wd p)) (hy : ev fr y = some (.int k' z)) (hz : z = (m : Int)) (hm : m < 32) : Yw P n fr (.binOp .shl t x y t') ty w (wd (p <<< UInt32.ofNat m)) w := by
  subst hz; exact Y.shl hx hy (by omega) (w_shl p hm)
theorem Y.shrW (m : Nat) {k' : IntKind} {z : Int} (hx : ev fr x = some (wd p)) (hy : ev fr y = some (.int k' z)) (hz : z = (m : Int)) (hm : m < 32) : Yw P n fr (.binOp .shr t x y t') ty w (wd (p >>> UInt32.ofNat m)) w := by
  subst hz; exact Y.shr hx hy (by omega) (w_shr p hm)
theorem Y.conv8W {b : UInt8} {s d : TypeId} {ds : TypeDesc} (hs : P.underlying s = some ds) (hd : P.underlying d = some (.int .u32)) (hx : ev fr x = some (.int .u8 (b.toNat : Int))) : Yw P n fr (.convert s d x) ty w (wd b.toUInt32) w := by
  have := Y.conv_int (P := P) (n := n) (w := w) (ty := ty) hs hd hx
  rw [w_of8] at this; exact this
theorem Y.convW8 {s d : TypeId} {ds : TypeDesc} (hs : P.underlying s = some ds) (hd : P.underlying d = some (.int .u8)) (hx : ev fr x = some (wd p)) : Yw P n fr (.convert s d x) ty w (.int .u8 (p.toUInt8.toNat : Int)) w := by
  have := Y.conv_int (P := P) (n := n) (w := w) (ty := ty) hs hd hx
  rw [w_to8] at this; exact this
theorem Y.notW (hx : ev fr x = some (wd p)) : Yw P n fr (.unOp .xor t x) ty w (wd (~~~p)) w := fun a o' ho _ ha => by
  have e := w_xor 4294967295 p
  have e2 : (4294967295 : UInt32) ^^^ p = ~~~p := by
    apply UInt32.toBitVec_inj.1
    simp only [UInt32.toBitVec_xor, UInt32.toBitVec_not]
    rw [show (4294967295 : UInt32).toBitVec = BitVec.allOnes 32 from rfl, BitVec.allOnes_xor]
  rw [e2] at e
  have e3 : Op.unary .xor (wd p) = pure (wd (~~~p)) := by
    show Op.intBits .xor .u32 4294967295 (p.toNat : Int) = _
    rw [show (4294967295 : Int) = (((4294967295 : UInt32).toNat : Nat) : Int) from rfl]
    simp only [Op.intBits, e]
    rfl
  simp [execOp, ho, ha.ev hx, e3]
theorem Y.neg {z : Int} {k : IntKind} (hx : ev fr x = some (.int k z)) : Yw P n fr (.unOp .neg t x) ty w (.int k (k.wrap (0 - z))) w := fun a o' ho _ ha => by
  simp [execOp, ho, ha.ev hx, Op.unary, Op.intArith]
end
end Go.Fw
namespace Go.Fw
open Go.RowKit
/-- A row of words. -/
abbrev wds (l : List UInt32) : List Value := l.map wd
theorem wds_one {l : List UInt32} : ∀ u ∈ wds l, u.oneCell' = true := by
  intro u hu
  obtain ⟨x, _, rfl⟩ := List.mem_map.1 hu
  rfl
theorem Mem.wd {w : World} {a : Addr} {l : List UInt32} (h : Mem w a (wds l)) {i : Nat} {x : UInt32} (hx : l[i]? = some x) : w.cell? (a.add (i * 1)) = some (wd x) := by
  rw [Nat.mul_one]; exact h i _ (by rw [List.getElem?_map, hx]; rfl)
theorem Mem.bt {w : World} {a : Addr} {l : List UInt8} (h : Mem w a (bytesC l)) {i : Nat} (hi : i < l.length) : w.cell? (a.add (i * 1)) = some (.int .u8 ((l.getD i 0).toNat : Int)) := by
  rw [Nat.mul_one]; exact h i _ (by rw [List.getD_eq_getElem?_getD, List.getElem?_eq_getElem hi]; exact bytesC_get (List.getElem?_eq_getElem hi))
section
variable {P : Program} {n : NN} {fr : Fr} {w : World} {ty : TypeId}
theorem Y.slice_arr_lo {x lo : Operand} {t e : TypeId} {m k i : Nat} {ki : IntKind} {z : Int} {a : Addr} (hT : P.underlying t = some (.array m e)) (hx : ev fr x = some (.pointer (some a))) (hlo : ev fr lo = some (.int ki z)) (hS : (P.info? e).map (·.size) = some k) (hz : z = (i : Int)) (h1 : i < m) :
    Yw P n fr (.slice t x (some lo) none none) ty w (.slice (some (a.add (i * k))) (m - i) (m - i)) w := fun b o' ho _ ha => by
  subst hz
  have e2 : (0 : Int) ≤ (i : Int) := by omega
  have e3 : ¬ m = i := by omega
  simp [execOp, ho, ha.ev hx, ha.ev hlo, Instr.sliceAt, Instr.sureAddr, run_underlying hT, Instr.sliceBounds, Instr.sliceBound, asIntOf, e2, Nat.le_of_lt h1, fw_sizeOf hS, e3]
theorem Y.slice_arr_hi {x hi : Operand} {t e : TypeId} {m k j : Nat} {ki : IntKind} {z : Int} {a : Addr} (hT : P.underlying t = some (.array m e)) (hx : ev fr x = some (.pointer (some a))) (hhi : ev fr hi = some (.int ki z)) (hS : (P.info? e).map (·.size) = some k) (hz : z = (j : Int)) (h1 : j ≤ m) (h0 : 0 < m) :
    Yw P n fr (.slice t x none (some hi) none) ty w (.slice (some a) j m) w := fun b o' ho _ ha => by
  subst hz
  have e2 : (0 : Int) ≤ (j : Int) := by omega
  have e3 : ¬ m = 0 := by omega
  simp [execOp, ho, ha.ev hx, ha.ev hhi, Instr.sliceAt, Instr.sureAddr, run_underlying hT, Instr.sliceBounds, Instr.sliceBound, asIntOf, e2, h1, fw_sizeOf hS, Addr.add]
theorem St.copy {d s : Operand} {t t' e e' : TypeId} {g m j cd cs : Nat} {A D : Addr} {pre old post news : List Value}
    (hT : P.underlying t = some (.slice e)) (hS : (P.info? e).map (·.size) = some 1) (hd : ev fr d = some (.slice (some D) m cd)) (hD : D = ⟨g, pre.length, none⟩) (hs : ev fr s = some (.slice (some A) j cs))
    (hm : Mem w A news) (hl : news.length = min j m) (hb : Blk w g e' (pre ++ old ++ post)) (hlo : news.length = old.length) (h1 : ∀ u ∈ news, u.oneCell' = true) :
    St P n fr (.call { callee := .builtin .copy, args := #[d, s], argTypes := #[t, t'] }) ty w (fun v w' => v = .int .i64 ((min j m : Nat) : Int) ∧ Chg (· = g) w w' ∧ Blk w' g e' (pre ++ news ++ post)) := fun a o' ho hty ha => by
  obtain ⟨w', hst, hc, hb'⟩ := run_storeCells_blk (P := P) hb hlo h1
  have hld := run_loadCells_list (P := P) w A news hm
  refine ⟨_, w', ?_, rfl, hc, hb'⟩
  subst hD
  rw [hl] at hld
  have e1 : (Builtin.copy_ #[t, t'] o'.type #[.slice (some ⟨g, pre.length, none⟩) m cd, .slice (some A) j cs]).run P w = .ok (.int .i64 ((min j m : Nat) : Int)) w' := by
    simp [Builtin.copy_, run_underlying hT, fw_sizeOf hS, Builtin.lenOf, Builtin.firstCells, hld, hst, goInt]
  simp [execOp, ho, resolve, invoke, builtin, ha.ev hd, ha.ev hs, e1]
end
end Go.Fw
