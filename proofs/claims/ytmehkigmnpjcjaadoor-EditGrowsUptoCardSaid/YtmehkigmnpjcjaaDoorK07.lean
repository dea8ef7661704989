/- Parts of a proof: what its last text leans on. No condition. -/
import Derived.Test.YtmehkigmnpjcjaaDoorK06
set_option linter.unusedSimpArgs false
set_option linter.unusedVariables false
/- Several texts as one: Sa, Sb, Sc, Se, Si, Sl, Sp, Sq, Sr, Ss, St, Su, Sv. -/
/- Words of 32 bits: their arithmetic as the model's, as rules. No condition; no program. -/
namespace Go.Fw
open Go.RowKit
def wd (x : UInt32) : Value := .int .u32 (x.toNat : Int)
theorem wrap32 (n : Nat) : IntKind.u32.wrap (n : Int) = ((n % 4294967296 : Nat) : Int) := by simp [IntKind.wrap, IntKind.bits, IntKind.signed]
theorem wrap8 (n : Nat) : IntKind.u8.wrap (n : Int) = ((n % 256 : Nat) : Int) := by simp [IntKind.wrap, IntKind.bits, IntKind.signed]
theorem wrap64 (n : Nat) : IntKind.u64.wrap (n : Int) = ((n % 18446744073709551616 : Nat) : Int) := by simp [IntKind.wrap, IntKind.bits, IntKind.signed]
theorem ofInt32 (x : UInt32) : BitVec.ofInt 32 (x.toNat : Int) = x.toBitVec := by
 rw [BitVec.ofInt_natCast]
 apply BitVec.eq_of_toNat_eq
 simp
theorem w_add (x y : UInt32) : IntKind.u32.wrap ((x.toNat : Int) + (y.toNat : Int)) = ((x + y).toNat : Int) := by
 rw [← Int.natCast_add, wrap32, UInt32.toNat_add]
theorem w_or (x y : UInt32) : IntKind.u32.wrap ((BitVec.ofInt IntKind.u32.bits (x.toNat : Int) ||| BitVec.ofInt IntKind.u32.bits (y.toNat : Int)).toNat : Int) = ((x ||| y).toNat : Int) := by
 show IntKind.u32.wrap ((BitVec.ofInt 32 (x.toNat : Int) ||| BitVec.ofInt 32 (y.toNat : Int)).toNat : Int) = _
 rw [ofInt32, ofInt32, wrap32, ← UInt32.toBitVec_or, UInt32.toNat_toBitVec, Nat.mod_eq_of_lt (UInt32.toNat_lt _)]
theorem w_and (x y : UInt32) : IntKind.u32.wrap ((BitVec.ofInt IntKind.u32.bits (x.toNat : Int) &&& BitVec.ofInt IntKind.u32.bits (y.toNat : Int)).toNat : Int) = ((x &&& y).toNat : Int) := by
 show IntKind.u32.wrap ((BitVec.ofInt 32 (x.toNat : Int) &&& BitVec.ofInt 32 (y.toNat : Int)).toNat : Int) = _
 rw [ofInt32, ofInt32, wrap32, ← UInt32.toBitVec_and, UInt32.toNat_toBitVec, Nat.mod_eq_of_lt (UInt32.toNat_lt _)]
theorem w_xor (x y : UInt32) : IntKind.u32.wrap ((BitVec.ofInt IntKind.u32.bits (x.toNat : Int) ^^^ BitVec.ofInt IntKind.u32.bits (y.toNat : Int)).toNat : Int) = ((x ^^^ y).toNat : Int) := by
 show IntKind.u32.wrap ((BitVec.ofInt 32 (x.toNat : Int) ^^^ BitVec.ofInt 32 (y.toNat : Int)).toNat : Int) = _
 rw [ofInt32, ofInt32, wrap32, ← UInt32.toBitVec_xor, UInt32.toNat_toBitVec, Nat.mod_eq_of_lt (UInt32.toNat_lt _)]
theorem w_shl (x : UInt32) {n : Nat} (h : n < 32) : IntKind.u32.wrap ((x.toNat : Int) * 2 ^ (min n IntKind.u32.bits)) = ((x <<< UInt32.ofNat n).toNat : Int) := by
 have e : min n IntKind.u32.bits = n := Nat.min_eq_left (by show n ≤ 32; omega)
 have e2 : ((2 : Int) ^ n) = ((2 ^ n : Nat) : Int) := by simp
 rw [e, e2, ← Int.natCast_mul, wrap32, UInt32.toNat_shiftLeft, Nat.shiftLeft_eq]
 rw [show (UInt32.ofNat n).toNat % 32 = n by rw [UInt32.toNat_ofNat']; omega]
theorem w_shr (x : UInt32) {n : Nat} (h : n < 32) : (x.toNat : Int).fdiv (2 ^ (min n IntKind.u32.bits)) = ((x >>> UInt32.ofNat n).toNat : Int) := by
 have e : min n IntKind.u32.bits = n := Nat.min_eq_left (by show n ≤ 32; omega)
 have e2 : ((2 : Int) ^ n) = ((2 ^ n : Nat) : Int) := by simp
 rw [e, e2, Int.fdiv_eq_ediv_of_nonneg _ (Int.natCast_nonneg _), ← Int.natCast_ediv, UInt32.toNat_shiftRight, Nat.shiftRight_eq_div_pow]
 rw [show (UInt32.ofNat n).toNat % 32 = n by rw [UInt32.toNat_ofNat']; omega]
theorem w_of8 (b : UInt8) : IntKind.u32.wrap (b.toNat : Int) = ((b.toUInt32).toNat : Int) := by
 rw [wrap32, UInt8.toNat_toUInt32, Nat.mod_eq_of_lt (by have := b.toNat_lt; omega)]
theorem w_to8 (x : UInt32) : IntKind.u8.wrap (x.toNat : Int) = ((x.toUInt8).toNat : Int) := by
 rw [wrap8, UInt32.toNat_toUInt8]
section
variable {P : Program} {n : NN} {fr : Fr} {w : World} {ty : TypeId} {x y : Operand} {p q : UInt32} {t t' : TypeId}
theorem Y.addW (hx : ev fr x = some (wd p)) (hy : ev fr y = some (wd q)) : Yw P n fr (.binOp .add t x y t') ty w (wd (p + q)) w := by
 have := Y.add_k (P := P) (n := n) (w := w) (ty := ty) (t := t) (t' := t') hx hy
 rw [w_add] at this; exact this
theorem Y.orW (hx : ev fr x = some (wd p)) (hy : ev fr y = some (wd q)) : Yw P n fr (.binOp .or t x y t') ty w (wd (p ||| q)) w := Y.or_k hx hy (w_or p q)
theorem Y.andW (hx : ev fr x = some (wd p)) (hy : ev fr y = some (wd q)) : Yw P n fr (.binOp .and t x y t') ty w (wd (p &&& q)) w :=
 Y.bin hx hy (by simp [wd, eqGuard_at_int]) (by
  have e : binOp .and t (wd p) (wd q) = pure (wd (p &&& q)) := by simp only [wd, binOp, ne_eq, not_true_eq_false, if_false, Op.intBits, w_and]
  rw [e]; rfl)
theorem Y.xorW (hx : ev fr x = some (wd p)) (hy : ev fr y = some (wd q)) : Yw P n fr (.binOp .xor t x y t') ty w (wd (p ^^^ q)) w :=
 Y.bin hx hy (by simp [wd, eqGuard_at_int]) (by
  have e : binOp .xor t (wd p) (wd q) = pure (wd (p ^^^ q)) := by simp only [wd, binOp, ne_eq, not_true_eq_false, if_false, Op.intBits, w_xor]
  rw [e]; rfl)
theorem Y.shlW (m : Nat) {k' : IntKind} {z : Int} (hx : ev fr x = some (wd p)) (hy : ev fr y = some (.int k' z)) (hz : z = (m : Int)) (hm : m < 32) : Yw P n fr (.binOp .shl t x y t') ty w (wd (p <<< UInt32.ofNat m)) w := by
 subst hz; exact Y.shl hx hy om_ (w_shl p hm)
theorem Y.shrW (m : Nat) {k' : IntKind} {z : Int} (hx : ev fr x = some (wd p)) (hy : ev fr y = some (.int k' z)) (hz : z = (m : Int)) (hm : m < 32) : Yw P n fr (.binOp .shr t x y t') ty w (wd (p >>> UInt32.ofNat m)) w := by
 subst hz; exact Y.shr hx hy om_ (w_shr p hm)
theorem Y.conv8W {b : UInt8} {s d : TypeId} {ds : TypeDesc} (hs : P.underlying s = some ds) (hd : P.underlying d = some (.int .u32)) (hx : ev fr x = some (.int .u8 (b.toNat : Int))) : Yw P n fr (.convert s d x) ty w (wd b.toUInt32) w := by
 have := Y.conv_int (P := P) (n := n) (w := w) (ty := ty) hs hd hx
 rw [w_of8] at this; exact this
theorem Y.convW8 {s d : TypeId} {ds : TypeDesc} (hs : P.underlying s = some ds) (hd : P.underlying d = some (.int .u8)) (hx : ev fr x = some (wd p)) : Yw P n fr (.convert s d x) ty w (.int .u8 (p.toUInt8.toNat : Int)) w := by
 have := Y.conv_int (P := P) (n := n) (w := w) (ty := ty) hs hd hx
 rw [w_to8] at this; exact this
theorem Y.notW (hx : ev fr x = some (wd p)) : Yw P n fr (.unOp .xor t x) ty w (wd (~~~p)) w := fun a o' ho _ ha => by
 have e := w_xor 4294967295 p
 have e2 : (4294967295 : UInt32) ^^^ p = ~~~p := by
  apply UInt32.toBitVec_inj.1
  simp only [UInt32.toBitVec_xor, UInt32.toBitVec_not]
  rw [show (4294967295 : UInt32).toBitVec = BitVec.allOnes 32 from rfl, BitVec.allOnes_xor]
 rw [e2] at e
 have e3 : Op.unary .xor (wd p) = pure (wd (~~~p)) := by
  show Op.intBits .xor .u32 4294967295 (p.toNat : Int) = _
  rw [show (4294967295 : Int) = (((4294967295 : UInt32).toNat : Nat) : Int) from rfl]
  simp only [Op.intBits, e]
  rfl
 simp [execOp, ho, ha.ev hx, e3]
theorem Y.neg {z : Int} {k : IntKind} (hx : ev fr x = some (.int k z)) : Yw P n fr (.unOp .neg t x) ty w (.int k (k.wrap (0 - z))) w := fun a o' ho _ ha => by
 simp [execOp, ho, ha.ev hx, Op.unary, Op.intArith]
end
end Go.Fw
namespace Go.Fw
open Go.RowKit
abbrev wds (l : List UInt32) : List Value := l.map wd
theorem wds_one {l : List UInt32} : ∀ u ∈ wds l, u.oneCell' = true := by
 intro u hu
 obtain ⟨x, _, rfl⟩ := List.mem_map.1 hu
 rfl
theorem Mem.wd {w : World} {a : Addr} {l : List UInt32} (h : Mem w a (wds l)) {i : Nat} {x : UInt32} (hx : l[i]? = some x) : w.cell? (a.add (i * 1)) = some (wd x) := by
 rw [Nat.mul_one]; exact h i _ (by rw [List.getElem?_map, hx]; rfl)
theorem Mem.bt {w : World} {a : Addr} {l : List UInt8} (h : Mem w a (bytesC l)) {i : Nat} (hi : i < l.length) : w.cell? (a.add (i * 1)) = some (.int .u8 ((l.getD i 0).toNat : Int)) := by
 rw [Nat.mul_one]; exact h i _ (by rw [List.getD_eq_getElem?_getD, List.getElem?_eq_getElem hi]; exact bytesC_get (List.getElem?_eq_getElem hi))
section
variable {P : Program} {n : NN} {fr : Fr} {w : World} {ty : TypeId}
theorem Y.slice_arr_lo {x lo : Operand} {t e : TypeId} {m k i : Nat} {ki : IntKind} {z : Int} {a : Addr} (hT : P.underlying t = some (.array m e)) (hx : ev fr x = some (.pointer (some a))) (hlo : ev fr lo = some (.int ki z)) (hS : (P.info? e).map (·.size) = some k) (hz : z = (i : Int)) (h1 : i < m) :
  Yw P n fr (.slice t x (some lo) none none) ty w (.slice (some (a.add (i * k))) (m - i) (m - i)) w := fun b o' ho _ ha => by
 subst hz
 have e2 : (0 : Int) ≤ (i : Int) := by omega
 have e3 : ¬ m = i := by omega
 simp [execOp, ho, ha.ev hx, ha.ev hlo, Instr.sliceAt, Instr.sureAddr, run_underlying hT, Instr.sliceBounds, Instr.sliceBound, asIntOf, e2, Nat.le_of_lt h1, fw_sizeOf hS, e3]
theorem Y.slice_arr_hi {x hi : Operand} {t e : TypeId} {m k j : Nat} {ki : IntKind} {z : Int} {a : Addr} (hT : P.underlying t = some (.array m e)) (hx : ev fr x = some (.pointer (some a))) (hhi : ev fr hi = some (.int ki z)) (hS : (P.info? e).map (·.size) = some k) (hz : z = (j : Int)) (h1 : j ≤ m) (h0 : 0 < m) :
  Yw P n fr (.slice t x none (some hi) none) ty w (.slice (some a) j m) w := fun b o' ho _ ha => by
 subst hz
 have e2 : (0 : Int) ≤ (j : Int) := by omega
 have e3 : ¬ m = 0 := by omega
 simp [execOp, ho, ha.ev hx, ha.ev hhi, Instr.sliceAt, Instr.sureAddr, run_underlying hT, Instr.sliceBounds, Instr.sliceBound, asIntOf, e2, h1, fw_sizeOf hS, Addr.add]
theorem St.copy {d s : Operand} {t t' e e' : TypeId} {g m j cd cs : Nat} {A D : Addr} {pre old post news : List Value}
  (hT : P.underlying t = some (.slice e)) (hS : (P.info? e).map (·.size) = some 1) (hd : ev fr d = some (.slice (some D) m cd)) (hD : D = ⟨g, pre.length, none⟩) (hs : ev fr s = some (.slice (some A) j cs))
  (hm : Mem w A news) (hl : news.length = min j m) (hb : Blk w g e' (pre ++ old ++ post)) (hlo : news.length = old.length) (h1 : ∀ u ∈ news, u.oneCell' = true) :
  St P n fr (.call { callee := .builtin .copy, args := #[d, s], argTypes := #[t, t'] }) ty w (fun v w' => v = .int .i64 ((min j m : Nat) : Int) ∧ Chg (· = g) w w' ∧ Blk w' g e' (pre ++ news ++ post)) := fun a o' ho hty ha => by
 obtain ⟨w', hst, hc, hb'⟩ := run_storeCells_blk (P := P) hb hlo h1
 have hld := run_loadCells_list (P := P) w A news hm
 refine ⟨_, w', ?_, rfl, hc, hb'⟩
 subst hD
 rw [hl] at hld
 have e1 : (Builtin.copy_ #[t, t'] o'.type #[.slice (some ⟨g, pre.length, none⟩) m cd, .slice (some A) j cs]).run P w = .ok (.int .i64 ((min j m : Nat) : Int)) w' := by
  simp [Builtin.copy_, run_underlying hT, fw_sizeOf hS, Builtin.lenOf, Builtin.firstCells, hld, hst, goInt]
 simp [execOp, ho, resolve, invoke, builtin, ha.ev hd, ha.ev hs, e1]
end
end Go.Fw
/- SHA-256 as plain Lean: words, schedule, rounds. No condition; no program. -/
namespace Go.Pl
open Go.Fw
def rotr (x : UInt32) (n : Nat) : UInt32 := x >>> UInt32.ofNat n ||| x <<< UInt32.ofNat (32 - n)
def sg0 (x : UInt32) : UInt32 := (rotr x 7 ^^^ rotr x 18) ^^^ x >>> UInt32.ofNat 3
def sg1 (x : UInt32) : UInt32 := (rotr x 17 ^^^ rotr x 19) ^^^ x >>> UInt32.ofNat 10
def wordB (b : List UInt8) (i : Nat) : UInt32 := (((b.getD (4 * i) 0).toUInt32 <<< UInt32.ofNat 24 ||| (b.getD (4 * i + 1) 0).toUInt32 <<< UInt32.ofNat 16) ||| (b.getD (4 * i + 2) 0).toUInt32 <<< UInt32.ofNat 8) ||| (b.getD (4 * i + 3) 0).toUInt32
def nextW (ws : List UInt32) : UInt32 := ws.getD (ws.length - 16) 0 + sg0 (ws.getD (ws.length - 15) 0) + ws.getD (ws.length - 7) 0 + sg1 (ws.getD (ws.length - 2) 0)
def schedN (b : List UInt8) : Nat → List UInt32
 | 0 => []
 | n + 1 => schedN b n ++ [if n < 16 then wordB b n else nextW (schedN b n)]
theorem schedN_length (b : List UInt8) : ∀ n, (schedN b n).length = n
 | 0 => rfl
 | n + 1 => by rw [schedN, List.length_append, schedN_length b n]; rfl
def nextAt (b : List UInt8) (x : Nat) : UInt32 := (schedN b x).getD (x - 16) 0 + sg0 ((schedN b x).getD (x - 15) 0) + (schedN b x).getD (x - 7) 0 + sg1 ((schedN b x).getD (x - 2) 0)
theorem sched_lo (b : List UInt8) {x : Nat} (h : x < 16) : schedN b (x + 1) = schedN b x ++ [wordB b x] := by rw [schedN, if_pos h]
theorem sched_hi (b : List UInt8) {x : Nat} (h : 16 ≤ x) : schedN b (x + 1) = schedN b x ++ [nextAt b x] := by rw [schedN, if_neg om_, nextW, schedN_length]; rfl
theorem repl_split {x : Nat} (h : x < 64) (l : List UInt32) : l ++ List.replicate (64 - x) 0 = l ++ 0 :: List.replicate (63 - x) 0 := by rw [show 64 - x = (63 - x) + 1 by omega, List.replicate_succ]
theorem sched_get {b : List UInt8} {x j : Nat} (h : j < x) : (schedN b x)[j]? = some ((schedN b x).getD j 0) := by
 rw [List.getD_eq_getElem?_getD, List.getElem?_eq_getElem (by rw [schedN_length]; exact h)]; rfl
theorem sched_get2 {b : List UInt8} {x j : Nat} {r : List UInt32} (h : j < x) : (schedN b x ++ r)[j]? = some ((schedN b x).getD j 0) := by
 rw [List.getElem?_append_left (by rw [schedN_length]; exact h), sched_get h]
structure V8 where
 a : UInt32
 b : UInt32
 c : UInt32
 d : UInt32
 e : UInt32
 f : UInt32
 g : UInt32
 h : UInt32
 deriving DecidableEq
def V8.ws (v : V8) : List UInt32 := [v.a, v.b, v.c, v.d, v.e, v.f, v.g, v.h]
def V8.add (v s : V8) : V8 := ⟨v.a + s.a, v.b + s.b, v.c + s.c, v.d + s.d, v.e + s.e, v.f + s.f, v.g + s.g, v.h + s.h⟩
def rT (v : V8) (k w : UInt32) : UInt32 := v.h + ((rotr v.e 6 ^^^ rotr v.e 11) ^^^ rotr v.e 25) + ((v.e &&& v.f) ^^^ (~~~v.e &&& v.g)) + k + w
def rU (v : V8) : UInt32 := ((rotr v.a 2 ^^^ rotr v.a 13) ^^^ rotr v.a 22) + (((v.a &&& v.b) ^^^ (v.a &&& v.c)) ^^^ (v.b &&& v.c))
def rnd (v : V8) (k w : UInt32) : V8 := ⟨rT v k w + rU v, v.a, v.b, v.c, v.d + rT v k w, v.e, v.f, v.g⟩
def keysL : List UInt32 := [1116352408, 1899447441, 3049323471, 3921009573, 961987163, 1508970993, 2453635748, 2870763221, 3624381080, 310598401, 607225278, 1426881987, 1925078388, 2162078206, 2614888103, 3248222580, 3835390401, 4022224774, 264347078, 604807628, 770255983, 1249150122, 1555081692, 1996064986, 2554220882, 2821834349, 2952996808, 3210313671, 3336571891, 3584528711, 113926993, 338241895, 666307205, 773529912, 1294757372, 1396182291, 1695183700, 1986661051, 2177026350, 2456956037, 2730485921, 2820302411, 3259730800, 3345764771, 3516065817, 3600352804, 4094571909, 275423344, 430227734, 506948616, 659060556, 883997877, 958139571, 1322822218, 1537002063, 1747873779, 1955562222, 2024104815, 2227730452, 2361852424, 2428436474, 2756734187, 3204031479, 3329325298]
def rounds (ws : List UInt32) : Nat → V8 → V8
 | 0, v => v
 | n + 1, v => rnd (rounds ws n v) (keysL.getD n 0) (ws.getD n 0)
def mixV (s : V8) (b : List UInt8) : V8 := (rounds (schedN b 64) 64 s).add s
def beginV : V8 := ⟨1779033703, 3144134277, 1013904242, 2773480762, 1359893119, 2600822924, 528734635, 1541459225⟩
theorem ws_get {v : V8} {j : Nat} (h : j < 8) : v.ws[j]? = some (v.ws.getD j 0) := by
 rw [List.getD_eq_getElem?_getD, List.getElem?_eq_getElem (by exact h)]; rfl
theorem keys_get {j : Nat} (h : j < 64) : keysL[j]? = some (keysL.getD j 0) := by
 rw [List.getD_eq_getElem?_getD, List.getElem?_eq_getElem (by exact h)]; rfl
end Go.Pl
/- SHA-256's small functions, walked: RotateLeft32, right, the reference's turn, digit, word. No condition. -/
namespace Go.Proofs.YtmehkigmnpjcjaaDoor
open Go.RowKit Go.Fw Go.Pl
theorem rot_a : ∀ n : Nat, n < 32 → 1 ≤ n → IntKind.u64.wrap ((BitVec.ofInt IntKind.u64.bits (IntKind.u64.wrap (IntKind.i64.wrap (0 - (n : Int)))) &&& BitVec.ofInt IntKind.u64.bits 31).toNat : Int) = ((32 - n : Nat) : Int) := by decide +kernel
theorem rot_b : ∀ n : Nat, n < 32 → 1 ≤ n → IntKind.u64.wrap (32 - ((32 - n : Nat) : Int)) = (n : Int) := by decide +kernel
theorem rotl_any (x : UInt32) (n : Nat) (w : World) (h1 : 1 ≤ n) (h2 : n < 32) : Calls Tryd.prog 81 #[wd x, .int .i64 (IntKind.i64.wrap (0 - (n : Int)))] w (Ret fun v w' => v = wd (rotr x n) ∧ Ext w w') := by
 refine calls_of_CW 17 [4] [(0, wd x), (1, .int .i64 (IntKind.i64.wrap (0 - (n : Int))))] Tryd.func81 rfl rfl rfl (by simp) args2 ?_
 have hE : Ext w w := Chg.refl
 refine CW.sr fun K1 hK1 => ?_
 refine WL.a rfl ?_
 refine WL.nil (hK1 _ _ ?_); try clear hK1
 refine CW.sr fun K2 hK2 => ?_
 refine WL.m rfl ?_
 refine WL.v (Y.conv_int Tryd.underlying3 Tryd.underlying139 rfl) ?_
 refine WL.v (Y.and_k rfl rfl (rot_a n h2 h1)) ?_
 refine WL.a rfl ?_
 refine WL.nil (hK2 _ _ ?_); try clear hK2
 refine CW.sr fun K3 hK3 => ?_
 refine WL.m rfl ?_
 refine WL.m rfl ?_
 refine WL.v (Y.shlW (32 - n) rfl rfl rfl om_) ?_
 refine WL.m rfl ?_
 refine WL.m rfl ?_
 refine WL.v (Y.sub_k rfl rfl) ?_
 refine WL.v (Y.shrW n rfl rfl (rot_b n h2 h1) om_) ?_
 refine WL.v (Y.orW rfl rfl) ?_
 refine WL.a rfl ?_
 refine WL.nil (hK3 _ _ ?_); try clear hK3
 refine CW.ret ⟨_, rfl, ?_⟩
 exact ⟨by rw [rotr, UInt32.or_comm], hE⟩
theorem rightW_any (x : UInt32) (n : Nat) (w : World) (h1 : 1 ≤ n) (h2 : n < 32) : Calls Tryd.prog 75 #[wd x, .int .i64 (n : Int)] w (Ret fun v w' => v = wd (rotr x n) ∧ Ext w w') := by
 refine calls_of_CW 9 [4] [(0, wd x), (1, .int .i64 (n : Int))] Tryd.func75 rfl rfl rfl (by simp) args2 ?_
 have hE : Ext w w := Chg.refl
 refine CW.sr fun K1 hK1 => ?_
 refine WL.a rfl ?_
 refine WL.nil (hK1 _ _ ?_); try clear hK1
 refine CW.sr fun K2 hK2 => ?_
 refine WL.m rfl ?_
 refine WL.m rfl ?_
 refine WL.v (Y.neg rfl) ?_
 refine WL.call Tryd.func81 rfl rfl rfl (rotl_any x n _ h1 h2) (by simp) ?_; rintro v w1 ⟨rfl, hx1⟩; have hz1 := hx1.size; have hE := hE.thenExt hx1
 refine WL.a rfl ?_
 refine WL.nil (hK2 _ _ ?_); try clear hK2
 refine CW.ret ⟨_, rfl, ?_⟩
 exact ⟨rfl, hE⟩
end Go.Proofs.YtmehkigmnpjcjaaDoor
/- digest.state's mixed, walked. No condition. -/
namespace Go.Fw
open Go.RowKit
theorem Mem.wdI {w : World} {a : Addr} {l : List UInt32} (h : Mem w a (wds l)) {z : Int} {j : Nat} {x : UInt32} (hz : z.toNat = j) (hx : l[j]? = some x) : w.cell? (a.add (z.toNat * 1)) = some (Go.Fw.wd x) := by
 rw [hz]; exact h.wd hx
theorem wds_mid (l r : List UInt32) (y : UInt32) : wds (l ++ y :: r) = wds l ++ [wd y] ++ wds r := by simp [wds]
end Go.Fw
namespace Go.Proofs.YtmehkigmnpjcjaaDoor
open Go.RowKit Go.Fw Go.Pl
abbrev TS : TypeId := 147
abbrev T64 : TypeId := 162
def stV (v : V8) : Value := .agg (wds v.ws).toArray
theorem sz_u32 : (Tryd.prog.info? 145).map (·.size) = some 1 := by kernel_rfl
theorem sz_digeststate (v : V8) : (Tryd.prog.info? TS).map (·.size) = some (wds v.ws).length := by
 show _ = some 8
 kernel_rfl
theorem info_state : ∃ i : TypeInfo, Tryd.prog.info? TS = some i ∧ i.zero = some (.agg (wds (List.replicate 8 0)).toArray) ∧ i.size = 8 := by
 have h : (Tryd.prog.info? TS).map (fun i => (i.zero, i.size)) = some (some (.agg (wds (List.replicate 8 0)).toArray), 8) := by kernel_rfl
 cases hi : Tryd.prog.info? TS with
 | none => simp [hi] at h
 | some i => simp [hi] at h; exact ⟨i, rfl, by simpa using h.1, h.2⟩
theorem info_w64 : ∃ i : TypeInfo, Tryd.prog.info? T64 = some i ∧ i.zero = some (.agg (wds (List.replicate 64 0)).toArray) := by
 have h : (Tryd.prog.info? T64).map (fun i => i.zero) = some (some (.agg (wds (List.replicate 64 0)).toArray)) := by kernel_rfl
 cases hi : Tryd.prog.info? T64 with
 | none => simp [hi] at h
 | some i => simp [hi] at h; exact ⟨i, rfl, by simpa using h⟩
theorem as_digeststate {n : NN} {Φ : Exit → Fr → World → Prop} {fr : Fr} {w : World} {ops : Array Oper} {rest : List Oper} {d : Nat} {x : Operand} {ty ty' : TypeId} {pos pos' : String} {aft aft' : Array Edge} {v : V8}
  (hx : ev fr x = some (.agg (wds v.ws).toArray)) (hxd : x ≠ .tmp d) (hd : d < n.1)
  (h : ∀ g w', Ext w w' → w.heap.size ≤ g → Blk w' g TS (wds v.ws) → WL Tryd.prog ops n Φ rest ((d, .pointer (some ⟨g, 0, none⟩)) :: fr) w') :
  WL Tryd.prog ops n Φ (⟨some d, .alloc TS, ty, pos, aft, none⟩ :: ⟨none, .store TS (.tmp d) x, ty', pos', aft', none⟩ :: rest) fr w := by
 obtain ⟨i, hi, hz, hs⟩ := info_state
 exact WL.allocStore (cs := wds v.ws) (zs := wds (List.replicate 8 0)) hi hz rfl (by rw [hs]; rfl) rfl hx hxd rfl wds_one hd h
def SW (g : Nat) (b : List UInt8) (x : Nat) (w0 wq : World) : Prop := Chg (· = g) w0 wq ∧ ∃ y, Blk wq g T64 (wds (schedN b x ++ y :: List.replicate (63 - x) 0))
theorem SW.ext {g : Nat} {b : List UInt8} {x : Nat} {w0 w1 w2 : World} (h : SW g b x w0 w1) (k : Ext w1 w2) : SW g b x w0 w2 := by
 obtain ⟨h1, y, h2⟩ := h
 exact ⟨h1.thenExt k, y, h2.ext k⟩
set_option maxRecDepth 20000 in
set_option maxHeartbeats 4000000 in
theorem mixed_any (s : V8) (u : Value) (b : List UInt8) (w : World) (hb : By w u b) (hlen : b.length = 64) (hK : Mem w ⟨0, 0, none⟩ (wds keysL)) : Calls Tryd.prog 65 #[stV s, u] w (Ret fun v w' => v = stV (mixV s b) ∧ Ext w w') := by
 obtain ⟨A, m, c, rfl⟩ := hb.lens
 obtain ⟨hm, hmc, hcm⟩ := hb.len
 obtain ⟨a, rfl, hba⟩ := hb.mem.1 om_
 have hab : a.block < w.heap.size := hba.lt (fun h => by have := congrArg List.length h; rw [bytesC_length, hlen] at this; cases this)
 have hk0 : (0 : Nat) < w.heap.size := hK.lt (fun h => by cases h)
 obtain ⟨i9, hi9, hz9, _⟩ := info_state
 obtain ⟨i6, hi6, hz6⟩ := info_w64
 refine calls_of_CWc 185 4 8 [(0, stV s), (1, .slice (some a) m c)] Tryd.func65 rfl rfl rfl Tryd.underlying147 rfl kr_ (by simp) args2 ?_
 have hE : Ext w w := Chg.refl
 refine CW.sr fun K1 hK1 => ?_
 refine WL.box rfl rfl de_ fun g2 w1 hx1 hg2 hB2 => ?_
 have hlt2 := hB2.lt; have hz1 := hx1.size
 have hM2 := hB2.mem; have hz1 := hx1.size; have hE := hE.thenExt hx1
 refine WL.alloc (hi9) (hz9) rfl de_ fun g4 w2 hx2 hg4 hB4 => ?_
 have hlt4 := hB4.lt; have hz2 := hx2.size
 have hM4 := hB4.mem; have hz2 := hx2.size; have hE := hE.thenExt hx2; have hB2 := hB2.ext hx2
 refine WL.nil (hK1 _ _ ?_); try clear hK1
 refine CW.sr fun K2 hK2 => ?_
 refine WL.alloc (hi6) (hz6) rfl de_ fun g5 w3 hx3 hg5 hB5 => ?_
 have hlt5 := hB5.lt; have hz3 := hx3.size
 have hM5 := hB5.mem; have hz3 := hx3.size; have hE := hE.thenExt hx3; have hB2 := hB2.ext hx3; have hB4 := hB4.ext hx3
 refine WL.nil (hK2 _ _ ?_); try clear hK2
 refine CW.seq fun K3 hK3 => ?_
 refine CW.sr fun K4 hK4 => ?_
 refine WL.m rfl ?_
 refine WL.nil (hK4 _ _ ?_); try clear hK4
 refine CW.block ?_
 refine CW.loop (X := Nat) (fun x => [(1, .slice (some a) m c), (2, .pointer (some ⟨g2, 0, none⟩)), (4, .pointer (some ⟨g4, 0, none⟩)), (5, .pointer (some ⟨g5, 0, none⟩)), (17, .int .i64 (x : Int))]) (fun x w0 => x ≤ 16 ∧ Ext w w0 ∧ Blk w0 g2 TS (wds s.ws) ∧ Blk w0 g4 TS (wds (List.replicate 8 0)) ∧ Blk w0 g5 T64 (wds (schedN b x ++ List.replicate (64 - x) 0)) ∧ w3.heap.size ≤ w0.heap.size) (fun x => 16 - x) 0 Fr.ok ⟨Nat.zero_le _, hE, hB2, hB4, hB5, Nat.le_refl _⟩ ?_
 intro x w4 hl4
 obtain ⟨hx, hE, hB2, hB4, hB5, hzA⟩ := hl4
 have hbm := hba.ext hE
 have hz4 := hE.size
 refine CW.sr fun K5 hK5 => ?_
 refine WL.v (Y.lss rfl rfl) ?_
 refine WL.nil (hK5 _ _ ?_); try clear hK5
 refine CW.seq fun K6 hK6 => ?_
 (first | refine cd_ rfl ?_ ?_ | refine ce_ rfl ?_ ?_ | refine cn_ rfl ?_ ?_ | refine cb_ rfl ?_ ?_) <;> intro ht7
 ·
  -- then
  refine CW.skip ?_
  refine hK6 _ _ ?_; try clear hK6
  refine CW.seq fun K8 hK8 => ?_
  refine CW.block ?_
  refine CW.sr fun K9 hK9 => ?_
  refine WL.m rfl ?_
  refine WL.a rfl ?_
  refine WL.nil (hK9 _ _ ?_); try clear hK9
  refine CW.held (fun wq => Chg (· = g5) w4 wq) kr_ 36 rfl fun w5 hx5 => ?_; have hz5 := hx5.size; have hE := hE.thenExt hx5; have hB2 := hB2.ext hx5; have hB4 := hB4.ext hx5; have hB5 := hB5.ext hx5
  have hS : Chg (· = g5) w4 w5 := hx5.mono fun _ _ f => f.elim
  refine RH.tk 0 hS rfl (fun wq hq => Y.move rfl) ?_
  refine RH.tk 1 hS rfl (fun wq hq => Y.move rfl) ?_
  refine RH.tk 2 hS rfl (fun wq hq => Y.move rfl) ?_
  refine RH.tk 3 hS rfl (fun wq hq => Y.mul rfl rfl o2_) ?_
  refine RH.tk 4 hS rfl (fun wq hq => Y.indexAddrN Tryd.underlying69 rfl rfl sz0_uint8 (i := 4 * x) om_) ?_
  refine RH.tk 5 hS rfl (fun wq hq => Y.load1 Tryd.underlying5 rfl ((hbm.chg hq om_).bt om_) rfl) ?_
  refine RH.tk 6 hS rfl (fun wq hq => Y.conv8W Tryd.underlying5 Tryd.underlying145 rfl) ?_
  refine RH.tk 7 hS rfl (fun wq hq => Y.shlW 24 rfl rfl rfl de_) ?_
  refine RH.tk 8 hS rfl (fun wq hq => Y.move rfl) ?_
  refine RH.tk 9 hS rfl (fun wq hq => Y.move rfl) ?_
  refine RH.tk 10 hS rfl (fun wq hq => Y.mul rfl rfl o2_) ?_
  refine RH.tk 11 hS rfl (fun wq hq => Y.add rfl rfl o2_) ?_
  refine RH.tk 12 hS rfl (fun wq hq => Y.indexAddrN Tryd.underlying69 rfl rfl sz0_uint8 (i := 4 * x + 1) om_) ?_
  refine RH.tk 13 hS rfl (fun wq hq => Y.load1 Tryd.underlying5 rfl ((hbm.chg hq om_).bt om_) rfl) ?_
  refine RH.tk 14 hS rfl (fun wq hq => Y.conv8W Tryd.underlying5 Tryd.underlying145 rfl) ?_
  refine RH.tk 15 hS rfl (fun wq hq => Y.shlW 16 rfl rfl rfl de_) ?_
  refine RH.tk 16 hS rfl (fun wq hq => Y.orW rfl rfl) ?_
  refine RH.tk 17 hS rfl (fun wq hq => Y.move rfl) ?_
  refine RH.tk 18 hS rfl (fun wq hq => Y.move rfl) ?_
  refine RH.tk 19 hS rfl (fun wq hq => Y.mul rfl rfl o2_) ?_
  refine RH.tk 20 hS rfl (fun wq hq => Y.add rfl rfl o2_) ?_
  refine RH.tk 21 hS rfl (fun wq hq => Y.indexAddrN Tryd.underlying69 rfl rfl sz0_uint8 (i := 4 * x + 2) om_) ?_
  refine RH.tk 22 hS rfl (fun wq hq => Y.load1 Tryd.underlying5 rfl ((hbm.chg hq om_).bt om_) rfl) ?_
  refine RH.tk 23 hS rfl (fun wq hq => Y.conv8W Tryd.underlying5 Tryd.underlying145 rfl) ?_
  refine RH.tk 24 hS rfl (fun wq hq => Y.shlW 8 rfl rfl rfl de_) ?_
  refine RH.tk 25 hS rfl (fun wq hq => Y.orW rfl rfl) ?_
  refine RH.tk 26 hS rfl (fun wq hq => Y.move rfl) ?_
  refine RH.tk 27 hS rfl (fun wq hq => Y.move rfl) ?_
  refine RH.tk 28 hS rfl (fun wq hq => Y.mul rfl rfl o2_) ?_
  refine RH.tk 29 hS rfl (fun wq hq => Y.add rfl rfl o2_) ?_
  refine RH.tk 30 hS rfl (fun wq hq => Y.indexAddrN Tryd.underlying69 rfl rfl sz0_uint8 (i := 4 * x + 3) om_) ?_
  refine RH.tk 31 hS rfl (fun wq hq => Y.load1 Tryd.underlying5 rfl ((hbm.chg hq om_).bt om_) rfl) ?_
  refine RH.tk 32 hS rfl (fun wq hq => Y.conv8W Tryd.underlying5 Tryd.underlying145 rfl) ?_
  refine RH.tk 33 hS rfl (fun wq hq => Y.orW rfl rfl) ?_
  refine RH.tk 34 hS rfl (fun wq hq => Y.indexAddrAN Tryd.underlying162 rfl rfl sz_u32 om_) ?_
  refine RH.one 35 kr_ ?_
  refine RS.store rfl (g := g5) (pre := wds (schedN b x)) (old := [wd 0]) (post := wds (List.replicate (63 - x) 0)) (new := [wd (wordB b x)]) rfl (by rw [add_zero', List.length_map, schedN_length, Nat.mul_one]) rfl rfl kr_ (by rw [← wds_mid, ← repl_split om_]; exact hB5) (by first | (simp only [List.length_cons, List.length_nil, List.length_map, V8.ws]; done) | rfl) (one1 rfl) (fun w6 hc6 hB6_ => ?_)
  have hz6 := hc6.size; have hE := hE.step hc6 (fun k h => by omega); have hB2 := hB2.chg hc6 no_; have hB4 := hB4.chg hc6 no_
  have hB5 := (show Blk w6 g5 T64 (wds (schedN b (x + 1) ++ List.replicate (64 - (x + 1)) 0)) by
   rw [sched_lo b om_, List.append_assoc, List.singleton_append, wds_mid, show 64 - (x + 1) = 63 - x by omega]; exact hB6_)
  have hS := hS.trans hc6 (fun _ _ h => h)
  refine ⟨hS, ?_⟩
  refine RH.done kr_ ?_
  refine hK8 _ _ ?_; try clear hK8
  refine CW.region ?_
  refine WL.v (Y.add rfl rfl o2_) ?_
  refine WL.m rfl ?_
  refine WL.nil ?_
  refine ⟨x + 1, by show 16 - (x + 1) < 16 - x; omega, Fr.ok, by show x + 1 ≤ 16; omega, hE, hB2, hB4, hB5, by omega⟩
 refine CW.exit ?_
 refine hK3 _ _ ?_; try clear hK3
 refine CW.seq fun K10 hK10 => ?_
 refine CW.sr fun K11 hK11 => ?_
 refine WL.a rfl ?_
 refine WL.nil (hK11 _ _ ?_); try clear hK11
 refine CW.block ?_
 refine CW.loop (X := Nat) (fun x => [(2, .pointer (some ⟨g2, 0, none⟩)), (4, .pointer (some ⟨g4, 0, none⟩)), (5, .pointer (some ⟨g5, 0, none⟩)), (7, .int .i64 (x : Int))]) (fun x w0 => 16 ≤ x ∧ x ≤ 64 ∧ Ext w w0 ∧ Blk w0 g2 TS (wds s.ws) ∧ Blk w0 g4 TS (wds (List.replicate 8 0)) ∧ Blk w0 g5 T64 (wds (schedN b x ++ List.replicate (64 - x) 0)) ∧ w3.heap.size ≤ w0.heap.size) (fun x => 64 - x) 16 Fr.ok ⟨Nat.le_refl _, by decide, hE, hB2, hB4, by rw [show x = 16 by omega] at hB5; exact hB5, hzA⟩ ?_
 intro x w7 hl7
 clear hB2 hB4 hB5 hE hx hbm
 obtain ⟨hxa, hxb, hE, hB2, hB4, hB5, hzB⟩ := hl7
 have hz7 := hE.size
 refine CW.seq fun K12 hK12 => ?_
 refine CW.sr fun K13 hK13 => ?_
 refine WL.m rfl ?_
 refine WL.v (Y.lss rfl rfl) ?_
 refine WL.nil (hK13 _ _ ?_); try clear hK13
 (first | refine cd_ rfl ?_ ?_ | refine ce_ rfl ?_ ?_ | refine cn_ rfl ?_ ?_ | refine cb_ rfl ?_ ?_) <;> intro ht14
 ·
  -- then
  refine CW.skip ?_
  refine hK12 _ _ ?_; try clear hK12
  refine CW.seq fun K15 hK15 => ?_
  refine CW.block ?_
  refine CW.seq fun K16 hK16 => ?_
  refine CW.quiet (fun wq => Ext w7 wq) kr_ kr_ Chg.drew ?_
  refine QL.m rfl ?_
  refine QL.v (fun wq hq => Y.sub rfl rfl o2_) ?_
  refine QL.v (fun wq hq => Y.indexAddrA Tryd.underlying162 rfl rfl sz_u32 om_ om_) ?_
  refine QL.v (fun wq hq => Y.load1 Tryd.underlying145 rfl ((hB5.ext hq).mem.wdI (j := x - 15) om_ (sched_get2 om_)) rfl) ?_
  refine QL.m rfl ?_
  refine QL.v (fun wq hq => Y.sub rfl rfl o2_) ?_
  refine QL.v (fun wq hq => Y.indexAddrA Tryd.underlying162 rfl rfl sz_u32 om_ om_) ?_
  refine QL.v (fun wq hq => Y.load1 Tryd.underlying145 rfl ((hB5.ext hq).mem.wdI (j := x - 2) om_ (sched_get2 om_)) rfl) ?_
  refine QL.a rfl ?_
  refine QL.a rfl ?_
  refine QL.nil fun w8 hx8 => ?_
  have hz8 := hx8.size
  have hE := hE.thenExt hx8
  have hB2 := hB2.ext hx8
  have hB4 := hB4.ext hx8
  have hB5 := hB5.ext hx8
  refine hK16 _ _ ?_; try clear hK16
  refine CW.held (fun wq => SW g5 b x w8 wq) kr_ 30 rfl fun w9 hx9 => ?_; have hz9 := hx9.size; have hE := hE.thenExt hx9; have hB2 := hB2.ext hx9; have hB4 := hB4.ext hx9; have hB5 := hB5.ext hx9
  have hS : SW g5 b x w8 w9 := ⟨hx9.mono fun _ _ f => f.elim, 0, by rw [← repl_split om_]; exact hB5⟩
  refine RH.tk 0 hS rfl (fun wq hq => Y.move rfl) ?_
  refine RH.tk 1 hS rfl (fun wq hq => Y.move rfl) ?_
  refine RH.tk 2 hS rfl (fun wq hq => Y.sub rfl rfl o2_) ?_
  refine RH.tk 3 hS rfl (fun wq hq => Y.indexAddrA Tryd.underlying162 rfl rfl sz_u32 om_ om_) ?_
  refine RH.tk 4 hS rfl (fun wq hq => Y.load1 Tryd.underlying145 rfl (by obtain ⟨_, y, hq2⟩ := hq; exact hq2.mem.wdI (j := x - 16) om_ (sched_get2 om_)) rfl) ?_
  refine RH.tk 5 hS rfl (fun wq hq => Y.move rfl) ?_
  refine RH.tk 7 hS rfl (fun wq hq => Y.move rfl) ?_
  refine RH.tk 10 hS rfl (fun wq hq => Y.move rfl) ?_
  refine RH.tk 11 hS rfl (fun wq hq => Y.shrW 3 rfl rfl rfl de_) ?_
  refine RH.tk 14 hS rfl (fun wq hq => Y.move rfl) ?_
  refine RH.tk 15 hS rfl (fun wq hq => Y.sub rfl rfl o2_) ?_
  refine RH.tk 16 hS rfl (fun wq hq => Y.indexAddrA Tryd.underlying162 rfl rfl sz_u32 om_ om_) ?_
  refine RH.tk 17 hS rfl (fun wq hq => Y.load1 Tryd.underlying145 rfl (by obtain ⟨_, y, hq2⟩ := hq; exact hq2.mem.wdI (j := x - 7) om_ (sched_get2 om_)) rfl) ?_
  refine RH.tk 19 hS rfl (fun wq hq => Y.move rfl) ?_
  refine RH.tk 21 hS rfl (fun wq hq => Y.move rfl) ?_
  refine RH.tk 24 hS rfl (fun wq hq => Y.move rfl) ?_
  refine RH.tk 25 hS rfl (fun wq hq => Y.shrW 10 rfl rfl rfl de_) ?_
  refine RH.one 6 kr_ ?_
  refine RS.call rfl (fun _ _ h => by cases h) Tryd.func75 rfl rfl rfl (rightW_any _ 7 _ de_ de_) de_ fun v74 w10 hR10 => ?_
  obtain ⟨rfl, hy10⟩ := hR10
  have hz10 := hy10.size
  have hE := hE.thenExt hy10
  have hB2 := hB2.ext hy10
  have hB4 := hB4.ext hy10
  have hB5 := hB5.ext hy10
  have hS := hS.ext hy10
  refine ⟨hS, ?_⟩
  refine RH.one 8 kr_ ?_
  refine RS.call rfl (fun _ _ h => by cases h) Tryd.func75 rfl rfl rfl (rightW_any _ 18 _ de_ de_) de_ fun v76 w11 hR11 => ?_
  obtain ⟨rfl, hy11⟩ := hR11
  have hz11 := hy11.size
  have hE := hE.thenExt hy11
  have hB2 := hB2.ext hy11
  have hB4 := hB4.ext hy11
  have hB5 := hB5.ext hy11
  have hS := hS.ext hy11
  refine ⟨hS, ?_⟩
  refine RH.tk 9 hS rfl (fun wq hq => Y.xorW rfl rfl) ?_
  refine RH.tk 12 hS rfl (fun wq hq => Y.xorW rfl rfl) ?_
  refine RH.tk 13 hS rfl (fun wq hq => Y.addW rfl rfl) ?_
  refine RH.tk 18 hS rfl (fun wq hq => Y.addW rfl rfl) ?_
  refine RH.one 20 kr_ ?_
  refine RS.call rfl (fun _ _ h => by cases h) Tryd.func75 rfl rfl rfl (rightW_any _ 17 _ de_ de_) de_ fun v88 w12 hR12 => ?_
  obtain ⟨rfl, hy12⟩ := hR12
  have hz12 := hy12.size
  have hE := hE.thenExt hy12
  have hB2 := hB2.ext hy12
  have hB4 := hB4.ext hy12
  have hB5 := hB5.ext hy12
  have hS := hS.ext hy12
  refine ⟨hS, ?_⟩
  refine RH.one 22 kr_ ?_
  refine RS.call rfl (fun _ _ h => by cases h) Tryd.func75 rfl rfl rfl (rightW_any _ 19 _ de_ de_) de_ fun v90 w13 hR13 => ?_
  obtain ⟨rfl, hy13⟩ := hR13
  have hz13 := hy13.size
  have hE := hE.thenExt hy13
  have hB2 := hB2.ext hy13
  have hB4 := hB4.ext hy13
  have hB5 := hB5.ext hy13
  have hS := hS.ext hy13
  refine ⟨hS, ?_⟩
  refine RH.tk 23 hS rfl (fun wq hq => Y.xorW rfl rfl) ?_
  refine RH.tk 26 hS rfl (fun wq hq => Y.xorW rfl rfl) ?_
  refine RH.tk 27 hS rfl (fun wq hq => Y.addW rfl rfl) ?_
  refine RH.tk 28 hS rfl (fun wq hq => Y.indexAddrAN Tryd.underlying162 rfl rfl sz_u32 om_) ?_
  refine RH.one 29 kr_ ?_
  refine RS.store rfl (g := g5) (pre := wds (schedN b x)) (old := [wd 0]) (post := wds (List.replicate (63 - x) 0)) (new := [wd (nextAt b x)]) rfl (by rw [add_zero', List.length_map, schedN_length, Nat.mul_one]) rfl rfl kr_ (by rw [← wds_mid, ← repl_split om_]; exact hB5) (by first | (simp only [List.length_cons, List.length_nil, List.length_map, V8.ws]; done) | rfl) (one1 rfl) (fun w14 hc14 hB14_ => ?_)
  have hz14 := hc14.size; have hE := hE.step hc14 (fun k h => by omega); have hB2 := hB2.chg hc14 no_; have hB4 := hB4.chg hc14 no_
  have hB5 := (show Blk w14 g5 T64 (wds (schedN b (x + 1) ++ List.replicate (64 - (x + 1)) 0)) by
   rw [sched_hi b om_, List.append_assoc, List.singleton_append, wds_mid, show 64 - (x + 1) = 63 - x by omega]; exact hB14_)
  have hS : SW g5 b x w8 w14 := ⟨hS.1.trans hc14 (fun _ _ h => h), nextAt b x, by rw [wds_mid]; exact hB14_⟩
  refine ⟨hS, ?_⟩
  refine RH.done kr_ ?_
  refine hK15 _ _ ?_; try clear hK15
  refine CW.region ?_
  refine WL.m rfl ?_
  refine WL.v (Y.add rfl rfl o2_) ?_
  refine WL.a rfl ?_
  refine WL.nil ?_
  refine ⟨x + 1, by show 64 - (x + 1) < 64 - x; omega, Fr.ok, by show 16 ≤ x + 1; omega, by show x + 1 ≤ 64; omega, hE, hB2, hB4, hB5, by omega⟩
 refine CW.exit ?_
 refine hK10 _ _ ?_; try clear hK10
 refine CW.seq fun K17 hK17 => ?_
 have hB5 := (show Blk w7 g5 T64 (wds (schedN b 64)) by rw [show x = 64 by omega] at hB5; simpa using hB5)
 refine CW.region ?_
 refine WL.v (Y.load Tryd.underlying147 rfl hB2.mem (sz_digeststate _) rfl) ?_
 refine as_digeststate rfl (by simp) de_ fun g10 w15 hx15 hg10 hB10 => ?_
 have hlt10 := hB10.lt; have hz15 := hx15.size
 have hM10 := hB10.mem; have hz15 := hx15.size; have hE := hE.thenExt hx15; have hB2 := hB2.ext hx15; have hB4 := hB4.ext hx15; have hB5 := hB5.ext hx15
 refine WL.nil (hK17 _ _ ?_); try clear hK17
 refine CW.seq fun K18 hK18 => ?_
 refine CW.sr fun K19 hK19 => ?_
 refine WL.m rfl ?_
 refine WL.nil (hK19 _ _ ?_); try clear hK19
 refine CW.block ?_
 refine CW.loop (X := Nat) (fun x => [(2, .pointer (some ⟨g2, 0, none⟩)), (4, .pointer (some ⟨g4, 0, none⟩)), (5, .pointer (some ⟨g5, 0, none⟩)), (10, .pointer (some ⟨g10, 0, none⟩)), (98, .int .i64 (x : Int))]) (fun x w0 => x ≤ 64 ∧ Ext w w0 ∧ Blk w0 g2 TS (wds s.ws) ∧ Blk w0 g4 TS (wds (List.replicate 8 0)) ∧ Blk w0 g5 T64 (wds (schedN b 64)) ∧ Blk w0 g10 TS (wds (rounds (schedN b 64) x s).ws)) (fun x => 64 - x) 0 Fr.ok ⟨Nat.zero_le _, hE, hB2, hB4, hB5, hB10⟩ ?_
 intro x w16 hl16
 clear hB2 hB4 hB5 hE hxa hxb hB10
 obtain ⟨hx, hE, hB2, hB4, hB5, hB10⟩ := hl16
 obtain ⟨v, hv⟩ : ∃ v, v = rounds (schedN b 64) x s := ⟨_, rfl⟩
 rw [← hv] at hB10
 have hz16 := hE.size
 refine CW.sr fun K20 hK20 => ?_
 refine WL.v (Y.lss rfl rfl) ?_
 refine WL.nil (hK20 _ _ ?_); try clear hK20
 refine CW.seq fun K21 hK21 => ?_
 (first | refine cd_ rfl ?_ ?_ | refine ce_ rfl ?_ ?_ | refine cn_ rfl ?_ ?_ | refine cb_ rfl ?_ ?_) <;> intro ht22
 ·
  -- then
  refine CW.skip ?_
  refine hK21 _ _ ?_; try clear hK21
  refine CW.seq fun K23 hK23 => ?_
  refine CW.block ?_
  refine CW.sr fun K24 hK24 => ?_
  refine WL.m rfl ?_
  refine WL.a rfl ?_
  refine WL.nil (hK24 _ _ ?_); try clear hK24
  refine CW.seq fun K25 hK25 => ?_
  refine CW.quiet (fun wq => Ext w16 wq) kr_ kr_ Chg.drew ?_
  refine QL.v (fun wq hq => Y.indexAddrAN (i := 4) Tryd.underlying147 rfl rfl sz_u32 de_) ?_
  refine QL.v (fun wq hq => Y.load1 Tryd.underlying145 rfl ((hB10.ext hq).mem.wd (i := 4) rfl) rfl) ?_
  refine QL.v (fun wq hq => Y.indexAddrAN (i := 0) Tryd.underlying147 rfl rfl sz_u32 de_) ?_
  refine QL.v (fun wq hq => Y.load1 Tryd.underlying145 rfl ((hB10.ext hq).mem.wd (i := 0) rfl) rfl) ?_
  refine QL.a rfl ?_
  refine QL.a rfl ?_
  refine QL.nil fun w17 hx17 => ?_
  have hz17 := hx17.size
  have hE := hE.thenExt hx17
  have hB2 := hB2.ext hx17
  have hB4 := hB4.ext hx17
  have hB5 := hB5.ext hx17
  have hB10 := hB10.ext hx17
  refine hK25 _ _ ?_; try clear hK25
  refine CW.seq fun K26 hK26 => ?_
  refine CW.quiet (fun wq => Ext w17 wq) kr_ kr_ Chg.drew ?_
  refine QL.v (fun wq hq => Y.indexAddrAN (i := 7) Tryd.underlying147 rfl rfl sz_u32 de_) ?_
  refine QL.v (fun wq hq => Y.load1 Tryd.underlying145 rfl ((hB10.ext hq).mem.wd (i := 7) rfl) rfl) ?_
  refine QL.m rfl ?_
  refine QL.call Tryd.func75 rfl rfl rfl (fun wq hq => ret_ext (rightW_any _ 6 _ de_ de_) hq) (by simp) ?_
  refine QL.m rfl ?_
  refine QL.call Tryd.func75 rfl rfl rfl (fun wq hq => ret_ext (rightW_any _ 11 _ de_ de_) hq) (by simp) ?_
  refine QL.v (fun wq hq => Y.xorW rfl rfl) ?_
  refine QL.m rfl ?_
  refine QL.call Tryd.func75 rfl rfl rfl (fun wq hq => ret_ext (rightW_any _ 25 _ de_ de_) hq) (by simp) ?_
  refine QL.v (fun wq hq => Y.xorW rfl rfl) ?_
  refine QL.v (fun wq hq => Y.addW rfl rfl) ?_
  refine QL.m rfl ?_
  refine QL.v (fun wq hq => Y.indexAddrAN (i := 5) Tryd.underlying147 rfl rfl sz_u32 de_) ?_
  refine QL.v (fun wq hq => Y.load1 Tryd.underlying145 rfl ((hB10.ext hq).mem.wd (i := 5) rfl) rfl) ?_
  refine QL.v (fun wq hq => Y.andW rfl rfl) ?_
  refine QL.m rfl ?_
  refine QL.v (fun wq hq => Y.notW rfl) ?_
  refine QL.v (fun wq hq => Y.indexAddrAN (i := 6) Tryd.underlying147 rfl rfl sz_u32 de_) ?_
  refine QL.v (fun wq hq => Y.load1 Tryd.underlying145 rfl ((hB10.ext hq).mem.wd (i := 6) rfl) rfl) ?_
  refine QL.v (fun wq hq => Y.andW rfl rfl) ?_
  refine QL.v (fun wq hq => Y.xorW rfl rfl) ?_
  refine QL.v (fun wq hq => Y.addW rfl rfl) ?_
  refine QL.m rfl ?_
  refine QL.v (fun wq hq => Y.indexAddrAN Tryd.underlying162 rfl rfl sz_u32 om_) ?_
  refine QL.v (fun wq hq => Y.load1 Tryd.underlying145 rfl ((hK.ext (hE.thenExt hq)).wd (keys_get om_)) rfl) ?_
  refine QL.v (fun wq hq => Y.addW rfl rfl) ?_
  refine QL.m rfl ?_
  refine QL.v (fun wq hq => Y.indexAddrAN Tryd.underlying162 rfl rfl sz_u32 om_) ?_
  refine QL.v (fun wq hq => Y.load1 Tryd.underlying145 rfl ((hB5.ext hq).mem.wd (sched_get om_)) rfl) ?_
  refine QL.v (fun wq hq => Y.addW rfl rfl) ?_
  refine QL.a rfl ?_
  refine QL.nil fun w18 hx18 => ?_
  have hz18 := hx18.size
  have hE := hE.thenExt hx18
  have hB2 := hB2.ext hx18
  have hB4 := hB4.ext hx18
  have hB5 := hB5.ext hx18
  have hB10 := hB10.ext hx18
  refine hK26 _ _ ?_; try clear hK26
  refine CW.seq fun K27 hK27 => ?_
  refine CW.quiet (fun wq => Ext w18 wq) kr_ kr_ Chg.drew ?_
  refine QL.m rfl ?_
  refine QL.call Tryd.func75 rfl rfl rfl (fun wq hq => ret_ext (rightW_any _ 2 _ de_ de_) hq) (by simp) ?_
  refine QL.m rfl ?_
  refine QL.call Tryd.func75 rfl rfl rfl (fun wq hq => ret_ext (rightW_any _ 13 _ de_ de_) hq) (by simp) ?_
  refine QL.v (fun wq hq => Y.xorW rfl rfl) ?_
  refine QL.m rfl ?_
  refine QL.call Tryd.func75 rfl rfl rfl (fun wq hq => ret_ext (rightW_any _ 22 _ de_ de_) hq) (by simp) ?_
  refine QL.v (fun wq hq => Y.xorW rfl rfl) ?_
  refine QL.m rfl ?_
  refine QL.v (fun wq hq => Y.indexAddrAN (i := 1) Tryd.underlying147 rfl rfl sz_u32 de_) ?_
  refine QL.v (fun wq hq => Y.load1 Tryd.underlying145 rfl ((hB10.ext hq).mem.wd (i := 1) rfl) rfl) ?_
  refine QL.v (fun wq hq => Y.andW rfl rfl) ?_
  refine QL.m rfl ?_
  refine QL.v (fun wq hq => Y.indexAddrAN (i := 2) Tryd.underlying147 rfl rfl sz_u32 de_) ?_
  refine QL.v (fun wq hq => Y.load1 Tryd.underlying145 rfl ((hB10.ext hq).mem.wd (i := 2) rfl) rfl) ?_
  refine QL.v (fun wq hq => Y.andW rfl rfl) ?_
  refine QL.v (fun wq hq => Y.xorW rfl rfl) ?_
  refine QL.v (fun wq hq => Y.indexAddrAN (i := 1) Tryd.underlying147 rfl rfl sz_u32 de_) ?_
  refine QL.v (fun wq hq => Y.load1 Tryd.underlying145 rfl ((hB10.ext hq).mem.wd (i := 1) rfl) rfl) ?_
  refine QL.v (fun wq hq => Y.indexAddrAN (i := 2) Tryd.underlying147 rfl rfl sz_u32 de_) ?_
  refine QL.v (fun wq hq => Y.load1 Tryd.underlying145 rfl ((hB10.ext hq).mem.wd (i := 2) rfl) rfl) ?_
  refine QL.v (fun wq hq => Y.andW rfl rfl) ?_
  refine QL.v (fun wq hq => Y.xorW rfl rfl) ?_
  refine QL.v (fun wq hq => Y.addW rfl rfl) ?_
  refine QL.a rfl ?_
  refine QL.nil fun w19 hx19 => ?_
  have hz19 := hx19.size
  have hE := hE.thenExt hx19
  have hB2 := hB2.ext hx19
  have hB4 := hB4.ext hx19
  have hB5 := hB5.ext hx19
  have hB10 := hB10.ext hx19
  refine hK27 _ _ ?_; try clear hK27
  refine CW.seq fun K28 hK28 => ?_
  refine CW.know (d := 14) (u := wd (rT v (keysL.getD x 0) ((schedN b 64).getD x 0))) rfl rfl ?_
  refine CW.know (d := 15) (u := wd (rU v)) rfl rfl ?_
  refine CW.held (fun wq => Chg (· = g10) w19 wq) kr_ 3 rfl fun w20 hx20 => ?_; have hz20 := hx20.size; have hE := hE.thenExt hx20; have hB2 := hB2.ext hx20; have hB4 := hB4.ext hx20; have hB5 := hB5.ext hx20; have hB10 := hB10.ext hx20
  have hS : Chg (· = g10) w19 w20 := hx20.mono fun _ _ f => f.elim
  refine RH.tk 0 hS rfl (fun wq hq => Y.slice_arr_lo (i := 1) Tryd.underlying147 rfl rfl sz_u32 rfl de_) ?_
  refine RH.tk 1 hS rfl (fun wq hq => Y.slice_arr_hi (j := 7) Tryd.underlying147 rfl rfl sz_u32 rfl de_ de_) ?_
  refine RH.one 2 kr_ ?_
  refine RS.st rfl (St.copy (pre := [wd v.a]) (old := wds [v.b, v.c, v.d, v.e, v.f, v.g, v.h]) (post := []) (news := wds [v.a, v.b, v.c, v.d, v.e, v.f, v.g]) Tryd.underlying164 sz_u32 rfl (by rw [add_zero']; rfl) rfl (show Mem _ _ (wds [v.a, v.b, v.c, v.d, v.e, v.f, v.g]) from hB10.mem.take 7) rfl hB10 rfl wds_one) de_ fun v161 w21 hR21 => ?_
  obtain ⟨-, hc21, hB21_⟩ := hR21
  have hz21 := hc21.size
  have hE := hE.step hc21 (fun k h => by omega)
  have hB2 := hB2.chg hc21 no_
  have hB4 := hB4.chg hc21 no_
  have hB5 := hB5.chg hc21 no_
  have hB10 : Blk w21 g10 TS (wds [v.a, v.a, v.b, v.c, v.d, v.e, v.f, v.g]) := hB21_
  have hS := hS.trans hc21 (fun _ _ h => h)
  refine ⟨hS, ?_⟩
  refine RH.done kr_ ?_
  refine hK28 _ _ ?_; try clear hK28
  refine CW.sr fun K29 hK29 => ?_
  refine WL.v (Y.indexAddrAN (i := 4) Tryd.underlying147 rfl rfl sz_u32 de_) ?_
  refine WL.v (Y.load1 Tryd.underlying145 rfl (hB10.mem.wd (i := 4) rfl) rfl) ?_
  refine WL.m rfl ?_
  refine WL.v (Y.addW rfl rfl) ?_
  refine WL.v (Y.indexAddrAN (i := 4) Tryd.underlying147 rfl rfl sz_u32 de_) ?_
  refine WL.store (g := g10) (pre := wds [v.a, v.a, v.b, v.c]) (old := [wd v.d]) (post := wds [v.e, v.f, v.g]) (new := [wd (v.d + (rT v (keysL.getD x 0) ((schedN b 64).getD x 0)))]) rfl (by rw [add_zero']; rfl) rfl rfl kr_ hB10 (by first | (simp only [List.length_cons, List.length_nil, List.length_map, List.length_replicate, V8.ws, digC_length]; done) | rfl | (simp [digC_length, opC_length]; done) | (simp only [digC_length, opC_length]; omega)) (one1 rfl) (fun w22 hc22 hB22_ => ?_)
  have hz22 := hc22.size; have hE := hE.step hc22 (fun k h => by omega); have hB2 := hB2.chg hc22 no_; have hB4 := hB4.chg hc22 no_; have hB5 := hB5.chg hc22 no_
  have hB10 : Blk w22 g10 TS (wds [v.a, v.a, v.b, v.c, v.d + (rT v (keysL.getD x 0) ((schedN b 64).getD x 0)), v.e, v.f, v.g]) := hB22_
  refine WL.nil (hK29 _ _ ?_); try clear hK29
  refine CW.region ?_
  refine WL.m rfl ?_
  refine WL.m rfl ?_
  refine WL.v (Y.addW rfl rfl) ?_
  refine WL.v (Y.indexAddrAN (i := 0) Tryd.underlying147 rfl rfl sz_u32 de_) ?_
  refine WL.store (g := g10) (pre := []) (old := [wd v.a]) (post := wds [v.a, v.b, v.c, v.d + (rT v (keysL.getD x 0) ((schedN b 64).getD x 0)), v.e, v.f, v.g]) (new := [wd ((rT v (keysL.getD x 0) ((schedN b 64).getD x 0)) + rU v)]) rfl (by rw [add_zero']; rfl) rfl rfl kr_ hB10 (by first | (simp only [List.length_cons, List.length_nil, List.length_map, List.length_replicate, V8.ws, digC_length]; done) | rfl | (simp [digC_length, opC_length]; done) | (simp only [digC_length, opC_length]; omega)) (one1 rfl) (fun w23 hc23 hB23_ => ?_)
  have hz23 := hc23.size; have hE := hE.step hc23 (fun k h => by omega); have hB2 := hB2.chg hc23 no_; have hB4 := hB4.chg hc23 no_; have hB5 := hB5.chg hc23 no_
  have hB10 : Blk w23 g10 TS (wds (rnd v (keysL.getD x 0) ((schedN b 64).getD x 0)).ws) := hB23_
  refine WL.nil (hK23 _ _ ?_); try clear hK23
  refine CW.region ?_
  refine WL.v (Y.add rfl rfl o2_) ?_
  refine WL.m rfl ?_
  refine WL.nil ?_
  refine ⟨x + 1, by show 64 - (x + 1) < 64 - x; omega, Fr.ok, by show x + 1 ≤ 64; omega, hE, hB2, hB4, hB5, ?_⟩
  show Blk _ g10 TS (wds (rounds (schedN b 64) (x + 1) s).ws)
  rw [rounds, ← hv]
  exact hB10
 refine CW.exit ?_
 refine hK18 _ _ ?_; try clear hK18
 refine CW.seq fun K30 hK30 => ?_
 refine CW.sr fun K31 hK31 => ?_
 refine WL.m rfl ?_
 refine WL.nil (hK31 _ _ ?_); try clear hK31
 refine CW.block ?_
 refine CW.loop (X := Nat × List UInt32) (fun x => [(2, .pointer (some ⟨g2, 0, none⟩)), (4, .pointer (some ⟨g4, 0, none⟩)), (10, .pointer (some ⟨g10, 0, none⟩)), (172, .int .i64 (x.1 : Int))]) (fun x w0 => x.1 ≤ 8 ∧ x.2.length = 8 ∧ (∀ j, j < 8 → x.2[j]? = some (if j < x.1 then (rounds (schedN b 64) 64 s).ws.getD j 0 + s.ws.getD j 0 else (rounds (schedN b 64) 64 s).ws.getD j 0)) ∧ Ext w w0 ∧ Blk w0 g2 TS (wds s.ws) ∧ Blk w0 g4 TS (wds (List.replicate 8 0)) ∧ Blk w0 g10 TS (wds x.2) ∧ Blk w0 g5 T64 (wds (schedN b 64))) (fun x => 8 - x.1) (0, (rounds (schedN b 64) 64 s).ws) Fr.ok ⟨Nat.zero_le _, rfl, (fun j hj => by rw [if_neg om_]; exact ws_get hj), hE, hB2, hB4, by rw [show x = 64 by omega] at hv; rw [hv] at hB10; exact hB10, hB5⟩ ?_
 intro x w24 hl24
 clear hB2 hB4 hB5 hE hB10 hx
 obtain ⟨i, l⟩ := x
 dsimp only at hl24 ⊢
 obtain ⟨hi, hll, hlg, hE, hB2, hB4, hB10, hB5⟩ := hl24
 have hB2o := hB2
 have hz24 := hE.size
 refine CW.sr fun K32 hK32 => ?_
 refine WL.v (Y.lss rfl rfl) ?_
 refine WL.nil (hK32 _ _ ?_); try clear hK32
 refine CW.seq fun K33 hK33 => ?_
 (first | refine cd_ rfl ?_ ?_ | refine ce_ rfl ?_ ?_ | refine cn_ rfl ?_ ?_ | refine cb_ rfl ?_ ?_) <;> intro ht34
 ·
  -- then
  refine CW.skip ?_
  refine hK33 _ _ ?_; try clear hK33
  refine CW.seq fun K35 hK35 => ?_
  refine CW.block ?_
  refine CW.sr fun K36 hK36 => ?_
  refine WL.m rfl ?_
  refine WL.a rfl ?_
  refine WL.nil (hK36 _ _ ?_); try clear hK36
  refine CW.held (fun wq => Chg (· = g10) w24 wq) kr_ 9 rfl fun w25 hx25 => ?_; have hz25 := hx25.size; have hE := hE.thenExt hx25; have hB2 := hB2.ext hx25; have hB4 := hB4.ext hx25; have hB5 := hB5.ext hx25; have hB10 := hB10.ext hx25
  have hS : Chg (· = g10) w24 w25 := hx25.mono fun _ _ f => f.elim
  refine RH.tk 0 hS rfl (fun wq hq => Y.move rfl) ?_
  refine RH.tk 1 hS rfl (fun wq hq => Y.indexAddrAN Tryd.underlying147 rfl rfl sz_u32 om_) ?_
  refine RH.tk 3 hS rfl (fun wq hq => Y.move rfl) ?_
  refine RH.tk 4 hS rfl (fun wq hq => Y.indexAddrAN Tryd.underlying147 rfl rfl sz_u32 om_) ?_
  refine RH.tk 5 hS rfl (fun wq hq => Y.load1 Tryd.underlying145 rfl ((hB2o.chg hq om_).mem.wd (ws_get om_)) rfl) ?_
  refine RH.one 2 kr_ ?_
  refine RS.val rfl (Y.load1 Tryd.underlying145 rfl (hB10.mem.wd (show l[i]? = some ((rounds (schedN b 64) 64 s).ws.getD i 0) by rw [hlg i om_, if_neg om_])) rfl) de_ ⟨hS, ?_⟩
  refine RH.tk 6 hS rfl (fun wq hq => Y.addW rfl rfl) ?_
  refine RH.tk 7 hS rfl (fun wq hq => Y.indexAddrAN Tryd.underlying147 rfl rfl sz_u32 om_) ?_
  refine RH.one 8 kr_ ?_
  refine RS.store rfl (g := g10) (pre := wds (l.take i)) (old := [wd ((rounds (schedN b 64) 64 s).ws.getD i 0)]) (post := wds (l.drop (i + 1))) (new := [wd ((rounds (schedN b 64) 64 s).ws.getD i 0 + s.ws.getD i 0)]) rfl (by rw [add_zero', List.length_map, List.length_take, Nat.min_eq_left om_, Nat.mul_one]) rfl rfl kr_ (by
   have hlt : i < l.length := by omega
   have e0 := hlg i om_
   rw [if_neg om_, List.getElem?_eq_getElem hlt, Option.some.injEq] at e0
   rw [← wds_mid, ← e0, ← List.drop_eq_getElem_cons hlt, List.take_append_drop]; exact hB10) (by first | (simp only [List.length_cons, List.length_nil, List.length_map, V8.ws]; done) | rfl) (one1 rfl) (fun w26 hc26 hB26_ => ?_)
  have hz26 := hc26.size; have hE := hE.step hc26 (fun k h => by omega); have hB2 := hB2.chg hc26 no_; have hB4 := hB4.chg hc26 no_; have hB5 := hB5.chg hc26 no_
  have hB10 := (show Blk w26 g10 TS (wds (l.set i ((rounds (schedN b 64) 64 s).ws.getD i 0 + s.ws.getD i 0))) by
   rw [List.set_eq_take_append_cons_drop, if_pos om_, wds_mid]; exact hB26_)
  have hS := hS.trans hc26 (fun _ _ h => h)
  refine ⟨hS, ?_⟩
  refine RH.done kr_ ?_
  refine hK35 _ _ ?_; try clear hK35
  refine CW.region ?_
  refine WL.v (Y.add rfl rfl o2_) ?_
  refine WL.m rfl ?_
  refine WL.nil ?_
  refine ⟨(i + 1, l.set i ((rounds (schedN b 64) 64 s).ws.getD i 0 + s.ws.getD i 0)), by show 8 - (i + 1) < 8 - i; omega, Fr.ok, by show i + 1 ≤ 8; omega, by simpa using hll, ?_, hE, hB2, hB4, hB10, hB5⟩
  intro j hj
  show (l.set i ((rounds (schedN b 64) 64 s).ws.getD i 0 + s.ws.getD i 0))[j]? = some (if j < i + 1 then _ else _)
  rw [List.getElem?_set]
  by_cases he : i = j
  ·
   subst he
   rw [if_pos rfl, if_pos om_, if_pos om_]
  ·
   rw [if_neg he, hlg j hj]
   by_cases h3 : j < i
   ·
    rw [if_pos h3, if_pos om_]
   ·
    rw [if_neg h3, if_neg om_]
 refine CW.exit ?_
 refine hK30 _ _ ?_; try clear hK30
 refine CW.seq fun K37 hK37 => ?_
 have hl8 : l = ((rounds (schedN b 64) 64 s).add s).ws := by
  apply List.ext_getElem?
  intro j
  by_cases hj : j < 8
  ·
   rw [hlg j hj, if_pos om_]
   match j, hj with
   | 0, _ => rfl
   | 1, _ => rfl
   | 2, _ => rfl
   | 3, _ => rfl
   | 4, _ => rfl
   | 5, _ => rfl
   | 6, _ => rfl
   | 7, _ => rfl
  ·
   rw [List.getElem?_eq_none om_, List.getElem?_eq_none (by show 8 ≤ j; omega)]
 rw [hl8] at hB10
 refine CW.region ?_
 refine WL.v (Y.load Tryd.underlying147 rfl hB10.mem (sz_digeststate _) rfl) ?_
 refine WL.store (g := g4) (pre := []) (old := wds (List.replicate 8 0)) (post := []) (new := wds (mixV s b).ws) rfl rfl rfl rfl kr_ (by simpa using hB4) (by first | (simp only [List.length_cons, List.length_nil, List.length_map, List.length_replicate, V8.ws, digC_length]; done) | rfl | (simp [digC_length, opC_length]; done) | (simp only [digC_length, opC_length]; omega)) (wds_one) (fun w27 hc27 hB27_ => ?_)
 have hz27 := hc27.size; have hE := hE.step hc27 (fun k h => by omega); have hB2 := hB2.chg hc27 no_; have hB5 := hB5.chg hc27 no_; have hB10 := hB10.chg hc27 no_
 have hB4 : Blk w27 g4 TS (wds (mixV s b).ws) := by simpa using hB27_
 refine WL.nil (hK37 _ _ ?_); try clear hK37
 refine CW.ret ?_
 exact ⟨_, _, rfl, hB4.mem, rfl, rfl, hE⟩
end Go.Proofs.YtmehkigmnpjcjaaDoor
/- The reference's mix, walked. No condition. -/
namespace Go.Pl
open Go.Fw
end Go.Pl
namespace Go.Proofs.YtmehkigmnpjcjaaDoor
open Go.RowKit Go.Fw Go.Pl
end Go.Proofs.YtmehkigmnpjcjaaDoor
/- The padding of SHA-256: the reference's whole, walked. No condition. -/
namespace Go.Pl
open Go.Fw
def padZ (n : Nat) : Nat := (119 - n % 64) % 64
def lenByte (n j : Nat) : UInt8 := UInt8.ofNat (n * 8 / 2 ^ (56 - 8 * j))
def padB (n : Nat) : List UInt8 := 128 :: List.replicate (padZ n) 0 ++ (List.range 8).map (lenByte n)
def wholeB (b : List UInt8) : List UInt8 := b ++ padB b.length
theorem padB_len (n : Nat) : (padB n).length = padZ n + 9 := by simp [padB]
end Go.Pl
namespace Go.Proofs.YtmehkigmnpjcjaaDoor
open Go.RowKit Go.Fw Go.Pl
abbrev TB : TypeId := 5
theorem sh_len {n : Nat} (h : n * 8 < 18446744073709551616) : IntKind.u64.wrap (IntKind.u64.wrap (n : Int) * 8) = ((n * 8 : Nat) : Int) := by
 rw [Fw.wrap64, Nat.mod_eq_of_lt om_, show ((n : Int) * 8) = ((n * 8 : Nat) : Int) by omega, Fw.wrap64, Nat.mod_eq_of_lt h]
theorem sh_div (p m : Nat) (hm : m ≤ 64) : (p : Int).fdiv (2 ^ (min (m : Int).toNat IntKind.u64.bits)) = ((p / 2 ^ m : Nat) : Int) := by
 have e : min (m : Int).toNat IntKind.u64.bits = m := by rw [Int.toNat_natCast]; exact Nat.min_eq_left hm
 have e2 : ((2 : Int) ^ m) = ((2 ^ m : Nat) : Int) := by simp
 rw [e, e2, Int.fdiv_eq_ediv_of_nonneg _ (Int.natCast_nonneg _), ← Int.natCast_ediv]
end Go.Proofs.YtmehkigmnpjcjaaDoor
/- SHA-256 as the reference has it, walked: Sum. No condition. -/
namespace Go.Pl
open Go.Fw
def blk (l : List UInt8) (i : Nat) : List UInt8 := (l.drop (64 * i)).take 64
def blocksN (l : List UInt8) : Nat → V8
 | 0 => beginV
 | n + 1 => mixV (blocksN l n) (blk l n)
def digB (v : V8) (i : Nat) : UInt8 := (v.ws.getD (i / 4) 0 >>> UInt32.ofNat (24 - 8 * (i % 4))).toUInt8
def digsV (v : V8) : List UInt8 := (List.range 32).map (digB v)
def shaD (b : List UInt8) : Dig := ⟨digsV (blocksN (wholeB b) ((wholeB b).length / 64)), by simp [digsV]⟩
theorem dig_split {x : Nat} (h : x < 32) (l : List UInt8) : bytesC (l ++ List.replicate (32 - x) 0) = bytesC l ++ [bc 0] ++ bytesC (List.replicate (31 - x) 0) := by
 rw [show 32 - x = (31 - x) + 1 by omega, List.replicate_succ, bytesC_append, List.append_assoc]
 rfl
end Go.Pl
namespace Go.Proofs.YtmehkigmnpjcjaaDoor
open Go.RowKit Go.Fw Go.Pl
abbrev TDi : TypeId := 36
end Go.Proofs.YtmehkigmnpjcjaaDoor
/- digest.first, New, walked; what a Hash is as cells. No condition. -/
namespace Go.Proofs.YtmehkigmnpjcjaaDoor
open Go.RowKit Go.Fw Go.Pl
abbrev TH : TypeId := 151
def hashC (s : V8) (rest : List UInt8) (n : Nat) : List Value := .bool true :: (wds s.ws ++ (bytesC rest ++ [.int .i64 (n : Int)]))
theorem build_first (w : World) : (Instr.build TS [(0, Value.int .u32 1779033703), (1, Value.int .u32 3144134277), (2, Value.int .u32 1013904242), (3, Value.int .u32 2773480762), (4, Value.int .u32 1359893119), (5, Value.int .u32 2600822924), (6, Value.int .u32 528734635), (7, Value.int .u32 1541459225)].toArray).run Tryd.prog w = .ok (stV beginV) w := run_build w _ _ _ kr_
theorem build_hash (w : World) : (Instr.build TH [(0, Value.bool true), (1, stV beginV)].toArray).run Tryd.prog w = .ok (.agg (hashC beginV (List.replicate 64 0) 0).toArray) w := run_build w _ _ _ kr_
theorem first_any (w : World) : Calls Tryd.prog 64 #[] w (Ret fun v w' => v = stV beginV ∧ Ext w w') := by
 obtain ⟨i9, hi9, hz9, _⟩ := info_state
 refine calls_of_CWc 2 0 8 [] Tryd.func64 rfl rfl rfl Tryd.underlying147 rfl kr_ (by simp) args0 ?_
 have hE : Ext w w := Chg.refl
 refine CW.sr fun K1 hK1 => ?_
 refine WL.alloc (hi9) (hz9) rfl de_ fun g0 w1 hx1 hg0 hB0 => ?_
 have hlt0 := hB0.lt; have hz1 := hx1.size
 have hM0 := hB0.mem; have hz1 := hx1.size; have hE := hE.thenExt hx1
 refine WL.nil (hK1 _ _ ?_); try clear hK1
 refine CW.sr fun K2 hK2 => ?_
 refine WL.v (Y.build rfl (build_first _)) ?_
 refine WL.store (g := g0) (pre := []) (old := wds (List.replicate 8 0)) (post := []) (new := wds beginV.ws) rfl rfl rfl rfl kr_ (by simpa using hB0) (by first | (simp only [List.length_cons, List.length_nil, List.length_map, List.length_replicate, V8.ws, digC_length]; done) | rfl | (simp [digC_length, opC_length]; done) | (simp only [digC_length, opC_length]; omega)) (wds_one) (fun w2 hc2 hB2_ => ?_)
 have hz2 := hc2.size; have hE := hE.step hc2 (fun k h => by omega)
 have hB0 : Blk w2 g0 TS (wds beginV.ws) := by simpa using hB2_
 refine WL.nil (hK2 _ _ ?_); try clear hK2
 refine CW.ret ?_
 exact ⟨_, _, rfl, hB0.mem, rfl, rfl, hE⟩
theorem new_any (w : World) : Calls Tryd.prog 44 #[] w (Ret fun v w' => ∃ g, v = .pointer (some ⟨g, 0, none⟩) ∧ w.heap.size ≤ g ∧ Blk w' g TH (hashC beginV (List.replicate 64 0) 0) ∧ Ext w w') := by
 refine calls_of_CW 4 [0] [] Tryd.func44 rfl rfl rfl (by simp) args0 ?_
 have hE : Ext w w := Chg.refl
 refine CW.sr fun K1 hK1 => ?_
 refine WL.a rfl ?_
 refine WL.nil (hK1 _ _ ?_); try clear hK1
 refine CW.sr fun K2 hK2 => ?_
 refine WL.call Tryd.func64 rfl rfl rfl (first_any _) (by simp) ?_; rintro v w1 ⟨rfl, hx1⟩; have hz1 := hx1.size; have hE := hE.thenExt hx1
 refine WL.v (Y.build rfl (build_hash _)) ?_
 refine WL.box rfl rfl de_ fun g3 w2 hx2 hg3 hB3 => ?_
 have hlt3 := hB3.lt; have hz2 := hx2.size
 have hM3 := hB3.mem; have hz2 := hx2.size; have hE := hE.thenExt hx2
 refine WL.a rfl ?_
 refine WL.nil (hK2 _ _ ?_); try clear hK2
 refine CW.ret ⟨_, rfl, ?_⟩
 exact ⟨g3, rfl, by omega, hB3, hE⟩
end Go.Proofs.YtmehkigmnpjcjaaDoor
/- What a Hash holds when bytes come in: plain. And its cells. No condition. -/
namespace Go.Pl
open Go.Fw
theorem blk_app {xs ys : List UInt8} {i : Nat} (h : 64 * i + 64 ≤ xs.length) : blk (xs ++ ys) i = blk xs i := by
 rw [blk, blk, List.drop_append, List.take_append]
 rw [show 64 - (xs.drop (64 * i)).length = 0 by rw [List.length_drop]; omega, List.take_zero, List.append_nil]
theorem blocksN_app {xs ys : List UInt8} : ∀ {q : Nat}, 64 * q ≤ xs.length → blocksN (xs ++ ys) q = blocksN xs q
 | 0, _ => rfl
 | q + 1, h => by rw [blocksN, blocksN, blocksN_app om_, blk_app om_]
def RestOf (xs rest : List UInt8) : Prop := rest.length = 64 ∧ rest.take (xs.length % 64) = xs.drop (64 * (xs.length / 64))
def restK (xs rest ys : List UInt8) : List UInt8 := rest.take (xs.length % 64) ++ ys ++ rest.drop (xs.length % 64 + ys.length)
theorem restK_len {xs rest ys : List UInt8} (h : RestOf xs rest) (hk : xs.length % 64 + ys.length ≤ 64) : (restK xs rest ys).length = 64 := by
 rw [restK, List.length_append, List.length_append, List.length_take, List.length_drop, h.1]; omega
theorem restK_take {xs rest ys : List UInt8} (h : RestOf xs rest) (hk : xs.length % 64 + ys.length ≤ 64) : (restK xs rest ys).take (xs.length % 64 + ys.length) = (xs ++ ys).drop (64 * (xs.length / 64)) := by
 have h1 := h.1
 rw [restK, List.take_append_of_le_length (by rw [List.length_append, List.length_take]; omega), List.take_of_length_le (by rw [List.length_append, List.length_take]; omega), h.2, List.drop_append_of_le_length om_]
theorem rest_part {xs rest ys : List UInt8} (h : RestOf xs rest) (hk : xs.length % 64 + ys.length < 64) : RestOf (xs ++ ys) (restK xs rest ys) ∧ blocksN (xs ++ ys) ((xs ++ ys).length / 64) = blocksN xs (xs.length / 64) := by
 have e1 : (xs ++ ys).length = xs.length + ys.length := List.length_append
 have e2 : (xs ++ ys).length % 64 = xs.length % 64 + ys.length := by rw [e1]; omega
 have e3 : (xs ++ ys).length / 64 = xs.length / 64 := by rw [e1]; omega
 refine ⟨⟨restK_len h om_, ?_⟩, ?_⟩
 ·
  rw [e2, e3]; exact restK_take h om_
 ·
  rw [e3]; exact blocksN_app om_
theorem rest_full {xs rest ys : List UInt8} (h : RestOf xs rest) (hk : xs.length % 64 + ys.length = 64) : RestOf (xs ++ ys) (restK xs rest ys) ∧ blocksN (xs ++ ys) ((xs ++ ys).length / 64) = mixV (blocksN xs (xs.length / 64)) (restK xs rest ys) := by
 have e1 : (xs ++ ys).length = xs.length + ys.length := List.length_append
 have e2 : (xs ++ ys).length % 64 = 0 := by rw [e1]; omega
 have e3 : (xs ++ ys).length / 64 = xs.length / 64 + 1 := by rw [e1]; omega
 have hl := restK_len h (ys := ys) om_
 refine ⟨⟨hl, ?_⟩, ?_⟩
 ·
  rw [e2, e3, List.take_zero, List.drop_of_length_le (by rw [e1]; omega)]
 ·
  rw [e3, blocksN, blocksN_app om_]
  congr 1
  have := restK_take h (ys := ys) om_
  rw [hk, List.take_of_length_le om_] at this
  rw [blk, ← this, List.take_of_length_le om_]
theorem restOf_nil : RestOf [] (List.replicate 64 0) := ⟨by simp, by simp⟩
end Go.Pl
namespace Go.Proofs.YtmehkigmnpjcjaaDoor
open Go.RowKit Go.Fw Go.Pl
theorem eqIn_ptr (d : Nat) {t e : TypeId} (hT : Tryd.prog.underlying t = some (.pointer e)) (a : Addr) (w : World) : (Op.equalIn (d + 1) t (.pointer (some a)) (.pointer none)).run Tryd.prog w = .ok false w := by
 rw [Op.equalIn, Sem.run_bind, run_underlying hT]
 rfl
section
variable {n : NN} {fr : Fr} {w : World} {ty : TypeId} {x y : Operand} {t' : TypeId}
theorem Y.eql_digestHash {a : Addr} (hx : ev fr x = some (.pointer (some a))) (hy : ev fr y = some (.pointer none)) : Yw Tryd.prog n fr (.binOp .eql 117 x y t') ty w (.bool false) w :=
 Y.bin hx hy (by simp [eqGuard]) (by
  simp only [binOp, Op.equal, Sem.run_bind]
  rw [show Op.maxDepth = 9999 + 1 from rfl, eqIn_ptr 9999 Tryd.underlying117]
  rfl)
end
section
variable {w : World} {a : Addr} {s : V8} {rest : List UInt8} {k : Nat}
theorem Mem.digestHash0 (h : Mem w a (hashC s rest k)) : w.cell? (a.add 0) = some (.bool true) := h 0 _ rfl
theorem Mem.digestHash1 (h : Mem w a (hashC s rest k)) : Mem w (a.add 1) (wds s.ws) := h.sub 1 fun j v hj => by
 have hlt := (List.getElem?_eq_some_iff.1 hj).1
 rw [hashC, Nat.add_comm, List.getElem?_cons_succ, List.getElem?_append_left hlt]; exact hj
theorem Mem.digestHash2 (h : Mem w a (hashC s rest k)) : Mem w (a.add 9) (bytesC rest) := h.sub 9 fun j v hj => by
 have hlt := (List.getElem?_eq_some_iff.1 hj).1
 rw [hashC, show 9 + j = (8 + j) + 1 by omega, List.getElem?_cons_succ, List.getElem?_append_right (by show 8 ≤ _; omega)]
 rw [show 8 + j - (wds s.ws).length = j by show 8 + j - 8 = j; omega, List.getElem?_append_left hlt]; exact hj
theorem Mem.digestHash3 (hl : rest.length = 64) (h : Mem w a (hashC s rest k)) : w.cell? (a.add 73) = some (.int .i64 (k : Int)) := h 73 _ (by
 rw [hashC, List.getElem?_cons_succ, List.getElem?_append_right (by show 8 ≤ 72; omega)]
 rw [show 72 - (wds s.ws).length = 64 from rfl, List.getElem?_append_right (by rw [bytesC_length]; omega), bytesC_length, hl]
 rfl)
end
end Go.Proofs.YtmehkigmnpjcjaaDoor
/- (*Hash).Write, walked. No condition. -/
namespace Go.Fw
open Go.RowKit
theorem By.drop {w : World} {a : Addr} {m c k : Nat} {bs : List UInt8} (h : By w (.slice (some a) m c) bs) (hk : k ≤ m) : By w (.slice (if c = k then some a else (some a).map fun a => a.add (k * 1)) (m - k) (c - k)) (bs.drop k) := by
 obtain ⟨hm, hmc, hcm⟩ := h.len
 refine ⟨_, _, _, rfl, by rw [List.length_drop, hm], by omega, by omega, fun h0 => ?_, fun h0 => ?_⟩
 ·
  obtain ⟨a', e, hma⟩ := h.mem.1 om_
  injection e with e; subst e
  rw [if_neg om_]
  refine ⟨_, rfl, ?_⟩
  rw [Nat.mul_one]
  have := hma.drop k
  rwa [bytesC, ← List.map_drop] at this
 ·
  split at h0 <;> simp at h0
theorem add_off (g i j : Nat) : (⟨g, i, none⟩ : Addr).add j = ⟨g, i + j, none⟩ := by unfold Addr.add; split <;> simp_all
end Go.Fw
namespace Go.Proofs.YtmehkigmnpjcjaaDoor
open Go.RowKit Go.Fw Go.Pl
theorem fo_digestHash0 : FieldOff Tryd.prog TH 0 0 := ⟨_, _, 1, Tryd.underlying151, rfl, sz_bool, by decide, rfl⟩
theorem fo_digestHash1 : FieldOff Tryd.prog TH 1 1 := ⟨_, _, 8, Tryd.underlying151, rfl, sz_digeststate beginV, by decide, rfl⟩
theorem fo_digestHash2 : FieldOff Tryd.prog TH 2 9 := ⟨_, _, 64, Tryd.underlying151, rfl, by kernel_rfl, by decide, rfl⟩
theorem fo_digestHash3 : FieldOff Tryd.prog TH 3 73 := ⟨_, _, 1, Tryd.underlying151, rfl, sz_int, by decide, rfl⟩
theorem hash_split (s : V8) (rest : List UInt8) (n i k : Nat) : hashC s rest n = (.bool true :: (wds s.ws ++ bytesC (rest.take i))) ++ bytesC ((rest.drop i).take k) ++ (bytesC (rest.drop (i + k)) ++ [.int .i64 (n : Int)]) := by
 have e : rest = rest.take i ++ ((rest.drop i).take k ++ rest.drop (i + k)) := by rw [← List.drop_drop, List.take_append_drop, List.take_append_drop]
 conv => lhs; rw [e]
 simp only [hashC, bytesC_append, List.append_assoc, List.cons_append]
theorem hash_join (s : V8) (xs rest ys : List UInt8) (n : Nat) : hashC s (restK xs rest ys) n = (.bool true :: (wds s.ws ++ bytesC (rest.take (xs.length % 64)))) ++ bytesC ys ++ (bytesC (rest.drop (xs.length % 64 + ys.length)) ++ [.int .i64 (n : Int)]) := by
 simp only [hashC, restK, bytesC_append, List.append_assoc, List.cons_append]
set_option maxRecDepth 20000 in
set_option maxHeartbeats 1000000 in
theorem write_any (g : Nat) (xs rest : List UInt8) (u : Value) (b : List UInt8) (w : World) (hB : Blk w g TH (hashC (blocksN xs (xs.length / 64)) rest xs.length)) (hR : RestOf xs rest) (hb : By w u b) (hbo : b ≠ [] → ∀ k, u.ownBlock = some k → k ≠ g) (hK : Mem w ⟨0, 0, none⟩ (wds keysL)) (hg0 : g ≠ 0) (hN : xs.length + b.length ≤ 4611686018427387904) : Calls Tryd.prog 45 #[.pointer (some ⟨g, 0, none⟩), u] w (Ret fun v w' => ∃ rest', Blk w' g TH (hashC (blocksN (xs ++ b) ((xs ++ b).length / 64)) rest' (xs ++ b).length) ∧ RestOf (xs ++ b) rest' ∧ Chg (· = g) w w') := by
 obtain ⟨A, m, c, rfl⟩ := hb.lens
 refine calls_of_CW 57 [] [(0, .pointer (some ⟨g, 0, none⟩)), (1, .slice A m c)] Tryd.func45 rfl rfl rfl (by simp) args2 ?_
 refine CW.seq fun K1 hK1 => ?_
 refine CW.seq_test 13 (False) ?_ ?_
 ·
  refine CW.region ?_
  refine WL.m rfl ?_
  refine WL.v (Y.eql_digestHash rfl rfl) ?_
  refine WL.m rfl ?_
  (first | refine WL.casesD (d := 7) rfl ?_ ?_ | refine WL.casesND (d := 7) rfl ?_ ?_ | refine WL.cases (d := 7) rfl ?_ ?_) <;> intro hg7
  ·
   -- t7 = T
   refine WL.o rfl rfl ?_
   refine WL.o rfl rfl ?_
   refine WL.o rfl rfl ?_
   refine WL.o rfl rfl ?_
   refine WL.o rfl rfl ?_
   refine WL.v (Y.pick rfl rfl) ?_
   refine WL.nil ⟨⟨_, rfl, ?_⟩, rfl, Fr.okp⟩
   exact tst_ok
  ·
   -- t7 = F
   refine WL.g rfl rfl (Y.move rfl) ?_
   refine WL.g rfl rfl (Y.nilCheck rfl) ?_
   refine WL.g rfl rfl (Y.fieldAddr fo_digestHash0 rfl) ?_
   refine WL.g rfl rfl (Y.load1 Tryd.underlying4 rfl (Mem.digestHash0 hB.mem) rfl) ?_
   refine WL.g rfl rfl (Y.not rfl) ?_
   refine WL.v (Y.pick rfl rfl) ?_
   refine WL.nil ⟨⟨_, rfl, ?_⟩, rfl, Fr.okp⟩
   exact tst_ok
 (first | refine cd_ rfl ?_ ?_ | refine ce_ rfl ?_ ?_ | refine cn_ rfl ?_ ?_ | refine cb_ rfl ?_ ?_) <;> intro ht2
 ·
  -- then
  refine CW.ret ⟨_, rfl, ?_⟩
  exact False.elim (by assumption)
 refine CW.skip ?_
 refine hK1 _ _ ?_; try clear hK1
 refine CW.block ?_
 refine CW.loop (X := Nat × List UInt8 × Option Addr × Nat × Nat) (fun x => [(0, .pointer (some ⟨g, 0, none⟩)), (1, .slice x.2.2.1 x.2.2.2.1 x.2.2.2.2)]) (fun x w0 => x.1 ≤ b.length ∧ By w0 (.slice x.2.2.1 x.2.2.2.1 x.2.2.2.2) (b.drop x.1) ∧ (b ≠ [] → ∀ k, (Value.slice x.2.2.1 x.2.2.2.1 x.2.2.2.2).ownBlock = some k → k ≠ g) ∧ RestOf (xs ++ b.take x.1) x.2.1 ∧ Blk w0 g TH (hashC (blocksN (xs ++ b.take x.1) ((xs ++ b.take x.1).length / 64)) x.2.1 (xs ++ b.take x.1).length) ∧ Chg (· = g) w w0) (fun x => b.length - x.1) (0, rest, A, m, c) Fr.ok ⟨Nat.zero_le _, by simpa using hb, hbo, by simpa using hR, by simpa using hB, Chg.refl⟩ ?_
 intro x w1 hl1
 clear hB hR hb hbo
 obtain ⟨p, rest, A, m, c⟩ := x
 dsimp only at hl1 ⊢
 obtain ⟨hp, hby, hbo, hR, hB, hC⟩ := hl1
 obtain ⟨hm, hmc, hcm⟩ := hby.len
 unfold maxLen at hcm
 rw [List.length_drop] at hm
 obtain ⟨ys, hys⟩ : ∃ ys, ys = xs ++ b.take p := ⟨_, rfl⟩
 rw [← hys] at hR hB
 have hyl : ys.length = xs.length + p := by rw [hys, List.length_append, List.length_take]; omega
 refine CW.seq fun K3 hK3 => ?_
 refine CW.sr fun K4 hK4 => ?_
 refine WL.m rfl ?_
 refine WL.v (Y.len_slice Tryd.underlying69 rfl) ?_
 refine WL.v (Y.gtr rfl rfl) ?_
 refine WL.nil (hK4 _ _ ?_); try clear hK4
 (first | refine cd_ rfl ?_ ?_ | refine ce_ rfl ?_ ?_ | refine cn_ rfl ?_ ?_ | refine cb_ rfl ?_ ?_) <;> intro ht5
 ·
  -- then
  refine CW.skip ?_
  refine hK3 _ _ ?_; try clear hK3
  refine CW.block ?_
  refine CW.seq fun K6 hK6 => ?_
  obtain ⟨a, rfl, hma⟩ := hby.mem.1 om_
  obtain ⟨k, hk⟩ : ∃ k, k = min m (64 - ys.length % 64) := ⟨_, rfl⟩
  have hzl : ((b.drop p).take k).length = k := by rw [List.length_take, List.length_drop]; omega
  refine CW.held (fun _ => True) kr_ 12 rfl fun w2 hx2 => ?_
  have hS : True := trivial
  have hB := hB.ext hx2
  have hma := hma.ext hx2
  refine RH.tk 0 hS rfl (fun wq hq => Y.move rfl) ?_
  refine RH.tk 1 hS rfl (fun wq hq => Y.nilCheck rfl) ?_
  refine RH.tk 2 hS rfl (fun wq hq => Y.fieldAddr fo_digestHash2 rfl) ?_
  refine RH.tk 3 hS rfl (fun wq hq => Y.move rfl) ?_
  refine RH.tk 4 hS rfl (fun wq hq => Y.nilCheck rfl) ?_
  refine RH.tk 5 hS rfl (fun wq hq => Y.fieldAddr fo_digestHash3 rfl) ?_
  refine RH.tk 9 hS rfl (fun wq hq => Y.move rfl) ?_
  refine RH.one 6 kr_ ?_
  refine RS.val rfl (Y.load1 Tryd.underlying3 rfl (Mem.digestHash3 hR.1 hB.mem) rfl) de_ ⟨hS, ?_⟩
  refine RH.tk 7 hS rfl (fun wq hq => Y.remN (q := 64) rfl rfl de_) ?_
  refine RH.tk 8 hS rfl (fun wq hq => Y.slice_arr_lo Tryd.underlying149 rfl rfl sz_uint8 rfl om_) ?_
  refine RH.one 10 kr_ ?_
  refine RS.st rfl (St.copy (pre := .bool true :: (wds (blocksN ys (ys.length / 64)).ws ++ bytesC (rest.take (ys.length % 64)))) (old := bytesC ((rest.drop (ys.length % 64)).take k)) (post := bytesC (rest.drop (ys.length % 64 + k)) ++ [.int .i64 (ys.length : Int)]) (news := bytesC ((b.drop p).take k)) Tryd.underlying69 sz_uint8 rfl (by
   rw [add_zero', add_off]
   congr 1
   rw [List.length_cons, List.length_append, bytesC_length, List.length_take, hR.1]
   show _ = 8 + _ + 1
   omega) rfl (by have := hma.take k; rwa [bytesC, ← List.map_take] at this) (by rw [bytesC_length, hzl, hk]) (by rw [← hash_split]; exact hB) (by rw [bytesC_length, bytesC_length, hzl, List.length_take, List.length_drop, hR.1]; omega) one_bytesC) de_ fun v27 w3 hR3 => ?_
  obtain ⟨rfl, hc3, hB3⟩ := hR3
  rw [← hk]
  have hB3 : Blk w3 g TH (hashC (blocksN ys (ys.length / 64)) (restK ys rest ((b.drop p).take k)) ys.length) := by rw [hash_join, hzl]; exact hB3
  have hrl : (restK ys rest ((b.drop p).take k)).length = 64 := restK_len hR om_
  refine ⟨hS, ?_⟩
  refine RH.tk 11 hS rfl (fun wq hq => Y.assign rfl) ?_
  refine RH.done kr_ ?_
  refine hK6 _ _ ?_; try clear hK6
  refine CW.sr fun K7 hK7 => ?_
  refine WL.m rfl ?_
  refine WL.v (Y.nilCheck rfl) ?_
  refine WL.v (Y.fieldAddr fo_digestHash3 rfl) ?_
  refine WL.v (Y.load1 Tryd.underlying3 rfl (Mem.digestHash3 hrl hB3.mem) rfl) ?_
  refine WL.m rfl ?_
  refine WL.v (Y.add rfl rfl o2_) ?_
  refine WL.v (Y.nilCheck rfl) ?_
  refine WL.v (Y.fieldAddr fo_digestHash3 rfl) ?_
  refine WL.store (g := g) (pre := .bool true :: (wds (blocksN ys (ys.length / 64)).ws ++ bytesC (restK ys rest ((b.drop p).take k)))) (old := [.int .i64 (ys.length : Int)]) (post := []) (new := [.int .i64 ((ys.length + k : Nat) : Int)]) rfl (by
   rw [add_zero']
   congr 1
   rw [List.length_cons, List.length_append, bytesC_length, hrl]
   rfl) rfl rfl kr_ (by
   have e : hashC (blocksN ys (ys.length / 64)) (restK ys rest ((b.drop p).take k)) ys.length = (.bool true :: (wds (blocksN ys (ys.length / 64)).ws ++ bytesC (restK ys rest ((b.drop p).take k)))) ++ [.int .i64 (ys.length : Int)] ++ [] := by simp [hashC]
   rw [← e]; exact hB3) (by first | (simp only [List.length_cons, List.length_nil, List.length_map, List.length_replicate, V8.ws, digC_length]; done) | rfl | (simp [digC_length, opC_length]; done) | (simp only [digC_length, opC_length]; omega)) (one1 rfl) (fun w4 hc4 hB4_ => ?_)
  have hB4 : Blk w4 g TH (hashC (blocksN ys (ys.length / 64)) (restK ys rest ((b.drop p).take k)) (ys.length + k)) := by
   have e : hashC (blocksN ys (ys.length / 64)) (restK ys rest ((b.drop p).take k)) (ys.length + k) = (.bool true :: (wds (blocksN ys (ys.length / 64)).ws ++ bytesC (restK ys rest ((b.drop p).take k)))) ++ [.int .i64 ((ys.length + k : Nat) : Int)] ++ [] := by simp [hashC]
   rw [e]; exact hB4_
  refine WL.nil (hK7 _ _ ?_); try clear hK7
  refine CW.sr fun K8 hK8 => ?_
  refine WL.m rfl ?_
  refine WL.m rfl ?_
  refine WL.v (Y.slice_lo Tryd.underlying69 rfl rfl sz0_uint8 rfl om_) ?_
  refine WL.a rfl ?_
  refine WL.nil (hK8 _ _ ?_); try clear hK8
  refine CW.sr fun K9 hK9 => ?_
  refine WL.m rfl ?_
  refine WL.v (Y.nilCheck rfl) ?_
  refine WL.v (Y.fieldAddr fo_digestHash3 rfl) ?_
  refine WL.v (Y.load1 Tryd.underlying3 rfl (Mem.digestHash3 hrl hB4.mem) rfl) ?_
  refine WL.v (Y.remN (q := 64) rfl rfl de_) ?_
  refine WL.v (Y.eql rfl rfl) ?_
  refine WL.nil (hK9 _ _ ?_); try clear hK9
  (first | refine cd_ rfl ?_ ?_ | refine ce_ rfl ?_ ?_ | refine cn_ rfl ?_ ?_ | refine cb_ rfl ?_ ?_) <;> intro ht10
  ·
   -- then
   refine CW.held (fun _ => True) kr_ 13 rfl fun w5 hx5 => ?_
   have hS : True := trivial
   have hB5 := hB4.ext hx5
   refine RH.tk 0 hS rfl (fun wq hq => Y.move rfl) ?_
   refine RH.tk 1 hS rfl (fun wq hq => Y.move rfl) ?_
   refine RH.tk 2 hS rfl (fun wq hq => Y.nilCheck rfl) ?_
   refine RH.tk 3 hS rfl (fun wq hq => Y.fieldAddr fo_digestHash1 rfl) ?_
   refine RH.tk 5 hS rfl (fun wq hq => Y.move rfl) ?_
   refine RH.tk 6 hS rfl (fun wq hq => Y.nilCheck rfl) ?_
   refine RH.tk 7 hS rfl (fun wq hq => Y.fieldAddr fo_digestHash2 rfl) ?_
   refine RH.tk 8 hS rfl (fun wq hq => Y.slice_arr Tryd.underlying149 rfl sz_uint8) ?_
   refine RH.one 4 kr_ ?_
   refine RS.val rfl (Y.load Tryd.underlying147 rfl (Mem.digestHash1 hB5.mem) (sz_digeststate _) rfl) de_ ⟨hS, ?_⟩
   refine RH.one 9 kr_ ?_
   refine RS.call rfl (fun _ _ h => by cases h) Tryd.func65 rfl rfl rfl (mixed_any (blocksN ys (ys.length / 64)) _ (restK ys rest ((b.drop p).take k)) _ ⟨_, 64, 64, rfl, hrl, Nat.le_refl _, by decide, fun _ => ⟨_, rfl, Mem.digestHash2 hB5.mem⟩, fun h => by cases h⟩ hrl (((((hK.chg hC (fun h => hg0 h.symm)).ext hx2).chg hc3 (fun h => hg0 h.symm)).chg hc4 (fun h => hg0 h.symm)).ext hx5)) de_ fun v54 w6 hR6 => ?_
   obtain ⟨rfl, hx6⟩ := hR6
   have hB6 := hB5.ext hx6
   refine ⟨hS, ?_⟩
   refine RH.tk 10 hS rfl (fun wq hq => Y.nilCheck rfl) ?_
   refine RH.tk 11 hS rfl (fun wq hq => Y.fieldAddr fo_digestHash1 rfl) ?_
   refine RH.one 12 kr_ ?_
   refine RS.store rfl (g := g) (pre := [.bool true]) (old := wds (blocksN ys (ys.length / 64)).ws) (post := bytesC (restK ys rest ((b.drop p).take k)) ++ [.int .i64 ((ys.length + k : Nat) : Int)]) (new := wds (mixV (blocksN ys (ys.length / 64)) (restK ys rest ((b.drop p).take k))).ws) rfl (by rw [add_zero']; rfl) rfl rfl kr_ (by
    have e : hashC (blocksN ys (ys.length / 64)) (restK ys rest ((b.drop p).take k)) (ys.length + k) = [.bool true] ++ wds (blocksN ys (ys.length / 64)).ws ++ (bytesC (restK ys rest ((b.drop p).take k)) ++ [.int .i64 ((ys.length + k : Nat) : Int)]) := by simp [hashC]
    rw [← e]; exact hB6) (by first | (simp only [List.length_cons, List.length_nil, List.length_map, V8.ws]; done) | rfl) (wds_one) (fun w7 hc7 hB7_ => ?_)
   have hB7 : Blk w7 g TH (hashC (mixV (blocksN ys (ys.length / 64)) (restK ys rest ((b.drop p).take k))) (restK ys rest ((b.drop p).take k)) (ys.length + k)) := by
    have e : hashC (mixV (blocksN ys (ys.length / 64)) (restK ys rest ((b.drop p).take k))) (restK ys rest ((b.drop p).take k)) (ys.length + k) = [.bool true] ++ wds (mixV (blocksN ys (ys.length / 64)) (restK ys rest ((b.drop p).take k))).ws ++ (bytesC (restK ys rest ((b.drop p).take k)) ++ [.int .i64 ((ys.length + k : Nat) : Int)]) := by simp [hashC]
    rw [e]; exact hB7_
   refine ⟨hS, ?_⟩
   refine RH.done kr_ ?_
   obtain ⟨hR2, hS2⟩ := rest_full hR (ys := ((b.drop p).take k)) (by rw [hzl]; omega)
   have e1 : xs ++ b.take (p + k) = ys ++ ((b.drop p).take k) := by rw [List.take_add, ← List.append_assoc, ← hys]
   have e2 : (ys ++ ((b.drop p).take k)).length = ys.length + k := by rw [List.length_append, hzl]
   refine ⟨(p + k, restK ys rest ((b.drop p).take k), (if c = k then some a else (some a).map fun a => a.add (k * 1)), m - k, c - k), by show b.length - (p + k) < b.length - p; omega, Fr.ok, by show p + k ≤ b.length; omega, ?_, ?_, ?_, ?_, ((((hC.trans hx2 (fun _ _ f => f.elim)).trans hc3 (fun _ _ h => h)).trans hc4 (fun _ _ h => h)).trans (hx5.thenExt hx6) (fun _ _ f => f.elim)).trans hc7 (fun _ _ h => h)⟩
   ·
    show By _ _ (b.drop (p + k))
    rw [← List.drop_drop]
    exact By.drop (((((hby.ext hx2).chg hc3 (fun h j hj => hbo (fun e => h (by rw [e, List.drop_nil])) j hj)).chg hc4 (fun h j hj => hbo (fun e => h (by rw [e, List.drop_nil])) j hj)).ext (hx5.thenExt hx6)).chg hc7 (fun h j hj => hbo (fun e => h (by rw [e, List.drop_nil])) j hj)) om_
   ·
    intro h0 j hj
    refine hbo h0 j ?_
    revert hj
    show (Value.slice (if c = k then some a else (some a).map fun a => a.add (k * 1)) (m - k) (c - k)).ownBlock = some j → _
    split <;> simp [Value.ownBlock, block_add]
   ·
    show RestOf (xs ++ b.take (p + k)) _
    rw [e1]; exact hR2
   ·
    show Blk _ g TH (hashC (blocksN (xs ++ b.take (p + k)) ((xs ++ b.take (p + k)).length / 64)) _ (xs ++ b.take (p + k)).length)
    rw [e1, hS2, e2]; exact hB7
  refine CW.skip ?_
  obtain ⟨hR2, hS2⟩ := rest_part hR (ys := ((b.drop p).take k)) (by rw [hzl]; omega)
  have e1 : xs ++ b.take (p + k) = ys ++ ((b.drop p).take k) := by rw [List.take_add, ← List.append_assoc, ← hys]
  have e2 : (ys ++ ((b.drop p).take k)).length = ys.length + k := by rw [List.length_append, hzl]
  refine ⟨(p + k, restK ys rest ((b.drop p).take k), (if c = k then some a else (some a).map fun a => a.add (k * 1)), m - k, c - k), by show b.length - (p + k) < b.length - p; omega, Fr.ok, by show p + k ≤ b.length; omega, ?_, ?_, ?_, ?_, ((hC.trans hx2 (fun _ _ f => f.elim)).trans hc3 (fun _ _ h => h)).trans hc4 (fun _ _ h => h)⟩
  ·
   show By _ _ (b.drop (p + k))
   rw [← List.drop_drop]
   exact By.drop (((hby.ext hx2).chg hc3 (fun h j hj => hbo (fun e => h (by rw [e, List.drop_nil])) j hj)).chg hc4 (fun h j hj => hbo (fun e => h (by rw [e, List.drop_nil])) j hj)) om_
  ·
   intro h0 j hj
   refine hbo h0 j ?_
   revert hj
   show (Value.slice (if c = k then some a else (some a).map fun a => a.add (k * 1)) (m - k) (c - k)).ownBlock = some j → _
   split <;> simp [Value.ownBlock, block_add]
  ·
   show RestOf (xs ++ b.take (p + k)) _
   rw [e1]; exact hR2
  ·
   show Blk _ g TH (hashC (blocksN (xs ++ b.take (p + k)) ((xs ++ b.take (p + k)).length / 64)) _ (xs ++ b.take (p + k)).length)
   rw [e1, hS2, e2]; exact hB4
 refine CW.exit ?_
 refine ⟨_, rfl, ?_⟩
 have hpe : p = b.length := by omega
 rw [hpe, List.take_of_length_le (Nat.le_refl _)] at hys
 subst hys
 exact ⟨rest, hB, hR, hC⟩
end Go.Proofs.YtmehkigmnpjcjaaDoor
/- Rules for (*Hash).Sum: make, an array value's index, a Hash copied. No condition. -/
namespace Go.Proofs.YtmehkigmnpjcjaaDoor
open Go.RowKit Go.Fw Go.Pl
theorem run_make128 (w : World) : (Instr.makeSlice 69 (.int .i64 1) (.int .i64 128)).run Tryd.prog w = .ok (.slice (some ⟨w.heap.size, 0, none⟩) 1 128) (w.alloc (.cells (bytesC (List.replicate 128 0)).toArray 5)) := by
 kernel_rfl
theorem hashC_len {s : V8} {rest : List UInt8} {k : Nat} (h : rest.length = 64) : (hashC s rest k).length = 74 := by
 rw [hashC, List.length_cons, List.length_append, List.length_append, bytesC_length, h]; rfl
theorem sz_digestHash {s : V8} {rest : List UInt8} {k : Nat} (h : rest.length = 64) : (Tryd.prog.info? TH).map (·.size) = some (hashC s rest k).length := by
 rw [hashC_len h]; kernel_rfl
def hashZ : List Value := .bool false :: (wds (List.replicate 8 0) ++ (bytesC (List.replicate 64 0) ++ [.int .i64 0]))
theorem info_hash : ∃ i : TypeInfo, Tryd.prog.info? TH = some i ∧ i.zero = some (.agg hashZ.toArray) ∧ i.size = 74 := by
 have h : (Tryd.prog.info? TH).map (fun i => (i.zero, i.size)) = some (some (.agg hashZ.toArray), 74) := by kernel_rfl
 cases hi : Tryd.prog.info? TH with
 | none => simp [hi] at h
 | some i => simp [hi] at h; exact ⟨i, rfl, h.1, h.2⟩
theorem one_hash {s : V8} {rest : List UInt8} {k : Nat} : ∀ u ∈ hashC s rest k, u.oneCell' = true := by
 intro u hu
 simp only [hashC, List.mem_cons, List.mem_append, List.not_mem_nil, or_false] at hu
 rcases hu with rfl | hu | hu | rfl
 ·
  rfl
 ·
  exact wds_one u hu
 ·
  exact one_bytesC u hu
 ·
  rfl
theorem as_digestHash {n : NN} {Φ : Exit → Fr → World → Prop} {fr : Fr} {w : World} {ops : Array Oper} {rest : List Oper} {d : Nat} {x : Operand} {ty ty' : TypeId} {pos pos' : String} {aft aft' : Array Edge} {s : V8} {rs : List UInt8} {k : Nat}
  (hrl : rs.length = 64) (hx : ev fr x = some (.agg (hashC s rs k).toArray)) (hxd : x ≠ .tmp d) (hd : d < n.1)
  (h : ∀ g w', Ext w w' → w.heap.size ≤ g → Blk w' g TH (hashC s rs k) → WL Tryd.prog ops n Φ rest ((d, .pointer (some ⟨g, 0, none⟩)) :: fr) w') :
  WL Tryd.prog ops n Φ (⟨some d, .alloc TH, ty, pos, aft, none⟩ :: ⟨none, .store TH (.tmp d) x, ty', pos', aft', none⟩ :: rest) fr w := by
 obtain ⟨i, hi, hz, hs⟩ := info_hash
 exact WL.allocStore (cs := hashC s rs k) (zs := hashZ) hi hz rfl (by rw [hs, hashC_len hrl]) (by rw [hashC_len hrl]; rfl) hx hxd rfl one_hash hd h
section
variable {n : NN} {fr : Fr} {w : World} {ty : TypeId} {x y : Operand} {t' : TypeId}
theorem cells128 : bytesC [0] ++ bytesC (List.replicate 127 0) = bytesC (List.replicate 128 0) := by
 rw [← bytesC_append, List.singleton_append, ← List.replicate_succ]
theorem St.make128 : St Tryd.prog n fr (.makeSlice 69 (.const (.int .i64 1)) (.const (.int .i64 128))) ty w (fun v w' => ∃ g, v = .slice (some ⟨g, 0, none⟩) 1 128 ∧ w.heap.size ≤ g ∧ Own w' TB 1 v (bytesC [0]) ∧ Ext w w') := fun a o' ho hty ha => by
 refine ⟨.slice (some ⟨w.heap.size, 0, none⟩) 1 128, w.alloc (.cells (bytesC (List.replicate 128 0)).toArray 5), ?_, w.heap.size, rfl, Nat.le_refl _, .inr ⟨w.heap.size, 1, 128, bytesC (List.replicate 127 0), (0, 0), rfl, ?_, by rw [bytesC_length]; rfl, by decide, by decide, ?_, fun o h => by omega⟩, Chg.alloc _⟩
 ·
  simp only [execOp, ho, Act.eval, Sem.run_bind, run_make128]
  rfl
 ·
  rw [cells128]; exact heap_alloc_new w _
 ·
  rw [cells128, bytesC_length, List.length_replicate]
theorem Y.index_ws {v : V8} {i : Nat} {z : UInt32} (hx : ev fr x = some (stV v)) (hy : ev fr y = some (.int .i64 (i : Int))) (hv : v.ws[i]? = some z) : Yw Tryd.prog n fr (.index TS x y) ty w (wd z) w := fun b o' ho _ ha => by
 have hlt : i < 8 := (List.getElem?_eq_some_iff.1 hv).1
 have h2 : (part 145 (wds v.ws).toArray i).run Tryd.prog w = .ok (wd z) w := by
  simp [part, Tryd.isAgg145, hv]
 simp [execOp, ho, ha.ev hx, ha.ev hy, Instr.index, asIntOf, run_underlying Tryd.underlying147, stV, hlt, fw_sizeOf sz_u32, h2]
end
end Go.Proofs.YtmehkigmnpjcjaaDoor
/- (*Hash).Sum, walked. No condition. -/
namespace Go.Pl
open Go.Fw
theorem digB_at (v : V8) (x j : Nat) (hj : j < 4) : digB v (4 * x + j) = (v.ws.getD x 0 >>> UInt32.ofNat (24 - 8 * j)).toUInt8 := by
 rw [digB, show (4 * x + j) / 4 = x by omega, show (4 * x + j) % 4 = j by omega]
theorem digB_at0 (v : V8) (x : Nat) : digB v (4 * x) = (v.ws.getD x 0 >>> UInt32.ofNat 24).toUInt8 := digB_at v x 0 de_
theorem digB_at3 (v : V8) (x : Nat) : digB v (4 * x + 3) = (v.ws.getD x 0).toUInt8 := by
 rw [digB_at v x 3 de_]
 congr 1
theorem dig_put (v : V8) {i : Nat} (h : i < 32) : bytesC ((List.range i).map (digB v) ++ List.replicate (32 - i) 0) = bytesC ((List.range i).map (digB v)) ++ [bc 0] ++ bytesC (List.replicate (31 - i) 0) := dig_split h _
theorem dig_new (v : V8) {i : Nat} : bytesC ((List.range (i + 1)).map (digB v) ++ List.replicate (32 - (i + 1)) 0) = bytesC ((List.range i).map (digB v)) ++ [bc (digB v i)] ++ bytesC (List.replicate (31 - i) 0) := by
 rw [List.range_succ, List.map_append, show 32 - (i + 1) = 31 - i by omega, bytesC_append, bytesC_append]; rfl
end Go.Pl
namespace Go.Proofs.YtmehkigmnpjcjaaDoor
open Go.RowKit Go.Fw Go.Pl
set_option maxRecDepth 20000 in
set_option maxHeartbeats 2000000 in
theorem hsum_any (g : Nat) (xs rest : List UInt8) (w : World) (hB : Blk w g TH (hashC (blocksN xs (xs.length / 64)) rest xs.length)) (hR : RestOf xs rest) (hK : Mem w ⟨0, 0, none⟩ (wds keysL)) (hN : xs.length ≤ 140737488351232) : Calls Tryd.prog 46 #[.pointer (some ⟨g, 0, none⟩)] w (Ret fun v w' => v = digV (shaD xs) ∧ Ext w w') := by
 have hk0 : (0 : Nat) < w.heap.size := hK.lt (fun h => by cases h)
 have hpz : padZ xs.length < 64 := by unfold padZ; omega
 obtain ⟨id, hid, hzd, _⟩ := info_apiDigest
 refine calls_of_CWc 92 2 32 [(0, .pointer (some ⟨g, 0, none⟩))] Tryd.func46 rfl rfl rfl Tryd.underlying36 rfl kr_ (by simp) args1 ?_
 have hE : Ext w w := Chg.refl
 refine CW.sr fun K1 hK1 => ?_
 refine WL.alloc (hid) (hzd) rfl de_ fun g2 w1 hx1 hg2 hB2 => ?_
 have hlt2 := hB2.lt; have hz1 := hx1.size
 have hM2 := hB2.mem; have hz1 := hx1.size; have hE := hE.thenExt hx1
 refine WL.nil (hK1 _ _ ?_); try clear hK1
 refine CW.sr fun K2 hK2 => ?_
 refine WL.alloc (hid) (hzd) rfl de_ fun g3 w2 hx2 hg3 hB3 => ?_
 have hlt3 := hB3.lt; have hz2 := hx2.size
 have hM3 := hB3.mem; have hz2 := hx2.size; have hE := hE.thenExt hx2; have hB2 := hB2.ext hx2
 refine WL.nil (hK2 _ _ ?_); try clear hK2
 refine CW.seq fun K3 hK3 => ?_
 refine CW.seq_test 17 (False) ?_ ?_
 ·
  refine CW.region ?_
  refine WL.m rfl ?_
  refine WL.v (Y.eql_digestHash rfl rfl) ?_
  refine WL.m rfl ?_
  (first | refine WL.casesD (d := 11) rfl ?_ ?_ | refine WL.casesND (d := 11) rfl ?_ ?_ | refine WL.cases (d := 11) rfl ?_ ?_) <;> intro hg11
  ·
   -- t11 = T
   refine WL.o rfl rfl ?_
   refine WL.o rfl rfl ?_
   refine WL.o rfl rfl ?_
   refine WL.o rfl rfl ?_
   refine WL.o rfl rfl ?_
   refine WL.v (Y.pick rfl rfl) ?_
   refine WL.nil ⟨⟨_, rfl, ?_⟩, rfl, Fr.okp⟩
   exact tst_ok
  ·
   -- t11 = F
   refine WL.g rfl rfl (Y.move rfl) ?_
   refine WL.g rfl rfl (Y.nilCheck rfl) ?_
   refine WL.g rfl rfl (Y.fieldAddr fo_digestHash0 rfl) ?_
   refine WL.g rfl rfl (Y.load1 Tryd.underlying4 rfl (Mem.digestHash0 (hB.ext hE).mem) rfl) ?_
   refine WL.g rfl rfl (Y.not rfl) ?_
   refine WL.v (Y.pick rfl rfl) ?_
   refine WL.nil ⟨⟨_, rfl, ?_⟩, rfl, Fr.okp⟩
   exact tst_ok
 (first | refine cd_ rfl ?_ ?_ | refine ce_ rfl ?_ ?_ | refine cn_ rfl ?_ ?_ | refine cb_ rfl ?_ ?_) <;> intro ht4
 ·
  -- then
  refine CW.sr fun K5 hK5 => ?_
  refine WL.v (Y.load Tryd.underlying36 rfl hB3.mem (sz_apiDigest _) rfl) ?_
  refine WL.store (g := g2) (pre := []) (old := digC Dig.zero) (post := []) (new := digC Dig.zero) rfl rfl rfl rfl (sz_apiDigest _) (by simpa using hB2) (by first | (simp only [List.length_cons, List.length_nil, List.length_map, List.length_replicate, V8.ws, digC_length]; done) | rfl | (simp [digC_length, opC_length]; done) | (simp only [digC_length, opC_length]; omega)) (one_digC) (fun w3 hc3 hB3_ => ?_)
  have hz3 := hc3.size; have hE := hE.step hc3 (fun k h => by omega); have hB3 := hB3.chg hc3 no_
  skip
  refine WL.nil (hK5 _ _ ?_); try clear hK5
  refine CW.ret ?_
  exact False.elim (by assumption)
 refine CW.skip ?_
 refine hK3 _ _ ?_; try clear hK3
 refine CW.sr fun K6 hK6 => ?_
 refine WL.m rfl ?_
 refine WL.v (Y.nilCheck rfl) ?_
 refine WL.v (Y.load Tryd.underlying151 rfl (hB.ext hE).mem (sz_digestHash hR.1) rfl) ?_
 refine as_digestHash hR.1 rfl (by simp) de_ fun g4 w4 hx4 hg4 hB4 => ?_
 have hlt4 := hB4.lt; have hz4 := hx4.size
 have hM4 := hB4.mem; have hz4 := hx4.size; have hE := hE.thenExt hx4; have hB2 := hB2.ext hx4; have hB3 := hB3.ext hx4
 refine WL.nil (hK6 _ _ ?_); try clear hK6
 refine CW.sr fun K7 hK7 => ?_
 refine WL.st (St.make128) de_ fun v22 w5 hR5 => ?_
 obtain ⟨g22, rfl, hg22, hO, hx5⟩ := hR5
 have hz5 := hx5.size
 have hE := hE.thenExt hx5
 have hB2 := hB2.ext hx5
 have hB3 := hB3.ext hx5
 have hB4 := hB4.ext hx5
 refine WL.a rfl ?_
 refine WL.nil (hK7 _ _ ?_); try clear hK7
 refine CW.sr fun K8 hK8 => ?_
 refine WL.m rfl ?_
 refine WL.v (Y.indexAddrN Tryd.underlying69 rfl rfl sz0_uint8 (i := 0) de_) ?_
 refine WL.storeO (g := g22) (pre := []) (old := bytesC [0]) (post := []) (new := bytesC [128]) rfl (by rw [add_zero']; rfl) rfl rfl kr_ (by simpa using hO) (by first | (simp only [List.length_cons, List.length_nil, List.length_map, List.length_replicate, V8.ws, digC_length]; done) | rfl | (simp [digC_length, opC_length]; done) | (simp only [digC_length, opC_length]; omega)) (one_bytesC) (fun w6 hc6 hB6_ => ?_)
 have hz6 := hc6.size; have hE := hE.step hc6 (fun k h => by omega); have hB2 := hB2.chg hc6 no_; have hB3 := hB3.chg hc6 no_; have hB4 := hB4.chg hc6 no_
 have hO : Own w6 TB 1 (.slice (some ⟨g22, 0, none⟩) 1 128) (bytesC [128]) := by simpa using hB6_
 have hfu : ∀ k, (Value.slice (some ⟨g22, 0, none⟩) 1 128).ownBlock = some k → w4.heap.size ≤ k := fun k h => by simp [Value.ownBlock] at h; omega
 refine WL.nil (hK8 _ _ ?_); try clear hK8
 refine CW.seq fun K9 hK9 => ?_
 refine CW.block ?_
 refine CW.loop (X := Nat × Value) (fun x => [(0, .pointer (some ⟨g, 0, none⟩)), (2, .pointer (some ⟨g2, 0, none⟩)), (3, .pointer (some ⟨g3, 0, none⟩)), (4, .pointer (some ⟨g4, 0, none⟩)), (5, x.2)]) (fun x w0 => x.1 ≤ padZ xs.length ∧ Ext w w0 ∧ Blk w0 g2 TDi (digC Dig.zero) ∧ Blk w0 g3 TDi (digC Dig.zero) ∧ Blk w0 g4 TH (hashC (blocksN xs (xs.length / 64)) rest xs.length) ∧ Own w0 TB 1 x.2 (bytesC (128 :: List.replicate x.1 0)) ∧ (∀ k, x.2.ownBlock = some k → w4.heap.size ≤ k) ∧ w4.heap.size ≤ w0.heap.size) (fun x => padZ xs.length - x.1) (0, .slice (some ⟨g22, 0, none⟩) 1 128) Fr.ok ⟨Nat.zero_le _, hE, hB2, hB3, hB4, hO, hfu, by show w4.heap.size ≤ _; omega⟩ ?_
 intro x w7 hl7
 clear hE hB2 hB3 hB4 hO hfu
 obtain ⟨x, u⟩ := x
 dsimp only at hl7 ⊢
 obtain ⟨hx, hE, hB2, hB3, hB4, hO, hfu, hzz⟩ := hl7
 obtain ⟨B, mb, cb, rfl⟩ := hO.lens
 have hlm := hO.by.len.1
 simp only [List.length_cons, List.length_replicate] at hlm
 have hz7 := hE.size
 refine CW.seq fun K10 hK10 => ?_
 refine CW.sr fun K11 hK11 => ?_
 refine WL.m rfl ?_
 refine WL.v (Y.nilCheck rfl) ?_
 refine WL.v (Y.fieldAddr fo_digestHash3 rfl) ?_
 refine WL.v (Y.load1 Tryd.underlying3 rfl (Mem.digestHash3 hR.1 (hB.ext hE).mem) rfl) ?_
 refine WL.m rfl ?_
 refine WL.v (Y.len_slice Tryd.underlying69 rfl) ?_
 refine WL.v (Y.add rfl rfl o2_) ?_
 refine WL.v (Y.add rfl rfl o2_) ?_
 refine WL.v (Y.remN (p := xs.length + mb + 8) (q := 64) rfl rfl de_) ?_
 refine WL.v (Y.neq rfl rfl) ?_
 refine WL.nil (hK11 _ _ ?_); try clear hK11
 (first | refine cd_ rfl ?_ ?_ | refine ce_ rfl ?_ ?_ | refine cn_ rfl ?_ ?_ | refine cb_ rfl ?_ ?_) <;> intro ht12
 ·
  -- then
  refine CW.skip ?_
  refine hK10 _ _ ?_; try clear hK10
  refine CW.block ?_
  refine CW.region ?_
  refine WL.m rfl ?_
  refine WL.st (St.buildSlice rfl (bs1 _)) de_ fun v36 w8 hR8 => ?_
  obtain ⟨g36, rfl, hg36, hB36, hx8⟩ := hR8
  have hz8 := hx8.size
  have hE := hE.thenExt hx8
  have hB2 := hB2.ext hx8
  have hB3 := hB3.ext hx8
  have hB4 := hB4.ext hx8
  have hO := hO.ext hx8
  refine WL.st (St.app (xs := 128 :: List.replicate x 0) (ys := [0]) Tryd.underlying69 Tryd.underlying69 ai_u8 rfl rfl hO (Src.arr (ys := [0]) hB36.mem) (by simp; omega)) de_ fun v37 w9 hR9 => ?_
  obtain ⟨hO9, hc9, hf9⟩ := hR9
  have hz9 := hc9.size
  have hE := hE.step hc9 (fun k h => by have := hfu k h; omega)
  have hB2 := hB2.chg hc9 (fun h => by have := hfu _ h; omega)
  have hB3 := hB3.chg hc9 (fun h => by have := hfu _ h; omega)
  have hB4 := hB4.chg hc9 (fun h => by have := hfu _ h; omega)
  have hf9 : ∀ k, v37.ownBlock = some k → w4.heap.size ≤ k := by
   rcases hf9 with h | h
   ·
    intro k hk; rw [h] at hk; exact hfu k hk
   ·
    intro k hk; have := h k hk; omega
  refine WL.a rfl ?_
  refine WL.nil ?_
  have hlt : x < padZ xs.length := by unfold padZ at hx ⊢; omega
  refine ⟨(x + 1, v37), by show padZ xs.length - (x + 1) < padZ xs.length - x; omega, Fr.ok, by show x + 1 ≤ padZ xs.length; omega, hE, hB2, hB3, hB4, ?_, hf9, by omega⟩
  show Own _ TB 1 v37 (bytesC (128 :: List.replicate (x + 1) 0))
  rw [List.replicate_succ', ← List.cons_append]
  exact hO9
 refine CW.exit ?_
 refine hK9 _ _ ?_; try clear hK9
 refine CW.seq fun K13 hK13 => ?_
 refine CW.sr fun K14 hK14 => ?_
 refine WL.m rfl ?_
 refine WL.nil (hK14 _ _ ?_); try clear hK14
 refine CW.block ?_
 refine CW.loop (X := Nat × Value) (fun x => [(0, .pointer (some ⟨g, 0, none⟩)), (2, .pointer (some ⟨g2, 0, none⟩)), (3, .pointer (some ⟨g3, 0, none⟩)), (4, .pointer (some ⟨g4, 0, none⟩)), (5, x.2), (38, .int .i64 (x.1 : Int))]) (fun x w0 => x.1 ≤ 8 ∧ Ext w w0 ∧ Blk w0 g2 TDi (digC Dig.zero) ∧ Blk w0 g3 TDi (digC Dig.zero) ∧ Blk w0 g4 TH (hashC (blocksN xs (xs.length / 64)) rest xs.length) ∧ Own w0 TB 1 x.2 (bytesC (128 :: List.replicate (padZ xs.length) 0 ++ (List.range x.1).map (lenByte xs.length))) ∧ (∀ k, x.2.ownBlock = some k → w4.heap.size ≤ k) ∧ w4.heap.size ≤ w0.heap.size) (fun x => 8 - x.1) (0, .slice B mb cb) Fr.ok ⟨Nat.zero_le _, hE, hB2, hB3, hB4, (by rw [show x = padZ xs.length by (unfold padZ at hx ⊢; omega)] at hO; simpa using hO), hfu, hzz⟩ ?_
 intro x w10 hl10
 clear hE hB2 hB3 hB4 hO hfu hzz hx
 obtain ⟨x, u⟩ := x
 dsimp only at hl10 ⊢
 obtain ⟨hx, hE, hB2, hB3, hB4, hO, hfu, hzz⟩ := hl10
 obtain ⟨B, mb, cb, rfl⟩ := hO.lens
 have hlm := hO.by.len.1
 simp only [List.length_append, List.length_cons, List.length_replicate, List.length_map, List.length_range] at hlm
 have hz10 := hE.size
 refine CW.sr fun K15 hK15 => ?_
 refine WL.v (Y.lss rfl rfl) ?_
 refine WL.nil (hK15 _ _ ?_); try clear hK15
 refine CW.seq fun K16 hK16 => ?_
 (first | refine cd_ rfl ?_ ?_ | refine ce_ rfl ?_ ?_ | refine cn_ rfl ?_ ?_ | refine cb_ rfl ?_ ?_) <;> intro ht17
 ·
  -- then
  refine CW.skip ?_
  refine hK16 _ _ ?_; try clear hK16
  refine CW.seq fun K18 hK18 => ?_
  refine CW.block ?_
  refine CW.sr fun K19 hK19 => ?_
  refine WL.m rfl ?_
  refine WL.a rfl ?_
  refine WL.nil (hK19 _ _ ?_); try clear hK19
  refine CW.region ?_
  refine WL.m rfl ?_
  refine WL.m rfl ?_
  refine WL.v (Y.nilCheck rfl) ?_
  refine WL.v (Y.fieldAddr fo_digestHash3 rfl) ?_
  refine WL.v (Y.load1 Tryd.underlying3 rfl (Mem.digestHash3 hR.1 (hB.ext hE).mem) rfl) ?_
  refine WL.v (Y.conv_int Tryd.underlying3 Tryd.underlying153 rfl) ?_
  refine WL.v (Y.mul_k rfl rfl) ?_
  refine WL.m rfl ?_
  refine WL.v (Y.mul rfl rfl o2_) ?_
  refine WL.v (Y.sub rfl rfl o2_) ?_
  refine WL.v (Y.shr rfl rfl (r := ((xs.length * 8 / 2 ^ (56 - 8 * x) : Nat) : Int)) om_ (by rw [sh_len om_, show (56 - 8 * (x : Int)) = ((56 - 8 * x : Nat) : Int) by omega]; exact sh_div _ _ om_)) ?_
  refine WL.v (Y.conv_int Tryd.underlying153 Tryd.underlying5 rfl) ?_
  refine WL.st (St.buildSlice rfl (bs1 _)) de_ fun v53 w11 hR11 => ?_
  obtain ⟨g53, rfl, hg53, hB53, hx11⟩ := hR11
  have hz11 := hx11.size
  have hE := hE.thenExt hx11
  have hB2 := hB2.ext hx11
  have hB3 := hB3.ext hx11
  have hB4 := hB4.ext hx11
  have hO := hO.ext hx11
  rw [u8_of] at hB53
  refine WL.st (St.app (ys := [lenByte xs.length x]) Tryd.underlying69 Tryd.underlying69 ai_u8 rfl rfl hO (Src.arr (ys := [lenByte xs.length x]) hB53.mem) (by simp; omega)) de_ fun v54 w12 hR12 => ?_
  obtain ⟨hO12, hc12, hf12⟩ := hR12
  have hz12 := hc12.size
  have hE := hE.step hc12 (fun k h => by have := hfu k h; omega)
  have hB2 := hB2.chg hc12 (fun h => by have := hfu _ h; omega)
  have hB3 := hB3.chg hc12 (fun h => by have := hfu _ h; omega)
  have hB4 := hB4.chg hc12 (fun h => by have := hfu _ h; omega)
  have hf12 : ∀ k, v54.ownBlock = some k → w4.heap.size ≤ k := by
   rcases hf12 with h | h
   ·
    intro k hk; rw [h] at hk; exact hfu k hk
   ·
    intro k hk; have := h k hk; omega
  refine WL.a rfl ?_
  refine WL.nil (hK18 _ _ ?_); try clear hK18
  refine CW.region ?_
  refine WL.v (Y.add rfl rfl o2_) ?_
  refine WL.m rfl ?_
  refine WL.nil ?_
  refine ⟨(x + 1, v54), by show 8 - (x + 1) < 8 - x; omega, Fr.ok, by show x + 1 ≤ 8; omega, hE, hB2, hB3, hB4, ?_, hf12, by omega⟩
  show Own _ TB 1 v54 (bytesC (128 :: List.replicate (padZ xs.length) 0 ++ (List.range (x + 1)).map (lenByte xs.length)))
  rw [List.range_succ, List.map_append, ← List.append_assoc]
  exact hO12
 refine CW.exit ?_
 refine hK13 _ _ ?_; try clear hK13
 refine CW.sr fun K20 hK20 => ?_
 refine WL.m rfl ?_
 refine WL.call Tryd.func45 rfl rfl rfl (write_any g4 xs rest _ (padB xs.length) _ hB4 hR (by rw [show x = 8 by omega] at hO; exact hO.by) (fun _ k hk => by have := hfu k hk; omega) (hK.ext hE) om_ (by rw [padB_len]; omega)) (by simp) ?_; rintro v57 w13 hR13
 obtain ⟨rest2, hB4, hR2, hc13⟩ := hR13
 have hz13 := hc13.size
 have hE := hE.step hc13 (fun k h => by omega)
 have hB2 := hB2.chg hc13 no_
 have hB3 := hB3.chg hc13 no_
 have hww : xs ++ padB xs.length = wholeB xs := rfl
 rw [hww] at hB4
 refine WL.nil (hK20 _ _ ?_); try clear hK20
 refine CW.seq fun K21 hK21 => ?_
 refine CW.seq fun K22 hK22 => ?_
 have hB3 := (show Blk w13 g3 TDi (bytesC ((List.range (4 * 0)).map (digB (blocksN (wholeB xs) ((wholeB xs).length / 64))) ++ List.replicate (32 - 4 * 0) 0)) by
  have e : digC Dig.zero = bytesC (List.replicate 32 0) := rfl
  rw [e] at hB3
  simpa using hB3)
 refine CW.region ?_
 refine WL.v (Y.fieldAddr fo_digestHash1 rfl) ?_
 refine WL.v (Y.load Tryd.underlying147 rfl (Mem.digestHash1 hB4.mem) (sz_digeststate _) rfl) ?_
 refine WL.m rfl ?_
 refine WL.nil (hK22 _ _ ?_); try clear hK22
 refine CW.block ?_
 refine CW.loop (X := Nat) (fun x => [(2, .pointer (some ⟨g2, 0, none⟩)), (3, .pointer (some ⟨g3, 0, none⟩)), (59, stV (blocksN (wholeB xs) ((wholeB xs).length / 64))), (60, .int .i64 (x : Int))]) (fun x w0 => x ≤ 8 ∧ Ext w w0 ∧ Blk w0 g2 TDi (digC Dig.zero) ∧ Blk w0 g3 TDi (bytesC ((List.range (4 * x)).map (digB (blocksN (wholeB xs) ((wholeB xs).length / 64))) ++ List.replicate (32 - 4 * x) 0)) ∧ Blk w0 g4 TH (hashC (blocksN (wholeB xs) ((wholeB xs).length / 64)) rest2 (wholeB xs).length)) (fun x => 8 - x) 0 Fr.ok ⟨Nat.zero_le _, hE, hB2, hB3, hB4⟩ ?_
 intro x w14 hl14
 clear hE hB2 hB3 hB4 hO hfu hx
 obtain ⟨hx, hE, hB2, hB3, hB4⟩ := hl14
 have hz14 := hE.size
 refine CW.sr fun K23 hK23 => ?_
 refine WL.v (Y.lss rfl rfl) ?_
 refine WL.nil (hK23 _ _ ?_); try clear hK23
 refine CW.seq fun K24 hK24 => ?_
 (first | refine cd_ rfl ?_ ?_ | refine ce_ rfl ?_ ?_ | refine cn_ rfl ?_ ?_ | refine cb_ rfl ?_ ?_) <;> intro ht25
 ·
  -- then
  refine CW.skip ?_
  refine hK24 _ _ ?_; try clear hK24
  refine CW.seq fun K26 hK26 => ?_
  refine CW.block ?_
  refine CW.sr fun K27 hK27 => ?_
  refine WL.m rfl ?_
  refine WL.v (Y.index_ws rfl rfl (ws_get om_)) ?_
  refine WL.a rfl ?_
  refine WL.a rfl ?_
  refine WL.nil (hK27 _ _ ?_); try clear hK27
  refine CW.region ?_
  refine WL.m rfl ?_
  refine WL.v (Y.mul rfl rfl o2_) ?_
  refine WL.m rfl ?_
  refine WL.v (Y.mul rfl rfl o2_) ?_
  refine WL.v (Y.add rfl rfl o2_) ?_
  refine WL.m rfl ?_
  refine WL.v (Y.mul rfl rfl o2_) ?_
  refine WL.v (Y.add rfl rfl o2_) ?_
  refine WL.m rfl ?_
  refine WL.v (Y.mul rfl rfl o2_) ?_
  refine WL.v (Y.add rfl rfl o2_) ?_
  refine WL.m rfl ?_
  refine WL.v (Y.shrW 24 rfl rfl rfl de_) ?_
  refine WL.v (Y.convW8 Tryd.underlying145 Tryd.underlying5 rfl) ?_
  refine WL.m rfl ?_
  refine WL.v (Y.shrW 16 rfl rfl rfl de_) ?_
  refine WL.v (Y.convW8 Tryd.underlying145 Tryd.underlying5 rfl) ?_
  refine WL.m rfl ?_
  refine WL.v (Y.shrW 8 rfl rfl rfl de_) ?_
  refine WL.v (Y.convW8 Tryd.underlying145 Tryd.underlying5 rfl) ?_
  refine WL.m rfl ?_
  refine WL.v (Y.convW8 Tryd.underlying145 Tryd.underlying5 rfl) ?_
  refine WL.v (Y.indexAddrAN Tryd.underlying36 rfl rfl sz0_uint8 (i := 4 * x) om_) ?_
  refine WL.store (g := g3) (pre := bytesC ((List.range (4 * x)).map (digB (blocksN (wholeB xs) ((wholeB xs).length / 64))))) (old := [bc 0]) (post := bytesC (List.replicate (31 - (4 * x)) 0)) (new := [bc (((blocksN (wholeB xs) ((wholeB xs).length / 64)).ws.getD x 0 >>> UInt32.ofNat 24).toUInt8)]) rfl (by rw [add_zero', bytesC_length, List.length_map, List.length_range, Nat.mul_one]) rfl rfl kr_ (by rw [← dig_put _ om_]; exact hB3) (by first | (simp only [List.length_cons, List.length_nil, List.length_map, List.length_replicate, V8.ws, digC_length]; done) | rfl | (simp [digC_length, opC_length]; done) | (simp only [digC_length, opC_length]; omega)) (one1 rfl) (fun w15 hc15 hB15_ => ?_)
  have hz15 := hc15.size; have hE := hE.step hc15 (fun k h => by omega); have hB2 := hB2.chg hc15 no_; have hB4 := hB4.chg hc15 no_
  have hB3 := (show Blk w15 g3 TDi (bytesC ((List.range (4 * x + 1)).map (digB (blocksN (wholeB xs) ((wholeB xs).length / 64))) ++ List.replicate (32 - (4 * x + 1)) 0)) by rw [dig_new, digB_at0]; exact hB15_)
  refine WL.v (Y.indexAddrAN Tryd.underlying36 rfl rfl sz0_uint8 (i := 4 * x + 1) om_) ?_
  refine WL.store (g := g3) (pre := bytesC ((List.range (4 * x + 1)).map (digB (blocksN (wholeB xs) ((wholeB xs).length / 64))))) (old := [bc 0]) (post := bytesC (List.replicate (31 - (4 * x + 1)) 0)) (new := [bc (((blocksN (wholeB xs) ((wholeB xs).length / 64)).ws.getD x 0 >>> UInt32.ofNat 16).toUInt8)]) rfl (by rw [add_zero', bytesC_length, List.length_map, List.length_range, Nat.mul_one]) rfl rfl kr_ (by rw [← dig_put _ om_]; exact hB3) (by first | (simp only [List.length_cons, List.length_nil, List.length_map, List.length_replicate, V8.ws, digC_length]; done) | rfl | (simp [digC_length, opC_length]; done) | (simp only [digC_length, opC_length]; omega)) (one1 rfl) (fun w16 hc16 hB16_ => ?_)
  have hz16 := hc16.size; have hE := hE.step hc16 (fun k h => by omega); have hB2 := hB2.chg hc16 no_; have hB4 := hB4.chg hc16 no_
  have hB3 := (show Blk w16 g3 TDi (bytesC ((List.range (4 * x + 1 + 1)).map (digB (blocksN (wholeB xs) ((wholeB xs).length / 64))) ++ List.replicate (32 - (4 * x + 1 + 1)) 0)) by rw [dig_new, digB_at _ _ _ de_]; exact hB16_)
  refine WL.v (Y.indexAddrAN Tryd.underlying36 rfl rfl sz0_uint8 (i := 4 * x + 2) om_) ?_
  refine WL.store (g := g3) (pre := bytesC ((List.range (4 * x + 2)).map (digB (blocksN (wholeB xs) ((wholeB xs).length / 64))))) (old := [bc 0]) (post := bytesC (List.replicate (31 - (4 * x + 2)) 0)) (new := [bc (((blocksN (wholeB xs) ((wholeB xs).length / 64)).ws.getD x 0 >>> UInt32.ofNat 8).toUInt8)]) rfl (by rw [add_zero', bytesC_length, List.length_map, List.length_range, Nat.mul_one]) rfl rfl kr_ (by rw [← dig_put _ om_]; exact hB3) (by first | (simp only [List.length_cons, List.length_nil, List.length_map, List.length_replicate, V8.ws, digC_length]; done) | rfl | (simp [digC_length, opC_length]; done) | (simp only [digC_length, opC_length]; omega)) (one1 rfl) (fun w17 hc17 hB17_ => ?_)
  have hz17 := hc17.size; have hE := hE.step hc17 (fun k h => by omega); have hB2 := hB2.chg hc17 no_; have hB4 := hB4.chg hc17 no_
  have hB3 := (show Blk w17 g3 TDi (bytesC ((List.range (4 * x + 2 + 1)).map (digB (blocksN (wholeB xs) ((wholeB xs).length / 64))) ++ List.replicate (32 - (4 * x + 2 + 1)) 0)) by rw [dig_new, digB_at _ _ _ de_]; exact hB17_)
  refine WL.v (Y.indexAddrAN Tryd.underlying36 rfl rfl sz0_uint8 (i := 4 * x + 3) om_) ?_
  refine WL.store (g := g3) (pre := bytesC ((List.range (4 * x + 3)).map (digB (blocksN (wholeB xs) ((wholeB xs).length / 64))))) (old := [bc 0]) (post := bytesC (List.replicate (31 - (4 * x + 3)) 0)) (new := [bc (((blocksN (wholeB xs) ((wholeB xs).length / 64)).ws.getD x 0).toUInt8)]) rfl (by rw [add_zero', bytesC_length, List.length_map, List.length_range, Nat.mul_one]) rfl rfl kr_ (by rw [← dig_put _ om_]; exact hB3) (by first | (simp only [List.length_cons, List.length_nil, List.length_map, List.length_replicate, V8.ws, digC_length]; done) | rfl | (simp [digC_length, opC_length]; done) | (simp only [digC_length, opC_length]; omega)) (one1 rfl) (fun w18 hc18 hB18_ => ?_)
  have hz18 := hc18.size; have hE := hE.step hc18 (fun k h => by omega); have hB2 := hB2.chg hc18 no_; have hB4 := hB4.chg hc18 no_
  have hB3 := (show Blk w18 g3 TDi (bytesC ((List.range (4 * x + 3 + 1)).map (digB (blocksN (wholeB xs) ((wholeB xs).length / 64))) ++ List.replicate (32 - (4 * x + 3 + 1)) 0)) by rw [dig_new, digB_at3]; exact hB18_)
  refine WL.nil (hK26 _ _ ?_); try clear hK26
  refine CW.region ?_
  refine WL.v (Y.add rfl rfl o2_) ?_
  refine WL.m rfl ?_
  refine WL.nil ?_
  refine ⟨x + 1, by show 8 - (x + 1) < 8 - x; omega, Fr.ok, by show x + 1 ≤ 8; omega, hE, hB2, ?_, hB4⟩
  rw [show 4 * (x + 1) = 4 * x + 3 + 1 by omega]
  exact hB3
 refine CW.exit ?_
 refine hK21 _ _ ?_; try clear hK21
 refine CW.seq fun K28 hK28 => ?_
 have hB3 := (show Blk w14 g3 TDi (digC (shaD xs)) by
  have e : digC (shaD xs) = bytesC (digsV (blocksN (wholeB xs) ((wholeB xs).length / 64))) := rfl
  rw [e, digsV]
  rw [show x = 8 by omega] at hB3
  simpa using hB3)
 refine CW.region ?_
 refine WL.v (Y.load Tryd.underlying36 rfl hB3.mem (sz_apiDigest _) rfl) ?_
 refine WL.store (g := g2) (pre := []) (old := digC Dig.zero) (post := []) (new := digC (shaD xs)) rfl rfl rfl rfl (sz_apiDigest _) (by simpa using hB2) (by first | (simp only [List.length_cons, List.length_nil, List.length_map, List.length_replicate, V8.ws, digC_length]; done) | rfl | (simp [digC_length, opC_length]; done) | (simp only [digC_length, opC_length]; omega)) (one_digC) (fun w19 hc19 hB19_ => ?_)
 have hz19 := hc19.size; have hE := hE.step hc19 (fun k h => by omega); have hB3 := hB3.chg hc19 no_; have hB4 := hB4.chg hc19 no_
 have hB2 : Blk w19 g2 TDi (digC (shaD xs)) := by simpa using hB19_
 refine WL.nil (hK28 _ _ ?_); try clear hK28
 refine CW.ret ?_
 exact ⟨_, _, rfl, hB2.mem, digC_length _, rfl, hE⟩
end Go.Proofs.YtmehkigmnpjcjaaDoor
/- digest.Sum, walked: SHA-256. No condition. -/
namespace Go.Proofs.YtmehkigmnpjcjaaDoor
open Go.RowKit Go.Fw Go.Pl
theorem sum_any (u : Value) (b : List UInt8) (w : World) (hb : By w u b) (hbl : b ≠ [] → ∀ k, u.ownBlock = some k → k < w.heap.size) (hK : Mem w ⟨0, 0, none⟩ (wds keysL)) (hr : b.length ≤ 140737488351232) : Calls Tryd.prog 22 #[u] w (Ret fun v w' => v = digV (shaD b) ∧ Ext w w') := by
 obtain ⟨A, m, c, rfl⟩ := hb.lens
 have hk0 : (0 : Nat) < w.heap.size := hK.lt (fun h => by cases h)
 obtain ⟨id, hid, hzd, _⟩ := info_apiDigest
 refine calls_of_CWc 10 2 32 [(0, .slice A m c)] Tryd.func22 rfl rfl rfl Tryd.underlying36 rfl kr_ (by simp) args1 ?_
 have hE : Ext w w := Chg.refl
 refine CW.sr fun K1 hK1 => ?_
 refine WL.alloc (hid) (hzd) rfl de_ fun g2 w1 hx1 hg2 hB2 => ?_
 have hlt2 := hB2.lt; have hz1 := hx1.size
 have hM2 := hB2.mem; have hz1 := hx1.size; have hE := hE.thenExt hx1
 refine WL.nil (hK1 _ _ ?_); try clear hK1
 refine CW.sr fun K2 hK2 => ?_
 refine WL.call Tryd.func44 rfl rfl rfl (new_any _) (by simp) ?_; rintro v4 w2 hR2
 obtain ⟨g4, rfl, hg4, hB4, hx2⟩ := hR2
 have hz2 := hx2.size
 have hE := hE.thenExt hx2
 have hB2 := hB2.ext hx2
 refine WL.a rfl ?_
 refine WL.nil (hK2 _ _ ?_); try clear hK2
 refine CW.sr fun K3 hK3 => ?_
 refine WL.m rfl ?_
 refine WL.m rfl ?_
 refine WL.call Tryd.func45 rfl rfl rfl (write_any g4 [] (List.replicate 64 0) _ b _ hB4 restOf_nil (hb.ext hE) (fun h k hk => by have := hbl h k hk; omega) (hK.ext hE) om_ (by simp; omega)) (by simp) ?_; rintro v7 w3 hR3
 obtain ⟨rest, hB4, hR4, hc3⟩ := hR3
 rw [List.nil_append] at hB4 hR4
 have hz3 := hc3.size
 have hE := hE.step hc3 (fun k h => by omega)
 have hB2 := hB2.chg hc3 (fun h => by have := hB2.lt; omega)
 refine WL.nil (hK3 _ _ ?_); try clear hK3
 refine CW.sr fun K4 hK4 => ?_
 refine WL.m rfl ?_
 refine WL.call Tryd.func46 rfl rfl rfl (hsum_any g4 b rest _ hB4 hR4 (hK.ext hE) hr) (by simp) ?_; rintro v w4 ⟨rfl, hx4⟩; have hz4 := hx4.size; have hE := hE.thenExt hx4; have hB2 := hB2.ext hx4
 refine WL.store (g := g2) (pre := []) (old := digC Dig.zero) (post := []) (new := digC (shaD b)) rfl rfl rfl rfl (sz_apiDigest _) (by simpa using hB2) (by first | (simp only [List.length_cons, List.length_nil, List.length_map, List.length_replicate, V8.ws, digC_length]; done) | rfl | (simp [digC_length, opC_length]; done) | (simp only [digC_length, opC_length]; omega)) (one_digC) (fun w5 hc5 hB5_ => ?_)
 have hz5 := hc5.size; have hE := hE.step hc5 (fun k h => by omega)
 have hB2 : Blk w5 g2 TDi (digC (shaD b)) := by simpa using hB5_
 refine WL.nil (hK4 _ _ ?_); try clear hK4
 refine CW.ret ?_
 exact ⟨_, _, rfl, hB2.mem, digC_length _, rfl, hE⟩
end Go.Proofs.YtmehkigmnpjcjaaDoor
