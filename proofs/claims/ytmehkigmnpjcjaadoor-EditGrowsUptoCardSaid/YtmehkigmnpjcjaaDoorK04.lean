/- Parts of a proof: what its last text leans on. No condition. -/
import Derived.ScopeJumps
import Derived.Defers
import Derived.Recover
import Derived.Lib.Bytealg
import Derived.Shelf.Small.Strs
import Derived.Shelf.Strings.Search1
import Derived.Test.YtmehkigmnpjcjaaDoorProg
import Derived.Test.YtmehkigmnpjcjaaDoorK02
import Derived.Test.YtmehkigmnpjcjaaDoorK03
set_option linter.unusedSimpArgs false
set_option linter.unusedVariables false
/- Calls that may panic; results that lie in cells; stores and loads in held regions; slices of slices. No condition; no program. -/
namespace Go.Fw
open Go.RowKit
section
variable {P : Program} {n : NN} {Φ : Exit → Fr → World → Prop} {fr : Fr} {w : World}
theorem Y.nilCheck {x : Operand} {ty : TypeId} {a : Addr} (hx : ev fr x = some (.pointer (some a))) : Yw P n fr (.nilCheck x) ty w (.pointer (some a)) w := fun b o' ho _ ha => by
 simp [execOp, ho, ha.ev hx]
variable {ops : Array Oper} {S : World → Prop} {fuel : Nat} {listed : Array Bool}
theorem RS.val {i d : Nat} {o : Op} {ty : TypeId} {pos : String} {aft : Array Edge} {v : Value}
  (hi : ops[i]? = some ⟨some d, o, ty, pos, aft, none⟩) (hy : Yw P n fr o ty w v w) (hd : d < n.1)
  (h : S w ∧ RH P ops S n Φ fuel (listed.setIfInBounds i true) ((d, v) :: fr) w) : RS P ops S n Φ fuel listed i fr w := fun a ha => by
 have hr := hy a ⟨some d, o, ty, pos, aft, none⟩ rfl rfl ha
 unfold wpOp
 rw [hi]
 simp only [Region.wanted, if_true]
 refine .inl ?_
 unfold Oper.wp
 rw [hr]
 exact ⟨h.1, h.2 _ (ha.put hd v)⟩
theorem RS.store {i : Nat} {t e : TypeId} {x y : Operand} {ty : TypeId} {pos : String} {aft : Array Edge} {v : Value} {g : Nat} {pre old post new : List Value} {A : Addr}
  (hi : ops[i]? = some ⟨none, .store t x y, ty, pos, aft, none⟩)
  (hx : ev fr x = some (.pointer (some A))) (hA : A = ⟨g, pre.length, none⟩) (hy : ev fr y = some v) (hv : v.cells = new.toArray) (hS : (P.info? t).map (·.size) = some new.length)
  (hb : Blk w g e (pre ++ old ++ post)) (hl : new.length = old.length) (h1 : ∀ u ∈ new, u.oneCell' = true)
  (h : ∀ w', Chg (· = g) w w' → Blk w' g e (pre ++ new ++ post) → S w' ∧ RH P ops S n Φ fuel (listed.setIfInBounds i true) fr w') : RS P ops S n Φ fuel listed i fr w := fun a ha => by
 obtain ⟨w', hst, hc, hb'⟩ := run_storeCells_blk (P := P) hb hl h1
 have hrun : (execOp a.eval ⟨none, .store t x y, ty, pos, aft, none⟩).run P w = .ok .skip w' := by
  simp [execOp, ha.ev hx, ha.ev hy, Instr.storeAt, Instr.sureAddr, storeVar, fw_sizeOf hS, hv, hA, hst]
 obtain ⟨h1, h2⟩ := h w' hc hb'
 unfold wpOp
 rw [hi]
 simp only [Region.wanted, if_true]
 refine .inl ?_
 unfold Oper.wp
 rw [hrun]
 exact ⟨h1, h2 _ ha⟩
@[reducible] def DoneG (D : Fr → World → Prop) (S : List PanicEntry → World → Prop) : Exit → Fr → World → Prop
 | .normal, fr, w => D fr w
 | .ret, fr, w => D fr w
 | .panic ch, _, w => S ch w
 | _, _, _ => False
theorem calls_of_CWG {f : FuncId} {fn : Func} {c : Code} {args : List Value} {R : Value → World → Prop} {S : List PanicEntry → World → Prop} (m : Nat) (D : Fr → World → Prop) (fr0 : Fr)
  (hf : P.funcs[f]? = some fn) (hb : fn.body = some c) (hm : fn.ntmps = m) (hr : ∀ a fr w, Rep (m, [], none) a fr → D fr w → ∃ v, (results fn a.tmps).run P w = .ok v w ∧ R v w)
  (hsz : args.length ≤ m) (hargs : ∀ t v, fr0.get t = some v → args[t]? = some v)
  (h : CW P c (m, [], none) (DoneG D S) fr0 w) : Calls P f args.toArray w (RetOr R S) := by
 refine calls_of_wp hf hb ?_
 have hrep : Rep (m, [], none) { tmps := args.toArray ++ Array.replicate (fn.ntmps - args.toArray.size) undef, defers := [] } fr0 := by
  refine ⟨by simp [hm]; omega, rfl, fun t v hv => ?_⟩
  have h1 := hargs t v hv
  have hlt : t < args.length := (List.getElem?_eq_some_iff.1 h1).1
  simpa [Array.getElem?_append, hlt] using (List.getElem?_eq_some_iff.1 h1).2
 refine wp_mono ((CW.plain rfl).1 h _ hrep) ?_
 rintro e a' w' ⟨fr', hf', hp⟩
 cases e with
 | normal => obtain ⟨v, hv, hR⟩ := hr _ _ _ hf' hp; exact ⟨hf'.defers, v, hv, hR⟩
 | ret => obtain ⟨v, hv, hR⟩ := hr _ _ _ hf' hp; exact ⟨hf'.defers, v, hv, hR⟩
 | exit id => exact hp
 | goto l => exact hp
 | panic ch => exact ⟨hf'.defers, hp⟩
 | outgrown => exact hp.elim
@[reducible] def Cell1 (t m : Nat) (R : Value → World → Prop) (fr : Fr) (w : World) : Prop := ∃ a cs, fr.get t = some (.pointer (some a)) ∧ Mem w a cs ∧ cs.length = m ∧ R (.agg cs.toArray) w
theorem res_cell {fn : Func} {a : Act} {t m : Nat} {ty : TypeId} {d : TypeDesc} {R : Value → World → Prop} (hr : fn.results = #[.cell t ty]) (hT : P.underlying ty = some d) (hd : notAgg d = false) (hS : (P.info? ty).map (·.size) = some m)
  {fr : Fr} {w : World} (ha : Rep n a fr) (hD : Cell1 t m R fr w) : ∃ v, (results fn a.tmps).run P w = .ok v w ∧ R v w := by
 obtain ⟨p, cs, hp, hm, hl, hR⟩ := hD
 have h1 := run_loadVarA (P := P) hT hd (by rw [hl]; exact hS) hm
 have e := ha.get t _ hp
 refine ⟨_, ?_, hR⟩
 simp [results, hr, e, asAddr, h1]
theorem calls_of_CWc_or {f : FuncId} {fn : Func} {c : Code} {args : List Value} {R : Value → World → Prop} {S : List PanicEntry → World → Prop} (m t k : Nat) (fr0 : Fr) {ty : TypeId} {d : TypeDesc}
  (hf : P.funcs[f]? = some fn) (hb : fn.body = some c) (hm : fn.ntmps = m) (hr : fn.results = #[.cell t ty]) (hT : P.underlying ty = some d) (hd : notAgg d = false) (hS : (P.info? ty).map (·.size) = some k)
  (hsz : args.length ≤ m) (hargs : ∀ t v, fr0.get t = some v → args[t]? = some v)
  (h : CW P c (m, [], none) (DoneG (Cell1 t k R) S) fr0 w) : Calls P f args.toArray w (RetOr R S) :=
 calls_of_CWG m _ fr0 hf hb hm (fun a fr w ha hD => res_cell hr hT hd hS ha hD) hsz hargs h
theorem calls_of_CWc {f : FuncId} {fn : Func} {c : Code} {args : List Value} {R : Value → World → Prop} (m t k : Nat) (fr0 : Fr) {ty : TypeId} {d : TypeDesc}
  (hf : P.funcs[f]? = some fn) (hb : fn.body = some c) (hm : fn.ntmps = m) (hr : fn.results = #[.cell t ty]) (hT : P.underlying ty = some d) (hd : notAgg d = false) (hS : (P.info? ty).map (·.size) = some k)
  (hsz : args.length ≤ m) (hargs : ∀ t v, fr0.get t = some v → args[t]? = some v)
  (h : CW P c (m, [], none) (DoneG (Cell1 t k R) (fun _ _ => False)) fr0 w) : Calls P f args.toArray w (Ret R) :=
 (calls_of_CWc_or m t k fr0 hf hb hm hr hT hd hS hsz hargs h).mono fun e w' he => by
  cases e with
  | returned v => exact he
  | panicked ch => exact he.elim
  | outgrown => exact he.elim
def By (w : World) (v : Value) (bs : List UInt8) : Prop := ∃ A m c, v = .slice A m c ∧ bs.length = m ∧ m ≤ c ∧ c ≤ maxLen ∧ (0 < m → ∃ a, A = some a ∧ Mem w a (bytesC bs)) ∧ (A = none → m = 0)
theorem By.chg {T : Nat → Prop} {w w' : World} {v : Value} {bs : List UInt8} (h : By w v bs) (hc : Chg T w w') (hs : bs ≠ [] → ∀ g, v.ownBlock = some g → ¬ T g) : By w' v bs := by
 obtain ⟨A, m, c, rfl, hl, hmc, hcm, hA, hn⟩ := h
 refine ⟨A, m, c, rfl, hl, hmc, hcm, fun h0 => ?_, hn⟩
 obtain ⟨a, rfl, hm⟩ := hA h0
 exact ⟨a, rfl, hm.chg hc (hs (by rintro rfl; simp at hl; omega) _ rfl)⟩
theorem By.ext {w w' : World} {v : Value} {bs : List UInt8} (h : By w v bs) (hc : Ext w w') : By w' v bs := h.chg hc fun _ _ _ f => f
theorem Own.by {e : TypeId} {v : Value} {bs : List UInt8} (h : Own w e 1 v (bytesC bs)) : By w v bs := by
 obtain ⟨A, m, c, rfl⟩ := h.lens
 obtain ⟨hm, hn, hl, hmc, hcm⟩ := h.mem A m c rfl
 rw [bytesC_length] at hl
 exact ⟨A, m, c, rfl, by omega, hmc, hcm, hm, hn⟩
end
section
variable {P : Program} {n : NN} {fr : Fr} {w : World} {ty : TypeId}
theorem Y.and_k {x y : Operand} {k : IntKind} {p q : Int} {t t' : TypeId} {r : Int} (hx : ev fr x = some (.int k p)) (hy : ev fr y = some (.int k q)) (hr : k.wrap ((BitVec.ofInt k.bits p &&& BitVec.ofInt k.bits q).toNat : Int) = r) : Yw P n fr (.binOp .and t x y t') ty w (.int k r) w :=
 Y.bin hx hy (by simp [eqGuard_at_int]) (by
  have e : binOp .and t (.int k p) (.int k q) = pure (.int k r) := by simp only [binOp, ne_eq, not_true_eq_false, if_false, Op.intBits, hr]
  rw [e]; rfl)
theorem Y.shl {x y : Operand} {k k' : IntKind} {p q r : Int} {t t' : TypeId} (hx : ev fr x = some (.int k p)) (hy : ev fr y = some (.int k' q)) (hq : 0 ≤ q) (hr : k.wrap (p * (2 ^ (min q.toNat k.bits))) = r) : Yw P n fr (.binOp .shl t x y t') ty w (.int k r) w :=
 Y.bin hx hy (by simp [eqGuard_at_int]) (by simp [binOp, Op.shift, Int.not_lt.2 hq, hr])
end
section place
variable {w : World} {a : Addr} {bv pv ov : Value} {at_ : Int} {rest : List Value} {au no : ByteArray}
end place
end Go.Fw
namespace Go.Fw
open Go.RowKit
end Go.Fw
/- Calls that are put off: from a frame without to a frame with one. No condition; no program. -/
namespace Go.Fw
open Go.RowKit
section
variable {P : Program} {n : NN} {fr : Fr} {w : World}
theorem CW.wp {c : Code} {Φ : Exit → Fr → World → Prop} {Q : Exit → Act → World → Prop} {a : Act} (h : CW P c n Φ fr w) (ha : Rep n a fr) (hQ : ∀ e f a' w', Rep n a' f → Φ e f w' → Q e a' w') (hn0 : n.2.2 = none := by rfl) : c.wp P Q a w :=
 wp_mono ((CW.plain hn0).1 h a ha) fun e a' w' ⟨f, hf, hp⟩ => hQ e f a' w' hf hp
end
end Go.Fw
/- The plain law: what the functions compute, on Lean's data. No condition; no program. -/
namespace Go.Pl
open Go.Fw
def rootB (r : RefD) : Bool := decide (r = RefD.zero)
def refB (r : RefD) : Bool := if r.own then decide (r.c = Dig.zero) && decide (0 < r.n) else rootB r || (decide (0 < r.n) && decide (r.n ≤ 2000))
def refKind (r : RefD) : Int := if r.own then (if r.c ≠ Dig.zero ∨ r.n < 1 then 3 else 1) else if 1 ≤ r.n ∧ r.n ≤ 2000 then 2 else if r.n = 0 ∧ r.c = Dig.zero then 0 else 3
def lessB (a b : Dig) : Bool := Op.bytesLess a.1 b.1
theorem bytesLess_self : ∀ l : List UInt8, Op.bytesLess l l = false
 | [] => rfl
 | a :: l => by simp [Op.bytesLess, bytesLess_self l]
theorem take_succ {α : Type} {l : List α} {i : Nat} {x : α} (h : l[i]? = some x) : l.take (i + 1) = l.take i ++ [x] := by
 rw [List.take_add_one, h]; rfl
def kindAt (l : List OpD) (k : Nat) : Int := ((l[k]?).map (·.kind)).getD 0
def rightX (l : List OpD) (i : Int) (x : OpD) : Int :=
 if refB x.at_ = false then 1
 else if x.kind = 1 ∧ (x.left = true ∧ rootB x.at_ = true) then 1
 else if x.kind = 2 ∧ (x.left = true ∨ (x.byte.toNat : Int) ≠ 0 ∨ rootB x.at_ = true) then 1
 else if x.kind ≠ 1 ∧ x.kind ≠ 2 then 1
 else if x.at_.own = true ∧ (i ≤ x.at_.n ∨ kindAt l (x.at_.n - 1).toNat ≠ 1) then 5 else 0
def rightI (l : List OpD) (i : Int) : Int := if i < 1 ∨ (l.length : Int) < i then 9 else match l[(i - 1).toNat]? with
 | some x => rightX l i x
 | none => 9
theorem rightI_of {l : List OpD} {i : Int} {x : OpD} (h : ¬ (i < 1 ∨ (l.length : Int) < i)) (hx : l[(i - 1).toNat]? = some x) : rightI l i = rightX l i x := by
 rw [rightI, if_neg h, hx]
theorem root_iff (r : RefD) : rootB r = true ↔ r.own = false ∧ r.c = Dig.zero ∧ r.n = 0 := by
 obtain ⟨o, c, n⟩ := r
 simp [rootB, RefD.zero]
theorem rk1 (r : RefD) : refKind r = 1 ↔ r.own = true ∧ refB r = true := by
 obtain ⟨o, c, n⟩ := r
 cases o <;> by_cases h1 : c = Dig.zero <;> simp [refKind, refB, rootB, RefD.zero, h1] <;> (repeat' split) <;> first | omega | (simp_all; done) | (simp_all; omega)
def lettersL : List UInt8 := [65, 66, 67, 68, 69, 70, 71, 72, 73, 74, 75, 76, 77, 78, 79, 80, 81, 82, 83, 84, 85, 86, 87, 88, 89, 90, 97, 98, 99, 100, 101, 102, 103, 104, 105, 106, 107, 108, 109, 110, 111, 112, 113, 114, 115, 116, 117, 118, 119, 120, 121, 122, 48, 49, 50, 51, 52, 53, 54, 55, 56, 57, 45, 95, 46, 35, 64, 126]
def letterI (c : Int) : Bool := decide ((65 ≤ c ∧ c ≤ 90) ∨ (97 ≤ c ∧ c ≤ 122) ∨ (48 ≤ c ∧ c ≤ 57) ∨ c = 45 ∨ c = 95 ∨ c = 46 ∨ c = 35 ∨ c = 64 ∨ c = 126)
def letter (c : UInt8) : Bool := letterI (c.toNat : Int)
theorem letter_all : ∀ n, n < 256 → decide (Lib.indexByte lettersL (UInt8.ofNat n) < 0) = !letterI (n : Int) := by decide +kernel
theorem letter_index (c : UInt8) : Lib.indexByte lettersL c < 0 ↔ letter c = false := by
 have h := letter_all c.toNat c.toNat_lt
 rw [UInt8.ofNat_toNat] at h
 unfold letter
 rw [Bool.eq_iff_iff] at h
 simp at h
 rw [h]
def nameB (l : List UInt8) : Bool := l.all letter && (decide (1 ≤ l.length) && decide (l.length ≤ 24))
theorem all_take_succ {l : List UInt8} {i : Nat} {x : UInt8} {p : UInt8 → Bool} (h : (l.take i).all p = true) (hx : l[i]? = some x) (hp : p x = true) : (l.take (i + 1)).all p = true := by
 rw [take_succ hx, List.all_append, h]; simp [hp]
theorem nameB_no {l : List UInt8} {i : Nat} {x : UInt8} (hx : l[i]? = some x) (hp : letter x = false) : nameB l = false := by
 have : l.all letter = false := by
  rw [Bool.eq_false_iff]
  intro h
  rw [List.all_eq_true] at h
  have := h x (List.mem_of_getElem? hx)
  rw [hp] at this; cases this
 simp [nameB, this]
theorem nameB_end {l : List UInt8} {i : Nat} (h : (l.take i).all letter = true) (hi : l.length ≤ i) : nameB l = (decide (1 ≤ l.length) && decide (l.length ≤ 24)) := by
 rw [List.take_of_length_le hi] at h
 simp [nameB, h]
theorem get_toList {s : ByteArray} {i : Nat} (h : i < s.size) : s.toList[i]? = some s[i] := by
 rw [ByteArray.toList_eq]
 show s.data.toList[i]? = some s.data[i]
 simp
def risingB : List Dig → Bool
 | [] => true
 | [_] => true
 | x :: y :: r => lessB x y && risingB (y :: r)
theorem rising_iff : ∀ l : List Dig, risingB l = true ↔ ∀ i x y, l[i]? = some x → l[i + 1]? = some y → lessB x y = true
 | [] => by simp [risingB]
 | [a] => by simp [risingB]
 | a :: b :: r => by
  rw [risingB, Bool.and_eq_true, rising_iff (b :: r)]
  constructor
  ·
   rintro ⟨h1, h2⟩ i x y hx hy
   cases i with
   | zero => simp at hx hy; subst hx; subst hy; exact h1
   | succ i => exact h2 i x y (by simpa using hx) (by simpa using hy)
  ·
   intro h
   exact ⟨h 0 a b rfl rfl, fun i x y hx hy => h (i + 1) x y (by simpa using hx) (by simpa using hy)⟩
def opsErrFrom (l : List OpD) : Nat → Nat → Int
 | _, 0 => 0
 | i, n + 1 => if rightI l (i + 1) ≠ 0 then rightI l (i + 1) else opsErrFrom l (i + 1) n
def opsErr (l : List OpD) : Int := opsErrFrom l 0 l.length
theorem opsErrFrom_skip (l : List OpD) : ∀ (k i n : Nat), (∀ j, i ≤ j → j < i + k → rightI l (j + 1) = 0) → k ≤ n → opsErrFrom l i n = opsErrFrom l (i + k) (n - k)
 | 0, i, n, _, _ => rfl
 | k + 1, i, n + 1, h, hk => by
  have h0 := h i (Nat.le_refl _) om_
  rw [opsErrFrom, if_neg (by simp [h0]), opsErrFrom_skip l k (i + 1) n (fun j h1 h2 => h j om_ om_) om_]
  congr 1
  ·
   omega
  ·
   omega
 | k + 1, i, 0, _, hk => by omega
theorem opsErr_at {l : List OpD} {i : Nat} (h : ∀ j : Nat, j < i → rightI l (j + 1) = 0) (hi : i < l.length) (hne : rightI l (i + 1) ≠ 0) : opsErr l = rightI l (i + 1) := by
 rw [opsErr, opsErrFrom_skip l i 0 l.length (fun j _ hj => h j om_) om_, Nat.zero_add]
 obtain ⟨m, hm⟩ : ∃ m, l.length - i = m + 1 := ⟨l.length - i - 1, by omega⟩
 rw [hm, opsErrFrom, if_pos hne]
theorem opsErr_end {l : List OpD} (h : ∀ j : Nat, j < l.length → rightI l (j + 1) = 0) : opsErr l = 0 := by
 rw [opsErr, opsErrFrom_skip l l.length 0 l.length (fun j _ hj => h j om_) om_, Nat.sub_self]
 rfl
def mayI (c : ComD) : Int :=
 if 8 < c.parents.length then 4 else if risingB c.parents = false then 7 else if nameB c.author.toList = false then 11
 else if 200 < c.note.size then 3 else if 2000 < c.ops.length then 4 else opsErr c.ops
end Go.Pl
/- The plain law of a commit's bytes. No condition; no program. -/
namespace Go.Pl
open Go.Fw
def vi (n : Nat) : List UInt8 := if n < 128 then [UInt8.ofNat n] else UInt8.ofNat (n % 128 + 128) :: vi (n / 128)
termination_by n
theorem vi_lt {n : Nat} (h : n < 128) : vi n = [UInt8.ofNat n] := by rw [vi, if_pos h]
theorem vi_ge {n : Nat} (h : ¬ n < 128) : vi n = UInt8.ofNat (n % 128 + 128) :: vi (n / 128) := by rw [vi, if_neg h]
theorem vi_len : ∀ (k n : Nat), n < 128 ^ (k + 1) → (vi n).length ≤ k + 1
 | k, n, h => by
  by_cases h1 : n < 128
  ·
   rw [vi_lt h1]; simp
  ·
   rw [vi_ge h1]
   cases k with
   | zero => simp at h; omega
   | succ k =>
    have h2 : n / 128 < 128 ^ (k + 1) := by
     rw [Nat.pow_succ] at h
     exact Nat.div_lt_of_lt_mul (by rw [Nat.mul_comm]; exact h)
    have := vi_len k (n / 128) h2
    simp only [List.length_cons]
    omega
theorem vi_len9 {n : Nat} (h : n < 9223372036854775808) : (vi n).length ≤ 9 := vi_len 8 n om_
def numB (n : Int) : List UInt8 := if n < 0 then [] else vi n.toNat
theorem numB_len {n : Int} (h : n < 9223372036854775808) : (numB n).length ≤ 9 := by
 unfold numB
 split
 ·
  simp
 ·
  exact vi_len9 om_
theorem numB_nat (n : Nat) : numB (n : Int) = vi n := by rw [numB, if_neg om_]; rfl
def textB (s : List UInt8) : List UInt8 := vi s.length ++ s
def flagI (x : OpD) : Int := (if x.kind = 2 then 1 else 0) + (if x.left = true then 2 else 0) + (if x.at_.own = true then 4 else if rootB x.at_ = true then 0 else 8)
def opB (x : OpD) : List UInt8 := (if x.at_.own = true then numB (flagI x) ++ numB x.at_.n else if rootB x.at_ = true then numB (flagI x) else numB (flagI x) ++ x.at_.c.1 ++ numB x.at_.n) ++ (if x.kind = 1 then [x.byte] else [])
theorem flagI_range (x : OpD) : 0 ≤ flagI x ∧ flagI x ≤ 11 := by
 unfold flagI
 split <;> split <;> split <;> (try split) <;> omega
theorem opB_len {x : OpD} (h : x.at_.n < 9223372036854775808) : (opB x).length ≤ 51 := by
 have h1 := numB_len (n := flagI x) (by have := flagI_range x; omega)
 have h2 := numB_len h
 have h3 := x.at_.c.2
 unfold opB
 by_cases a : x.at_.own = true <;> by_cases b : rootB x.at_ = true <;> by_cases c : x.kind = 1 <;> simp only [a, b, c, if_true, if_false, List.length_append, List.length_cons, List.length_nil, h3] <;> (try simp only [List.length_append, List.length_cons, List.length_nil, h3, Bool.false_eq_true, if_false]) <;> omega
def comB (c : ComD) : List UInt8 := vi c.parents.length ++ (c.parents.map (·.1)).flatten ++ textB c.author.toList ++ textB c.note.toList ++ vi c.ops.length ++ (c.ops.map opB).flatten
theorem flat_take_succ {α β : Type} {l : List α} {f : α → List β} {i : Nat} {x : α} (h : l[i]? = some x) : ((l.take (i + 1)).map f).flatten = ((l.take i).map f).flatten ++ f x := by
 rw [take_succ h]; simp
theorem flat_len {α β : Type} {f : α → List β} {k : Nat} : ∀ {l : List α}, (∀ x ∈ l, (f x).length ≤ k) → (l.map f).flatten.length ≤ l.length * k
 | [], _ => by simp
 | x :: l, h => by
  have h1 := h x (by simp)
  have h2 := flat_len (f := f) (k := k) (l := l) fun y hy => h y (by simp [hy])
  simp only [List.map_cons, List.flatten_cons, List.length_append, List.length_cons, Nat.succ_mul]
  omega
theorem opsErrFrom_zero (l : List OpD) : ∀ (n i : Nat), opsErrFrom l i n = 0 → ∀ j, i ≤ j → j < i + n → rightI l (j + 1) = 0
 | 0, i, _, j, h1, h2 => by omega
 | n + 1, i, h, j, h1, h2 => by
  rw [opsErrFrom] at h
  split at h
  ·
   rename_i hne; exact absurd h hne
  ·
   rename_i hne
   simp only [ne_eq, Decidable.not_not] at hne
   rcases Nat.eq_or_lt_of_le h1 with rfl | h1
   ·
    exact hne
   ·
    exact opsErrFrom_zero l n (i + 1) h j om_ om_
structure MayOk (c : ComD) : Prop where
 parents : c.parents.length ≤ 8
 rising : risingB c.parents = true
 author : nameB c.author.toList = true
 note : c.note.size ≤ 200
 ops : c.ops.length ≤ 2000
 right : ∀ j, j < c.ops.length → rightI c.ops ((j : Int) + 1) = 0
theorem mayI_ok {c : ComD} (h : mayI c = 0) : MayOk c := by
 unfold mayI at h
 split at h
 ·
  simp at h
 split at h
 ·
  simp at h
 split at h
 ·
  simp at h
 split at h
 ·
  simp at h
 split at h
 ·
  simp at h
 rename_i h1 h2 h3 h4 h5
 exact ⟨by omega, by simpa using h2, by simpa using h3, by omega, by omega, fun j hj => opsErrFrom_zero c.ops _ 0 h j om_ om_⟩
theorem mayOk_i {c : ComD} (h : MayOk c) : mayI c = 0 := by
 have h1 := h.parents
 have h4 := h.note
 have h5 := h.ops
 rw [mayI, if_neg om_, if_neg (by simp [h.rising]), if_neg (by simp [h.author]), if_neg om_, if_neg om_]
 exact opsErr_end h.right
theorem MayOk.name {c : ComD} (h : MayOk c) : c.author.size ≤ 24 := by
 have := h.author
 simp only [nameB, Bool.and_eq_true, decide_eq_true_eq, toList_length] at this
 omega
theorem MayOk.right' {c : ComD} (h : MayOk c) {j : Nat} {x : OpD} (hx : c.ops[j]? = some x) : rightX c.ops ((j : Int) + 1) x = 0 := by
 have hj := (List.getElem?_eq_some_iff.1 hx).1
 have := h.right j hj
 rwa [rightI_of om_ (by rw [show ((j : Int) + 1 - 1).toNat = j by omega]; exact hx)] at this
theorem rightX_zero {l : List OpD} {i : Int} {x : OpD} (h : rightX l i x = 0) : refB x.at_ = true ∧ ¬ (x.kind = 1 ∧ x.left = true ∧ rootB x.at_ = true) ∧ ¬ (x.kind = 2 ∧ (x.left = true ∨ (x.byte.toNat : Int) ≠ 0 ∨ rootB x.at_ = true)) ∧ (x.kind = 1 ∨ x.kind = 2) ∧ (x.at_.own = true → x.at_.n < i ∧ kindAt l (x.at_.n - 1).toNat = 1) := by
 unfold rightX at h
 split at h
 ·
  simp at h
 split at h
 ·
  simp at h
 split at h
 ·
  simp at h
 split at h
 ·
  simp at h
 split at h
 ·
  simp at h
 rename_i h1 h2 h3 h4 h5
 refine ⟨by simpa using h1, h2, h3, by omega, fun ho => ?_⟩
 have h6 := not_or.1 (fun e => h5 ⟨ho, e⟩)
 exact ⟨by omega, Decidable.not_not.1 h6.2⟩
theorem MayOk.n {c : ComD} (h : MayOk c) {x : OpD} (hx : x ∈ c.ops) : 0 ≤ x.at_.n ∧ x.at_.n ≤ 2000 := by
 obtain ⟨j, hj⟩ := List.mem_iff_getElem?.1 hx
 have hjl := (List.getElem?_eq_some_iff.1 hj).1
 have ho := h.ops
 obtain ⟨h1, _, _, _, h5⟩ := rightX_zero (h.right' hj)
 unfold refB at h1
 split at h1
 ·
  rename_i hown
  have := (h5 hown).1
  simp at h1
  omega
 ·
  simp only [Bool.or_eq_true, root_iff, Bool.and_eq_true, decide_eq_true_eq] at h1
  rcases h1 with h1 | h1 <;> omega
def gn : Nat → Nat → List UInt8 → Except Int (Nat × Nat)
 | _, _, [] => .error 8
 | i, s, x :: r => if 128 ≤ x.toNat ∧ i + 1 = 9 then .error 9 else if x.toNat = 0 ∧ 0 < i then .error 7 else
  if 128 ≤ x.toNat then gn (i + 1) (s + x.toNat % 128 * 128 ^ i) r else .ok (s + x.toNat % 128 * 128 ^ i, i + 1)
def gnum (bs : List UInt8) (at_ : Nat) : Except Int (Nat × Nat) := match gn 0 0 (bs.drop at_) with
 | .error e => .error e
 | .ok (n, k) => .ok (n, at_ + k)
def gtext (bs : List UInt8) (at_ : Nat) : Except Int (List UInt8 × Nat) := match gnum bs at_ with
 | .error e => .error e
 | .ok (n, nx) => if 131072 < n then .error 3 else if bs.length < nx + n then .error 8 else .ok ((bs.drop nx).take n, nx + n)
def gN (bs : List UInt8) (at_ : Nat) : Int := match gnum bs at_ with | .error _ => 0 | .ok (n, _) => (n : Int)
end Go.Pl
namespace Go.Pl
end Go.Pl
namespace Go.Pl
open Go.Fw
def gdig (bs : List UInt8) (at_ : Nat) : Except Int (Dig × Nat) := if h : at_ + 32 ≤ bs.length then .ok (⟨(bs.drop at_).take 32, by rw [List.length_take, List.length_drop]; omega⟩, at_ + 32) else .error 8
def gopD (bs : List UInt8) (n at_ : Nat) : Except Int (Dig × Nat) := if 8 ≤ n then gdig bs at_ else .ok (Dig.zero, at_)
def gopN (bs : List UInt8) (n at_ : Nat) : Except Int (Nat × Nat) := if 4 ≤ n then (match gnum bs at_ with
 | .error e => .error e
 | .ok (k, a) => if k = 0 then .error 7 else .ok (k, a)) else .ok (0, at_)
def gopB (bs : List UInt8) (n at_ : Nat) : Except Int (UInt8 × Nat) := if n % 2 = 0 then (match bs[at_]? with
 | some b => .ok (b, at_ + 1)
 | none => .error 8) else .ok (0, at_)
def gop (bs : List UInt8) (at_ : Nat) : Except Int (OpD × Nat) := match gnum bs at_ with
 | .error e => .error e
 | .ok (n, a1) => if 12 ≤ n then .error 7 else match gopD bs n a1 with
  | .error e => .error e
  | .ok (d, a2) => match gopN bs n a2 with
   | .error e => .error e
   | .ok (k, a3) => match gopB bs n a3 with
    | .error e => .error e
    | .ok (b, a4) => .ok (⟨if n % 2 = 0 then 1 else 2, decide (n / 2 % 2 = 1), ⟨decide (n / 4 = 1), d, (k : Int)⟩, b⟩, a4)
def gmany {α : Type} (f : List UInt8 → Nat → Except Int (α × Nat)) (bs : List UInt8) : Nat → Nat → Except Int (List α × Nat)
 | 0, at_ => .ok ([], at_)
 | k + 1, at_ => match f bs at_ with
  | .error e => .error e
  | .ok (x, a) => match gmany f bs k a with
   | .error e => .error e
   | .ok (xs, a') => .ok (x :: xs, a')
def gcom (b : List UInt8) : Except Int (ComD × Nat) := match gnum b 0 with
 | .error e => .error e
 | .ok (n, a1) => if 8 < n then .error 4 else match gmany gdig b n a1 with
  | .error e => .error e
  | .ok (ps, a2) => match gtext b a2 with
   | .error e => .error e
   | .ok (au, a3) => match gtext b a3 with
    | .error e => .error e
    | .ok (no, a4) => match gnum b a4 with
     | .error e => .error e
     | .ok (m, a5) => if 2000 < m then .error 4 else match gmany gop b m a5 with
      | .error e => .error e
      | .ok (ops, a6) => .ok (⟨ps, bs au, bs no, ops⟩, a6)
def decI (b : List UInt8) : Except Int ComD := match gcom b with
 | .error e => .error e
 | .ok (c, a) => if a ≠ b.length then .error 7 else if mayI c ≠ 0 then .error (mayI c) else .ok c
end Go.Pl
/- What is a Ref, an operation's root: commit.root, commit.ref, and the reference's Ref, walked; which digest comes first. No condition. -/
namespace Go.Proofs.YtmehkigmnpjcjaaDoor
open Go.RowKit Go.Fw Go.Pl
theorem root_any (r : RefD) (w : World) : Calls Tryd.prog 63 #[refV r] w (Ret fun v w' => v = .bool (rootB r) ∧ Ext w w') := by
 refine calls_of_CW 6 [2] [(0, refV r)] Tryd.func63 rfl rfl rfl (by simp) args1 ?_
 refine CW.sr fun K1 hK1 => ?_
 refine WL.box rfl rfl de_ fun g1 w1 hx1 hg1 hB1 => ?_
 have hM1 := hB1.mem
 refine WL.a rfl ?_
 refine WL.nil (hK1 _ _ ?_); try clear hK1
 refine CW.sr fun K2 hK2 => ?_
 refine WL.v (Y.load Tryd.underlying60 rfl hM1 (sz_apiRef _) rfl) ?_
 refine WL.v (Y.build0 (build_apiRef _)) ?_
 refine WL.v (Y.eql_apiRef rfl rfl) ?_
 refine WL.a rfl ?_
 refine WL.nil (hK2 _ _ ?_); try clear hK2
 refine CW.ret ⟨_, rfl, ?_⟩
 exact ⟨rfl, hx1⟩
theorem ref_any (r : RefD) (w : World) : Calls Tryd.prog 73 #[refV r] w (Ret fun v w' => v = .bool (refB r) ∧ Ext w w') := by
 refine calls_of_CW 26 [2] [(0, refV r)] Tryd.func73 rfl rfl rfl (by simp) args1 ?_
 refine CW.sr fun K1 hK1 => ?_
 refine WL.box rfl rfl de_ fun g1 w1 hx1 hg1 hB1 => ?_
 have hM1 := hB1.mem
 refine WL.a rfl ?_
 refine WL.nil (hK1 _ _ ?_); try clear hK1
 refine CW.seq fun K2 hK2 => ?_
 refine CW.block ?_
 refine CW.sr fun K3 hK3 => ?_
 refine WL.v (Y.fieldAddr fo_apiRef0 rfl) ?_
 refine WL.v (Y.load1 Tryd.underlying4 rfl hM1.ref0 rfl) ?_
 refine WL.a rfl ?_
 refine WL.nil (hK3 _ _ ?_); try clear hK3
 (first | refine cd_ rfl ?_ ?_ | refine ce_ rfl ?_ ?_ | refine cn_ rfl ?_ ?_ | refine cb_ rfl ?_ ?_) <;> intro ht4
 ·
  -- then
  refine CW.sr fun K5 hK5 => ?_
  refine WL.v (Y.fieldAddr fo_apiRef1 rfl) ?_
  refine WL.v (Y.load Tryd.underlying36 rfl hM1.ref1 (sz_apiDigest _) rfl) ?_
  refine WL.v (Y.build0 (build_apiDigest _)) ?_
  refine WL.v (Y.eql_apiDigest rfl rfl) ?_
  refine WL.m rfl ?_
  (first | refine WL.casesD (d := 10) rfl ?_ ?_ | refine WL.casesND (d := 10) rfl ?_ ?_ | refine WL.cases (d := 10) rfl ?_ ?_) <;> intro hg10
  ·
   -- t10 = T
   refine WL.g rfl rfl (Y.fieldAddr fo_apiRef2 rfl) ?_
   refine WL.g rfl rfl (Y.load1 Tryd.underlying3 rfl hM1.ref2 rfl) ?_
   refine WL.g rfl rfl (Y.gtr rfl rfl) ?_
   refine WL.v (Y.pick rfl rfl) ?_
   refine WL.a rfl ?_
   refine WL.nil (hK5 _ _ ?_); try clear hK5
   refine CW.ret ⟨_, rfl, ?_⟩
   exact ⟨by first | (simp_all [refB, rootB, refKind]; done) | (simp_all [refB, rootB, refKind]; omega), hx1⟩
  ·
   -- t10 = F
   refine WL.o rfl rfl ?_
   refine WL.o rfl rfl ?_
   refine WL.o rfl rfl ?_
   refine WL.v (Y.pick rfl rfl) ?_
   refine WL.a rfl ?_
   refine WL.nil (hK5 _ _ ?_); try clear hK5
   refine CW.ret ⟨_, rfl, ?_⟩
   exact ⟨by first | (simp_all [refB, rootB, refKind]; done) | (simp_all [refB, rootB, refKind]; omega), hx1⟩
 refine CW.sr fun K6 hK6 => ?_
 refine WL.v (Y.load Tryd.underlying60 rfl hM1 (sz_apiRef _) rfl) ?_
 refine WL.call Tryd.func63 rfl rfl rfl (root_any _ _) (by simp) ?_; rintro v w2 ⟨rfl, hx2⟩; have hM1 := hM1.ext hx2
 refine WL.a rfl ?_
 refine WL.nil (hK6 _ _ ?_); try clear hK6
 (first | refine cd_ rfl ?_ ?_ | refine ce_ rfl ?_ ?_ | refine cn_ rfl ?_ ?_ | refine cb_ rfl ?_ ?_) <;> intro ht7
 ·
  -- then
  refine CW.sr fun K8 hK8 => ?_
  refine WL.a rfl ?_
  refine WL.nil (hK8 _ _ ?_); try clear hK8
  refine CW.ret ⟨_, rfl, ?_⟩
  exact ⟨by first | (simp_all [refB, rootB, refKind]; done) | (simp_all [refB, rootB, refKind]; omega), (hx1.thenExt hx2)⟩
 refine CW.skip ?_
 refine hK2 _ _ ?_; try clear hK2
 refine CW.sr fun K9 hK9 => ?_
 refine WL.v (Y.fieldAddr fo_apiRef2 rfl) ?_
 refine WL.v (Y.load1 Tryd.underlying3 rfl hM1.ref2 rfl) ?_
 refine WL.v (Y.gtr rfl rfl) ?_
 refine WL.m rfl ?_
 (first | refine WL.casesD (d := 21) rfl ?_ ?_ | refine WL.casesND (d := 21) rfl ?_ ?_ | refine WL.cases (d := 21) rfl ?_ ?_) <;> intro hg21
 ·
  -- t21 = T
  refine WL.g rfl rfl (Y.fieldAddr fo_apiRef2 rfl) ?_
  refine WL.g rfl rfl (Y.load1 Tryd.underlying3 rfl hM1.ref2 rfl) ?_
  refine WL.g rfl rfl (Y.leq rfl rfl) ?_
  refine WL.v (Y.pick rfl rfl) ?_
  refine WL.a rfl ?_
  refine WL.nil (hK9 _ _ ?_); try clear hK9
  refine CW.ret ⟨_, rfl, ?_⟩
  exact ⟨by first | (simp_all [refB, rootB, refKind]; done) | (simp_all [refB, rootB, refKind]; omega), (hx1.thenExt hx2)⟩
 ·
  -- t21 = F
  refine WL.o rfl rfl ?_
  refine WL.o rfl rfl ?_
  refine WL.o rfl rfl ?_
  refine WL.v (Y.pick rfl rfl) ?_
  refine WL.a rfl ?_
  refine WL.nil (hK9 _ _ ?_); try clear hK9
  refine CW.ret ⟨_, rfl, ?_⟩
  exact ⟨by first | (simp_all [refB, rootB, refKind]; done) | (simp_all [refB, rootB, refKind]; omega), (hx1.thenExt hx2)⟩
theorem less_any (a b : Dig) (w : World) : Calls Tryd.prog 58 #[digV a, digV b] w (Ret fun v w' => v = .bool (lessB a b) ∧ Ext w w') := by
 refine calls_of_CW 13 [4] [(0, digV a), (1, digV b)] Tryd.func58 rfl rfl rfl (by simp) args2 ?_
 refine CW.sr fun K1 hK1 => ?_
 refine WL.box rfl rfl de_ fun g2 w1 hx1 hg2 hB2 => ?_
 have hM2 := hB2.mem
 refine WL.box rfl rfl de_ fun g3 w2 hx2 hg3 hB3 => ?_
 have hM3 := hB3.mem; have hM2 := hM2.ext hx2
 refine WL.a rfl ?_
 refine WL.nil (hK1 _ _ ?_); try clear hK1
 refine CW.seq fun K2 hK2 => ?_
 refine CW.sr fun K3 hK3 => ?_
 refine WL.v (Y.load Tryd.underlying36 rfl hM2 (sz_apiDigest _) rfl) ?_
 refine WL.v (Y.load Tryd.underlying36 rfl hM3 (sz_apiDigest _) rfl) ?_
 refine WL.v (Y.eql_apiDigest rfl rfl) ?_
 refine WL.nil (hK3 _ _ ?_); try clear hK3
 (first | refine cd_ rfl ?_ ?_ | refine ce_ rfl ?_ ?_ | refine cn_ rfl ?_ ?_ | refine cb_ rfl ?_ ?_) <;> intro ht4
 ·
  -- then
  refine CW.sr fun K5 hK5 => ?_
  refine WL.a rfl ?_
  refine WL.nil (hK5 _ _ ?_); try clear hK5
  refine CW.ret ⟨_, rfl, ?_⟩
  exact ⟨by simp_all [lessB, bytesLess_self], hx1.thenExt hx2⟩
 refine CW.skip ?_
 refine hK2 _ _ ?_; try clear hK2
 refine CW.seq fun K6 hK6 => ?_
 refine CW.quiet (fun wq => Ext w2 wq) kr_ kr_ Chg.drew ?_
 refine QL.v (fun wq hq => Y.slice_arr Tryd.underlying36 rfl sz_uint8) ?_
 refine QL.v (fun wq hq => Y.bytes_string Tryd.underlying69 Tryd.underlying5 Tryd.underlying9 rfl (l := a.1) a.2 (fun _ => ⟨_, rfl, hM2.ext hq⟩) (fun h => by cases h)) ?_
 refine QL.v (fun wq hq => Y.slice_arr Tryd.underlying36 rfl sz_uint8) ?_
 refine QL.v (fun wq hq => Y.bytes_string Tryd.underlying69 Tryd.underlying5 Tryd.underlying9 rfl (l := b.1) b.2 (fun _ => ⟨_, rfl, hM3.ext hq⟩) (fun h => by cases h)) ?_
 refine QL.v (fun wq hq => Y.lss_string rfl rfl) ?_
 refine QL.a rfl ?_
 refine QL.nil fun w3 hx3 => ?_
 have hM2 := hM2.ext hx3
 have hM3 := hM3.ext hx3
 refine hK6 _ _ ?_; try clear hK6
 refine CW.ret ⟨_, rfl, ?_⟩
 exact ⟨by simp [lessB, bs_toList], (hx1.thenExt hx2).thenExt hx3⟩
end Go.Proofs.YtmehkigmnpjcjaaDoor
/- strings.IndexByte's contract, laid by the shelf at this program, in plain words. No condition. -/
namespace Go.Proofs.YtmehkigmnpjcjaaDoor
open Go.Shelf
def lays137_ren : Go.Shelf.Ren := ⟨fun | 137 => 26 | 217 => 51 | 266 => 72 | n => n, fun | 9 => 9 | 5 => 5 | 3 => 3 | n => n, fun | n => n⟩
theorem lays137 : Go.Proofs.Lays.n137 Tryd.prog lays137_ren := {
 mixed := by kernel_rfl
 f137 := Tryd.func26.trans (congrArg some (by kernel_rfl))
 f217 := Tryd.func51.trans (congrArg some (by kernel_rfl))
 f266 := Tryd.func72.trans (congrArg some (by kernel_rfl))
 t3 := Tryd.underlying3
 a3 := Tryd.isAgg3
 z3 := Tryd.sizeOf3
 v3 := Tryd.zeroValue3
 t5 := Tryd.underlying5
 a5 := Tryd.isAgg5
 z5 := Tryd.sizeOf5
 v5 := Tryd.zeroValue5
 t9 := Tryd.underlying9
 a9 := Tryd.isAgg9
 z9 := Tryd.sizeOf9
 v9 := Tryd.zeroValue9 }
open Go.RowKit in
theorem strings_IndexByte (s : ByteArray) (c : Int) (w : World) :
  Calls Tryd.prog 26 #[.string s, .int .u8 c] w fun e w' => e = .returned (.int .i64 (Lib.indexByte s.data.toList c.toNat.toUInt8)) ∧ w' = w := Any.strings_IndexByte lays137 s c w
end Go.Proofs.YtmehkigmnpjcjaaDoor
/- Which texts are names: commit.Name and the reference's Name, walked; the reference's order of digests. No condition. -/
namespace Go.Proofs.YtmehkigmnpjcjaaDoor
open Go.RowKit Go.Fw Go.Pl
theorem name_any (s : ByteArray) (w : World) (hs : s.size ≤ maxLen) : Calls Tryd.prog 15 #[.string s] w (Ret fun v w' => v = .bool (nameB s.toList) ∧ Ext w w') := by
 unfold maxLen at hs
 have hsl := toList_length s
 refine calls_of_CW 23 [2] [(0, .string s)] Tryd.func15 rfl rfl rfl (by simp) args1 ?_
 refine CW.sr fun K1 hK1 => ?_
 refine WL.a rfl ?_
 refine WL.nil (hK1 _ _ ?_); try clear hK1
 refine CW.seq fun K2 hK2 => ?_
 refine CW.sr fun K3 hK3 => ?_
 refine WL.m rfl ?_
 refine WL.v (Y.len_string Tryd.underlying9 rfl) ?_
 refine WL.m rfl ?_
 refine WL.nil (hK3 _ _ ?_); try clear hK3
 refine CW.block ?_
 refine CW.loop (X := Nat) (fun x => [(0, .string s), (5, .int .i64 (s.size : Int)), (6, .int .i64 (x : Int))]) (fun x w0 => x ≤ s.size ∧ (s.toList.take x).all letter = true ∧ Ext w w0) (fun x => s.size - x) 0 (Fr.le.cons rfl (Fr.le.cons rfl (Fr.le.cons rfl Fr.le.nil))) ⟨by omega, by simp, Chg.refl⟩ ?_
 intro x w1 hl1
 obtain ⟨hi, hall, hL1⟩ := hl1
 refine CW.sr fun K4 hK4 => ?_
 refine WL.v (Y.lss rfl rfl) ?_
 refine WL.nil (hK4 _ _ ?_); try clear hK4
 refine CW.seq fun K5 hK5 => ?_
 (first | refine cd_ rfl ?_ ?_ | refine ce_ rfl ?_ ?_ | refine cn_ rfl ?_ ?_ | refine cb_ rfl ?_ ?_) <;> intro ht6
 ·
  -- then
  refine CW.skip ?_
  refine hK5 _ _ ?_; try clear hK5
  refine CW.seq fun K7 hK7 => ?_
  refine CW.block ?_
  refine CW.sr fun K8 hK8 => ?_
  refine WL.m rfl ?_
  refine WL.a rfl ?_
  refine WL.nil (hK8 _ _ ?_); try clear hK8
  refine CW.sr fun K9 hK9 => ?_
  refine WL.m rfl ?_
  refine WL.m rfl ?_
  refine WL.v (Y.index_string Tryd.underlying9 rfl rfl om_) ?_
  refine WL.call Tryd.func26 rfl rfl rfl (ret_of (strings_IndexByte _ _ _)) (by simp) ?_; rintro v w2 ⟨rfl, hx2⟩
  refine WL.v (Y.lss rfl rfl) ?_
  refine WL.nil (hK9 _ _ ?_); try clear hK9
  (first | refine cd_ rfl ?_ ?_ | refine ce_ rfl ?_ ?_ | refine cn_ rfl ?_ ?_ | refine cb_ rfl ?_ ?_) <;> intro ht10
  ·
   -- then
   refine CW.sr fun K11 hK11 => ?_
   refine WL.a rfl ?_
   refine WL.nil (hK11 _ _ ?_); try clear hK11
   refine CW.ret ⟨_, rfl, ?_⟩
   refine ⟨?_, (hL1.thenExt hx2)⟩
   rw [nameB_no (get_toList (i := x) om_) ((letter_index _).1 (by have h := ht10; simp at h; exact h))]
  refine CW.skip ?_
  refine hK7 _ _ ?_; try clear hK7
  refine CW.region ?_
  refine WL.v (Y.add rfl rfl o2_) ?_
  refine WL.m rfl ?_
  refine WL.nil ?_
  refine ⟨x + 1, by omega, (Fr.le.cons rfl (Fr.le.cons rfl (Fr.le.cons rfl Fr.le.nil))), by omega, ?_, (hL1.thenExt hx2)⟩
  refine all_take_succ hall (get_toList om_) ?_
  have h := (not_congr (letter_index s[x])).1 (by have h := ht10; simp at h; exact Int.not_lt.2 h)
  simpa using h
 refine CW.exit ?_
 refine hK2 _ _ ?_; try clear hK2
 refine CW.sr fun K12 hK12 => ?_
 refine WL.m rfl ?_
 refine WL.v (Y.len_string Tryd.underlying9 rfl) ?_
 refine WL.v (Y.geq rfl rfl) ?_
 refine WL.m rfl ?_
 (first | refine WL.casesD (d := 18) rfl ?_ ?_ | refine WL.casesND (d := 18) rfl ?_ ?_ | refine WL.cases (d := 18) rfl ?_ ?_) <;> intro hg18
 ·
  -- t18 = T
  refine WL.g rfl rfl (Y.move rfl) ?_
  refine WL.g rfl rfl (Y.len_string Tryd.underlying9 rfl) ?_
  refine WL.g rfl rfl (Y.leq rfl rfl) ?_
  refine WL.v (Y.pick rfl rfl) ?_
  refine WL.a rfl ?_
  refine WL.nil (hK12 _ _ ?_); try clear hK12
  refine CW.ret ⟨_, rfl, ?_⟩
  exact ⟨by rw [nameB_end hall om_, hsl]; congr 1; rw [Bool.eq_iff_iff]; simp; omega, hL1⟩
 ·
  -- t18 = F
  refine WL.o rfl rfl ?_
  refine WL.o rfl rfl ?_
  refine WL.o rfl rfl ?_
  refine WL.v (Y.pick rfl rfl) ?_
  refine WL.a rfl ?_
  refine WL.nil (hK12 _ _ ?_); try clear hK12
  refine CW.ret ⟨_, rfl, ?_⟩
  exact ⟨by rw [nameB_end hall om_, hsl]; congr 1; rw [Bool.eq_iff_iff]; simp; omega, hL1⟩
end Go.Proofs.YtmehkigmnpjcjaaDoor
/- What is wrong with an operation: commit.Right and the reference's Right, walked; the reference's Name. No condition. -/
namespace Go.Proofs.YtmehkigmnpjcjaaDoor
open Go.RowKit Go.Fw Go.Pl
theorem right_any (lv : Value) (l : List OpD) (i : Int) (w : World) (hl : Sl w opC 37 lv l) (hi : InI64 i) : Calls Tryd.prog 57 #[lv, .int .i64 i] w (Ret fun v w' => v = .int .i64 (rightI l i) ∧ Ext w w') := by
 obtain ⟨A, m, c, rfl, hm, hmc, hcm, hls⟩ := hl
 unfold maxLen at hcm
 refine calls_of_CW 69 [4] [(0, .slice A m c), (1, .int .i64 i)] Tryd.func57 rfl rfl rfl (by simp) args2 ?_
 refine CW.sr fun K1 hK1 => ?_
 refine WL.a rfl ?_
 refine WL.nil (hK1 _ _ ?_); try clear hK1
 refine CW.seq fun K2 hK2 => ?_
 refine CW.seq_test 13 (i < 1 ∨ (m : Int) < i) ?_ ?_
 ·
  refine CW.region ?_
  refine WL.m rfl ?_
  refine WL.v (Y.lss rfl rfl) ?_
  refine WL.m rfl ?_
  (first | refine WL.casesD (d := 8) rfl ?_ ?_ | refine WL.casesND (d := 8) rfl ?_ ?_ | refine WL.cases (d := 8) rfl ?_ ?_) <;> intro hg8
  ·
   -- t8 = T
   refine WL.o rfl rfl ?_
   refine WL.o rfl rfl ?_
   refine WL.o rfl rfl ?_
   refine WL.o rfl rfl ?_
   refine WL.v (Y.pick rfl rfl) ?_
   refine WL.nil ⟨⟨_, rfl, ?_⟩, rfl, Fr.okp⟩
   exact tst_ok
  ·
   -- t8 = F
   refine WL.g rfl rfl (Y.move rfl) ?_
   refine WL.g rfl rfl (Y.move rfl) ?_
   refine WL.g rfl rfl (Y.len_slice Tryd.underlying27 rfl) ?_
   refine WL.g rfl rfl (Y.gtr rfl rfl) ?_
   refine WL.v (Y.pick rfl rfl) ?_
   refine WL.nil ⟨⟨_, rfl, ?_⟩, rfl, Fr.okp⟩
   exact tst_ok
 (first | refine cd_ rfl ?_ ?_ | refine ce_ rfl ?_ ?_ | refine cn_ rfl ?_ ?_ | refine cb_ rfl ?_ ?_) <;> intro ht3
 ·
  -- then
  refine CW.sr fun K4 hK4 => ?_
  refine WL.a rfl ?_
  refine WL.nil (hK4 _ _ ?_); try clear hK4
  refine CW.ret ⟨_, rfl, ?_⟩
  exact ⟨by rw [rightI, if_pos (by rw [hm]; exact ht3)], Chg.refl⟩
 refine CW.skip ?_
 refine hK2 _ _ ?_; try clear hK2
 refine CW.seq fun K5 hK5 => ?_
 have hlo : ¬ (i < 1 ∨ (m : Int) < i) := ht3
 obtain ⟨x, hx⟩ : ∃ x, l[(i - 1).toNat]? = some x := ⟨_, List.getElem?_eq_getElem om_⟩
 obtain ⟨ad, rfl, hmx⟩ := hls _ x hx
 have hval : rightI l i = rightX l i x := rightI_of (by rw [hm]; exact hlo) hx
 refine CW.region ?_
 refine WL.m rfl ?_
 refine WL.m rfl ?_
 refine WL.v (Y.sub rfl rfl o2_) ?_
 refine WL.v (Y.indexAddr Tryd.underlying27 rfl rfl sz0_apiOp om_ om_) ?_
 refine WL.v (Y.load Tryd.underlying62 rfl hmx (sz_apiOp _) rfl) ?_
 refine as_apiOp rfl (by simp) de_ fun g5 w1 hx1 hg5 hB5 => ?_
 have hM5 := hB5.mem
 refine WL.nil (hK5 _ _ ?_); try clear hK5
 refine CW.seq fun K6 hK6 => ?_
 refine CW.sr fun K7 hK7 => ?_
 refine WL.v (Y.fieldAddr fo_apiOp2 rfl) ?_
 refine WL.v (Y.load Tryd.underlying60 rfl hM5.op2 (sz_apiRef _) rfl) ?_
 refine WL.call Tryd.func73 rfl rfl rfl ((ref_any _ _)) (by simp) ?_; rintro v w2 ⟨rfl, hx2⟩; have hM5 := hM5.ext hx2
 refine WL.v (Y.not rfl) ?_
 refine WL.nil (hK7 _ _ ?_); try clear hK7
 (first | refine cd_ rfl ?_ ?_ | refine ce_ rfl ?_ ?_ | refine cn_ rfl ?_ ?_ | refine cb_ rfl ?_ ?_) <;> intro ht8
 ·
  -- then
  refine CW.sr fun K9 hK9 => ?_
  refine WL.a rfl ?_
  refine WL.nil (hK9 _ _ ?_); try clear hK9
  refine CW.ret ⟨_, rfl, ?_⟩
  exact ⟨by rw [hval]; first | (simp_all [rightX]; done) | (simp_all [rightX]; omega), (hx1.thenExt hx2)⟩
 refine CW.skip ?_
 refine hK6 _ _ ?_; try clear hK6
 refine CW.seq_join (fun w0 => Ext w2 w0 ∧ (¬ (x.kind = 1 ∧ (x.left = true ∧ rootB x.at_ = true)) ∧ ¬ (x.kind = 2 ∧ (x.left = true ∨ (x.byte.toNat : Int) ≠ 0 ∨ rootB x.at_ = true)) ∧ ¬ (x.kind ≠ 1 ∧ x.kind ≠ 2))) ?_ ?_
 ·
  skip
  refine CW.sr fun K11 hK11 => ?_
  refine WL.v (Y.fieldAddr fo_apiOp0 rfl) ?_
  refine WL.v (Y.load1 Tryd.underlying3 rfl hM5.op0 rfl) ?_
  refine WL.nil (hK11 _ _ ?_); try clear hK11
  refine CW.block ?_
  refine CW.sr fun K12 hK12 => ?_
  refine WL.v (Y.eql rfl rfl) ?_
  refine WL.a rfl ?_
  refine WL.nil (hK12 _ _ ?_); try clear hK12
  (first | refine cd_ rfl ?_ ?_ | refine ce_ rfl ?_ ?_ | refine cn_ rfl ?_ ?_ | refine cb_ rfl ?_ ?_) <;> intro ht13
  ·
   -- then
   refine CW.seq_testE 33 (x.left = true ∧ rootB x.at_ = true) ?_ ?_
   ·
    refine CW.region ?_
    refine WL.v (Y.fieldAddr fo_apiOp1 rfl) ?_
    refine WL.v (Y.load1 Tryd.underlying4 rfl hM5.op1 rfl) ?_
    refine WL.m rfl ?_
    (first | refine WL.casesD (d := 29) rfl ?_ ?_ | refine WL.casesND (d := 29) rfl ?_ ?_ | refine WL.cases (d := 29) rfl ?_ ?_) <;> intro hg29
    ·
     -- t29 = T
     refine WL.g rfl rfl (Y.fieldAddr fo_apiOp2 rfl) ?_
     refine WL.g rfl rfl (Y.load Tryd.underlying60 rfl hM5.op2 (sz_apiRef _) rfl) ?_
     refine WL.gcall rfl rfl Tryd.func63 rfl rfl rfl ((root_any _ _)) de_ ?_; rintro v w3 ⟨rfl, hx3⟩; have hM5 := hM5.ext hx3
     refine WL.v (Y.pick rfl rfl) ?_
     refine WL.nil ⟨⟨_, rfl, ?_⟩, hx3, Fr.okp⟩
     exact tst_ok
    ·
     -- t29 = F
     refine WL.o rfl rfl ?_
     refine WL.o rfl rfl ?_
     refine WL.o rfl rfl ?_
     refine WL.v (Y.pick rfl rfl) ?_
     refine WL.nil ⟨⟨_, rfl, ?_⟩, Chg.refl, Fr.okp⟩
     exact tst_ok
   intro w4 hx4; have hM5 := hM5.ext hx4
   (first | refine cd_ rfl ?_ ?_ | refine ce_ rfl ?_ ?_ | refine cn_ rfl ?_ ?_ | refine cb_ rfl ?_ ?_) <;> intro ht14
   ·
    -- then
    refine CW.sr fun K15 hK15 => ?_
    refine WL.a rfl ?_
    refine WL.nil (hK15 _ _ ?_); try clear hK15
    refine CW.ret ⟨_, rfl, ?_⟩
    exact ⟨by rw [hval]; first | (simp_all [rightX]; done) | (simp_all [rightX]; omega), ((hx1.thenExt hx2).thenExt hx4)⟩
   refine CW.skip ?_
   exact ⟨Fr.okp, hx4, (by first | (simp_all; done) | (simp_all; omega))⟩
  refine CW.sr fun K16 hK16 => ?_
  refine WL.v (Y.eql rfl rfl) ?_
  refine WL.a rfl ?_
  refine WL.nil (hK16 _ _ ?_); try clear hK16
  (first | refine cd_ rfl ?_ ?_ | refine ce_ rfl ?_ ?_ | refine cn_ rfl ?_ ?_ | refine cb_ rfl ?_ ?_) <;> intro ht17
  ·
   -- then
   refine CW.seq_testE 47 (x.left = true ∨ (x.byte.toNat : Int) ≠ 0 ∨ rootB x.at_ = true) ?_ ?_
   ·
    refine CW.region ?_
    refine WL.v (Y.fieldAddr fo_apiOp1 rfl) ?_
    refine WL.v (Y.load1 Tryd.underlying4 rfl hM5.op1 rfl) ?_
    refine WL.m rfl ?_
    (first | refine WL.casesD (d := 38) rfl ?_ ?_ | refine WL.casesND (d := 38) rfl ?_ ?_ | refine WL.cases (d := 38) rfl ?_ ?_) <;> intro hg38
    ·
     -- t38 = T
     refine WL.o rfl rfl ?_
     refine WL.o rfl rfl ?_
     refine WL.o rfl rfl ?_
     refine WL.v (Y.pick rfl rfl) ?_
     refine WL.m rfl ?_
     refine WL.o rfl rfl ?_
     refine WL.o rfl rfl ?_
     refine WL.o rfl rfl ?_
     refine WL.v (Y.pick rfl rfl) ?_
     refine WL.nil ⟨⟨_, rfl, ?_⟩, Chg.refl, Fr.okp⟩
     exact tst_ok
    ·
     -- t38 = F
     refine WL.g rfl rfl (Y.fieldAddr fo_apiOp3 rfl) ?_
     refine WL.g rfl rfl (Y.load1 Tryd.underlying5 rfl hM5.op3 rfl) ?_
     refine WL.g rfl rfl (Y.neq rfl rfl) ?_
     refine WL.v (Y.pick rfl rfl) ?_
     refine WL.m rfl ?_
     (first | refine WL.casesD (d := 43) rfl ?_ ?_ | refine WL.casesND (d := 43) rfl ?_ ?_ | refine WL.cases (d := 43) rfl ?_ ?_) <;> intro hg43
     ·
      -- t43 = T
      refine WL.o rfl rfl ?_
      refine WL.o rfl rfl ?_
      refine WL.o rfl rfl ?_
      refine WL.v (Y.pick rfl rfl) ?_
      refine WL.nil ⟨⟨_, rfl, ?_⟩, Chg.refl, Fr.okp⟩
      exact tst_ok
     ·
      -- t43 = F
      refine WL.g rfl rfl (Y.fieldAddr fo_apiOp2 rfl) ?_
      refine WL.g rfl rfl (Y.load Tryd.underlying60 rfl hM5.op2 (sz_apiRef _) rfl) ?_
      refine WL.gcall rfl rfl Tryd.func63 rfl rfl rfl ((root_any _ _)) de_ ?_; rintro v w5 ⟨rfl, hx5⟩; have hM5 := hM5.ext hx5
      refine WL.v (Y.pick rfl rfl) ?_
      refine WL.nil ⟨⟨_, rfl, ?_⟩, hx5, Fr.okp⟩
      exact tst_ok
   intro w6 hx6; have hM5 := hM5.ext hx6
   (first | refine cd_ rfl ?_ ?_ | refine ce_ rfl ?_ ?_ | refine cn_ rfl ?_ ?_ | refine cb_ rfl ?_ ?_) <;> intro ht18
   ·
    -- then
    refine CW.sr fun K19 hK19 => ?_
    refine WL.a rfl ?_
    refine WL.nil (hK19 _ _ ?_); try clear hK19
    refine CW.ret ⟨_, rfl, ?_⟩
    exact ⟨by rw [hval]; first | (simp_all [rightX]; done) | (simp_all [rightX]; omega), ((hx1.thenExt hx2).thenExt hx6)⟩
   refine CW.skip ?_
   exact ⟨Fr.okp, hx6, (by first | (simp_all; done) | (simp_all; omega))⟩
  refine CW.sr fun K20 hK20 => ?_
  refine WL.a rfl ?_
  refine WL.nil (hK20 _ _ ?_); try clear hK20
  refine CW.ret ⟨_, rfl, ?_⟩
  exact ⟨by rw [hval]; first | (simp_all [rightX]; done) | (simp_all [rightX]; omega), (hx1.thenExt hx2)⟩
 rintro w7 ⟨hx7, hj7⟩; have hM5 := hM5.ext hx7
 refine CW.seq fun K21 hK21 => ?_
 refine CW.seq_test 68 (x.at_.own = true ∧ (i ≤ x.at_.n ∨ kindAt l (x.at_.n - 1).toNat ≠ 1)) ?_ ?_
 ·
  refine CW.region ?_
  refine WL.v (Y.fieldAddr fo_apiOp2 rfl) ?_
  refine WL.v (Y.fieldAddr fo_apiRef0 rfl) ?_
  refine WL.v (Y.load1 Tryd.underlying4 rfl hM5.op2.ref0 rfl) ?_
  refine WL.m rfl ?_
  (first | refine WL.casesD (d := 51) rfl ?_ ?_ | refine WL.casesND (d := 51) rfl ?_ ?_ | refine WL.cases (d := 51) rfl ?_ ?_) <;> intro hg51
  ·
   -- t51 = T
   refine WL.g rfl rfl (Y.fieldAddr fo_apiOp2 rfl) ?_
   refine WL.g rfl rfl (Y.fieldAddr fo_apiRef2 rfl) ?_
   refine WL.g rfl rfl (Y.load1 Tryd.underlying3 rfl hM5.op2.ref2 rfl) ?_
   refine WL.g rfl rfl (Y.move rfl) ?_
   refine WL.g rfl rfl (Y.geq rfl rfl) ?_
   refine WL.g rfl rfl (Y.move rfl) ?_
   (first | refine WL.casesD (d := 57) rfl ?_ ?_ | refine WL.casesND (d := 57) rfl ?_ ?_ | refine WL.cases (d := 57) rfl ?_ ?_) <;> intro hg57
   ·
    -- t57 = T
    refine WL.o rfl rfl ?_
    refine WL.o rfl rfl ?_
    refine WL.o rfl rfl ?_
    refine WL.o rfl rfl ?_
    refine WL.o rfl rfl ?_
    refine WL.o rfl rfl ?_
    refine WL.o rfl rfl ?_
    refine WL.o rfl rfl ?_
    refine WL.o rfl rfl ?_
    refine WL.g rfl rfl (Y.pick rfl rfl) ?_
    refine WL.v (Y.pick rfl rfl) ?_
    refine WL.nil ⟨⟨_, rfl, ?_⟩, rfl, Fr.okp⟩
    exact tst_ok
   ·
    -- t57 = F
    refine WL.g rfl rfl (Y.move rfl) ?_
    refine WL.g rfl rfl (Y.fieldAddr fo_apiOp2 rfl) ?_
    refine WL.g rfl rfl (Y.fieldAddr fo_apiRef2 rfl) ?_
    refine WL.g rfl rfl (Y.load1 Tryd.underlying3 rfl hM5.op2.ref2 rfl) ?_
    have hn : 0 < x.at_.n := by first | (have h1 := (rk1 x.at_).1 (by assumption); simp [refB, h1.1] at h1; exact h1.2) | (simp_all [refB]; done)
    obtain ⟨y, hy⟩ : ∃ y, l[(x.at_.n - 1).toNat]? = some y := ⟨_, List.getElem?_eq_getElem om_⟩
    obtain ⟨ad', e, hmy⟩ := hls _ y hy
    injection e with e; subst e
    have hk : kindAt l (x.at_.n - 1).toNat = y.kind := by rw [kindAt, hy]; rfl
    refine WL.g rfl rfl (Y.sub rfl rfl o2_) ?_
    refine WL.g rfl rfl (Y.indexAddr Tryd.underlying27 rfl rfl sz0_apiOp om_ om_) ?_
    refine WL.g rfl rfl (Y.fieldAddr fo_apiOp0 rfl) ?_
    refine WL.g rfl rfl (Y.load1 Tryd.underlying3 rfl (hmy.ext ((hx1.thenExt hx2).thenExt hx7)).op0 rfl) ?_
    refine WL.g rfl rfl (Y.neq rfl rfl) ?_
    refine WL.g rfl rfl (Y.pick rfl rfl) ?_
    refine WL.v (Y.pick rfl rfl) ?_
    refine WL.nil ⟨⟨_, rfl, ?_⟩, rfl, Fr.okp⟩
    exact tst_ok
  ·
   -- t51 = F
   refine WL.o rfl rfl ?_
   refine WL.o rfl rfl ?_
   refine WL.o rfl rfl ?_
   refine WL.o rfl rfl ?_
   refine WL.o rfl rfl ?_
   refine WL.o rfl rfl ?_
   refine WL.goffU rfl rfl de_ ?_
   refine WL.goffU rfl rfl de_ ?_
   refine WL.goffU rfl rfl de_ ?_
   refine WL.goffU rfl rfl de_ ?_
   refine WL.goffU rfl rfl de_ ?_
   refine WL.goffU rfl rfl de_ ?_
   refine WL.goffU rfl rfl de_ ?_
   refine WL.goffU rfl rfl de_ ?_
   refine WL.goffU rfl rfl de_ ?_
   refine WL.o rfl rfl ?_
   refine WL.v (Y.pick rfl rfl) ?_
   refine WL.nil ⟨⟨_, rfl, ?_⟩, rfl, Fr.okp⟩
   exact tst_ok
 (first | refine cd_ rfl ?_ ?_ | refine ce_ rfl ?_ ?_ | refine cn_ rfl ?_ ?_ | refine cb_ rfl ?_ ?_) <;> intro ht22
 ·
  -- then
  refine CW.sr fun K23 hK23 => ?_
  refine WL.a rfl ?_
  refine WL.nil (hK23 _ _ ?_); try clear hK23
  refine CW.ret ⟨_, rfl, ?_⟩
  exact ⟨by rw [hval, rightX, if_neg (by simp [ht8]), if_neg hj7.1, if_neg hj7.2.1, if_neg hj7.2.2, if_pos (by assumption)], ((hx1.thenExt hx2).thenExt hx7)⟩
 refine CW.skip ?_
 refine hK21 _ _ ?_; try clear hK21
 refine CW.sr fun K24 hK24 => ?_
 refine WL.a rfl ?_
 refine WL.nil (hK24 _ _ ?_); try clear hK24
 refine CW.ret ⟨_, rfl, ?_⟩
 exact ⟨by rw [hval, rightX, if_neg (by simp [ht8]), if_neg hj7.1, if_neg hj7.2.1, if_neg hj7.2.2, if_neg (by assumption)], ((hx1.thenExt hx2).thenExt hx7)⟩
end Go.Proofs.YtmehkigmnpjcjaaDoor
