/- Parts of a proof: what its last text leans on. No condition. -/
import Derived.Shelf.Small.Strs
import Derived.Shelf.Strings.Search1
import Derived.Test.YtfanmpbapabboaaGreatDoorProg
import Derived.Test.YtfanmpbapabboaaGreatDoorK03
set_option linter.unusedSimpArgs false
set_option linter.unusedVariables false
/- The plain law of a commit's bytes. No condition; no program. -/
namespace Go.Pl
open Go.Fw
def vi (n : Nat) : List UInt8 := if n < 128 then [UInt8.ofNat n] else UInt8.ofNat (n % 128 + 128) :: vi (n / 128)
termination_by n
theorem vi_lt {n : Nat} (h : n < 128) : vi n = [UInt8.ofNat n] := by rw [vi, if_pos h]
theorem vi_ge {n : Nat} (h : ¬ n < 128) : vi n = UInt8.ofNat (n % 128 + 128) :: vi (n / 128) := by rw [vi, if_neg h]
theorem vi_len : ∀ (k n : Nat), n < 128 ^ (k + 1) → (vi n).length ≤ k + 1
 | k, n, h => by
  by_cases h1 : n < 128
  ·
   rw [vi_lt h1]; simp
  ·
   rw [vi_ge h1]
   cases k with
   | zero => simp at h; omega
   | succ k =>
    have h2 : n / 128 < 128 ^ (k + 1) := by
     rw [Nat.pow_succ] at h
     exact Nat.div_lt_of_lt_mul (by rw [Nat.mul_comm]; exact h)
    have := vi_len k (n / 128) h2
    simp only [List.length_cons]
    omega
theorem vi_len9 {n : Nat} (h : n < 9223372036854775808) : (vi n).length ≤ 9 := vi_len 8 n om_
theorem vi_pos (n : Nat) : 0 < (vi n).length := by rw [vi]; split <;> simp
def numB (n : Int) : List UInt8 := if n < 0 then [] else vi n.toNat
theorem numB_len {n : Int} (h : n < 9223372036854775808) : (numB n).length ≤ 9 := by
 unfold numB
 split
 ·
  simp
 ·
  exact vi_len9 om_
theorem numB_nat (n : Nat) : numB (n : Int) = vi n := by rw [numB, if_neg om_]; rfl
def textB (s : List UInt8) : List UInt8 := vi s.length ++ s
def flagI (x : OpD) : Int := (if x.kind = 2 then 1 else 0) + (if x.left = true then 2 else 0) + (if x.at_.own = true then 4 else if rootB x.at_ = true then 0 else 8)
def opB (x : OpD) : List UInt8 := (if x.at_.own = true then numB (flagI x) ++ numB x.at_.n else if rootB x.at_ = true then numB (flagI x) else numB (flagI x) ++ x.at_.c.1 ++ numB x.at_.n) ++ (if x.kind = 1 then [x.byte] else [])
def comB (c : ComD) : List UInt8 := vi c.parents.length ++ (c.parents.map (·.1)).flatten ++ textB c.author.toList ++ textB c.note.toList ++ vi c.ops.length ++ (c.ops.map opB).flatten
theorem opsErrFrom_zero (l : List OpD) : ∀ (n i : Nat), opsErrFrom l i n = 0 → ∀ j, i ≤ j → j < i + n → rightI l (j + 1) = 0
 | 0, i, _, j, h1, h2 => by omega
 | n + 1, i, h, j, h1, h2 => by
  rw [opsErrFrom] at h
  split at h
  ·
   rename_i hne; exact absurd h hne
  ·
   rename_i hne
   simp only [ne_eq, Decidable.not_not] at hne
   rcases Nat.eq_or_lt_of_le h1 with rfl | h1
   ·
    exact hne
   ·
    exact opsErrFrom_zero l n (i + 1) h j om_ om_
structure MayOk (c : ComD) : Prop where
 parents : c.parents.length ≤ 8
 rising : risingB c.parents = true
 author : nameB c.author.toList = true
 note : c.note.size ≤ 200
 ops : c.ops.length ≤ 2000
 right : ∀ j, j < c.ops.length → rightI c.ops ((j : Int) + 1) = 0
theorem mayI_ok {c : ComD} (h : mayI c = 0) : MayOk c := by
 unfold mayI at h
 split at h
 ·
  simp at h
 split at h
 ·
  simp at h
 split at h
 ·
  simp at h
 split at h
 ·
  simp at h
 split at h
 ·
  simp at h
 rename_i h1 h2 h3 h4 h5
 exact ⟨by omega, by simpa using h2, by simpa using h3, by omega, by omega, fun j hj => opsErrFrom_zero c.ops _ 0 h j om_ om_⟩
theorem MayOk.name {c : ComD} (h : MayOk c) : c.author.size ≤ 24 := by
 have := h.author
 simp only [nameB, Bool.and_eq_true, decide_eq_true_eq, toList_length] at this
 omega
theorem MayOk.right' {c : ComD} (h : MayOk c) {j : Nat} {x : OpD} (hx : c.ops[j]? = some x) : rightX c.ops ((j : Int) + 1) x = 0 := by
 have hj := (List.getElem?_eq_some_iff.1 hx).1
 have := h.right j hj
 rwa [rightI_of om_ (by rw [show ((j : Int) + 1 - 1).toNat = j by omega]; exact hx)] at this
theorem rightX_zero {l : List OpD} {i : Int} {x : OpD} (h : rightX l i x = 0) : refB x.at_ = true ∧ ¬ (x.kind = 1 ∧ x.left = true ∧ rootB x.at_ = true) ∧ ¬ (x.kind = 2 ∧ (x.left = true ∨ (x.byte.toNat : Int) ≠ 0 ∨ rootB x.at_ = true)) ∧ (x.kind = 1 ∨ x.kind = 2) ∧ (x.at_.own = true → x.at_.n < i ∧ kindAt l (x.at_.n - 1).toNat = 1) := by
 unfold rightX at h
 split at h
 ·
  simp at h
 split at h
 ·
  simp at h
 split at h
 ·
  simp at h
 split at h
 ·
  simp at h
 split at h
 ·
  simp at h
 rename_i h1 h2 h3 h4 h5
 refine ⟨by simpa using h1, h2, h3, by omega, fun ho => ?_⟩
 have h6 := not_or.1 (fun e => h5 ⟨ho, e⟩)
 exact ⟨by omega, Decidable.not_not.1 h6.2⟩
theorem MayOk.n {c : ComD} (h : MayOk c) {x : OpD} (hx : x ∈ c.ops) : 0 ≤ x.at_.n ∧ x.at_.n ≤ 2000 := by
 obtain ⟨j, hj⟩ := List.mem_iff_getElem?.1 hx
 have hjl := (List.getElem?_eq_some_iff.1 hj).1
 have ho := h.ops
 obtain ⟨h1, _, _, _, h5⟩ := rightX_zero (h.right' hj)
 unfold refB at h1
 split at h1
 ·
  rename_i hown
  have := (h5 hown).1
  simp at h1
  omega
 ·
  simp only [Bool.or_eq_true, root_iff, Bool.and_eq_true, decide_eq_true_eq] at h1
  rcases h1 with h1 | h1 <;> omega
def gn : Nat → Nat → List UInt8 → Except Int (Nat × Nat)
 | _, _, [] => .error 8
 | i, s, x :: r => if 128 ≤ x.toNat ∧ i + 1 = 9 then .error 9 else if x.toNat = 0 ∧ 0 < i then .error 7 else
  if 128 ≤ x.toNat then gn (i + 1) (s + x.toNat % 128 * 128 ^ i) r else .ok (s + x.toNat % 128 * 128 ^ i, i + 1)
def gnum (bs : List UInt8) (at_ : Nat) : Except Int (Nat × Nat) := match gn 0 0 (bs.drop at_) with
 | .error e => .error e
 | .ok (n, k) => .ok (n, at_ + k)
def gtext (bs : List UInt8) (at_ : Nat) : Except Int (List UInt8 × Nat) := match gnum bs at_ with
 | .error e => .error e
 | .ok (n, nx) => if 131072 < n then .error 3 else if bs.length < nx + n then .error 8 else .ok ((bs.drop nx).take n, nx + n)
theorem gn_len : ∀ (l : List UInt8) (i s n k : Nat), gn i s l = .ok (n, k) → i < k ∧ k ≤ i + l.length
 | [], i, s, n, k, h => by cases h
 | x :: r, i, s, n, k, h => by
  rw [gn] at h
  split at h
  ·
   cases h
  split at h
  ·
   cases h
  split at h
  ·
   have := gn_len r _ _ _ _ h
   simp only [List.length_cons]; omega
  ·
   injection h with h; injection h with h1 h2
   simp only [List.length_cons]; omega
theorem gnum_len {bs : List UInt8} {at_ n nx : Nat} (h : gnum bs at_ = .ok (n, nx)) (ha : at_ ≤ bs.length) : at_ < nx ∧ nx ≤ bs.length := by
 unfold gnum at h
 split at h
 ·
  cases h
 ·
  rename_i n' k hk
  injection h with h; injection h with h1 h2
  have := gn_len _ _ _ _ _ hk
  rw [List.length_drop] at this
  omega
theorem gtext_len {bs : List UInt8} {at_ nx : Nat} {t : List UInt8} (h : gtext bs at_ = .ok (t, nx)) (ha : at_ ≤ bs.length) : at_ < nx ∧ nx ≤ bs.length ∧ t.length ≤ 131072 := by
 unfold gtext at h
 split at h
 ·
  cases h
 ·
  rename_i n k hk
  have := gnum_len hk ha
  split at h
  ·
   cases h
  split at h
  ·
   cases h
  injection h with h; injection h with h1 h2
  subst h1
  rw [List.length_take, List.length_drop]
  omega
def gE (bs : List UInt8) (at_ : Nat) : Int := match gnum bs at_ with | .error e => e | .ok _ => 0
def gN (bs : List UInt8) (at_ : Nat) : Int := match gnum bs at_ with | .error _ => 0 | .ok (n, _) => (n : Int)
def gX (bs : List UInt8) (at_ : Nat) : Int := match gnum bs at_ with | .error _ => 0 | .ok (_, x) => (x : Int)
theorem gn_err : ∀ (l : List UInt8) (i s : Nat) (e : Int), gn i s l = .error e → e ≠ 0
 | [], i, s, e, h => by injection h with h; omega
 | x :: r, i, s, e, h => by
  rw [gn] at h
  split at h
  ·
   injection h with h; omega
  split at h
  ·
   injection h with h; omega
  split at h
  ·
   exact gn_err r _ _ _ h
  ·
   cases h
theorem gnum_err {bs : List UInt8} {at_ : Nat} {e : Int} (h : gnum bs at_ = .error e) : e ≠ 0 := by
 unfold gnum at h
 split at h
 ·
  rename_i e' he; injection h with h; subst h; exact gn_err _ _ _ _ he
 ·
  cases h
theorem gE_zero {bs : List UInt8} {at_ : Nat} (h : gE bs at_ = 0) : ∃ n nx, gnum bs at_ = .ok (n, nx) ∧ gN bs at_ = (n : Int) ∧ gX bs at_ = (nx : Int) := by
 unfold gE at h
 split at h
 ·
  rename_i e he; exact absurd h (gnum_err he)
 ·
  rename_i p hp
  exact ⟨p.1, p.2, hp, by simp only [gN, hp], by simp only [gX, hp]⟩
theorem gE_ne {bs : List UInt8} {at_ : Nat} (h : gE bs at_ ≠ 0) : gnum bs at_ = .error (gE bs at_) ∧ gN bs at_ = 0 ∧ gX bs at_ = 0 := by
 cases hg : gnum bs at_ with
 | error e => simp only [gE, gN, gX, hg]; exact ⟨trivial, trivial, trivial⟩
 | ok p => simp only [gE, hg] at h; exact absurd rfl h
def gtE (bs : List UInt8) (at_ : Nat) : Int := match gtext bs at_ with | .error e => e | .ok _ => 0
def gtT (bs : List UInt8) (at_ : Nat) : List UInt8 := match gtext bs at_ with | .error _ => [] | .ok (t, _) => t
def gtX (bs : List UInt8) (at_ : Nat) : Int := match gtext bs at_ with | .error _ => 0 | .ok (_, x) => (x : Int)
theorem gtext_err {bs : List UInt8} {at_ : Nat} {e : Int} (h : gtext bs at_ = .error e) : e ≠ 0 := by
 unfold gtext at h
 split at h
 ·
  rename_i e' he; injection h with h; subst h; exact gnum_err he
 ·
  split at h
  ·
   injection h with h; omega
  split at h
  ·
   injection h with h; omega
  ·
   cases h
theorem gtE_zero {bs : List UInt8} {at_ : Nat} (h : gtE bs at_ = 0) : ∃ t nx, gtext bs at_ = .ok (t, nx) ∧ gtT bs at_ = t ∧ gtX bs at_ = (nx : Int) := by
 unfold gtE at h
 split at h
 ·
  rename_i e he; exact absurd h (gtext_err he)
 ·
  rename_i p hp
  exact ⟨p.1, p.2, hp, by simp only [gtT, hp], by simp only [gtX, hp]⟩
theorem gtE_ne {bs : List UInt8} {at_ : Nat} (h : gtE bs at_ ≠ 0) : gtext bs at_ = .error (gtE bs at_) := by
 cases hg : gtext bs at_ with
 | error e => simp only [gtE, hg]
 | ok p => simp only [gtE, hg] at h; exact absurd rfl h
theorem gt_of_error {bs : List UInt8} {at_ : Nat} {e : Int} (h : gtext bs at_ = .error e) : gtE bs at_ = e ∧ gtT bs at_ = [] ∧ gtX bs at_ = 0 := by simp only [gtE, gtT, gtX, h]; exact ⟨trivial, trivial, trivial⟩
theorem gt_of_ok {bs t : List UInt8} {at_ nx : Nat} (h : gtext bs at_ = .ok (t, nx)) : gtE bs at_ = 0 ∧ gtT bs at_ = t ∧ gtX bs at_ = (nx : Int) := by simp only [gtE, gtT, gtX, h]; exact ⟨trivial, trivial, trivial⟩
end Go.Pl
namespace Go.Pl
theorem gtext_bad {bs : List UInt8} {at_ : Nat} {e : Int} (h : gnum bs at_ = .error e) : gtext bs at_ = .error e := by unfold gtext; rw [h]
theorem gtext_num {bs : List UInt8} {at_ n nx : Nat} (h : gnum bs at_ = .ok (n, nx)) : gtext bs at_ = if 131072 < n then .error 3 else if bs.length < nx + n then .error 8 else .ok ((bs.drop nx).take n, nx + n) := by unfold gtext; rw [h]
end Go.Pl
namespace Go.Pl
open Go.Fw
def gdig (bs : List UInt8) (at_ : Nat) : Except Int (Dig × Nat) := if h : at_ + 32 ≤ bs.length then .ok (⟨(bs.drop at_).take 32, by rw [List.length_take, List.length_drop]; omega⟩, at_ + 32) else .error 8
def gopD (bs : List UInt8) (n at_ : Nat) : Except Int (Dig × Nat) := if 8 ≤ n then gdig bs at_ else .ok (Dig.zero, at_)
def gopN (bs : List UInt8) (n at_ : Nat) : Except Int (Nat × Nat) := if 4 ≤ n then (match gnum bs at_ with
 | .error e => .error e
 | .ok (k, a) => if k = 0 then .error 7 else .ok (k, a)) else .ok (0, at_)
def gopB (bs : List UInt8) (n at_ : Nat) : Except Int (UInt8 × Nat) := if n % 2 = 0 then (match bs[at_]? with
 | some b => .ok (b, at_ + 1)
 | none => .error 8) else .ok (0, at_)
def gop (bs : List UInt8) (at_ : Nat) : Except Int (OpD × Nat) := match gnum bs at_ with
 | .error e => .error e
 | .ok (n, a1) => if 12 ≤ n then .error 7 else match gopD bs n a1 with
  | .error e => .error e
  | .ok (d, a2) => match gopN bs n a2 with
   | .error e => .error e
   | .ok (k, a3) => match gopB bs n a3 with
    | .error e => .error e
    | .ok (b, a4) => .ok (⟨if n % 2 = 0 then 1 else 2, decide (n / 2 % 2 = 1), ⟨decide (n / 4 = 1), d, (k : Int)⟩, b⟩, a4)
def gmany {α : Type} (f : List UInt8 → Nat → Except Int (α × Nat)) (bs : List UInt8) : Nat → Nat → Except Int (List α × Nat)
 | 0, at_ => .ok ([], at_)
 | k + 1, at_ => match f bs at_ with
  | .error e => .error e
  | .ok (x, a) => match gmany f bs k a with
   | .error e => .error e
   | .ok (xs, a') => .ok (x :: xs, a')
def gcom (b : List UInt8) : Except Int (ComD × Nat) := match gnum b 0 with
 | .error e => .error e
 | .ok (n, a1) => if 8 < n then .error 4 else match gmany gdig b n a1 with
  | .error e => .error e
  | .ok (ps, a2) => match gtext b a2 with
   | .error e => .error e
   | .ok (au, a3) => match gtext b a3 with
    | .error e => .error e
    | .ok (no, a4) => match gnum b a4 with
     | .error e => .error e
     | .ok (m, a5) => if 2000 < m then .error 4 else match gmany gop b m a5 with
      | .error e => .error e
      | .ok (ops, a6) => .ok (⟨ps, bs au, bs no, ops⟩, a6)
def decI (b : List UInt8) : Except Int ComD := match gcom b with
 | .error e => .error e
 | .ok (c, a) => if a ≠ b.length then .error 7 else if mayI c ≠ 0 then .error (mayI c) else .ok c
end Go.Pl
/- What is a Ref, an operation's root: commit.root, commit.ref, and the reference's Ref, walked; which digest comes first. No condition. -/
namespace Go.Proofs.YtfanmpbapabboaaGreatDoor
open Go.RowKit Go.Fw Go.Pl
theorem root_any (r : RefD) (w : World) : Calls Tryz.prog 86 #[refV r] w (Ret fun v w' => v = .bool (rootB r) ∧ Ext w w') := by
 refine calls_of_CW 6 [2] [(0, refV r)] Tryz.func86 rfl rfl rfl (by simp) args1 ?_
 refine CW.sr fun K1 hK1 => ?_
 refine WL.box rfl rfl de_ fun g1 w1 hx1 hg1 hB1 => ?_
 have hM1 := hB1.mem
 refine WL.a rfl ?_
 refine WL.nil (hK1 _ _ ?_); try clear hK1
 refine CW.sr fun K2 hK2 => ?_
 refine WL.v (Y.load Tryz.underlying87 rfl hM1 (sz_apiRef _) rfl) ?_
 refine WL.v (Y.build0 (build_apiRef _)) ?_
 refine WL.v (Y.eql_apiRef rfl rfl) ?_
 refine WL.a rfl ?_
 refine WL.nil (hK2 _ _ ?_); try clear hK2
 refine CW.ret ⟨_, rfl, ?_⟩
 exact ⟨rfl, hx1⟩
theorem ref_any (r : RefD) (w : World) : Calls Tryz.prog 85 #[refV r] w (Ret fun v w' => v = .bool (refB r) ∧ Ext w w') := by
 refine calls_of_CW 26 [2] [(0, refV r)] Tryz.func85 rfl rfl rfl (by simp) args1 ?_
 refine CW.sr fun K1 hK1 => ?_
 refine WL.box rfl rfl de_ fun g1 w1 hx1 hg1 hB1 => ?_
 have hM1 := hB1.mem
 refine WL.a rfl ?_
 refine WL.nil (hK1 _ _ ?_); try clear hK1
 refine CW.seq fun K2 hK2 => ?_
 refine CW.block ?_
 refine CW.sr fun K3 hK3 => ?_
 refine WL.v (Y.fieldAddr fo_apiRef0 rfl) ?_
 refine WL.v (Y.load1 Tryz.underlying4 rfl hM1.ref0 rfl) ?_
 refine WL.a rfl ?_
 refine WL.nil (hK3 _ _ ?_); try clear hK3
 (first | refine cd_ rfl ?_ ?_ | refine ce_ rfl ?_ ?_ | refine cn_ rfl ?_ ?_ | refine cb_ rfl ?_ ?_) <;> intro ht4
 ·
  -- then
  refine CW.sr fun K5 hK5 => ?_
  refine WL.v (Y.fieldAddr fo_apiRef1 rfl) ?_
  refine WL.v (Y.load Tryz.underlying38 rfl hM1.ref1 (sz_apiDigest _) rfl) ?_
  refine WL.v (Y.build0 (build_apiDigest _)) ?_
  refine WL.v (Y.eql_apiDigest rfl rfl) ?_
  refine WL.m rfl ?_
  (first | refine WL.casesD (d := 10) rfl ?_ ?_ | refine WL.casesND (d := 10) rfl ?_ ?_ | refine WL.cases (d := 10) rfl ?_ ?_) <;> intro hg10
  ·
   -- t10 = T
   refine WL.g rfl rfl (Y.fieldAddr fo_apiRef2 rfl) ?_
   refine WL.g rfl rfl (Y.load1 Tryz.underlying3 rfl hM1.ref2 rfl) ?_
   refine WL.g rfl rfl (Y.gtr rfl rfl) ?_
   refine WL.v (Y.pick rfl rfl) ?_
   refine WL.a rfl ?_
   refine WL.nil (hK5 _ _ ?_); try clear hK5
   refine CW.ret ⟨_, rfl, ?_⟩
   exact ⟨by first | (simp_all [refB, rootB, refKind]; done) | (simp_all [refB, rootB, refKind]; omega), hx1⟩
  ·
   -- t10 = F
   refine WL.o rfl rfl ?_
   refine WL.o rfl rfl ?_
   refine WL.o rfl rfl ?_
   refine WL.v (Y.pick rfl rfl) ?_
   refine WL.a rfl ?_
   refine WL.nil (hK5 _ _ ?_); try clear hK5
   refine CW.ret ⟨_, rfl, ?_⟩
   exact ⟨by first | (simp_all [refB, rootB, refKind]; done) | (simp_all [refB, rootB, refKind]; omega), hx1⟩
 refine CW.sr fun K6 hK6 => ?_
 refine WL.v (Y.load Tryz.underlying87 rfl hM1 (sz_apiRef _) rfl) ?_
 refine WL.call Tryz.func86 rfl rfl rfl (root_any _ _) (by simp) ?_; rintro v w2 ⟨rfl, hx2⟩; have hM1 := hM1.ext hx2
 refine WL.a rfl ?_
 refine WL.nil (hK6 _ _ ?_); try clear hK6
 (first | refine cd_ rfl ?_ ?_ | refine ce_ rfl ?_ ?_ | refine cn_ rfl ?_ ?_ | refine cb_ rfl ?_ ?_) <;> intro ht7
 ·
  -- then
  refine CW.sr fun K8 hK8 => ?_
  refine WL.a rfl ?_
  refine WL.nil (hK8 _ _ ?_); try clear hK8
  refine CW.ret ⟨_, rfl, ?_⟩
  exact ⟨by first | (simp_all [refB, rootB, refKind]; done) | (simp_all [refB, rootB, refKind]; omega), (hx1.thenExt hx2)⟩
 refine CW.skip ?_
 refine hK2 _ _ ?_; try clear hK2
 refine CW.sr fun K9 hK9 => ?_
 refine WL.v (Y.fieldAddr fo_apiRef2 rfl) ?_
 refine WL.v (Y.load1 Tryz.underlying3 rfl hM1.ref2 rfl) ?_
 refine WL.v (Y.gtr rfl rfl) ?_
 refine WL.m rfl ?_
 (first | refine WL.casesD (d := 21) rfl ?_ ?_ | refine WL.casesND (d := 21) rfl ?_ ?_ | refine WL.cases (d := 21) rfl ?_ ?_) <;> intro hg21
 ·
  -- t21 = T
  refine WL.g rfl rfl (Y.fieldAddr fo_apiRef2 rfl) ?_
  refine WL.g rfl rfl (Y.load1 Tryz.underlying3 rfl hM1.ref2 rfl) ?_
  refine WL.g rfl rfl (Y.leq rfl rfl) ?_
  refine WL.v (Y.pick rfl rfl) ?_
  refine WL.a rfl ?_
  refine WL.nil (hK9 _ _ ?_); try clear hK9
  refine CW.ret ⟨_, rfl, ?_⟩
  exact ⟨by first | (simp_all [refB, rootB, refKind]; done) | (simp_all [refB, rootB, refKind]; omega), (hx1.thenExt hx2)⟩
 ·
  -- t21 = F
  refine WL.o rfl rfl ?_
  refine WL.o rfl rfl ?_
  refine WL.o rfl rfl ?_
  refine WL.v (Y.pick rfl rfl) ?_
  refine WL.a rfl ?_
  refine WL.nil (hK9 _ _ ?_); try clear hK9
  refine CW.ret ⟨_, rfl, ?_⟩
  exact ⟨by first | (simp_all [refB, rootB, refKind]; done) | (simp_all [refB, rootB, refKind]; omega), (hx1.thenExt hx2)⟩
theorem rRef_any (r : RefD) (w : World) : Calls Tryz.prog 76 #[refV r] w (Ret fun v w' => v = .int .i64 (refKind r) ∧ Ext w w') := by
 refine calls_of_CW 31 [2] [(0, refV r)] Tryz.func76 rfl rfl rfl (by simp) args1 ?_
 refine CW.sr fun K1 hK1 => ?_
 refine WL.box rfl rfl de_ fun g1 w1 hx1 hg1 hB1 => ?_
 have hM1 := hB1.mem
 refine WL.a rfl ?_
 refine WL.nil (hK1 _ _ ?_); try clear hK1
 refine CW.seq fun K2 hK2 => ?_
 refine CW.sr fun K3 hK3 => ?_
 refine WL.v (Y.fieldAddr fo_apiRef0 rfl) ?_
 refine WL.v (Y.load1 Tryz.underlying4 rfl hM1.ref0 rfl) ?_
 refine WL.nil (hK3 _ _ ?_); try clear hK3
 (first | refine cd_ rfl ?_ ?_ | refine ce_ rfl ?_ ?_ | refine cn_ rfl ?_ ?_ | refine cb_ rfl ?_ ?_) <;> intro ht4
 ·
  -- then
  refine CW.seq fun K5 hK5 => ?_
  refine CW.seq_test 13 (r.c ≠ Dig.zero ∨ r.n < 1) ?_ ?_
  ·
   refine CW.region ?_
   refine WL.v (Y.fieldAddr fo_apiRef1 rfl) ?_
   refine WL.v (Y.load Tryz.underlying38 rfl hM1.ref1 (sz_apiDigest _) rfl) ?_
   refine WL.v (Y.build0 (build_apiDigest _)) ?_
   refine WL.v (Y.neq_apiDigest rfl rfl) ?_
   refine WL.m rfl ?_
   (first | refine WL.casesD (d := 9) rfl ?_ ?_ | refine WL.casesND (d := 9) rfl ?_ ?_ | refine WL.cases (d := 9) rfl ?_ ?_) <;> intro hg9
   ·
    -- t9 = T
    refine WL.o rfl rfl ?_
    refine WL.o rfl rfl ?_
    refine WL.o rfl rfl ?_
    refine WL.v (Y.pick rfl rfl) ?_
    refine WL.nil ⟨⟨_, rfl, ?_⟩, rfl, Fr.okp⟩
    exact tst_ok
   ·
    -- t9 = F
    refine WL.g rfl rfl (Y.fieldAddr fo_apiRef2 rfl) ?_
    refine WL.g rfl rfl (Y.load1 Tryz.underlying3 rfl hM1.ref2 rfl) ?_
    refine WL.g rfl rfl (Y.lss rfl rfl) ?_
    refine WL.v (Y.pick rfl rfl) ?_
    refine WL.nil ⟨⟨_, rfl, ?_⟩, rfl, Fr.okp⟩
    exact tst_ok
  (first | refine cd_ rfl ?_ ?_ | refine ce_ rfl ?_ ?_ | refine cn_ rfl ?_ ?_ | refine cb_ rfl ?_ ?_) <;> intro ht6
  ·
   -- then
   refine CW.sr fun K7 hK7 => ?_
   refine WL.a rfl ?_
   refine WL.nil (hK7 _ _ ?_); try clear hK7
   refine CW.ret ⟨_, rfl, ?_⟩
   exact ⟨by simp only [refKind]; (repeat' split) <;> first | rfl | (simp_all; done) | (simp_all; omega), hx1⟩
  refine CW.skip ?_
  refine hK5 _ _ ?_; try clear hK5
  refine CW.sr fun K8 hK8 => ?_
  refine WL.a rfl ?_
  refine WL.nil (hK8 _ _ ?_); try clear hK8
  refine CW.ret ⟨_, rfl, ?_⟩
  exact ⟨by simp only [refKind]; (repeat' split) <;> first | rfl | (simp_all; done) | (simp_all; omega), hx1⟩
 refine CW.skip ?_
 refine hK2 _ _ ?_; try clear hK2
 refine CW.seq fun K9 hK9 => ?_
 refine CW.seq_test 21 (1 ≤ r.n ∧ r.n ≤ 2000) ?_ ?_
 ·
  refine CW.region ?_
  refine WL.v (Y.fieldAddr fo_apiRef2 rfl) ?_
  refine WL.v (Y.load1 Tryz.underlying3 rfl hM1.ref2 rfl) ?_
  refine WL.v (Y.geq rfl rfl) ?_
  refine WL.m rfl ?_
  (first | refine WL.casesD (d := 17) rfl ?_ ?_ | refine WL.casesND (d := 17) rfl ?_ ?_ | refine WL.cases (d := 17) rfl ?_ ?_) <;> intro hg17
  ·
   -- t17 = T
   refine WL.g rfl rfl (Y.fieldAddr fo_apiRef2 rfl) ?_
   refine WL.g rfl rfl (Y.load1 Tryz.underlying3 rfl hM1.ref2 rfl) ?_
   refine WL.g rfl rfl (Y.leq rfl rfl) ?_
   refine WL.v (Y.pick rfl rfl) ?_
   refine WL.nil ⟨⟨_, rfl, ?_⟩, rfl, Fr.okp⟩
   exact tst_ok
  ·
   -- t17 = F
   refine WL.o rfl rfl ?_
   refine WL.o rfl rfl ?_
   refine WL.o rfl rfl ?_
   refine WL.v (Y.pick rfl rfl) ?_
   refine WL.nil ⟨⟨_, rfl, ?_⟩, rfl, Fr.okp⟩
   exact tst_ok
 (first | refine cd_ rfl ?_ ?_ | refine ce_ rfl ?_ ?_ | refine cn_ rfl ?_ ?_ | refine cb_ rfl ?_ ?_) <;> intro ht10
 ·
  -- then
  refine CW.sr fun K11 hK11 => ?_
  refine WL.a rfl ?_
  refine WL.nil (hK11 _ _ ?_); try clear hK11
  refine CW.ret ⟨_, rfl, ?_⟩
  exact ⟨by simp only [refKind]; (repeat' split) <;> first | rfl | (simp_all; done) | (simp_all; omega), hx1⟩
 refine CW.skip ?_
 refine hK9 _ _ ?_; try clear hK9
 refine CW.seq fun K12 hK12 => ?_
 refine CW.seq_test 30 (r.n = 0 ∧ r.c = Dig.zero) ?_ ?_
 ·
  refine CW.region ?_
  refine WL.v (Y.fieldAddr fo_apiRef2 rfl) ?_
  refine WL.v (Y.load1 Tryz.underlying3 rfl hM1.ref2 rfl) ?_
  refine WL.v (Y.eql rfl rfl) ?_
  refine WL.m rfl ?_
  (first | refine WL.casesD (d := 25) rfl ?_ ?_ | refine WL.casesND (d := 25) rfl ?_ ?_ | refine WL.cases (d := 25) rfl ?_ ?_) <;> intro hg25
  ·
   -- t25 = T
   refine WL.g rfl rfl (Y.fieldAddr fo_apiRef1 rfl) ?_
   refine WL.g rfl rfl (Y.load Tryz.underlying38 rfl hM1.ref1 (sz_apiDigest _) rfl) ?_
   refine WL.g rfl rfl (Y.build0 (build_apiDigest _)) ?_
   refine WL.g rfl rfl (Y.eql_apiDigest rfl rfl) ?_
   refine WL.v (Y.pick rfl rfl) ?_
   refine WL.nil ⟨⟨_, rfl, ?_⟩, rfl, Fr.okp⟩
   exact tst_ok
  ·
   -- t25 = F
   refine WL.o rfl rfl ?_
   refine WL.o rfl rfl ?_
   refine WL.o rfl rfl ?_
   refine WL.o rfl rfl ?_
   refine WL.v (Y.pick rfl rfl) ?_
   refine WL.nil ⟨⟨_, rfl, ?_⟩, rfl, Fr.okp⟩
   exact tst_ok
 (first | refine cd_ rfl ?_ ?_ | refine ce_ rfl ?_ ?_ | refine cn_ rfl ?_ ?_ | refine cb_ rfl ?_ ?_) <;> intro ht13
 ·
  -- then
  refine CW.sr fun K14 hK14 => ?_
  refine WL.a rfl ?_
  refine WL.nil (hK14 _ _ ?_); try clear hK14
  refine CW.ret ⟨_, rfl, ?_⟩
  exact ⟨by simp only [refKind]; (repeat' split) <;> first | rfl | (simp_all; done) | (simp_all; omega), hx1⟩
 refine CW.skip ?_
 refine hK12 _ _ ?_; try clear hK12
 refine CW.sr fun K15 hK15 => ?_
 refine WL.a rfl ?_
 refine WL.nil (hK15 _ _ ?_); try clear hK15
 refine CW.ret ⟨_, rfl, ?_⟩
 exact ⟨by simp only [refKind]; (repeat' split) <;> first | rfl | (simp_all; done) | (simp_all; omega), hx1⟩
theorem less_any (a b : Dig) (w : World) : Calls Tryz.prog 52 #[digV a, digV b] w (Ret fun v w' => v = .bool (lessB a b) ∧ Ext w w') := by
 refine calls_of_CW 13 [4] [(0, digV a), (1, digV b)] Tryz.func52 rfl rfl rfl (by simp) args2 ?_
 refine CW.sr fun K1 hK1 => ?_
 refine WL.box rfl rfl de_ fun g2 w1 hx1 hg2 hB2 => ?_
 have hM2 := hB2.mem
 refine WL.box rfl rfl de_ fun g3 w2 hx2 hg3 hB3 => ?_
 have hM3 := hB3.mem; have hM2 := hM2.ext hx2
 refine WL.a rfl ?_
 refine WL.nil (hK1 _ _ ?_); try clear hK1
 refine CW.seq fun K2 hK2 => ?_
 refine CW.sr fun K3 hK3 => ?_
 refine WL.v (Y.load Tryz.underlying38 rfl hM2 (sz_apiDigest _) rfl) ?_
 refine WL.v (Y.load Tryz.underlying38 rfl hM3 (sz_apiDigest _) rfl) ?_
 refine WL.v (Y.eql_apiDigest rfl rfl) ?_
 refine WL.nil (hK3 _ _ ?_); try clear hK3
 (first | refine cd_ rfl ?_ ?_ | refine ce_ rfl ?_ ?_ | refine cn_ rfl ?_ ?_ | refine cb_ rfl ?_ ?_) <;> intro ht4
 ·
  -- then
  refine CW.sr fun K5 hK5 => ?_
  refine WL.a rfl ?_
  refine WL.nil (hK5 _ _ ?_); try clear hK5
  refine CW.ret ⟨_, rfl, ?_⟩
  exact ⟨by simp_all [lessB, bytesLess_self], hx1.thenExt hx2⟩
 refine CW.skip ?_
 refine hK2 _ _ ?_; try clear hK2
 refine CW.seq fun K6 hK6 => ?_
 refine CW.quiet (fun wq => Ext w2 wq) kr_ kr_ Chg.drew ?_
 refine QL.v (fun wq hq => Y.slice_arr Tryz.underlying38 rfl sz_uint8) ?_
 refine QL.v (fun wq hq => Y.bytes_string Tryz.underlying40 Tryz.underlying5 Tryz.underlying9 rfl (l := a.1) a.2 (fun _ => ⟨_, rfl, hM2.ext hq⟩) (fun h => by cases h)) ?_
 refine QL.v (fun wq hq => Y.slice_arr Tryz.underlying38 rfl sz_uint8) ?_
 refine QL.v (fun wq hq => Y.bytes_string Tryz.underlying40 Tryz.underlying5 Tryz.underlying9 rfl (l := b.1) b.2 (fun _ => ⟨_, rfl, hM3.ext hq⟩) (fun h => by cases h)) ?_
 refine QL.v (fun wq hq => Y.lss_string rfl rfl) ?_
 refine QL.a rfl ?_
 refine QL.nil fun w3 hx3 => ?_
 have hM2 := hM2.ext hx3
 have hM3 := hM3.ext hx3
 refine hK6 _ _ ?_; try clear hK6
 refine CW.ret ⟨_, rfl, ?_⟩
 exact ⟨by simp [lessB, bs_toList], (hx1.thenExt hx2).thenExt hx3⟩
end Go.Proofs.YtfanmpbapabboaaGreatDoor
/- strings.IndexByte's contract, laid by the shelf at this program, in plain words. No condition. -/
namespace Go.Proofs.YtfanmpbapabboaaGreatDoor
open Go.Shelf
def lays137_ren : Go.Shelf.Ren := ⟨fun | 137 => 84 | 217 => 100 | 266 => 107 | n => n, fun | 9 => 9 | 5 => 5 | 3 => 3 | n => n, fun | n => n⟩
theorem lays137 : Go.Proofs.Lays.n137 Tryz.prog lays137_ren := {
 mixed := by kernel_rfl
 f137 := Tryz.func84.trans (congrArg some (by kernel_rfl))
 f217 := Tryz.func100.trans (congrArg some (by kernel_rfl))
 f266 := Tryz.func107.trans (congrArg some (by kernel_rfl))
 t3 := Tryz.underlying3
 a3 := Tryz.isAgg3
 z3 := Tryz.sizeOf3
 v3 := Tryz.zeroValue3
 t5 := Tryz.underlying5
 a5 := Tryz.isAgg5
 z5 := Tryz.sizeOf5
 v5 := Tryz.zeroValue5
 t9 := Tryz.underlying9
 a9 := Tryz.isAgg9
 z9 := Tryz.sizeOf9
 v9 := Tryz.zeroValue9 }
open Go.RowKit in
theorem strings_IndexByte (s : ByteArray) (c : Int) (w : World) :
  Calls Tryz.prog 84 #[.string s, .int .u8 c] w fun e w' => e = .returned (.int .i64 (Lib.indexByte s.data.toList c.toNat.toUInt8)) ∧ w' = w := Any.strings_IndexByte lays137 s c w
end Go.Proofs.YtfanmpbapabboaaGreatDoor
/- Which texts are names: commit.Name and the reference's Name, walked; the reference's order of digests. No condition. -/
namespace Go.Proofs.YtfanmpbapabboaaGreatDoor
open Go.RowKit Go.Fw Go.Pl
theorem rLess_any (a b : Dig) (w : World) : Calls Tryz.prog 33 #[digV a, digV b] w (Ret fun v w' => v = .bool (lessB a b) ∧ Ext w w') := by
 refine calls_of_CW 24 [4] [(0, digV a), (1, digV b)] Tryz.func33 rfl rfl rfl (by simp) args2 ?_
 refine CW.sr fun K1 hK1 => ?_
 refine WL.box rfl rfl de_ fun g2 w1 hx1 hg2 hB2 => ?_
 have hM2 := hB2.mem
 refine WL.box rfl rfl de_ fun g3 w2 hx2 hg3 hB3 => ?_
 have hM3 := hB3.mem; have hM2 := hM2.ext hx2
 refine WL.a rfl ?_
 refine WL.nil (hK1 _ _ ?_); try clear hK1
 refine CW.seq fun K2 hK2 => ?_
 refine CW.sr fun K3 hK3 => ?_
 refine WL.a rfl ?_
 refine WL.nil (hK3 _ _ ?_); try clear hK3
 refine CW.block ?_
 refine CW.loop (X := Nat) (fun x => [(2, .pointer (some ⟨g2, 0, none⟩)), (3, .pointer (some ⟨g3, 0, none⟩)), (5, .int .i64 (x : Int))]) (fun x w0 => x ≤ 32 ∧ a.1.take x = b.1.take x ∧ Ext w w0 ∧ Mem w0 ⟨g2, 0, none⟩ (digC a) ∧ Mem w0 ⟨g3, 0, none⟩ (digC b)) (fun x => 32 - x) 0 (Fr.le.cons rfl (Fr.le.cons rfl (Fr.le.cons rfl Fr.le.nil))) ⟨by omega, rfl, (hx1.thenExt hx2), hM2, hM3⟩ ?_
 intro x w3 hl3
 obtain ⟨hi, htk, hL3, hM2, hM3⟩ := hl3
 have ha := a.2
 have hb := b.2
 refine CW.seq fun K4 hK4 => ?_
 refine CW.sr fun K5 hK5 => ?_
 refine WL.m rfl ?_
 refine WL.v (Y.lss rfl rfl) ?_
 refine WL.nil (hK5 _ _ ?_); try clear hK5
 (first | refine cd_ rfl ?_ ?_ | refine ce_ rfl ?_ ?_ | refine cn_ rfl ?_ ?_ | refine cb_ rfl ?_ ?_) <;> intro ht6
 ·
  -- then
  refine CW.skip ?_
  refine hK4 _ _ ?_; try clear hK4
  refine CW.seq fun K7 hK7 => ?_
  refine CW.block ?_
  refine CW.seq fun K8 hK8 => ?_
  refine CW.quiet (fun wq => Ext w3 wq) kr_ kr_ Chg.drew ?_
  refine QL.m rfl ?_
  refine QL.v (fun wq hq => Y.indexAddrAN Tryz.underlying38 rfl rfl sz0_uint8 om_) ?_
  refine QL.v (fun wq hq => Y.load1 Tryz.underlying5 rfl ((hM2.ext hq).digAt (i := x) om_) rfl) ?_
  refine QL.m rfl ?_
  refine QL.v (fun wq hq => Y.indexAddrAN Tryz.underlying38 rfl rfl sz0_uint8 om_) ?_
  refine QL.v (fun wq hq => Y.load1 Tryz.underlying5 rfl ((hM3.ext hq).digAt (i := x) om_) rfl) ?_
  refine QL.v (fun wq hq => Y.neq rfl rfl) ?_
  refine QL.nil fun w4 hx4 => ?_
  have hM2 := hM2.ext hx4
  have hM3 := hM3.ext hx4
  refine hK8 _ _ ?_; try clear hK8
  (first | refine cd_ rfl ?_ ?_ | refine ce_ rfl ?_ ?_ | refine cn_ rfl ?_ ?_ | refine cb_ rfl ?_ ?_) <;> intro ht9
  ·
   -- then
   refine CW.seq fun K10 hK10 => ?_
   refine CW.quiet (fun wq => Ext w4 wq) kr_ kr_ Chg.drew ?_
   refine QL.m rfl ?_
   refine QL.v (fun wq hq => Y.indexAddrAN Tryz.underlying38 rfl rfl sz0_uint8 om_) ?_
   refine QL.v (fun wq hq => Y.load1 Tryz.underlying5 rfl ((hM2.ext hq).digAt (i := x) om_) rfl) ?_
   refine QL.m rfl ?_
   refine QL.v (fun wq hq => Y.indexAddrAN Tryz.underlying38 rfl rfl sz0_uint8 om_) ?_
   refine QL.v (fun wq hq => Y.load1 Tryz.underlying5 rfl ((hM3.ext hq).digAt (i := x) om_) rfl) ?_
   refine QL.v (fun wq hq => Y.lss rfl rfl) ?_
   refine QL.a rfl ?_
   refine QL.nil fun w5 hx5 => ?_
   have hM2 := hM2.ext hx5
   have hM3 := hM3.ext hx5
   refine hK10 _ _ ?_; try clear hK10
   refine CW.ret ⟨_, rfl, ?_⟩
   refine ⟨?_, ((hL3.thenExt hx4).thenExt hx5)⟩
   have := bytesLess_at (i := x) htk (List.getElem?_eq_getElem om_) (List.getElem?_eq_getElem om_) (fun e => ht9 (by rw [e]))
   rw [lessB, this]
   congr 1
   simp [UInt8.lt_iff_toNat_lt]
  refine CW.skip ?_
  refine hK7 _ _ ?_; try clear hK7
  refine CW.region ?_
  refine WL.m rfl ?_
  refine WL.v (Y.add rfl rfl o2_) ?_
  refine WL.a rfl ?_
  refine WL.nil ?_
  refine ⟨x + 1, by omega, (Fr.le.cons rfl (Fr.le.cons rfl (Fr.le.cons rfl Fr.le.nil))), by omega, ?_, (hL3.thenExt hx4), hM2, hM3⟩
  rw [take_succ (List.getElem?_eq_getElem om_), take_succ (List.getElem?_eq_getElem om_), htk]
  congr 2
  exact UInt8.toNat_inj.1 om_
 refine CW.exit ?_
 refine hK2 _ _ ?_; try clear hK2
 refine CW.sr fun K11 hK11 => ?_
 refine WL.a rfl ?_
 refine WL.nil (hK11 _ _ ?_); try clear hK11
 refine CW.ret ⟨_, rfl, ?_⟩
 refine ⟨?_, hL3⟩
 have : a = b := by
  apply Subtype.ext
  rw [← List.take_of_length_le (l := a.1) (i := x) om_, ← List.take_of_length_le (l := b.1) (i := x) om_, htk]
 simp [this, lessB, bytesLess_self]
theorem name_any (s : ByteArray) (w : World) (hs : s.size ≤ maxLen) : Calls Tryz.prog 69 #[.string s] w (Ret fun v w' => v = .bool (nameB s.toList) ∧ Ext w w') := by
 unfold maxLen at hs
 have hsl := toList_length s
 refine calls_of_CW 23 [2] [(0, .string s)] Tryz.func69 rfl rfl rfl (by simp) args1 ?_
 refine CW.sr fun K1 hK1 => ?_
 refine WL.a rfl ?_
 refine WL.nil (hK1 _ _ ?_); try clear hK1
 refine CW.seq fun K2 hK2 => ?_
 refine CW.sr fun K3 hK3 => ?_
 refine WL.m rfl ?_
 refine WL.v (Y.len_string Tryz.underlying9 rfl) ?_
 refine WL.m rfl ?_
 refine WL.nil (hK3 _ _ ?_); try clear hK3
 refine CW.block ?_
 refine CW.loop (X := Nat) (fun x => [(0, .string s), (5, .int .i64 (s.size : Int)), (6, .int .i64 (x : Int))]) (fun x w0 => x ≤ s.size ∧ (s.toList.take x).all letter = true ∧ Ext w w0) (fun x => s.size - x) 0 (Fr.le.cons rfl (Fr.le.cons rfl (Fr.le.cons rfl Fr.le.nil))) ⟨by omega, by simp, Chg.refl⟩ ?_
 intro x w1 hl1
 obtain ⟨hi, hall, hL1⟩ := hl1
 refine CW.sr fun K4 hK4 => ?_
 refine WL.v (Y.lss rfl rfl) ?_
 refine WL.nil (hK4 _ _ ?_); try clear hK4
 refine CW.seq fun K5 hK5 => ?_
 (first | refine cd_ rfl ?_ ?_ | refine ce_ rfl ?_ ?_ | refine cn_ rfl ?_ ?_ | refine cb_ rfl ?_ ?_) <;> intro ht6
 ·
  -- then
  refine CW.skip ?_
  refine hK5 _ _ ?_; try clear hK5
  refine CW.seq fun K7 hK7 => ?_
  refine CW.block ?_
  refine CW.sr fun K8 hK8 => ?_
  refine WL.m rfl ?_
  refine WL.a rfl ?_
  refine WL.nil (hK8 _ _ ?_); try clear hK8
  refine CW.sr fun K9 hK9 => ?_
  refine WL.m rfl ?_
  refine WL.m rfl ?_
  refine WL.v (Y.index_string Tryz.underlying9 rfl rfl om_) ?_
  refine WL.call Tryz.func84 rfl rfl rfl (ret_of (strings_IndexByte _ _ _)) (by simp) ?_; rintro v w2 ⟨rfl, hx2⟩
  refine WL.v (Y.lss rfl rfl) ?_
  refine WL.nil (hK9 _ _ ?_); try clear hK9
  (first | refine cd_ rfl ?_ ?_ | refine ce_ rfl ?_ ?_ | refine cn_ rfl ?_ ?_ | refine cb_ rfl ?_ ?_) <;> intro ht10
  ·
   -- then
   refine CW.sr fun K11 hK11 => ?_
   refine WL.a rfl ?_
   refine WL.nil (hK11 _ _ ?_); try clear hK11
   refine CW.ret ⟨_, rfl, ?_⟩
   refine ⟨?_, (hL1.thenExt hx2)⟩
   rw [nameB_no (get_toList (i := x) om_) ((letter_index _).1 (by have h := ht10; simp at h; exact h))]
  refine CW.skip ?_
  refine hK7 _ _ ?_; try clear hK7
  refine CW.region ?_
  refine WL.v (Y.add rfl rfl o2_) ?_
  refine WL.m rfl ?_
  refine WL.nil ?_
  refine ⟨x + 1, by omega, (Fr.le.cons rfl (Fr.le.cons rfl (Fr.le.cons rfl Fr.le.nil))), by omega, ?_, (hL1.thenExt hx2)⟩
  refine all_take_succ hall (get_toList om_) ?_
  have h := (not_congr (letter_index s[x])).1 (by have h := ht10; simp at h; exact Int.not_lt.2 h)
  simpa using h
 refine CW.exit ?_
 refine hK2 _ _ ?_; try clear hK2
 refine CW.sr fun K12 hK12 => ?_
 refine WL.m rfl ?_
 refine WL.v (Y.len_string Tryz.underlying9 rfl) ?_
 refine WL.v (Y.geq rfl rfl) ?_
 refine WL.m rfl ?_
 (first | refine WL.casesD (d := 18) rfl ?_ ?_ | refine WL.casesND (d := 18) rfl ?_ ?_ | refine WL.cases (d := 18) rfl ?_ ?_) <;> intro hg18
 ·
  -- t18 = T
  refine WL.g rfl rfl (Y.move rfl) ?_
  refine WL.g rfl rfl (Y.len_string Tryz.underlying9 rfl) ?_
  refine WL.g rfl rfl (Y.leq rfl rfl) ?_
  refine WL.v (Y.pick rfl rfl) ?_
  refine WL.a rfl ?_
  refine WL.nil (hK12 _ _ ?_); try clear hK12
  refine CW.ret ⟨_, rfl, ?_⟩
  exact ⟨by rw [nameB_end hall om_, hsl]; congr 1; rw [Bool.eq_iff_iff]; simp; omega, hL1⟩
 ·
  -- t18 = F
  refine WL.o rfl rfl ?_
  refine WL.o rfl rfl ?_
  refine WL.o rfl rfl ?_
  refine WL.v (Y.pick rfl rfl) ?_
  refine WL.a rfl ?_
  refine WL.nil (hK12 _ _ ?_); try clear hK12
  refine CW.ret ⟨_, rfl, ?_⟩
  exact ⟨by rw [nameB_end hall om_, hsl]; congr 1; rw [Bool.eq_iff_iff]; simp; omega, hL1⟩
end Go.Proofs.YtfanmpbapabboaaGreatDoor
