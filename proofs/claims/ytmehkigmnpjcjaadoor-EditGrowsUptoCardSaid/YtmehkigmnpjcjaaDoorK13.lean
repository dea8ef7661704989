/- Parts of a proof: what its last text leans on. No condition. -/
import Derived.Test.YtmehkigmnpjcjaaDoorK07
import Derived.Test.YtmehkigmnpjcjaaDoorK12
set_option linter.unusedSimpArgs false
set_option linter.unusedVariables false
/- Fugue's trees: what commits make; the order in which they are added turns nothing. No condition; no program. -/
namespace Go.Fu
open Go.Fw Go.Pl
def res (id : Dig) (r : RefD) : RefD := if r.own = true then ⟨false, id, r.n⟩ else r
def insN (ops : List OpD) : Nat := ops.countP fun x => decide (x.kind = 1)
noncomputable def wrongAt (e : List El) (ops : List OpD) (i : Nat) (x : OpD) : Int := if rightI ops ((i : Int) + 1) ≠ 0 then rightI ops ((i : Int) + 1) else if refKind x.at_ = 2 ∧ atE e x.at_ = none then 5 else 0
noncomputable def wrongN (e : List El) (ops : List OpD) : Nat → Int
 | 0 => 0
 | k + 1 => if wrongN e ops k ≠ 0 then wrongN e ops k else match ops[k]? with
  | some x => wrongAt e ops k x
  | none => 0
structure Tr where
 ad : List Dig
 e : List El
def Tr.new : Tr := ⟨[], [El.root]⟩
noncomputable def wrongC (T : Tr) (id : Dig) (ops : List OpD) : Int := if id ∈ T.ad then 6 else if 2000 < ops.length ∨ 400000 < insN ops + (T.e.length - 1) then 4 else wrongN T.e ops ops.length
noncomputable def stepE (id : Dig) (e : List El) (k : Nat) (x : OpD) : List El := match atE e (res id x.at_) with
 | none => e
 | some a => if x.kind = 2 then goneE e a else growE e a x.left ⟨false, id, (k : Int) + 1⟩ x.byte
noncomputable def addN (id : Dig) (ops : List OpD) (e : List El) : Nat → List El
 | 0 => e
 | k + 1 => match ops[k]? with
  | some x => stepE id (addN id ops e k) k x
  | none => addN id ops e k
noncomputable def addT (T : Tr) (id : Dig) (ops : List OpD) : Tr := if wrongC T id ops = 0 then ⟨T.ad ++ [id], addN id ops T.e ops.length⟩ else T
theorem wrongN_stay {e : List El} {ops : List OpD} {k : Nat} (h : wrongN e ops k ≠ 0) : ∀ m, wrongN e ops (k + m) = wrongN e ops k
 | 0 => rfl
 | m + 1 => by
  have ih := wrongN_stay h m
  rw [← Nat.add_assoc, wrongN, if_pos (by rw [ih]; exact h), ih]
theorem wrongN_zero {e : List El} {ops : List OpD} {k m : Nat} (h : wrongN e ops (k + m) = 0) : wrongN e ops k = 0 := by
 by_cases h0 : wrongN e ops k = 0
 ·
  exact h0
 ·
  rw [wrongN_stay h0] at h; exact h
theorem wrongN_at {e : List El} {ops : List OpD} {k : Nat} {x : OpD} (hx : ops[k]? = some x) (h : wrongN e ops k = 0) : wrongN e ops (k + 1) = wrongAt e ops k x := by
 rw [wrongN, if_neg om_, hx]
theorem wrongN_end {e : List El} {ops : List OpD} {k : Nat} {x : OpD} (hx : ops[k]? = some x) (h : wrongN e ops k = 0) (hw : wrongAt e ops k x ≠ 0) : wrongN e ops ops.length = wrongAt e ops k x := by
 have hk := (List.getElem?_eq_some_iff.1 hx).1
 have h1 := wrongN_at hx h
 rw [show ops.length = (k + 1) + (ops.length - (k + 1)) by omega, wrongN_stay (by rw [h1]; exact hw), h1]
theorem addN_at {id : Dig} {ops : List OpD} {e : List El} {k : Nat} {x : OpD} (hx : ops[k]? = some x) : addN id ops e (k + 1) = stepE id (addN id ops e k) k x := by rw [addN, hx]
structure RightOp (ops : List OpD) (k : Nat) (x : OpD) : Prop where
 ref : refB x.at_ = true
 kind : (x.kind = 1 ∧ (x.left = true → x.at_ ≠ RefD.zero)) ∨ (x.kind = 2 ∧ x.at_ ≠ RefD.zero ∧ x.left = false)
 own : x.at_.own = true → 1 ≤ x.at_.n ∧ x.at_.n ≤ (k : Int) ∧ kindAt ops (x.at_.n - 1).toNat = 1
theorem right_op {ops : List OpD} {k : Nat} {x : OpD} (hx : ops[k]? = some x) (h : rightI ops ((k : Int) + 1) = 0) : RightOp ops k x := by
 have hk := (List.getElem?_eq_some_iff.1 hx).1
 rw [rightI, if_neg om_, show (((k : Int) + 1) - 1).toNat = k by omega, hx] at h
 simp only [rightX, rootB, decide_eq_true_eq] at h
 by_cases h1 : refB x.at_ = false
 ·
  rw [if_pos h1] at h; omega
 rw [if_neg h1] at h
 by_cases h2 : x.kind = 1 ∧ (x.left = true ∧ x.at_ = RefD.zero)
 ·
  rw [if_pos h2] at h; omega
 rw [if_neg h2] at h
 by_cases h3 : x.kind = 2 ∧ (x.left = true ∨ (x.byte.toNat : Int) ≠ 0 ∨ x.at_ = RefD.zero)
 ·
  rw [if_pos h3] at h; omega
 rw [if_neg h3] at h
 by_cases h4 : x.kind ≠ 1 ∧ x.kind ≠ 2
 ·
  rw [if_pos h4] at h; omega
 rw [if_neg h4] at h
 by_cases h5 : x.at_.own = true ∧ ((k : Int) + 1 ≤ x.at_.n ∨ kindAt ops (x.at_.n - 1).toNat ≠ 1)
 ·
  rw [if_pos h5] at h; omega
 have hr : refB x.at_ = true := by simpa using h1
 refine ⟨hr, ?_, fun ho => ?_⟩
 ·
  by_cases hk1 : x.kind = 1
  ·
   exact .inl ⟨hk1, fun hl hz => h2 ⟨hk1, hl, hz⟩⟩
  ·
   have hk2 : x.kind = 2 := by
    by_cases hk2 : x.kind = 2
    ·
     exact hk2
    ·
     exact absurd ⟨hk1, hk2⟩ h4
   refine .inr ⟨hk2, fun hz => h3 ⟨hk2, .inr (.inr hz)⟩, ?_⟩
   cases hl : x.left with
   | false => rfl
   | true => exact absurd ⟨hk2, .inl hl⟩ h3
 ·
  have h6 : ¬ ((k : Int) + 1 ≤ x.at_.n) := fun h6 => h5 ⟨ho, .inl h6⟩
  have h7 : kindAt ops (x.at_.n - 1).toNat = 1 := Decidable.not_not.1 fun h7 => h5 ⟨ho, .inr h7⟩
  rw [refB, ho] at hr
  simp at hr
  exact ⟨by omega, by omega, h7⟩
abbrev Coms := List (Dig × List OpD)
def InsOf (L : Coms) (r : RefD) (b : UInt8) (p : RefD) (s : Bool) : Prop := ∃ (id : Dig) (ops : List OpD) (k : Nat) (x : OpD), (id, ops) ∈ L ∧ ops[k]? = some x ∧ x.kind = 1 ∧ r = ⟨false, id, (k : Int) + 1⟩ ∧ b = x.byte ∧ p = res id x.at_ ∧ s = x.left
def DelOf (L : Coms) (r : RefD) : Prop := ∃ (id : Dig) (ops : List OpD) (k : Nat) (x : OpD), (id, ops) ∈ L ∧ ops[k]? = some x ∧ x.kind = 2 ∧ r = res id x.at_
section
variable {L : Coms} {id : Dig} {ops : List OpD} {k : Nat} {x : OpD}
theorem take_get {α : Type} {l : List α} {k j : Nat} {x y : α} (hx : l[k]? = some x) : (l.take (k + 1))[j]? = some y ↔ (l.take k)[j]? = some y ∨ (j = k ∧ y = x) := by
 rw [List.getElem?_take, List.getElem?_take]
 by_cases h1 : j < k
 ·
  rw [if_pos h1, if_pos om_]
  constructor
  ·
   exact .inl
  ·
   rintro (h | ⟨rfl, _⟩)
   ·
    exact h
   ·
    omega
 ·
  rw [if_neg h1]
  by_cases h2 : j = k
  ·
   subst h2; rw [if_pos om_, hx]; simp [eq_comm]
  ·
   rw [if_neg om_]; simp [h2]
theorem ins_step (hx : ops[k]? = some x) {r : RefD} {b : UInt8} {p : RefD} {s : Bool} : InsOf (L ++ [(id, ops.take (k + 1))]) r b p s ↔ InsOf (L ++ [(id, ops.take k)]) r b p s ∨ (x.kind = 1 ∧ r = ⟨false, id, (k : Int) + 1⟩ ∧ b = x.byte ∧ p = res id x.at_ ∧ s = x.left) := by
 constructor
 ·
  rintro ⟨id', ops', j, y, hm, hy, h⟩
  rcases List.mem_append.1 hm with hm | hm
  ·
   exact .inl ⟨id', ops', j, y, by simp [hm], hy, h⟩
  ·
   simp at hm
   obtain ⟨rfl, rfl⟩ := hm
   rcases (take_get hx).1 hy with hy | ⟨rfl, rfl⟩
   ·
    exact .inl ⟨id', _, j, y, by simp, hy, h⟩
   ·
    exact .inr h
 ·
  rintro (⟨id', ops', j, y, hm, hy, h⟩ | h)
  ·
   rcases List.mem_append.1 hm with hm | hm
   ·
    exact ⟨id', ops', j, y, by simp [hm], hy, h⟩
   ·
    simp at hm
    obtain ⟨rfl, rfl⟩ := hm
    exact ⟨id', _, j, y, by simp, (take_get hx).2 (.inl hy), h⟩
  ·
   exact ⟨id, _, k, x, by simp, (take_get hx).2 (.inr ⟨rfl, rfl⟩), h⟩
theorem del_step (hx : ops[k]? = some x) {r : RefD} : DelOf (L ++ [(id, ops.take (k + 1))]) r ↔ DelOf (L ++ [(id, ops.take k)]) r ∨ (x.kind = 2 ∧ r = res id x.at_) := by
 constructor
 ·
  rintro ⟨id', ops', j, y, hm, hy, h⟩
  rcases List.mem_append.1 hm with hm | hm
  ·
   exact .inl ⟨id', ops', j, y, by simp [hm], hy, h⟩
  ·
   simp at hm
   obtain ⟨rfl, rfl⟩ := hm
   rcases (take_get hx).1 hy with hy | ⟨rfl, rfl⟩
   ·
    exact .inl ⟨id', _, j, y, by simp, hy, h⟩
   ·
    exact .inr h
 ·
  rintro (⟨id', ops', j, y, hm, hy, h⟩ | h)
  ·
   rcases List.mem_append.1 hm with hm | hm
   ·
    exact ⟨id', ops', j, y, by simp [hm], hy, h⟩
   ·
    simp at hm
    obtain ⟨rfl, rfl⟩ := hm
    exact ⟨id', _, j, y, by simp, (take_get hx).2 (.inl hy), h⟩
  ·
   exact ⟨id, _, k, x, by simp, (take_get hx).2 (.inr ⟨rfl, rfl⟩), h⟩
theorem ins_nil {r : RefD} {b : UInt8} {p : RefD} {s : Bool} : InsOf (L ++ [(id, [])]) r b p s ↔ InsOf L r b p s := by
 constructor
 ·
  rintro ⟨id', ops', j, y, hm, hy, h⟩
  rcases List.mem_append.1 hm with hm | hm
  ·
   exact ⟨id', ops', j, y, hm, hy, h⟩
  ·
   simp at hm; obtain ⟨rfl, rfl⟩ := hm; simp at hy
 ·
  rintro ⟨id', ops', j, y, hm, hy, h⟩; exact ⟨id', ops', j, y, by simp [hm], hy, h⟩
theorem del_nil {r : RefD} : DelOf (L ++ [(id, [])]) r ↔ DelOf L r := by
 constructor
 ·
  rintro ⟨id', ops', j, y, hm, hy, h⟩
  rcases List.mem_append.1 hm with hm | hm
  ·
   exact ⟨id', ops', j, y, hm, hy, h⟩
  ·
   simp at hm; obtain ⟨rfl, rfl⟩ := hm; simp at hy
 ·
  rintro ⟨id', ops', j, y, hm, hy, h⟩; exact ⟨id', ops', j, y, by simp [hm], hy, h⟩
theorem ins_unique (hn : (L.map (·.1)).Nodup) {r : RefD} {b b' : UInt8} {p p' : RefD} {s s' : Bool} (h : InsOf L r b p s) (h' : InsOf L r b' p' s') : b = b' ∧ p = p' ∧ s = s' := by
 obtain ⟨id, ops, k, x, hm, hx, _, hr, rfl, rfl, rfl⟩ := h
 obtain ⟨id', ops', k', x', hm', hx', _, hr', rfl, rfl, rfl⟩ := h'
 rw [hr] at hr'
 injection hr' with _ h1 h2
 have hk : k = k' := by omega
 subst h1; subst hk
 obtain ⟨i, hi⟩ := List.mem_iff_getElem?.1 hm
 obtain ⟨j, hj⟩ := List.mem_iff_getElem?.1 hm'
 have h1 : (L.map (·.1))[i]? = some id := by simp [hi]
 have h2 : (L.map (·.1))[j]? = some id := by simp [hj]
 have hij := (List.getElem?_inj (by simpa using (List.getElem?_eq_some_iff.1 hi).1) hn).1 (h1.trans h2.symm)
 subst hij
 rw [hi] at hj
 injection hj with hj; injection hj with _ hj; subst hj
 rw [hx] at hx'; injection hx' with hx'; subst hx'
 exact ⟨rfl, rfl, rfl⟩
end
structure Built (L : Coms) (e : List El) : Prop where
 names : ∀ r, (∃ x ∈ e, x.name = r) ↔ r = RefD.zero ∨ ∃ b p s, InsOf L r b p s
 byte : ∀ (i : Nat) (x : El), 0 < i → e[i]? = some x → ∃ p s, InsOf L x.name x.byte p s
 gone : ∀ x ∈ e, x.gone = true ↔ x.name = RefD.zero ∨ DelOf L x.name
 left : ∀ x ∈ e, ∀ r, r ∈ nms e x.left ↔ ∃ b, InsOf L r b x.name true
 right : ∀ x ∈ e, ∀ r, r ∈ nms e x.right ↔ ∃ b, InsOf L r b x.name false
 par : ∀ r b p s, InsOf L r b p s → ∃ x ∈ e, x.name = p
 dpar : ∀ r, DelOf L r → ∃ x ∈ e, x.name = r
theorem built_root : Built [] [El.root] where
 names r := by
  constructor
  ·
   rintro ⟨x, hx, rfl⟩; simp at hx; subst hx; exact .inl rfl
  ·
   rintro (rfl | ⟨b, p, s, id, ops, k, x, hm, _⟩)
   ·
    exact ⟨El.root, by simp, rfl⟩
   ·
    cases hm
 byte i x hi hx := by
  cases i with
  | zero => omega
  | succ i => simp at hx
 gone x hx := by simp at hx; subst hx; exact ⟨fun _ => .inl rfl, fun _ => rfl⟩
 left x hx r := by
  simp at hx; subst hx
  constructor
  ·
   intro h; simp [El.root] at h
  ·
   rintro ⟨b, id, ops, k, x, hm, _⟩; cases hm
 right x hx r := by
  simp at hx; subst hx
  constructor
  ·
   intro h; simp [El.root] at h
  ·
   rintro ⟨b, id, ops, k, x, hm, _⟩; cases hm
 par r b p s := by rintro ⟨id, ops, k, x, hm, _⟩; cases hm
 dpar r := by rintro ⟨id, ops, k, x, hm, _⟩; cases hm
section
variable {L L' : Coms} {e : List El}
theorem Built.congr (h : Built L e) (hi : ∀ r b p s, InsOf L' r b p s ↔ InsOf L r b p s) (hd : ∀ r, DelOf L' r ↔ DelOf L r) : Built L' e where
 names r := by rw [h.names]; simp only [hi]
 byte i x h0 hx := by simp only [hi]; exact h.byte i x h0 hx
 gone x hx := by rw [h.gone x hx, hd]
 left x hx r := by rw [h.left x hx]; simp only [hi]
 right x hx r := by rw [h.right x hx]; simp only [hi]
 par r b p s hh := h.par r b p s ((hi r b p s).1 hh)
 dpar r hh := h.dpar r ((hd r).1 hh)
theorem Built.start (h : Built L e) (id : Dig) (ops : List OpD) : Built (L ++ [(id, ops.take 0)]) e := h.congr (fun _ _ _ _ => ins_nil) (fun _ => del_nil)
theorem Built.del (hb : Built L e) (g : Good e) {a : Nat} {z : El} (hz : e[a]? = some z) (hi : ∀ r b p s, InsOf L' r b p s ↔ InsOf L r b p s) (hd : ∀ r, DelOf L' r ↔ DelOf L r ∨ r = z.name) : Built L' (goneE e a) := by
 have hmem : ∀ y, y ∈ goneE e a ↔ ∃ i x, e[i]? = some x ∧ y = if i = a then { x with gone := true } else x := fun y => by
  rw [List.mem_iff_getElem?]
  constructor
  ·
   rintro ⟨i, hy⟩
   rw [gone_at] at hy
   obtain ⟨x, hx, rfl⟩ := Option.map_eq_some_iff.1 hy
   exact ⟨i, x, hx, rfl⟩
  ·
   rintro ⟨i, x, hx, rfl⟩; exact ⟨i, by rw [gone_at, hx]; rfl⟩
 have hnm : ∀ (i : Nat) (x : El), (if i = a then { x with gone := true } else x).name = x.name := fun i x => by split <;> rfl
 have hf : nm (goneE e a) = nm e := funext fun i => gone_nm
 have hold : ∀ p, (∃ x ∈ e, x.name = p) → ∃ x ∈ goneE e a, x.name = p := by
  rintro p ⟨x, hx, rfl⟩
  obtain ⟨i, hx⟩ := List.mem_iff_getElem?.1 hx
  exact ⟨_, (hmem _).2 ⟨i, x, hx, rfl⟩, hnm i x⟩
 refine ⟨fun r => ?_, fun i y h0 hy => ?_, fun y hy => ?_, fun y hy r => ?_, fun y hy r => ?_, fun r b p s hh => hold _ (hb.par r b p s ((hi r b p s).1 hh)), fun r hh => ?_⟩
 ·
  simp only [hi, ← hb.names]
  constructor
  ·
   rintro ⟨y, hy, rfl⟩
   obtain ⟨i, x, hx, rfl⟩ := (hmem y).1 hy
   exact ⟨x, List.mem_of_getElem? hx, (hnm i x).symm⟩
  ·
   rintro ⟨x, hx, rfl⟩
   obtain ⟨i, hx⟩ := List.mem_iff_getElem?.1 hx
   exact ⟨_, (hmem _).2 ⟨i, x, hx, rfl⟩, hnm i x⟩
 ·
  rw [gone_at] at hy
  obtain ⟨x, hx, rfl⟩ := Option.map_eq_some_iff.1 hy
  simp only [hi]
  have := hb.byte i x h0 hx
  split <;> exact this
 ·
  obtain ⟨i, x, hx, rfl⟩ := (hmem y).1 hy
  have h1 := hb.gone x (List.mem_of_getElem? hx)
  rw [hnm, hd]
  by_cases h : i = a
  ·
   subst h
   rw [hx] at hz; injection hz with hz; subst hz
   simp
  ·
   rw [if_neg h, h1]
   have : x.name ≠ z.name := fun hn => h (g.inj hx hz hn)
   simp [this]
 ·
  obtain ⟨i, x, hx, rfl⟩ := (hmem y).1 hy
  have h1 := hb.left x (List.mem_of_getElem? hx) r
  rw [nms, hf, hnm]
  simp only [hi]
  split <;> exact h1
 ·
  obtain ⟨i, x, hx, rfl⟩ := (hmem y).1 hy
  have h1 := hb.right x (List.mem_of_getElem? hx) r
  rw [nms, hf, hnm]
  simp only [hi]
  split <;> exact h1
 ·
  rcases (hd r).1 hh with h | rfl
  ·
   exact hold _ (hb.dpar r h)
  ·
   exact hold _ ⟨z, List.mem_of_getElem? hz, rfl⟩
theorem Built.ins (hb : Built L e) (g : Good e) {a : Nat} {z : El} (hz : e[a]? = some z) {r0 : RefD} {b0 : UInt8} {s0 : Bool} (hr : atE e r0 = none)
  (hi : ∀ r b p s, InsOf L' r b p s ↔ InsOf L r b p s ∨ (r = r0 ∧ b = b0 ∧ p = z.name ∧ s = s0)) (hd : ∀ r, DelOf L' r ↔ DelOf L r) (h0 : r0 ≠ RefD.zero) : Built L' (growE e a s0 r0 b0) := by
 have ha := (List.getElem?_eq_some_iff.1 hz).1
 have hr' := atE_none.1 hr
 have hdn : ¬ DelOf L r0 := fun h => by obtain ⟨x, hx, hn⟩ := hb.dpar r0 h; exact hr' x hx hn
 have hmem : ∀ y, y ∈ growE e a s0 r0 b0 ↔ y = ⟨r0, b0, false, [], []⟩ ∨ ∃ i x, e[i]? = some x ∧ y = if i = a then x.more e s0 r0 else x := fun y => by
  rw [List.mem_iff_getElem?]
  constructor
  ·
   rintro ⟨i, hy⟩
   rcases grow_inv ha hy with ⟨_, h⟩ | ⟨x, hx, h⟩
   ·
    exact .inl h
   ·
    exact .inr ⟨i, x, hx, h⟩
  ·
   rintro (rfl | ⟨i, x, hx, rfl⟩)
   ·
    exact ⟨_, grow_new ha⟩
   ·
    exact ⟨i, grow_old hx⟩
 have hmn : ∀ x : El, (x.more e s0 r0).name = x.name ∧ (x.more e s0 r0).byte = x.byte ∧ (x.more e s0 r0).gone = x.gone := fun x => by unfold El.more; split <;> exact ⟨rfl, rfl, rfl⟩
 have hnm : ∀ (i : Nat) (x : El), (if i = a then x.more e s0 r0 else x).name = x.name := fun i x => by split <;> first | exact (hmn x).1 | rfl
 have hold : ∀ p, (∃ x ∈ e, x.name = p) → ∃ x ∈ growE e a s0 r0 b0, x.name = p := by
  rintro p ⟨x, hx, rfl⟩
  obtain ⟨i, hx⟩ := List.mem_iff_getElem?.1 hx
  exact ⟨_, (hmem _).2 (.inr ⟨i, x, hx, rfl⟩), hnm i x⟩
 have hf : ∀ l : List Nat, (∀ c ∈ l, c < e.length) → nms (growE e a s0 r0 b0) l = nms e l := fun l hl => List.map_congr_left fun c hc => by rw [grow_nm ha, if_neg (by have := hl c hc; omega)]
 have hk : ∀ l : List Nat, (∀ c ∈ l, c < e.length) → ∀ r, r ∈ nms (growE e a s0 r0 b0) (kid e r0 l) ↔ r ∈ nms e l ∨ r = r0 := fun l hl r => by
  rw [← hf l hl]
  simp only [List.mem_map, kid, putN_mem]
  constructor
  ·
   rintro ⟨c, rfl | hc, rfl⟩
   ·
    rw [grow_nm ha, if_pos rfl]; exact .inr rfl
   ·
    exact .inl ⟨c, hc, rfl⟩
  ·
   rintro (⟨c, hc, rfl⟩ | rfl)
   ·
    exact ⟨c, .inr hc, rfl⟩
   ·
    exact ⟨e.length, .inl rfl, by rw [grow_nm ha, if_pos rfl]⟩
 have hkids : ∀ (sd : Bool) (side : El → List Nat), (side = if sd = true then El.left else El.right) → (∀ x ∈ e, ∀ r, r ∈ nms e (side x) ↔ ∃ b, InsOf L r b x.name sd) → ∀ y ∈ growE e a s0 r0 b0, ∀ r, r ∈ nms (growE e a s0 r0 b0) (side y) ↔ ∃ b, InsOf L' r b y.name sd := by
  intro sd side hsd hold y hy r
  simp only [hi]
  rcases (hmem y).1 hy with rfl | ⟨i, x, hx, rfl⟩
  ·
   have h1 : side ⟨r0, b0, false, [], []⟩ = [] := by rw [hsd]; split <;> rfl
   rw [h1]
   simp only [List.map_nil, List.not_mem_nil, false_iff]
   rintro ⟨b, h | ⟨_, _, h, _⟩⟩
   ·
    obtain ⟨w, hw, hn⟩ := hb.par _ _ _ _ h; exact hr' w hw hn
   ·
    exact hr' z (List.mem_of_getElem? hz) h.symm
  ·
   have hxm := List.mem_of_getElem? hx
   have h1 := hold x hxm r
   have hd' := g.down i x hx
   have hl : ∀ c ∈ side x, c < e.length := fun c hc => by
    rw [hsd] at hc
    split at hc
    ·
     exact (hd' c (.inl hc)).2
    ·
     exact (hd' c (.inr hc)).2
   rw [hnm]
   by_cases hia : i = a
   ·
    subst hia
    rw [hx] at hz; injection hz with hz; subst hz
    rw [if_pos rfl]
    by_cases hs : s0 = sd
    ·
     have h2 : side (x.more e s0 r0) = kid e r0 (side x) := by
      rw [hsd]; unfold El.more
      cases sd <;> simp [hs]
     rw [h2, hk _ hl, h1]
     constructor
     ·
      rintro (⟨b, h⟩ | rfl)
      ·
       exact ⟨b, .inl h⟩
      ·
       exact ⟨b0, .inr ⟨rfl, rfl, rfl, hs.symm⟩⟩
     ·
      rintro ⟨b, h | ⟨rfl, _⟩⟩
      ·
       exact .inl ⟨b, h⟩
      ·
       exact .inr rfl
    ·
     have h2 : side (x.more e s0 r0) = side x := by
      rw [hsd]; unfold El.more
      cases sd <;> cases s0 <;> first | rfl | exact absurd rfl hs
     rw [h2, hf _ hl, h1]
     constructor
     ·
      rintro ⟨b, h⟩; exact ⟨b, .inl h⟩
     ·
      rintro ⟨b, h | ⟨_, _, _, h⟩⟩
      ·
       exact ⟨b, h⟩
      ·
       exact absurd h.symm hs
   ·
    rw [if_neg hia, hf _ hl, h1]
    constructor
    ·
     rintro ⟨b, h⟩; exact ⟨b, .inl h⟩
    ·
     rintro ⟨b, h | ⟨_, _, h, _⟩⟩
     ·
      exact ⟨b, h⟩
     ·
      exact absurd (g.inj hx hz h) hia
 refine ⟨fun r => ?_, fun i y hi0 hy => ?_, fun y hy => ?_, hkids true El.left rfl hb.left, hkids false El.right rfl hb.right, fun r b p s hh => ?_, fun r hh => ?_⟩
 ·
  simp only [hi]
  constructor
  ·
   rintro ⟨y, hy, rfl⟩
   rcases (hmem y).1 hy with rfl | ⟨i, x, hx, rfl⟩
   ·
    exact .inr ⟨b0, z.name, s0, .inr ⟨rfl, rfl, rfl, rfl⟩⟩
   ·
    rw [hnm]
    rcases (hb.names x.name).1 ⟨x, List.mem_of_getElem? hx, rfl⟩ with h | ⟨b, p, s, h⟩
    ·
     exact .inl h
    ·
     exact .inr ⟨b, p, s, .inl h⟩
  ·
   rintro (rfl | ⟨b, p, s, h | ⟨rfl, _⟩⟩)
   ·
    obtain ⟨x, hx, hn⟩ := (hb.names RefD.zero).2 (.inl rfl)
    obtain ⟨i, hx⟩ := List.mem_iff_getElem?.1 hx
    exact ⟨_, (hmem _).2 (.inr ⟨i, x, hx, rfl⟩), (hnm i x).trans hn⟩
   ·
    obtain ⟨x, hx, hn⟩ := (hb.names r).2 (.inr ⟨b, p, s, h⟩)
    obtain ⟨i, hx⟩ := List.mem_iff_getElem?.1 hx
    exact ⟨_, (hmem _).2 (.inr ⟨i, x, hx, rfl⟩), (hnm i x).trans hn⟩
   ·
    exact ⟨_, (hmem _).2 (.inl rfl), rfl⟩
 ·
  simp only [hi]
  rcases grow_inv ha hy with ⟨_, rfl⟩ | ⟨x, hx, rfl⟩
  ·
   exact ⟨z.name, s0, .inr ⟨rfl, rfl, rfl, rfl⟩⟩
  ·
   obtain ⟨p, s, h⟩ := hb.byte i x hi0 hx
   refine ⟨p, s, .inl ?_⟩
   split
   ·
    rw [(hmn x).1, (hmn x).2.1]; exact h
   ·
    exact h
 ·
  rw [hd]
  rcases (hmem y).1 hy with rfl | ⟨i, x, hx, rfl⟩
  ·
   simp [h0, hdn]
  ·
   have h1 := hb.gone x (List.mem_of_getElem? hx)
   rw [hnm, ← h1]
   split
   ·
    rw [(hmn x).2.2]
   ·
    rfl
 ·
  rcases (hi r b p s).1 hh with h | ⟨_, _, rfl, _⟩
  ·
   exact hold _ (hb.par r b p s h)
  ·
   exact hold _ ⟨z, List.mem_of_getElem? hz, rfl⟩
 ·
  exact hold _ (hb.dpar r ((hd r).1 hh))
end
end Go.Fu
namespace Go.Fu
open Go.Fw Go.Pl
theorem wrongAt_zero {e : List El} {ops : List OpD} {k : Nat} {x : OpD} (h : wrongAt e ops k x = 0) : rightI ops ((k : Int) + 1) = 0 ∧ (refKind x.at_ = 2 → ∃ a, atE e x.at_ = some a) := by
 unfold wrongAt at h
 by_cases h1 : rightI ops ((k : Int) + 1) ≠ 0
 ·
  rw [if_pos h1] at h; exact absurd h h1
 ·
  rw [if_neg h1] at h
  refine ⟨Decidable.not_not.1 h1, fun h2 => ?_⟩
  cases h3 : atE e x.at_ with
  | some a => exact ⟨a, rfl⟩
  | none => rw [if_pos ⟨h2, h3⟩] at h; omega
theorem wrongN_get {e : List El} {ops : List OpD} (h : wrongN e ops ops.length = 0) {k : Nat} {x : OpD} (hx : ops[k]? = some x) : wrongAt e ops k x = 0 := by
 have hk := (List.getElem?_eq_some_iff.1 hx).1
 have h1 : wrongN e ops (k + 1) = 0 := wrongN_zero (m := ops.length - (k + 1)) (by rw [show k + 1 + (ops.length - (k + 1)) = ops.length by omega]; exact h)
 have h0 : wrongN e ops k = 0 := wrongN_zero (m := 1) h1
 rw [wrongN_at hx h0] at h1; exact h1
theorem wrongC_zero {T : Tr} {id : Dig} {ops : List OpD} (h : wrongC T id ops = 0) : id ∉ T.ad ∧ ops.length ≤ 2000 ∧ insN ops + (T.e.length - 1) ≤ 400000 ∧ wrongN T.e ops ops.length = 0 := by
 unfold wrongC at h
 by_cases h1 : id ∈ T.ad
 ·
  rw [if_pos h1] at h; omega
 ·
  rw [if_neg h1] at h
  by_cases h2 : 2000 < ops.length ∨ 400000 < insN ops + (T.e.length - 1)
  ·
   rw [if_pos h2] at h; omega
  ·
   rw [if_neg h2] at h
   exact ⟨h1, by omega, by omega, h⟩
theorem refB_kind {r : RefD} (h : refB r = true) (ho : r.own = false) : r = RefD.zero ∨ (refKind r = 2 ∧ r ≠ RefD.zero) := by
 obtain ⟨o, c, n⟩ := r
 simp only at ho; subst ho
 by_cases hz : (⟨false, c, n⟩ : RefD) = RefD.zero
 ·
  exact .inl hz
 ·
  simp [refB, rootB, hz] at h
  exact .inr ⟨by simp [refKind]; omega, hz⟩
theorem refKind_two {r : RefD} (h : refKind r = 2) : r.own = false ∧ 1 ≤ r.n ∧ r.n ≤ 2000 ∧ r ≠ RefD.zero := by
 obtain ⟨o, c, n⟩ := r
 cases o
 ·
  simp only [refKind] at h
  split at h
  ·
   rename_i h'; exact absurd h' de_
  ·
   split at h
   ·
    rename_i h1
    exact ⟨rfl, h1.1, h1.2, fun hz => by injection hz with _ _ hz; omega⟩
   ·
    split at h <;> omega
 ·
  simp only [refKind] at h
  simp at h
  split at h <;> omega
section
variable {L : Coms} {e : List El} {id : Dig} {ops : List OpD}
theorem ins_mem {L L' : Coms} (h : ∀ c ∈ L, c ∈ L') {r : RefD} {b : UInt8} {p : RefD} {s : Bool} (hi : InsOf L r b p s) : InsOf L' r b p s := by
 obtain ⟨id, ops, k, x, hm, hh⟩ := hi; exact ⟨id, ops, k, x, h _ hm, hh⟩
theorem del_mem {L L' : Coms} (h : ∀ c ∈ L, c ∈ L') {r : RefD} (hi : DelOf L r) : DelOf L' r := by
 obtain ⟨id, ops, k, x, hm, hh⟩ := hi; exact ⟨id, ops, k, x, h _ hm, hh⟩
theorem new_name {e' : List El} {k : Nat} (hb : Built (L ++ [(id, ops.take k)]) e') (hid : id ∉ L.map (·.1)) (hk : k ≤ ops.length) : atE e' ⟨false, id, (k : Int) + 1⟩ = none := by
 refine atE_none.2 fun x hx hn => ?_
 rcases (hb.names _).1 ⟨x, hx, hn⟩ with h | ⟨b, p, s, id', ops', j, y, hm, hy, _, hr, _⟩
 ·
  injection h with _ _ h; omega
 ·
  injection hr with _ h1 h2
  rcases List.mem_append.1 hm with hm | hm
  ·
   subst h1; exact hid (List.mem_map.2 ⟨_, hm, rfl⟩)
  ·
   simp at hm
   obtain ⟨_, rfl⟩ := hm
   have := (List.getElem?_eq_some_iff.1 hy).1
   rw [List.length_take] at this
   omega
theorem old_name {e' : List El} {k : Nat} {x : OpD} (hb0 : Built L e) (hb : Built (L ++ [(id, ops.take k)]) e') (hx : ops[k]? = some x) (hw : wrongAt e ops k x = 0) : ∃ a, atE e' (res id x.at_) = some a := by
 obtain ⟨hr, hf⟩ := wrongAt_zero hw
 have R := right_op hx hr
 refine atE_is ((hb.names _).2 ?_)
 by_cases ho : x.at_.own = true
 ·
  obtain ⟨h1, h2, h3⟩ := R.own ho
  rw [kindAt] at h3
  cases hy : ops[(x.at_.n - 1).toNat]? with
  | none => rw [hy] at h3; simp at h3
  | some y =>
   rw [hy] at h3
   simp at h3
   refine .inr ⟨y.byte, res id y.at_, y.left, id, ops.take k, (x.at_.n - 1).toNat, y, by simp, ?_, h3, ?_, rfl, rfl, rfl⟩
   ·
    rw [List.getElem?_take, if_pos om_]; exact hy
   ·
    rw [res, if_pos ho, show (((x.at_.n - 1).toNat : Int)) + 1 = x.at_.n by omega]
 ·
  have ho' : x.at_.own = false := by simpa using ho
  rw [res, if_neg ho]
  rcases refB_kind R.ref ho' with h | ⟨h, _⟩
  ·
   exact .inl h
  ·
   obtain ⟨a, ha⟩ := hf h
   rcases (hb0.names _).1 (atE_mem ha) with h | ⟨b, p, s, h⟩
   ·
    exact .inl h
   ·
    exact .inr ⟨b, p, s, ins_mem (fun c hc => by simp [hc]) h⟩
theorem step_del {a k : Nat} {x : OpD} {e' : List El} (ha : atE e' (res id x.at_) = some a) (hk : x.kind = 2) : stepE id e' k x = goneE e' a := by rw [stepE, ha]; simp only; rw [if_pos hk]
theorem step_ins {a k : Nat} {x : OpD} {e' : List El} (ha : atE e' (res id x.at_) = some a) (hk : x.kind = 1) : stepE id e' k x = growE e' a x.left ⟨false, id, (k : Int) + 1⟩ x.byte := by rw [stepE, ha]; simp only; rw [if_neg om_]
theorem insN_step {k : Nat} {x : OpD} (hx : ops[k]? = some x) : insN (ops.take (k + 1)) = insN (ops.take k) + if x.kind = 1 then 1 else 0 := by
 rw [take_succ' hx, insN, insN, List.countP_append]
 by_cases h : x.kind = 1 <;> simp [h]
where
 take_succ' {α : Type} {l : List α} {i : Nat} {x : α} (h : l[i]? = some x) : l.take (i + 1) = l.take i ++ [x] := by rw [List.take_add_one, h]; rfl
theorem add_upto (g : Good e) (hb : Built L e) (hid : id ∉ L.map (·.1)) (hl : ops.length ≤ 2000) (hw : wrongN e ops ops.length = 0) : ∀ k, k ≤ ops.length → Good (addN id ops e k) ∧ Built (L ++ [(id, ops.take k)]) (addN id ops e k) ∧ (addN id ops e k).length = e.length + insN (ops.take k)
 | 0, _ => ⟨g, hb.start id ops, by simp [addN, insN]⟩
 | k + 1, hk => by
  obtain ⟨g', hb', hn'⟩ := add_upto g hb hid hl hw k om_
  obtain ⟨x, hx⟩ : ∃ x, ops[k]? = some x := ⟨_, List.getElem?_eq_getElem om_⟩
  have hwx := wrongN_get hw hx
  obtain ⟨a, ha⟩ := old_name hb hb' hx hwx
  have R := right_op hx (wrongAt_zero hwx).1
  obtain ⟨z, hz, hzn, _⟩ := atE_some.1 ha
  have hnew := new_name hb' hid om_
  rw [addN_at hx, insN_step hx]
  rcases R.kind with ⟨hk1, _⟩ | ⟨hk2, _⟩
  ·
   rw [step_ins ha hk1, if_pos hk1]
   refine ⟨g'.grow (atE_lt ha) hnew ⟨rfl, by show (1 : Int) ≤ (k : Int) + 1; omega, by show (k : Int) + 1 ≤ 2000; omega⟩, hb'.ins g' hz hnew (fun r b p s => ?_) (fun r => ?_) (fun h => by injection h with _ _ h; omega), by rw [grow_length, hn']; omega⟩
   ·
    rw [ins_step hx, hzn]; simp only [hk1, true_and]
   ·
    rw [del_step hx]; simp [hk1]
  ·
   rw [step_del ha hk2, if_neg om_]
   refine ⟨g'.gone a, hb'.del g' hz (fun r b p s => ?_) (fun r => ?_), by rw [gone_length, hn']; omega⟩
   ·
    rw [ins_step hx]; simp [hk2]
   ·
    rw [del_step hx, hzn]; simp [hk2]
end
structure TreeOk (L : Coms) (T : Tr) : Prop where
 good : Good T.e
 built : Built L T.e
 ads : T.ad = L.map (·.1)
 nodup : (L.map (·.1)).Nodup
 length : T.e.length = 1 + (L.map fun c => insN c.2).sum
 few : T.e.length ≤ 400001
 fit : ∀ c ∈ L, c.2.length ≤ 2000 ∧ ∀ (k : Nat) (x : OpD), c.2[k]? = some x → rightI c.2 ((k : Int) + 1) = 0
 seq : ∀ P c Q, L = P ++ c :: Q → ∀ x ∈ c.2, refKind x.at_ = 2 → ∃ b p s, InsOf P x.at_ b p s
theorem treeOk_new : TreeOk [] Tr.new where
 good := good_root
 built := built_root
 ads := rfl
 nodup := List.nodup_nil
 length := rfl
 few := by show 1 ≤ 400001; omega
 fit c hc := by cases hc
 seq P c Q h := by cases P <;> cases h
theorem TreeOk.add {L : Coms} {T : Tr} {id : Dig} {ops : List OpD} (h : TreeOk L T) (hw : wrongC T id ops = 0) : TreeOk (L ++ [(id, ops)]) (addT T id ops) := by
 obtain ⟨h1, h2, h3, h4⟩ := wrongC_zero hw
 have hid : id ∉ L.map (·.1) := by rw [← h.ads]; exact h1
 obtain ⟨g, hb, hn⟩ := add_upto h.good h.built hid h2 h4 ops.length (Nat.le_refl _)
 rw [List.take_length] at hb hn
 have hp := h.good.pos
 rw [addT, if_pos hw]
 refine ⟨g, hb, by simp [h.ads], ?_, by simp only [hn, h.length, List.map_append, List.sum_append, List.map_cons, List.map_nil, List.sum_cons, List.sum_nil]; omega, by simp only; omega, fun c hc => ?_, fun P c Q he x hx hk => ?_⟩
 ·
  rw [List.map_append, List.nodup_append]
  exact ⟨h.nodup, by simp, fun a ha b hb => by simp at hb; subst hb; rintro rfl; exact hid ha⟩
 ·
  rcases List.mem_append.1 hc with hc | hc
  ·
   exact h.fit c hc
  ·
   simp at hc; subst hc
   exact ⟨h2, fun k x hx => (wrongAt_zero (wrongN_get h4 hx)).1⟩
 ·
  rcases List.append_eq_append_iff.1 he with ⟨t, h5, h6⟩ | ⟨t, h5, h6⟩
  ·
   cases t with
   | nil =>
    simp at h6 h5
    obtain ⟨rfl, rfl⟩ := h6
    obtain ⟨k, hx⟩ := List.mem_iff_getElem?.1 hx
    obtain ⟨a, ha⟩ := (wrongAt_zero (wrongN_get h4 hx)).2 hk
    rcases (h.built.names _).1 (atE_mem ha) with h7 | h7
    ·
     exact absurd h7 (refKind_two hk).2.2.2
    ·
     rw [h5]; exact h7
   | cons d t =>
    simp at h6
  ·
   cases t with
   | nil =>
    simp at h6 h5
    obtain ⟨rfl, rfl⟩ := h6
    obtain ⟨k, hx⟩ := List.mem_iff_getElem?.1 hx
    obtain ⟨a, ha⟩ := (wrongAt_zero (wrongN_get h4 hx)).2 hk
    rcases (h.built.names _).1 (atE_mem ha) with h7 | h7
    ·
     exact absurd h7 (refKind_two hk).2.2.2
    ·
     rw [← h5]; exact h7
   | cons d t =>
    simp only [List.cons_append, List.cons.injEq] at h6
    obtain ⟨rfl, h6⟩ := h6
    exact h.seq P c t h5 x hx hk
def viewE (e : List El) (i : Nat) : RefD × Bool × UInt8 := (nm e i, goneAt e i, if goneAt e i = true then 0 else byteAt e i)
theorem seen_view (e : List El) : (seenE e).map (viewE e) = ((orderE e).map (viewE e)).filter fun v => !v.2.1 := by
 rw [seenE, List.filter_map]; rfl
theorem flatMap_walks {e1 e2 : List El} : ∀ {l1 l2 : List Nat}, l1.map (nm e1) = l2.map (nm e2) → (∀ c1 ∈ l1, ∀ c2 ∈ l2, nm e1 c1 = nm e2 c2 → (walkE e1 c1).map (viewE e1) = (walkE e2 c2).map (viewE e2)) → (l1.flatMap (walkE e1)).map (viewE e1) = (l2.flatMap (walkE e2)).map (viewE e2)
 | [], [], _, _ => rfl
 | [], _ :: _, h, _ => by simp at h
 | _ :: _, [], h, _ => by simp at h
 | a :: l1, b :: l2, h, hh => by
  simp only [List.map_cons, List.cons.injEq] at h
  rw [List.flatMap_cons, List.flatMap_cons, List.map_append, List.map_append, hh a (by simp) b (by simp) h.1, flatMap_walks h.2 fun c1 h1 c2 h2 => hh c1 (by simp [h1]) c2 (by simp [h2])]
theorem same_walk {L1 L2 : Coms} {T1 T2 : Tr} (h1 : TreeOk L1 T1) (h2 : TreeOk L2 T2) (hs : ∀ c, c ∈ L1 ↔ c ∈ L2) : (orderE T1.e).map (viewE T1.e) = (orderE T2.e).map (viewE T2.e) := by
 have hI : ∀ r b p s, InsOf L1 r b p s ↔ InsOf L2 r b p s := fun r b p s => ⟨ins_mem fun c hc => (hs c).1 hc, ins_mem fun c hc => (hs c).2 hc⟩
 have hD : ∀ r, DelOf L1 r ↔ DelOf L2 r := fun r => ⟨del_mem fun c hc => (hs c).1 hc, del_mem fun c hc => (hs c).2 hc⟩
 have key : ∀ i1, i1 < T1.e.length → ∀ i2, i2 < T2.e.length → nm T1.e i1 = nm T2.e i2 → (walkE T1.e i1).map (viewE T1.e) = (walkE T2.e i2).map (viewE T2.e) := by
  refine down_ind h1.good.down fun i1 x1 hx1 ih i2 hi2 hn => ?_
  obtain ⟨x2, hx2⟩ : ∃ x, T2.e[i2]? = some x := ⟨_, List.getElem?_eq_getElem hi2⟩
  rw [nm_at hx1, nm_at hx2] at hn
  have d1 := h1.good.down i1 x1 hx1
  have d2 := h2.good.down i2 x2 hx2
  have m1 := List.mem_of_getElem? hx1
  have m2 := List.mem_of_getElem? hx2
  have s1 := h1.good.sort i1 x1 hx1
  have s2 := h2.good.sort i2 x2 hx2
  have el : nms T1.e x1.left = nms T2.e x2.left := srt_eq s1.1 s2.1 fun r => by
   rw [h1.built.left x1 m1, h2.built.left x2 m2, hn]; simp only [hI]
  have er : nms T1.e x1.right = nms T2.e x2.right := srt_eq s1.2 s2.2 fun r => by
   rw [h1.built.right x1 m1, h2.built.right x2 m2, hn]; simp only [hI]
  have eg : x1.gone = x2.gone := by
   have g1 := h1.built.gone x1 m1
   have g2 := h2.built.gone x2 m2
   rw [hn, hD, ← g2] at g1
   cases hg : x2.gone <;> simp_all
  have eb : x2.gone = true ∨ x1.byte = x2.byte := by
   by_cases h0 : i1 = 0
   ·
    subst h0
    obtain ⟨z, hz, _, hzg⟩ := h1.good.root
    rw [hx1] at hz; injection hz with hz; subst hz
    exact .inl (eg ▸ hzg)
   ·
    have h0' : i2 ≠ 0 := fun h => by
     have := (h2.good.zero hx2).2 h
     exact h0 ((h1.good.zero hx1).1 (hn.trans this))
    obtain ⟨p, s, hb1⟩ := h1.built.byte i1 x1 om_ hx1
    obtain ⟨p', s', hb2⟩ := h2.built.byte i2 x2 om_ hx2
    rw [hn, hI] at hb1
    exact .inr (ins_unique h2.nodup hb1 hb2).1
  have ev : viewE T1.e i1 = viewE T2.e i2 := by
   rw [viewE, viewE, nm_at hx1, nm_at hx2, goneAt_at hx1, goneAt_at hx2, byteAt_at hx1, byteAt_at hx2, hn, eg]
   rcases eb with h0 | eb
   ·
    rw [if_pos h0, if_pos h0]
   ·
    rw [eb]
  rw [walkE_eq h1.good.down hx1, walkE_eq h2.good.down hx2, List.map_append, List.map_append, List.map_cons, List.map_cons, ev,
   flatMap_walks el fun c1 hc1 c2 hc2 he => ih c1 (.inl hc1) (d1 c1 (.inl hc1)).2 c2 (d2 c2 (.inl hc2)).2 he,
   flatMap_walks er fun c1 hc1 c2 hc2 he => ih c1 (.inr hc1) (d1 c1 (.inr hc1)).2 c2 (d2 c2 (.inr hc2)).2 he]
 refine key 0 h1.good.pos 0 h2.good.pos ?_
 obtain ⟨z1, hz1, hn1, _⟩ := h1.good.root
 obtain ⟨z2, hz2, hn2, _⟩ := h2.good.root
 rw [nm_at hz1, nm_at hz2, hn1, hn2]
end Go.Fu
/- Fugue's trees: which commits are taken, runs at a gap, deletions, what stays. No condition; no program. -/
namespace Go.Fu
open Go.Fw Go.Pl
theorem sum_erase {α : Type} [BEq α] [LawfulBEq α] (f : α → Nat) : ∀ {l : List α} {a : α}, a ∈ l → (l.map f).sum = f a + ((l.erase a).map f).sum
 | [], a, h => by cases h
 | x :: l, a, h => by
  by_cases e : x = a
  ·
   subst e; simp
  ·
   rw [List.erase_cons_tail (by simpa using e)]
   have := sum_erase f (l := l) (a := a) (by rcases List.mem_cons.1 h with h | h; exact absurd h.symm e; exact h)
   simp only [List.map_cons, List.sum_cons]; omega
theorem sum_sub {α : Type} [BEq α] [LawfulBEq α] (f : α → Nat) : ∀ {l m : List α}, l.Nodup → (∀ x ∈ l, x ∈ m) → (l.map f).sum ≤ (m.map f).sum
 | [], _, _, _ => Nat.zero_le _
 | x :: l, m, hn, h => by
  have hn' := List.nodup_cons.1 hn
  have hx := h x (by simp)
  rw [sum_erase f hx, List.map_cons, List.sum_cons]
  have := sum_sub f (l := l) (m := m.erase x) hn'.2 fun y hy => (List.mem_erase_of_ne (fun e => hn'.1 (by rw [← e]; exact hy))).2 (h y (by simp [hy]))
  omega
theorem wrongN_first {e : List El} {ops : List OpD} : ∀ {k : Nat}, wrongN e ops k ≠ 0 → ∃ j x, j < k ∧ ops[j]? = some x ∧ wrongAt e ops j x ≠ 0
 | 0, h => absurd rfl h
 | k + 1, h => by
  by_cases h0 : wrongN e ops k = 0
  ·
   cases hx : ops[k]? with
   | none => rw [wrongN, if_neg om_, hx] at h; exact absurd rfl h
   | some x => rw [wrongN_at hx h0] at h; exact ⟨k, x, by omega, hx, h⟩
  ·
   obtain ⟨j, x, hj, hh⟩ := wrongN_first h0
   exact ⟨j, x, by omega, hh⟩
theorem same_shown {L1 L2 : Coms} {T1 T2 : Tr} (h1 : TreeOk L1 T1) (h2 : TreeOk L2 T2) (hs : ∀ c, c ∈ L1 ↔ c ∈ L2) : (seenE T1.e).map (nm T1.e) = (seenE T2.e).map (nm T2.e) ∧ textE T1.e = textE T2.e ∧ T1.e.length = T2.e.length := by
 have hv := same_walk h1 h2 hs
 have hs1 := seen_view T1.e
 have hs2 := seen_view T2.e
 rw [hv, ← hs2] at hs1
 refine ⟨?_, ?_, ?_⟩
 ·
  have := congrArg (List.map (·.1)) hs1
  rw [List.map_map, List.map_map] at this; exact this
 ·
  have hb : ∀ e : List El, textE e = ((seenE e).map (viewE e)).map (·.2.2) := fun e => by
   rw [List.map_map, textE]
   refine List.map_congr_left fun i hi => ?_
   show byteAt e i = if goneAt e i = true then 0 else byteAt e i
   rw [seen_gone hi]; rfl
  rw [hb, hb, hs1]
 ·
  have := congrArg List.length hv
  rw [List.length_map, List.length_map, h1.good.perm.length_eq, h2.good.perm.length_eq, List.length_range, List.length_range] at this; exact this
theorem flat_after {l X Y : List Nat} {a n : Nat} (hl : l = X ++ a :: Y) (hn : l.Nodup) : l.flatMap (fun j => if j = a then [a, n] else [j]) = X ++ a :: n :: Y := by
 have h1 : ∀ m : List Nat, a ∉ m → m.flatMap (fun j => if j = a then [a, n] else [j]) = m := fun m hm => by
  induction m with
  | nil => rfl
  | cons b r ih => rw [List.flatMap_cons, if_neg (fun e => hm (by simp [e])), ih fun h => hm (by simp [h])]; rfl
 rw [hl] at hn
 obtain ⟨_, h3, h4⟩ := List.nodup_append.1 hn
 rw [hl, List.flatMap_append, List.flatMap_cons, if_pos rfl, h1 X (fun h => h4 a h a (by simp) rfl), h1 Y (List.nodup_cons.1 h3).1]; rfl
theorem flat_ahead {l X Y : List Nat} {a n : Nat} (hl : l = X ++ a :: Y) (hn : l.Nodup) : l.flatMap (fun j => if j = a then [n, a] else [j]) = X ++ n :: a :: Y := by
 have h1 : ∀ m : List Nat, a ∉ m → m.flatMap (fun j => if j = a then [n, a] else [j]) = m := fun m hm => by
  induction m with
  | nil => rfl
  | cons b r ih => rw [List.flatMap_cons, if_neg (fun e => hm (by simp [e])), ih fun h => hm (by simp [h])]; rfl
 rw [hl] at hn
 obtain ⟨_, h3, h4⟩ := List.nodup_append.1 hn
 rw [hl, List.flatMap_append, List.flatMap_cons, if_pos rfl, h1 X (fun h => h4 a h a (by simp) rfl), h1 Y (List.nodup_cons.1 h3).1]; rfl
def shown (e : List El) (l : List Nat) : List UInt8 := (l.filter fun i => !goneAt e i).map (byteAt e)
theorem shown_app {e : List El} {a b : List Nat} : shown e (a ++ b) = shown e a ++ shown e b := by simp [shown]
theorem more_same (x : El) (e : List El) (s : Bool) (r : RefD) : (x.more e s r).name = x.name ∧ (x.more e s r).byte = x.byte ∧ (x.more e s r).gone = x.gone := by unfold El.more; split <;> exact ⟨rfl, rfl, rfl⟩
theorem root_left {L : Coms} {T : Tr} (h : TreeOk L T) {z : El} (hz : T.e[0]? = some z) : z.left = [] := by
 cases hl : z.left with
 | nil => rfl
 | cons c r =>
  exfalso
  obtain ⟨b, id, ops, k, x, hm, hx, _, _, _, hp, hs⟩ := (h.built.left z (List.mem_of_getElem? hz) (nm T.e c)).1 (by simp [hl])
  have hz0 := (h.good.zero hz).2 rfl
  rw [hz0] at hp
  have R := right_op hx ((h.fit _ hm).2 k x hx)
  have hat : x.at_ = RefD.zero := by
   by_cases ho : x.at_.own = true
   ·
    rw [res, if_pos ho] at hp
    have := (R.own ho).1
    injection hp with _ _ hp; omega
   ·
    rw [res, if_neg ho] at hp; exact hp.symm
  rcases R.kind with ⟨_, h1⟩ | ⟨_, h1, _⟩
  ·
   exact h1 hs.symm hat
  ·
   exact h1 hat
theorem gap_split {L : Coms} {T : Tr} (h : TreeOk L T) {n : Nat} (hn : n ≤ (seenE T.e).length) : ∃ X Y, orderE T.e = X ++ gapI T.e n :: Y ∧ gapI T.e n < T.e.length ∧ shown T.e (X ++ [gapI T.e n]) = (textE T.e).take n ∧ shown T.e Y = (textE T.e).drop n := by
 have fin : ∀ X Y a, orderE T.e = X ++ a :: Y → (shown T.e (X ++ [a])).length = n → shown T.e (X ++ [a]) = (textE T.e).take n ∧ shown T.e Y = (textE T.e).drop n := fun X Y a ho hl => by
  have ht : textE T.e = shown T.e (X ++ [a]) ++ shown T.e Y := by
   show shown T.e (orderE T.e) = _
   rw [ho, ← shown_app]; simp
  rw [ht, ← hl]; simp
 by_cases h0 : n = 0
 ·
  subst h0
  obtain ⟨z, hz, hzn, hzg⟩ := h.good.root
  have hl := root_left h hz
  have ho : orderE T.e = [] ++ 0 :: z.right.flatMap (walkE T.e) := by rw [orderE, walkE_eq h.good.down hz, hl]; rfl
  have hg0 : gapI T.e ((0 : Nat) : Int) = 0 := by simp [gapI]
  rw [hg0]
  exact ⟨[], _, ho, h.good.pos, fin _ _ _ ho (by simp [shown, goneAt_at hz, hzg])⟩
 ·
  obtain ⟨a, ha⟩ : ∃ a, (seenE T.e)[n - 1]? = some a := ⟨_, List.getElem?_eq_getElem om_⟩
  have hg : gapI T.e (n : Int) = a := by rw [gapI, if_neg om_, show ((n : Int) - 1).toNat = n - 1 by omega, ha]; rfl
  have hm := List.mem_of_getElem? ha
  obtain ⟨X, Y, ho⟩ := List.append_of_mem (List.mem_filter.1 hm).1
  rw [hg]
  refine ⟨X, Y, ho, seen_lt h.good.down hm, fin X Y a ho ?_⟩
  have hs : seenE T.e = (X.filter fun i => !goneAt T.e i) ++ a :: (Y.filter fun i => !goneAt T.e i) := by
   rw [seenE, ho, List.filter_append, List.filter_cons, if_pos (by rw [seen_gone hm]; rfl)]
  have hk : (X.filter fun i => !goneAt T.e i).length = n - 1 := by
   have h1 : (seenE T.e)[(X.filter fun i => !goneAt T.e i).length]? = some a := by rw [hs]; simp
   exact ((List.getElem?_inj (by have := (List.getElem?_eq_some_iff.1 ha).1; exact this) h.good.seen_nodup).1 (ha.trans h1.symm)).symm
  simp only [shown, List.length_map, List.filter_append, List.length_append, hk]
  simp [seen_gone hm]; omega
theorem gap_first {L : Coms} {T : Tr} (h : TreeOk L T) {a : Nat} {X Y : List Nat} (ho : orderE T.e = X ++ a :: Y) (ha : a < T.e.length) : ∃ A z, atE T.e (gapAt T.e a).1 = some A ∧ T.e[A]? = some z ∧ z.name = (gapAt T.e a).1 ∧ (gapAt T.e a).1.own = false ∧ ((gapAt T.e a).2 = true → 0 < A) ∧
  (((gapAt T.e a).2 = false ∧ A = a ∧ z.right = []) ∨ ((gapAt T.e a).2 = true ∧ z.left = [] ∧ ∃ Y', Y = A :: Y')) := by
 obtain ⟨x, hx⟩ : ∃ x, T.e[a]? = some x := ⟨_, List.getElem?_eq_getElem ha⟩
 have hd := h.good.down a x hx
 cases hr : x.right with
 | nil =>
  have hg : gapAt T.e a = (x.name, false) := by rw [gapAt, hx]; simp only [Option.map_some, Option.getD_some, hr]; rw [nm_at hx]
  rw [hg]
  exact ⟨a, x, h.good.find hx, hx, rfl, h.good.ownF hx, (fun h => by cases h), .inl ⟨rfl, rfl, hr⟩⟩
 | cons c r =>
  have hg : gapAt T.e a = (nm T.e (lmE T.e c), true) := by rw [gapAt, hx]; simp only [Option.map_some, Option.getD_some, hr]
  have hc := hd c (.inr (by simp [hr]))
  obtain ⟨hlt, hleft⟩ := lm_left h.good.down c hc.2
  obtain ⟨z, hz⟩ : ∃ z, T.e[lmE T.e c]? = some z := ⟨_, List.getElem?_eq_getElem hlt⟩
  rw [hz] at hleft
  obtain ⟨Y', hY⟩ := order_fol h.good.down (a := a) (c := c) (r := r) (by rw [hx]; simp [hr]) 0 h.good.pos X Y ho
  have hpos : 0 < lmE T.e c := by
   by_cases h0 : lmE T.e c = 0
   ·
    exfalso
    have h1 : lmE T.e c ∈ Y := by rw [hY]; simp
    obtain ⟨w, hw, _⟩ := h.good.root
    have h2 : ∃ Y0, orderE T.e = 0 :: Y0 := ⟨w.right.flatMap (walkE T.e), by rw [orderE, walkE_eq h.good.down hw, root_left h hw]; rfl⟩
    obtain ⟨Y0, h2⟩ := h2
    have hnd := h.good.nodup
    rw [ho] at h2 hnd
    cases X with
    | nil => simp at h2; rw [h0, ← h2.1] at h1; exact (List.nodup_cons.1 hnd).1 h1
    | cons p X =>
     simp at h2
     have := (List.nodup_cons.1 hnd).1
     rw [h2.1] at this
     rw [h0] at h1
     exact this (by simp [h1])
   ·
    omega
  rw [hg]
  exact ⟨_, z, by rw [nm_at hz]; exact h.good.find hz, hz, (nm_at hz).symm, by rw [nm_at hz]; exact h.good.ownF hz, fun _ => hpos, .inr ⟨rfl, hleft, Y', hY⟩⟩
theorem gone_byte {e : List El} {a i : Nat} : byteAt (goneE e a) i = byteAt e i := by
 rw [byteAt, byteAt, gone_at]
 cases e[i]? with
 | none => rfl
 | some x => simp only [Option.map_some]; split <;> rfl
theorem addN_old {id : Dig} {ops : List OpD} {e : List El} : ∀ {k : Nat} {i : Nat} {x : El}, e[i]? = some x → ∃ y, (addN id ops e k)[i]? = some y ∧ y.name = x.name ∧ y.byte = x.byte ∧ (x.gone = true → y.gone = true)
 | 0, i, x, hx => ⟨x, hx, rfl, rfl, fun h => h⟩
 | k + 1, i, x, hx => by
  obtain ⟨y, hy, h1, h2, h3⟩ := addN_old (id := id) (ops := ops) (k := k) hx
  rw [addN]
  cases ho : ops[k]? with
  | none => exact ⟨y, hy, h1, h2, h3⟩
  | some o =>
   simp only
   unfold stepE
   cases ha : atE (addN id ops e k) (res id o.at_) with
   | none => exact ⟨y, hy, h1, h2, h3⟩
   | some a =>
    simp only
    split
    ·
     refine ⟨if i = a then { y with gone := true } else y, by rw [gone_at, hy]; rfl, ?_⟩
     split
     ·
      exact ⟨h1, h2, fun _ => rfl⟩
     ·
      exact ⟨h1, h2, h3⟩
    ·
     refine ⟨_, grow_old hy, ?_⟩
     split
     ·
      have := more_same y (addN id ops e k) o.left ⟨false, id, (k : Int) + 1⟩
      exact ⟨this.1.trans h1, this.2.1.trans h2, fun h => this.2.2.trans (h3 h)⟩
     ·
      exact ⟨h1, h2, h3⟩
theorem addN_order {id : Dig} {ops : List OpD} {e : List El} {L : Coms} (g : Good e) (hb : Built L e) (hid : id ∉ L.map (·.1)) (hl : ops.length ≤ 2000) (hw : wrongN e ops ops.length = 0) : ∀ k, k ≤ ops.length → (orderE (addN id ops e k)).filter (fun i => decide (i < e.length)) = orderE e
 | 0, _ => List.filter_eq_self.2 fun i hi => decide_eq_true (order_lt g.down hi)
 | k + 1, hk => by
  have ih := addN_order g hb hid hl hw k om_
  obtain ⟨g', hb', hn'⟩ := add_upto g hb hid hl hw k om_
  obtain ⟨x, hx⟩ : ∃ x, ops[k]? = some x := ⟨_, List.getElem?_eq_getElem om_⟩
  obtain ⟨a, ha⟩ := old_name hb hb' hx (wrongN_get hw hx)
  have R := right_op hx (wrongAt_zero (wrongN_get hw hx)).1
  rw [addN_at hx]
  rcases R.kind with ⟨hk1, _⟩ | ⟨hk2, _⟩
  ·
   rw [step_ins ha hk1]
   have := grow_filter (left := x.left) (r := ⟨false, id, (k : Int) + 1⟩) (b := x.byte) g'.down (atE_lt ha) 0 g'.pos
   rw [← ih, orderE, orderE, ← this, List.filter_filter]
   refine List.filter_congr fun i _ => ?_
   by_cases h : i < e.length
   ·
    simp [h]; omega
   ·
    simp [h]
  ·
   rw [step_del ha hk2, orderE, gone_walk]; exact ih
structure Keep (T T' : Tr) (id : Dig) (ops : List OpD) : Prop where
 /-- What stays seen keeps its order. -/
 order : (seenE T.e).Pairwise fun i j => i ∈ seenE T'.e → j ∈ seenE T'.e → (seenE T'.e).idxOf i < (seenE T'.e).idxOf j
 old : ∀ i, i < T.e.length → nm T'.e i = nm T.e i
 gone : ∀ i ∈ seenE T.e, i ∈ seenE T'.e ↔ ¬ ∃ x ∈ ops, x.kind = 2 ∧ x.at_ = nm T.e i
 new : ∀ i ∈ seenE T'.e, i ∈ seenE T.e ∨ (nm T'.e i).c = id
theorem keeps {L : Coms} {T : Tr} (h : TreeOk L T) {id : Dig} {ops : List OpD} (hw : wrongC T id ops = 0) : Keep T (addT T id ops) id ops := by
 obtain ⟨i1, i2, i3, i4⟩ := wrongC_zero hw
 have hid : id ∉ L.map (·.1) := by rw [← h.ads]; exact i1
 have h' := h.add hw
 have he : (addT T id ops).e = addN id ops T.e ops.length := by rw [addT, if_pos hw]
 have hord := addN_order h.good h.built hid i2 i4 ops.length (Nat.le_refl _)
 rw [← he] at hord
 have hold : ∀ (i : Nat) (x : El), T.e[i]? = some x → ∃ y : El, (addT T id ops).e[i]? = some y ∧ y.name = x.name ∧ y.byte = x.byte ∧ (x.gone = true → y.gone = true) := fun i x hx => by rw [he]; exact addN_old hx
 generalize addT T id ops = T' at *
 have hnm : ∀ i, i < T.e.length → nm T'.e i = nm T.e i := fun i hi => by
  obtain ⟨x, hx⟩ : ∃ x, T.e[i]? = some x := ⟨_, List.getElem?_eq_getElem hi⟩
  obtain ⟨y, hy, hn, _⟩ := hold i x hx
  rw [nm_at hx, nm_at hy, hn]
 have hsub : (seenE T'.e).filter (fun i => decide (i < T.e.length)) = (seenE T.e).filter fun i => !goneAt T'.e i := by
  rw [seenE, seenE, ← hord, List.filter_filter, List.filter_filter, List.filter_filter]
  refine List.filter_congr fun i _ => ?_
  by_cases hi : i < T.e.length
  ·
   obtain ⟨x, hx⟩ : ∃ x, T.e[i]? = some x := ⟨_, List.getElem?_eq_getElem hi⟩
   obtain ⟨y, hy, _, _, hg⟩ := hold i x hx
   rw [goneAt_at hx, goneAt_at hy]
   cases hxg : x.gone
   ·
    simp [hi]
   ·
    simp [hg hxg]
  ·
   simp [hi]
 refine ⟨?_, hnm, fun i hi => ?_, fun i hi => ?_⟩
 ·
  have hp : (seenE T'.e).Pairwise fun i j => (seenE T'.e).idxOf i < (seenE T'.e).idxOf j := by
   rw [List.pairwise_iff_getElem]
   intro p q hp hq hpq
   rw [h'.good.seen_nodup.idxOf_getElem p hp, h'.good.seen_nodup.idxOf_getElem q hq]; exact hpq
  have hp2 := List.Pairwise.sublist (List.filter_sublist (p := fun i => decide (i < T.e.length))) hp
  rw [hsub, List.pairwise_filter] at hp2
  exact hp2.imp fun {i j} hh hi hj => hh (by rw [seen_gone hi]; rfl) (by rw [seen_gone hj]; rfl)
 ·
  have hil := seen_lt h.good.down hi
  obtain ⟨x, hx⟩ : ∃ x, T.e[i]? = some x := ⟨_, List.getElem?_eq_getElem hil⟩
  obtain ⟨y, hy, hyn, _, _⟩ := hold i x hx
  have hxg : x.gone = false := by have := seen_gone hi; rwa [goneAt_at hx] at this
  have hxz : x.name ≠ RefD.zero := fun hz => by have := h.good.seen_pos hi; have := (h.good.zero hx).1 hz; omega
  have hxd : ¬ DelOf L x.name := fun hd => by have := (h.built.gone x (List.mem_of_getElem? hx)).2 (.inr hd); rw [hxg] at this; cases this
  rw [h'.good.seen_mem hy, nm_at hx, ← Bool.not_eq_true, h'.built.gone y (List.mem_of_getElem? hy), hyn]
  refine not_congr ⟨?_, ?_⟩
  ·
   rintro (hz | ⟨id', ops', k, o, hm, ho, hk, hr⟩)
   ·
    exact absurd hz hxz
   ·
    rcases List.mem_append.1 hm with hm | hm
    ·
     exact absurd ⟨id', ops', k, o, hm, ho, hk, hr⟩ hxd
    ·
     simp at hm
     obtain ⟨rfl, rfl⟩ := hm
     refine ⟨o, List.mem_of_getElem? ho, hk, ?_⟩
     by_cases hown : o.at_.own = true
     ·
      exfalso
      rw [res, if_pos hown] at hr
      rcases (h.built.names x.name).1 ⟨x, List.mem_of_getElem? hx, rfl⟩ with hz | ⟨b, p, s, id2, ops2, k2, o2, hm2, _, _, hr2, _⟩
      ·
       exact hxz hz
      ·
       rw [hr] at hr2
       injection hr2 with _ hh _
       exact hid (by rw [hh]; exact List.mem_map_of_mem hm2)
     ·
      rw [res, if_neg hown] at hr; exact hr.symm
  ·
   rintro ⟨o, ho, hk, hr⟩
   obtain ⟨k, ho⟩ := List.mem_iff_getElem?.1 ho
   refine .inr ⟨id, ops, k, o, by simp, ho, hk, ?_⟩
   rw [res, hr, if_neg (by rw [h.good.ownF hx]; decide)]
 ·
  by_cases hil : i < T.e.length
  ·
   left
   obtain ⟨x, hx⟩ : ∃ x, T.e[i]? = some x := ⟨_, List.getElem?_eq_getElem hil⟩
   obtain ⟨y, hy, _, _, hg⟩ := hold i x hx
   rw [h.good.seen_mem hx]
   have := seen_gone hi
   rw [goneAt_at hy] at this
   cases hxg : x.gone
   ·
    rfl
   ·
    rw [hg hxg] at this; cases this
  ·
   right
   have hil' := seen_lt h'.good.down hi
   obtain ⟨y, hy⟩ : ∃ y, T'.e[i]? = some y := ⟨_, List.getElem?_eq_getElem hil'⟩
   rw [nm_at hy]
   have hp := h.good.pos
   rcases (h'.built.names y.name).1 ⟨y, List.mem_of_getElem? hy, rfl⟩ with hz | ⟨b, p, s, id', ops', k, o, hm, ho, hk, hr, hh⟩
   ·
    have := (h'.good.zero hy).1 hz; omega
   ·
    rcases List.mem_append.1 hm with hm | hm
    ·
     exfalso
     obtain ⟨x, hx, hxn⟩ := (h.built.names y.name).2 (.inr ⟨b, p, s, id', ops', k, o, hm, ho, hk, hr, hh⟩)
     obtain ⟨j, hx⟩ := List.mem_iff_getElem?.1 hx
     obtain ⟨y', hy', hn', _⟩ := hold j x hx
     have := h'.good.inj hy' hy (hn'.trans hxn)
     have := (List.getElem?_eq_some_iff.1 hx).1
     omega
    ·
     simp at hm
     rw [hr, hm.1]
end Go.Fu
/- commit.ID, walked. No condition. -/
namespace Go.Proofs.YtmehkigmnpjcjaaDoor
open Go.RowKit Go.Fw Go.Pl
def idD (c : ComD) : Dig := if mayI c = 0 then shaD (comB c) else Dig.zero
theorem id_any (u : Value) (c : ComD) (w : World) (hc : Com w u c) (hK : Mem w ⟨0, 0, none⟩ (wds keysL)) : Calls Tryd.prog 8 #[u] w (Ret fun v w' => v = .tuple #[digV (idD c), .int .i64 (mayI c)] ∧ Ext w w') := by
 have hc0 := hc
 obtain ⟨pv, ov, rfl, _⟩ := hc
 obtain ⟨id, hid, hzd, _⟩ := info_apiDigest
 refine calls_of_CWct 17 2 32 [3] [(0, .agg (comC pv c.author c.note ov).toArray)] Tryd.func8 rfl rfl rfl Tryd.underlying36 rfl kr_ (by simp) args1 ?_
 have hE : Ext w w := Chg.refl
 refine CW.sr fun K1 hK1 => ?_
 refine WL.box rfl rfl de_ fun g1 w1 hx1 hg1 hB1 => ?_
 have hlt1 := hB1.lt; have hz1 := hx1.size
 have hM1 := hB1.mem; have hz1 := hx1.size; have hE := hE.thenExt hx1
 refine WL.alloc (hid) (hzd) rfl de_ fun g2 w2 hx2 hg2 hB2 => ?_
 have hlt2 := hB2.lt; have hz2 := hx2.size
 have hM2 := hB2.mem; have hz2 := hx2.size; have hE := hE.thenExt hx2; have hB1 := hB1.ext hx2
 refine WL.a rfl ?_
 refine WL.nil (hK1 _ _ ?_); try clear hK1
 refine CW.sr fun K2 hK2 => ?_
 refine WL.v (Y.load Tryd.underlying29 rfl hB1.mem (sz_apiCommit _ _ _ _) rfl) ?_
 refine WL.call Tryd.func21 rfl rfl rfl (encode_any _ c _ (hc0.ext hE)) (by simp) ?_; rintro v8 w3 hR3
 obtain ⟨u3, rfl, hA3⟩ := hR3
 have hx3 := hA3.nilExt
 have hz3 := hx3.size
 have hE := hE.thenExt hx3
 have hB1 := hB1.ext hx3
 have hB2 := hB2.ext hx3
 have hO3 := hA3.nilOwn.by
 have hlt3 := hA3.nilOwn.lt
 obtain ⟨A3, m3, c3, rfl⟩ := hO3.lens
 refine WL.m rfl ?_
 refine WL.v (Y.extract rfl rfl) ?_
 refine WL.v (Y.extract rfl rfl) ?_
 refine WL.a rfl ?_
 refine WL.a rfl ?_
 refine WL.nil (hK2 _ _ ?_); try clear hK2
 refine CW.seq fun K3 hK3 => ?_
 refine CW.sr fun K4 hK4 => ?_
 refine WL.m rfl ?_
 refine WL.v (Y.neq rfl rfl) ?_
 refine WL.nil (hK4 _ _ ?_); try clear hK4
 (first | refine cd_ rfl ?_ ?_ | refine ce_ rfl ?_ ?_ | refine cn_ rfl ?_ ?_ | refine cb_ rfl ?_ ?_) <;> intro ht5
 ·
  -- then
  refine CW.sr fun K6 hK6 => ?_
  refine WL.v (Y.build0 (build_apiDigest _)) ?_
  refine WL.m rfl ?_
  refine WL.store (g := g2) (pre := []) (old := digC Dig.zero) (post := []) (new := digC Dig.zero) rfl rfl rfl rfl (sz_apiDigest _) (by simpa using hB2) (by first | (simp only [List.length_cons, List.length_nil, List.length_map, List.length_replicate, V8.ws, digC_length]; done) | rfl | (simp [digC_length, opC_length]; done) | (simp only [digC_length, opC_length]; omega)) (one_digC) (fun w4 hc4 hB4_ => ?_)
  have hz4 := hc4.size; have hE := hE.step hc4 (fun k h => by omega); have hB1 := hB1.chg hc4 no_
  have hB2 : Blk w4 g2 TDi (digC Dig.zero) := by simpa using hB4_
  refine WL.a rfl ?_
  refine WL.nil (hK6 _ _ ?_); try clear hK6
  refine CW.ret ?_
  exact ⟨_, _, _, rfl, hB2.mem, digC_length _, rfl, by rw [idD, if_neg (by assumption)]; rfl, hE⟩
 refine CW.skip ?_
 refine hK3 _ _ ?_; try clear hK3
 refine CW.sr fun K7 hK7 => ?_
 refine WL.m rfl ?_
 refine WL.call Tryd.func22 rfl rfl rfl (sum_any _ (if mayI c = 0 then comB c else []) _ hO3 (fun _ => hlt3) (hK.ext hE) (by rw [if_pos om_]; have := comB_len (c := c) om_; omega)) (by simp) ?_; rintro v w5 ⟨rfl, hx5⟩; have hz5 := hx5.size; have hE := hE.thenExt hx5; have hB1 := hB1.ext hx5; have hB2 := hB2.ext hx5
 refine WL.store (g := g2) (pre := []) (old := digC Dig.zero) (post := []) (new := digC (shaD (if mayI c = 0 then comB c else []))) rfl rfl rfl rfl (sz_apiDigest _) (by simpa using hB2) (by first | (simp only [List.length_cons, List.length_nil, List.length_map, List.length_replicate, V8.ws, digC_length]; done) | rfl | (simp [digC_length, opC_length]; done) | (simp only [digC_length, opC_length]; omega)) (one_digC) (fun w6 hc6 hB6_ => ?_)
 have hz6 := hc6.size; have hE := hE.step hc6 (fun k h => by omega); have hB1 := hB1.chg hc6 no_
 have hm0 : mayI c = 0 := by omega
 have hB2 : Blk w6 g2 TDi (digC (idD c)) := by rw [idD, if_pos hm0]; rw [if_pos hm0] at hB6_; simpa using hB6_
 refine WL.a rfl ?_
 refine WL.nil (hK7 _ _ ?_); try clear hK7
 refine CW.ret ?_
 exact ⟨_, _, _, rfl, hB2.mem, digC_length _, rfl, by rw [hm0], hE⟩
end Go.Proofs.YtmehkigmnpjcjaaDoor
