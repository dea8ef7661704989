/- Parts of a proof: what its last text leans on. No condition. -/
import Derived.Test.YtmehkigmnpjcjaaDoorK03
import Derived.Test.YtmehkigmnpjcjaaDoorK20
set_option linter.unusedSimpArgs false
set_option linter.unusedVariables false
/- Operations of a script: how many; whom a text comes of, run by run. No condition; no program. -/
namespace Go.Fu
open Go.Pl Go.Fw
theorem cutOps_length {e : List El} {a n : Nat} (h : a + n ≤ (seenE e).length) : (cutOps e a n).length = n := by
 simp [cutOps]; omega
theorem insOps_length {g : RefD × Bool × Bool} {n : Nat} {s : List UInt8} : (insOps g n s).length = s.length := by simp [insOps]
theorem overE_take (l : List EdD) (k : Nat) : overE (l.take k) ≤ overE l := by
 have : overE l = overE (l.take k) + overE (l.drop k) := by
  unfold overE
  rw [← List.sum_append, ← List.map_append, List.take_append_drop]
 omega
theorem overE_app (l m : List EdD) : overE (l ++ m) = overE l + overE m := by simp [overE]
theorem costE_app (l m : List EdD) : costE (l ++ m) = costE l + costE m := by simp [costE]
structure OpsInv (e : List El) (l : List EdD) (s : OpsSt) : Prop where
 at_ : s.at_ = overE l
 kept : s.kept ≤ s.at_
 len : s.out.length = costE l
theorem ops_inv {e : List El} : ∀ (m l : List EdD) (s : OpsSt), OpsInv e l s → (∀ x ∈ m, x.May) → overE (l ++ m) ≤ (seenE e).length → OpsInv e (l ++ m) (m.foldl (edOps e) s)
 | [], l, s, h, _, _ => by simpa using h
 | x :: m, l, s, h, hm, hb => by
  have hb1 : overE (l ++ [x]) ≤ (seenE e).length := by
   have : l ++ x :: m = (l ++ [x]) ++ m := by simp
   rw [this, overE_app] at hb; omega
  have h1 : OpsInv e (l ++ [x]) (edOps e s x) := by
   have hx := hm x (by simp)
   have ha := h.at_
   have hk := h.kept
   have hl := h.len
   rw [overE_app] at hb1
   have o1 : overE [x] = x.over := by simp [overE]
   have c1 : costE [x] = x.cost := by simp [costE]
   unfold EdD.May at hx
   unfold edOps
   by_cases k1 : x.kind = 1
   ·
    rw [if_pos k1]
    refine ⟨?_, Nat.le_refl _, ?_⟩
    ·
     rw [overE_app, o1, EdD.over, if_neg om_]; show s.at_ + x.n = _; omega
    ·
     rw [costE_app, c1, EdD.cost, if_pos k1]; exact hl
   ·
    rw [if_neg k1]
    by_cases k2 : x.kind = 2
    ·
     rw [if_pos k2]
     have hov : x.over = x.n := by rw [EdD.over, if_neg om_]
     have ht : x.text = [] := by
      rcases hx with ⟨_, _, h⟩ | ⟨h, _⟩
      ·
       exact h
      ·
       omega
     refine ⟨?_, by show s.kept ≤ s.at_ + x.n; omega, ?_⟩
     ·
      rw [overE_app, o1, hov]; show s.at_ + x.n = _; omega
     ·
      rw [costE_app, c1, EdD.cost, if_neg k1, ht]
      show (s.out ++ cutOps e s.at_ x.n).length = _
      rw [List.length_append, cutOps_length (by rw [o1, hov] at hb1; omega), hl]; rfl
    ·
     rw [if_neg k2]
     have h3 : x.kind = 3 ∧ x.n = 0 := by
      rcases hx with ⟨h, _⟩ | ⟨h, h', _⟩
      ·
       omega
      ·
       exact ⟨h, h'⟩
     refine ⟨?_, hk, ?_⟩
     ·
      rw [overE_app, o1, EdD.over, if_pos h3.1]; exact ha
     ·
      rw [costE_app, c1, EdD.cost, if_neg k1, h3.2]
      show (s.out ++ insOps _ _ x.text).length = _
      rw [List.length_append, insOps_length, hl]; omega
  have := ops_inv m (l ++ [x]) _ h1 (fun y hy => hm y (by simp [hy])) (by simpa using hb)
  simpa using this
theorem ops_start {e : List El} : OpsInv e [] ⟨0, 0, []⟩ := ⟨rfl, Nat.le_refl _, rfl⟩
def opsAt (e : List El) (b : List UInt8) (k : Nat) : OpsSt := ((scriptE (textE e) b).take k).foldl (edOps e) ⟨0, 0, []⟩
theorem opsAt_inv (e : List El) (b : List UInt8) (k : Nat) : OpsInv e ((scriptE (textE e) b).take k) (opsAt e b k) := by
 have h := ops_inv (e := e) ((scriptE (textE e) b).take k) [] ⟨0, 0, []⟩ ops_start (fun x hx => script_may _ _ x (List.mem_of_mem_take hx)) (by
  rw [List.nil_append]
  have h1 := overE_take (scriptE (textE e) b) k
  rw [script_over] at h1
  simpa [textE] using h1)
 rw [List.nil_append] at h
 exact h
theorem opsAt_succ {e : List El} {b : List UInt8} {k : Nat} {x : EdD} (h : (scriptE (textE e) b)[k]? = some x) : opsAt e b (k + 1) = edOps e (opsAt e b k) x := by
 unfold opsAt
 rw [Go.Pl.take_succ h, List.foldl_append]; rfl
theorem opsAt_end {e : List El} {b : List UInt8} : (opsAt e b (scriptE (textE e) b).length).out = opsE e b := by
 unfold opsAt opsE
 rw [List.take_length]
theorem opsAt_over {e : List El} {b : List UInt8} {k : Nat} {x : EdD} (h : (scriptE (textE e) b)[k]? = some x) : (opsAt e b k).at_ + x.over ≤ (seenE e).length := by
 have h1 := (opsAt_inv e b k).at_
 have h2 := overE_take (scriptE (textE e) b) (k + 1)
 rw [script_over, Go.Pl.take_succ h, overE_app] at h2
 have h3 : overE [x] = x.over := by simp [overE]
 have h4 : (textE e).length = (seenE e).length := by simp [textE]
 omega
theorem ops_length (e : List El) (b : List UInt8) : (opsE e b).length = cst (textE e) b := by
 rw [← opsAt_end, (opsAt_inv e b _).len, List.take_length, script_cost]
def spread (l : List RuD) : List Dig := l.flatMap fun r => List.replicate r.n r.c
structure RunsOk (l : List RuD) (ds : List Dig) : Prop where
 all : spread l = ds
 pos : ∀ r ∈ l, 1 ≤ r.n
 ne : ∀ (i : Nat) (r s : RuD), l[i]? = some r → l[i + 1]? = some s → r.c ≠ s.c
theorem RunsOk.add {l : List RuD} {ds : List Dig} (h : RunsOk l ds) (d : Dig) : RunsOk (addR l d) (ds ++ [d]) := by
 unfold addR
 by_cases hc : l.getLast?.map RuD.c = some d
 ·
  rw [if_pos hc]
  obtain ⟨r, hr, hd⟩ := Option.map_eq_some_iff.1 hc
  rw [List.getLast?_eq_some_iff] at hr
  obtain ⟨ys, rfl⟩ := hr
  have e : (ys ++ [r]).modify ((ys ++ [r]).length - 1) (fun r => (⟨r.c, r.n + 1⟩ : RuD)) = ys ++ [⟨r.c, r.n + 1⟩] := by
   apply List.ext_getElem?
   intro i
   rw [List.getElem?_modify, List.getElem?_append, List.getElem?_append]
   by_cases hi : i < ys.length
   ·
    rw [if_pos hi, if_pos hi]
    have : ¬ (ys ++ [r]).length - 1 = i := by simp; omega
    cases ys[i]? with
    | none => rfl
    | some z => show some (if (ys ++ [r]).length - 1 = i then _ else z) = _; rw [if_neg this]
   ·
    rw [if_neg hi, if_neg hi]
    by_cases hj : i = ys.length
    ·
     subst hj; simp
    ·
     rw [List.getElem?_eq_none_iff.2 (by simp; omega), List.getElem?_eq_none_iff.2 (by simp; omega)]; rfl
  rw [e]
  refine ⟨?_, ?_, ?_⟩
  ·
   rw [← h.all]
   simp only [spread, List.flatMap_append, List.flatMap_cons, List.flatMap_nil, List.append_nil, List.append_assoc]
   rw [List.replicate_succ', hd]
  ·
   intro x hx
   rcases List.mem_append.1 hx with hx | hx
   ·
    exact h.pos x (by simp [hx])
   ·
    simp at hx; subst hx; simp
  ·
   intro i x y hx hy
   rw [List.getElem?_append] at hx hy
   have h1 := h.ne i
   by_cases hi : i + 1 < ys.length
   ·
    rw [if_pos hi] at hy
    rw [if_pos om_] at hx
    exact h1 x y (by rw [List.getElem?_append_left om_]; exact hx) (by rw [List.getElem?_append_left hi]; exact hy)
   ·
    rw [if_neg hi] at hy
    have hil : i + 1 = ys.length := by
     have := (List.getElem?_eq_some_iff.1 hy).1; simp at this; omega
    rw [if_pos om_] at hx
    rw [hil, Nat.sub_self] at hy
    simp at hy
    subst hy
    exact h1 x r (by rw [List.getElem?_append_left om_]; exact hx) (by rw [hil]; simp)
 ·
  rw [if_neg hc]
  refine ⟨?_, ?_, ?_⟩
  ·
   rw [← h.all]; simp [spread]
  ·
   intro x hx
   rcases List.mem_append.1 hx with hx | hx
   ·
    exact h.pos x hx
   ·
    simp at hx; subst hx; exact Nat.le_refl _
  ·
   intro i x y hx hy
   rw [List.getElem?_append] at hx hy
   by_cases hi : i + 1 < l.length
   ·
    rw [if_pos hi] at hy
    rw [if_pos om_] at hx
    exact h.ne i x y hx hy
   ·
    rw [if_neg hi] at hy
    have hil : i + 1 = l.length := by
     have := (List.getElem?_eq_some_iff.1 hy).1; simp at this; omega
    rw [if_pos om_] at hx
    rw [hil, Nat.sub_self] at hy
    simp at hy
    subst hy
    intro hd
    refine hc ?_
    rw [List.getLast?_eq_getElem?, ← hil, Nat.add_sub_cancel, hx]
    show some x.c = some d
    rw [hd]
theorem runs_fold {l : List RuD} {ds : List Dig} (h : RunsOk l ds) : ∀ (es : List Dig), RunsOk (es.foldl addR l) (ds ++ es)
 | [] => by simpa using h
 | d :: es => by
  have := runs_fold (h.add d) es
  simpa using this
end Go.Fu
/- Operations of a script, step by step. No condition; no program. -/
namespace Go.Fu
open Go.Pl Go.Fw
structure StS where
 at_ : Nat
 kept : Nat
 out : List OpD
 run : Bool
def putOp (e : List El) (s : StS) (y : UInt8) : OpD := if s.run = true then ⟨1, false, ⟨true, Dig.zero, (s.out.length : Int)⟩, y⟩ else ⟨1, (gapE e (s.kept : Int)).2.1, (gapE e (s.kept : Int)).1, y⟩
def stepO (e : List El) (s : StS) : Stp → StS
 | .keep => ⟨s.at_ + 1, s.at_ + 1, s.out, false⟩
 | .cut => ⟨s.at_ + 1, s.kept, s.out ++ cutOps e s.at_ 1, false⟩
 | .put y => ⟨s.at_, s.kept, s.out ++ [putOp e s y], true⟩
def st0 : StS := ⟨0, 0, [], false⟩
theorem cutOps_succ (e : List El) (a n : Nat) : cutOps e a (n + 1) = cutOps e a n ++ cutOps e (a + n) 1 := by
 unfold cutOps
 rw [List.take_add, List.map_append, List.drop_drop]
theorem insOps_succ {g : RefD × Bool × Bool} {n : Nat} {s : List UInt8} {y : UInt8} (h : s ≠ []) : insOps g n (s ++ [y]) = insOps g n s ++ [⟨1, false, ⟨true, Dig.zero, ((n + s.length : Nat) : Int)⟩, y⟩] := by
 unfold insOps
 rw [List.mapIdx_append]
 congr 1
 have : s.length ≠ 0 := fun e => h (List.eq_nil_of_length_eq_zero e)
 simp [this]
theorem openE_same {l0 : List EdD} {x : EdD} {k : Nat} (h : x.kind = k) : openE (l0 ++ [x]) k = l0 ++ [x] := by
 rw [openE, if_pos (by simp [h])]
theorem modify_last {α : Type} {l : List α} {x : α} {f : α → α} : (l ++ [x]).modify ((l ++ [x]).length - 1) f = l ++ [f x] := by
 apply List.ext_getElem?
 intro i
 rw [List.getElem?_modify, List.getElem?_append, List.getElem?_append]
 by_cases hi : i < l.length
 ·
  rw [if_pos hi, if_pos hi]
  have : ¬ (l ++ [x]).length - 1 = i := by simp; omega
  cases l[i]? with
  | none => rfl
  | some z => show some (if (l ++ [x]).length - 1 = i then _ else z) = _; rw [if_neg this]
 ·
  rw [if_neg hi, if_neg hi]
  by_cases hj : i = l.length
  ·
   subst hj; simp
  ·
   rw [List.getElem?_eq_none_iff.2 (by simp; omega), List.getElem?_eq_none_iff.2 (by simp; omega)]; rfl
theorem addE_same {l0 : List EdD} {x : EdD} {s : Stp} (h : x.kind = s.kind) : addE (l0 ++ [x]) s = l0 ++ [x.more s] := by
 unfold addE
 rw [openE_same h, modify_last]
theorem addE_else {l : List EdD} {s : Stp} (h : l.getLast?.map EdD.kind ≠ some s.kind) : addE l s = l ++ [EdD.more ⟨s.kind, 0, []⟩ s] := by
 unfold addE
 rw [openE, if_neg h, modify_last]
def SameSt (e : List El) (l : List EdD) (t : StS) : Prop := t = ⟨(l.foldl (edOps e) ⟨0, 0, []⟩).at_, (l.foldl (edOps e) ⟨0, 0, []⟩).kept, (l.foldl (edOps e) ⟨0, 0, []⟩).out, decide (l.getLast?.map EdD.kind = some 3)⟩
theorem same_step {e : List El} {l : List EdD} {t : StS} (h : SameSt e l t) (hm : ∀ x ∈ l, x.May) (s : Stp) : SameSt e (addE l s) (stepO e t s) := by
 unfold SameSt at h ⊢
 by_cases hk : l.getLast?.map EdD.kind = some s.kind
 ·
  obtain ⟨x, hx, hxk⟩ := Option.map_eq_some_iff.1 hk
  rw [List.getLast?_eq_some_iff] at hx
  obtain ⟨l0, rfl⟩ := hx
  have hxm := hm x (by simp)
  rw [addE_same hxk, List.foldl_append]
  rw [List.foldl_append] at h
  simp only [List.foldl_cons, List.foldl_nil] at h ⊢
  generalize l0.foldl (edOps e) ⟨0, 0, []⟩ = u at h ⊢
  cases s with
  | keep =>
   have hxk : x.kind = 1 := hxk
   subst h
   simp only [stepO, edOps, EdD.more, hxk, if_true, List.getLast?_append, List.getLast?_singleton, Option.some_or, Option.map_some]
   simp [Nat.add_assoc]
  | cut =>
   have hxk : x.kind = 2 := hxk
   subst h
   simp only [stepO, edOps, EdD.more, hxk, List.getLast?_append, List.getLast?_singleton, Option.some_or, Option.map_some]
   have hc := cutOps_succ e u.at_ x.n
   simp [Nat.add_assoc, hc]
  | put y =>
   have hxk : x.kind = 3 := hxk
   have hne : x.text ≠ [] := by
    unfold EdD.May at hxm
    rcases hxm with ⟨h, _⟩ | ⟨_, _, h⟩
    ·
     omega
    ·
     exact h
   subst h
   simp only [stepO, edOps, EdD.more, putOp, hxk, List.getLast?_append, List.getLast?_singleton, Option.some_or, Option.map_some]
   simp [insOps_succ hne, insOps_length]
 ·
  rw [addE_else hk, List.foldl_append]
  simp only [List.foldl_cons, List.foldl_nil]
  generalize l.foldl (edOps e) ⟨0, 0, []⟩ = u at h ⊢
  cases s with
  | keep =>
   subst h
   simp [stepO, edOps, EdD.more, Stp.kind]
  | cut =>
   subst h
   simp [stepO, edOps, EdD.more, Stp.kind]
  | put y =>
   have hk : ¬ l.getLast?.map EdD.kind = some 3 := hk
   subst h
   simp [stepO, edOps, EdD.more, Stp.kind, putOp, insOps, hk]
theorem ops_steps (e : List El) (b : List UInt8) : opsE e b = ((stp (textE e) b).foldl (stepO e) st0).out := by
 have key : ∀ (ss : List Stp) (l : List EdD) (t : StS), SameSt e l t → (∀ x ∈ l, x.May) → SameSt e (ss.foldl addE l) (ss.foldl (stepO e) t) := fun ss => by
  induction ss with
  | nil => exact fun l t h _ => h
  | cons s r ih => exact fun l t h hm => ih _ _ (same_step h hm s) (addE_may hm s)
 have := key (stp (textE e) b) [] st0 rfl (fun x h => by cases h)
 unfold SameSt at this
 rw [this]; rfl
end Go.Fu
/- What the operations of a script do to a tree: they lead to the text, and what the script keeps stays. No condition but what Add asks; no program. -/
namespace Go.Fu
open Go.Pl Go.Fw
inductive Trans : List UInt8 → List UInt8 → List Stp → Prop
 | nil : Trans [] [] []
 | keep {x : UInt8} {a b : List UInt8} {ss : List Stp} : Trans a b ss → Trans (x :: a) (x :: b) (.keep :: ss)
 | cut {x : UInt8} {a b : List UInt8} {ss : List Stp} : Trans a b ss → Trans (x :: a) b (.cut :: ss)
 | put {y : UInt8} {a b : List UInt8} {ss : List Stp} : Trans a b ss → Trans a (y :: b) (.put y :: ss)
theorem stp_trans : ∀ (a b : List UInt8), Trans a b (stp a b)
 | [], b => by
  rw [stp_nil]
  induction b with
  | nil => exact .nil
  | cons y b ih => exact .put ih
 | x :: a, b => by
  induction b with
  | nil => rw [stp_end]; exact .cut (stp_trans a [])
  | cons y b ih =>
   rw [stp_cons]
   split
   ·
    rename_i h; subst h; exact .keep (stp_trans a b)
   ·
    split
    ·
     exact .cut (stp_trans a (y :: b))
    ·
     exact .put ih
theorem rightI_app {l m : List OpD} {i : Nat} (hi : i < l.length) : rightI (l ++ m) ((i : Int) + 1) = rightI l ((i : Int) + 1) := by
 obtain ⟨x, hx⟩ : ∃ x, l[i]? = some x := ⟨_, List.getElem?_eq_getElem hi⟩
 have hx' : (l ++ m)[i]? = some x := by rw [List.getElem?_append_left hi]; exact hx
 have hi' : (((i : Int) + 1) - 1).toNat = i := by omega
 rw [rightI_of (x := x) (by rw [List.length_append]; omega) (by rw [hi']; exact hx'), rightI_of (x := x) om_ (by rw [hi']; exact hx)]
 have hk : ¬ ((i : Int) + 1 ≤ x.at_.n) → kindAt (l ++ m) (x.at_.n - 1).toNat = kindAt l (x.at_.n - 1).toNat := fun h => by
  unfold kindAt; rw [List.getElem?_append_left om_]
 unfold rightX
 by_cases h : (i : Int) + 1 ≤ x.at_.n
 ·
  simp only [h, true_or]
 ·
  rw [hk h]
theorem wrongAt_app {e : List El} {l m : List OpD} {i : Nat} {x : OpD} (hi : i < l.length) : wrongAt e (l ++ m) i x = wrongAt e l i x := by
 unfold wrongAt; rw [rightI_app hi]
def RightAll (e : List El) (out : List OpD) : Prop := ∀ (j : Nat) (x : OpD), out[j]? = some x → wrongAt e out j x = 0
theorem RightAll.snoc {e : List El} {out : List OpD} {x : OpD} (h : RightAll e out) (hx : wrongAt e (out ++ [x]) out.length x = 0) : RightAll e (out ++ [x]) := fun j y hy => by
 rcases Nat.lt_or_ge j out.length with hj | hj
 ·
  rw [wrongAt_app hj]; exact h j y (by rwa [List.getElem?_append_left hj] at hy)
 ·
  have hj2 := (List.getElem?_eq_some_iff.1 hy).1
  simp at hj2
  obtain rfl : j = out.length := by omega
  simp at hy; subst hy; exact hx
theorem RightAll.zero {e : List El} {out : List OpD} (h : RightAll e out) : wrongN e out out.length = 0 := by
 by_cases h0 : wrongN e out out.length = 0
 ·
  exact h0
 ·
  obtain ⟨j, x, _, hx, hw⟩ := wrongN_first h0
  exact absurd (h j x hx) hw
theorem right_del {e : List El} (g : Good e) {q i : Nat} (hq : q ∈ seenE e) {l : List OpD} (hl : l[i]? = some ⟨2, false, nm e q, 0⟩) : wrongAt e l i ⟨2, false, nm e q, 0⟩ = 0 := by
 have hi := (List.getElem?_eq_some_iff.1 hl).1
 obtain ⟨z, hz⟩ : ∃ z, e[q]? = some z := ⟨_, List.getElem?_eq_getElem (seen_lt g.down hq)⟩
 have hp := g.seen_pos hq
 obtain ⟨ho, hn1, hn2⟩ := g.own q z hp hz
 have hne : z.name ≠ RefD.zero := fun h => by have := (g.zero hz).1 h; omega
 rw [nm_at hz] at hl ⊢
 have hR : rightI l ((i : Int) + 1) = 0 := by
  rw [rightI_of (x := ⟨2, false, z.name, 0⟩) om_ (by rw [show (((i : Int) + 1) - 1).toNat = i by omega]; exact hl)]
  unfold rightX
  rw [if_neg (by simp [refB, ho]; intro _; omega), if_neg (by simp), if_neg (by simp [rootB, hne]), if_neg (by simp), if_neg (by simp [ho])]
 unfold wrongAt
 rw [if_neg (by rw [hR]; decide)]
 refine if_neg fun hk => ?_
 have := g.find hz
 rw [hk.2] at this; cases this
theorem right_put {e : List El} (g : Good e) {at_ : RefD} {left : Bool} {y : UInt8} {a i : Nat} (ha : atE e at_ = some a) (hl : left = true → 0 < a) {l : List OpD} (hx : l[i]? = some ⟨1, left, at_, y⟩) : wrongAt e l i ⟨1, left, at_, y⟩ = 0 := by
 have hi := (List.getElem?_eq_some_iff.1 hx).1
 obtain ⟨z, hz, hn, _⟩ := atE_some.1 ha
 have ho := g.ownF hz
 rw [hn] at ho
 have href : refB at_ = true := by
  by_cases ha0 : a = 0
  ·
   have := (g.zero hz).2 ha0
   rw [hn] at this; rw [this]; simp [refB, rootB, RefD.zero]
  ·
   have := g.own a z om_ hz
   rw [hn] at this
   simp [refB, ho, this.2.2]; omega
 have hR : rightI l ((i : Int) + 1) = 0 := by
  rw [rightI_of (x := ⟨1, left, at_, y⟩) om_ (by rw [show (((i : Int) + 1) - 1).toNat = i by omega]; exact hx)]
  simp only [rightX, rootB, decide_eq_true_eq]
  rw [if_neg (by rw [href]; decide), if_neg, if_neg om_, if_neg om_, if_neg (by rw [ho]; simp)]
  rintro ⟨_, h1, h2⟩
  have := hl h1
  have := (g.zero hz).1 (hn.trans h2)
  omega
 unfold wrongAt
 rw [if_neg (by rw [hR]; decide)]
 refine if_neg fun hk => ?_
 rw [ha] at hk; cases hk.2
theorem right_run {e : List El} {y : UInt8} {i : Nat} (h0 : 0 < i) {l : List OpD} (hx : l[i]? = some ⟨1, false, ⟨true, Dig.zero, (i : Int)⟩, y⟩) (hk : kindAt l (i - 1) = 1) : wrongAt e l i ⟨1, false, ⟨true, Dig.zero, (i : Int)⟩, y⟩ = 0 := by
 have hi := (List.getElem?_eq_some_iff.1 hx).1
 have hR : rightI l ((i : Int) + 1) = 0 := by
  rw [rightI_of (x := ⟨1, false, ⟨true, Dig.zero, (i : Int)⟩, y⟩) om_ (by rw [show (((i : Int) + 1) - 1).toNat = i by omega]; exact hx)]
  unfold rightX
  rw [if_neg (by simp [refB]; omega), if_neg (by simp), if_neg (by simp), if_neg (by simp), if_neg (by simp only [show ((i : Int) - 1).toNat = i - 1 by omega, hk]; simp; omega)]
 unfold wrongAt
 rw [if_neg (by rw [hR]; decide)]
 refine if_neg fun hk => ?_
 have := (refKind_two hk.1).1
 cases this
theorem cutOps_one {e : List El} {n q : Nat} (h : (seenE e)[n]? = some q) : cutOps e n 1 = [⟨2, false, nm e q, 0⟩] := by
 have hn := (List.getElem?_eq_some_iff.1 h).1
 obtain ⟨_, he⟩ := List.getElem?_eq_some_iff.1 h
 rw [cutOps, List.drop_eq_getElem_cons hn, he]; rfl
theorem gap_at {L : Coms} {T : Tr} (h : TreeOk L T) {n : Nat} (hn : n ≤ (seenE T.e).length) : (gapE T.e (n : Int)).1 = (gapAt T.e (gapI T.e n)).1 ∧ (gapE T.e (n : Int)).2.1 = (gapAt T.e (gapI T.e n)).2 := by
 rw [gapE, if_neg om_]; exact ⟨rfl, rfl⟩
structure RInv (e : List El) (t : StS) : Prop where
 right : RightAll e t.out
 last : t.run = true → 0 < t.out.length ∧ kindAt t.out (t.out.length - 1) = 1
 kept : t.kept ≤ t.at_
theorem RInv.step {L : Coms} {T : Tr} (h : TreeOk L T) {t : StS} (hI : RInv T.e t) (s : Stp) (hs : t.at_ + s.over ≤ (seenE T.e).length) : RInv T.e (stepO T.e t s) := by
 have hk := hI.kept
 cases s with
 | keep => exact ⟨hI.right, fun h => (by cases h), Nat.le_refl _⟩
 | cut =>
  simp only [Stp.over] at hs
  obtain ⟨q, hq⟩ : ∃ q, (seenE T.e)[t.at_]? = some q := ⟨_, List.getElem?_eq_getElem om_⟩
  refine ⟨?_, fun h => (by cases h), by show t.kept ≤ t.at_ + 1; omega⟩
  show RightAll T.e (t.out ++ cutOps T.e t.at_ 1)
  rw [cutOps_one hq]
  exact hI.right.snoc (right_del h.good (List.mem_of_getElem? hq) (by simp))
 | put y =>
  simp only [Stp.over] at hs
  have hkind : (putOp T.e t y).kind = 1 := by unfold putOp; split <;> rfl
  refine ⟨?_, fun _ => ⟨by show 0 < (t.out ++ [putOp T.e t y]).length; simp, ?_⟩, hk⟩
  ·
   show RightAll T.e (t.out ++ [putOp T.e t y])
   refine hI.right.snoc ?_
   unfold putOp
   by_cases hr : t.run = true
   ·
    rw [if_pos hr]
    obtain ⟨h0, h1⟩ := hI.last hr
    refine right_run h0 (by simp) ?_
    unfold kindAt at h1 ⊢
    rw [List.getElem?_append_left om_]; exact h1
   ·
    rw [if_neg hr]
    obtain ⟨X, Y, ho, ha, _⟩ := gap_split h (n := t.kept) om_
    obtain ⟨A, z, hA, _, _, _, hl, _⟩ := gap_first h ho ha
    obtain ⟨e1, e2⟩ := gap_at h (n := t.kept) om_
    rw [e1, e2]
    exact right_put h.good hA hl (by simp)
  ·
   show kindAt (t.out ++ [putOp T.e t y]) ((t.out ++ [putOp T.e t y]).length - 1) = 1
   simp [kindAt, hkind]
theorem RInv.start (e : List El) : RInv e st0 := ⟨fun j x h => by simp [st0] at h, fun h => (by cases h), Nat.le_refl _⟩
theorem RInv.all {L : Coms} {T : Tr} (h : TreeOk L T) : ∀ (ss : List Stp) (t : StS), RInv T.e t → t.at_ + (ss.map Stp.over).sum ≤ (seenE T.e).length → RInv T.e (ss.foldl (stepO T.e) t)
 | [], _, hI, _ => hI
 | s :: r, t, hI, hb => by
  rw [List.map_cons, List.sum_cons] at hb
  have h1 := hI.step h s om_
  refine RInv.all h r _ h1 ?_
  have : (stepO T.e t s).at_ = t.at_ + s.over := by cases s <;> rfl
  omega
theorem ops_right {L : Coms} {T : Tr} (h : TreeOk L T) (b : List UInt8) : wrongN T.e (opsE T.e b) (opsE T.e b).length = 0 := by
 rw [ops_steps]
 exact (RInv.all h _ st0 (RInv.start _) (by rw [stp_over]; simp [st0, textE])).right.zero
end Go.Fu
/- Where the elements stand that a script's operations make. Plain. -/
namespace Go.Fu
open Go.Pl Go.Fw
def Pre (n w : Nat) (l : List Nat) : Prop := ∀ x y, l = x ++ n :: y → ∃ x', x = x' ++ [w]
theorem Pre.app {n w : Nat} {l m : List Nat} (hl : Pre n w l) (hm : Pre n w m) : Pre n w (l ++ m) := by
 intro x y he
 rcases List.append_eq_append_iff.1 he with ⟨t, h1, h2⟩ | ⟨t, h1, h2⟩
 ·
  obtain ⟨x', hx⟩ := hm t y h2
  exact ⟨l ++ x', by rw [h1, hx]; simp⟩
 ·
  cases t with
  | nil =>
   obtain ⟨x', hx⟩ := hm [] y h2.symm
   cases x' <;> cases hx
  | cons c t =>
   simp only [List.cons_append, List.cons.injEq] at h2
   obtain ⟨rfl, h2⟩ := h2
   exact hl x t h1
theorem Pre.flat {n w : Nat} {l : List Nat} {f : Nat → List Nat} (h : ∀ c ∈ l, Pre n w (f c)) : Pre n w (l.flatMap f) := by
 induction l with
 | nil => intro x y he; cases x <;> cases he
 | cons c r ih => rw [List.flatMap_cons]; exact (h c (by simp)).app (ih fun d hd => h d (by simp [hd]))
theorem Pre.none {n w : Nat} {l : List Nat} (h : n ∉ l) : Pre n w l := fun x y he => absurd (by rw [he]; simp) h
theorem grow_above {e : List El} {a : Nat} {s : Bool} {r : RefD} {b : UInt8} (h : Down e) (ha : a < e.length) : ∀ i, i < e.length → a < i → walkE (growE e a s r b) i = walkE e i := by
 refine down_ind h fun i x hx ih hai => ?_
 have hd := h i x hx
 rw [walkE_eq (grow_down h ha) (grow_old hx), walkE_eq h hx, if_neg om_]
 rw [flatMap_same (l := x.left) fun c hc => ih c (.inl hc) (hd c (.inl hc)).2 (by have := (hd c (.inl hc)).1; omega), flatMap_same (l := x.right) fun c hc => ih c (.inr hc) (hd c (.inr hc)).2 (by have := (hd c (.inr hc)).1; omega)]
theorem walk_below {e : List El} (h : Down e) : ∀ i, i < e.length → ∀ j ∈ walkE e i, j < e.length := fun i hi j hj => by
 rcases walk_lt h i hi j hj with h | h
 ·
  exact h.1
 ·
  exact h
theorem grow_end {e : List El} {a : Nat} {r : RefD} {b : UInt8} {z : El} (h : Down e) (ha : a < e.length) (hz : e[a]? = some z) (hp : kid e r z.right = z.right ++ [e.length]) {u : List Nat} {w : Nat} (hw : a :: z.right.flatMap (walkE e) = u ++ [w]) : ∀ i, i < e.length → Pre e.length w (walkE (growE e a false r b) i) := by
 refine down_ind h fun i x hx ih => ?_
 have hi := (List.getElem?_eq_some_iff.1 hx).1
 have hd := h i x hx
 have hn := grow_walk_new (left := false) (r := r) (b := b) h ha
 rw [walkE_eq (grow_down h ha) (grow_old hx)]
 by_cases hia : i = a
 ·
  subst hia
  obtain rfl : x = z := Option.some.inj (hx.symm.trans hz)
  rw [if_pos rfl]
  show Pre _ _ (x.left.flatMap _ ++ i :: (kid e r x.right).flatMap _)
  rw [hp, List.flatMap_append, List.flatMap_cons, List.flatMap_nil, hn]
  have e1 : x.right.flatMap (walkE (growE e i false r b)) = x.right.flatMap (walkE e) := flatMap_same fun c hc => grow_above h ha c (hd c (.inr hc)).2 (hd c (.inr hc)).1
  rw [e1]
  refine (Pre.flat fun c hc => ih c (.inl hc) (hd c (.inl hc)).2).app ?_
  intro p q he
  have hnot : e.length ∉ i :: x.right.flatMap (walkE e) := fun hm => by
   rcases List.mem_cons.1 hm with hm | hm
   ·
    omega
   ·
    obtain ⟨c, hc, hm⟩ := List.mem_flatMap.1 hm
    have := walk_below h c (hd c (.inr hc)).2 _ hm
    omega
  have he2 : (i :: x.right.flatMap (walkE e)) ++ e.length :: [] = p ++ e.length :: q := by simpa using he
  have hpe : p = i :: x.right.flatMap (walkE e) := by
   rcases List.append_eq_append_iff.1 he2 with ⟨t, h1, h2⟩ | ⟨t, h1, h2⟩
   ·
    cases t with
    | nil => simpa using h1
    | cons c t =>
     simp only [List.cons_append, List.cons.injEq] at h2
     have := congrArg List.length h2.2
     simp at this
   ·
    cases t with
    | nil => simpa using h1.symm
    | cons c t =>
     simp only [List.cons_append, List.cons.injEq] at h2
     exact absurd (by rw [h1, ← h2.1]; simp) hnot
  exact ⟨u, by rw [hpe, hw]⟩
 ·
  rw [if_neg hia]
  refine (Pre.flat fun c hc => ih c (.inl hc) (hd c (.inl hc)).2).app ?_
  have h1 : Pre e.length w [i] := Pre.none (by simp; omega)
  exact h1.app (Pre.flat fun c hc => ih c (.inr hc) (hd c (.inr hc)).2)
theorem place_new {l m u v : List Nat} {n w : Nat} (hf : l.filter (fun j => decide (j ≠ n)) = m) (hn : n ∈ l) (hc : l.count n = 1) (hp : Pre n w l) (hm : m = u ++ w :: v) (hd : m.Nodup) (hnm : n ∉ m) : l = u ++ w :: n :: v := by
 obtain ⟨p, q, hl⟩ := List.append_of_mem hn
 obtain ⟨p', hpw⟩ := hp p q hl
 subst hpw
 rw [hl, List.count_append, List.count_cons_self] at hc
 have hnp : n ∉ p' ++ [w] := fun h => by have := List.count_pos_iff.2 h; omega
 have hnq : n ∉ q := fun h => by have := List.count_pos_iff.2 h; omega
 have hkeep : ∀ k : List Nat, n ∉ k → k.filter (fun j => decide (j ≠ n)) = k := fun k hk => List.filter_eq_self.2 fun j hj => decide_eq_true fun e => hk (e ▸ hj)
 rw [hl, List.filter_append, List.filter_cons, if_neg (by simp), hkeep _ hnp, hkeep _ hnq, hm] at hf
 rw [hm] at hd
 have h2 : p' ++ w :: q = u ++ w :: v := by simpa using hf
 have hd2 := hd
 rw [← h2] at hd2
 have h3 : p' = u ∧ q = v := by
  have hwu : w ∉ u := fun h => (List.nodup_append.1 hd).2.2 w h w (by simp) rfl
  have hwp : w ∉ p' := fun h => (List.nodup_append.1 hd2).2.2 w h w (by simp) rfl
  rcases List.append_eq_append_iff.1 h2 with ⟨t, h4, h5⟩ | ⟨t, h4, h5⟩
  ·
   cases t with
   | nil => simp at h4 h5; exact ⟨h4.symm, h5⟩
   | cons c t =>
    simp only [List.cons_append, List.cons.injEq] at h5
    exact absurd (by rw [h4, ← h5.1]; simp) hwu
  ·
   cases t with
   | nil => simp at h4 h5; exact ⟨h4, h5.symm⟩
   | cons c t =>
    simp only [List.cons_append, List.cons.injEq] at h5
    exact absurd (by rw [h4, ← h5.1]; simp) hwp
 obtain ⟨rfl, rfl⟩ := h3
 rw [hl]; simp
theorem putN_end {f : Nat → Bool} {n : Nat} : ∀ {l : List Nat}, (∀ c ∈ l, f c = false) → putN f n l = l ++ [n]
 | [], _ => rfl
 | c :: l, h => by
  rw [putN, if_neg (by rw [h c (by simp)]; decide), putN_end fun d hd => h d (by simp [hd])]; rfl
theorem kid_end {e : List El} {id : Dig} {k : Int} {l : List Nat} (h : ∀ c ∈ l, ∃ j : Int, nm e c = ⟨false, id, j⟩ ∧ j ≤ k) : kid e ⟨false, id, k⟩ l = l ++ [e.length] :=
 putN_end fun c hc => by
  obtain ⟨j, hj, hjk⟩ := h c hc
  rw [hj]
  simp only [nameLt, lq_irrefl, Bool.false_or]
  simp; omega
theorem gone_is {e : List El} {q i : Nat} : goneAt (goneE e q) i = (decide (i = q) || goneAt e i) := by
 unfold goneAt
 rw [gone_at]
 cases e[i]? with
 | none => simp
 | some x =>
  by_cases h : i = q
  ·
   simp [h]
  ·
   simp [h]
theorem addN_app {id : Dig} {ops more : List OpD} {e : List El} : ∀ {k : Nat}, k ≤ ops.length → addN id (ops ++ more) e k = addN id ops e k
 | 0, _ => rfl
 | k + 1, hk => by
  have ih := addN_app (id := id) (ops := ops) (more := more) (e := e) (k := k) om_
  rw [addN, addN, ih, List.getElem?_append_left om_]
end Go.Fu
/- The tree behind some steps of a script. Plain. -/
namespace Go.Fu
open Go.Pl Go.Fw
def sd (y : El) (s : Bool) : List Nat := cond s y.left y.right
structure TAt (T : Tr) (id : Dig) (t : StS) (f : List El) (W X0 : List Nat) (a : Nat) (Z P0 M : List Nat) (A : Nat) (s : Bool) : Prop where
 f_is : f = addN id t.out T.e t.out.length
 base : orderE T.e = X0 ++ a :: Z
 a_is : a = gapI T.e (t.kept : Int)
 order : orderE f = P0 ++ a :: (M ++ Z)
 vis : (P0 ++ a :: M).filter (fun i => !goneAt f i) = W
 rest : Z.filter (fun i => !goneAt f i) = (seenE T.e).drop t.at_
 right : ∀ z ∈ Z, ∀ x, T.e[z]? = some x → ∃ y, f[z]? = some y ∧ y.right = x.right
 left : ∀ z ∈ Z.tail, ∀ x, T.e[z]? = some x → ∃ y, f[z]? = some y ∧ y.left = x.left
 gapA : (gapAt T.e a).2 = s ∧ atE T.e (gapAt T.e a).1 = some A ∧ (gapAt T.e a).1.own = false
 where_ : (s = false ∧ A = a) ∨ (s = true ∧ ∃ Y, Z = A :: Y)
 gap : ∃ y, f[A]? = some y ∧ (∀ c ∈ sd y s, ∃ j : Int, nm f c = ⟨false, id, j⟩ ∧ j ≤ (t.out.length : Int)) ∧ (s = false → y.right.flatMap (walkE f) = M)
 run : t.run = true → ∃ M0 p y, M = M0 ++ [p] ∧ p + 1 = f.length ∧ f[p]? = some y ∧ y.right = [] ∧ y.name = ⟨false, id, (t.out.length : Int)⟩
section
variable {L : Coms} {T : Tr} {id : Dig} {t : StS} {f : List El} {W X0 Z P0 M : List Nat} {a A q : Nat} {s : Bool}
 (h : TreeOk L T) (hid : id ∉ L.map (·.1)) (hI : RInv T.e t) (hl : t.out.length ≤ 2000) (hA : TAt T id t f W X0 a Z P0 M A s)
include h hid hI hl hA
theorem TAt.good : Good f := by
 rw [hA.f_is]; exact (add_upto h.good h.built hid hl hI.right.zero t.out.length (Nat.le_refl _)).1
omit h hid hI hl in
theorem TAt.old {i : Nat} {x : El} (hx : T.e[i]? = some x) : ∃ y, f[i]? = some y ∧ y.name = x.name ∧ y.byte = x.byte := by
 obtain ⟨y, h1, h2, h3, _⟩ := addN_old (id := id) (ops := t.out) (k := t.out.length) hx
 rw [← hA.f_is] at h1
 exact ⟨y, h1, h2, h3⟩
omit hid hI hl in
theorem TAt.next (hq : (seenE T.e)[t.at_]? = some q) : ∃ Z1 Z2, Z = Z1 ++ q :: Z2 ∧ goneAt f q = false ∧ Z1.filter (fun i => !goneAt f i) = [] ∧ Z2.filter (fun i => !goneAt f i) = (seenE T.e).drop (t.at_ + 1) ∧ (seenE T.e).drop t.at_ = q :: (seenE T.e).drop (t.at_ + 1) := by
 obtain ⟨hlt, he⟩ := List.getElem?_eq_some_iff.1 hq
 have hdr : (seenE T.e).drop t.at_ = q :: (seenE T.e).drop (t.at_ + 1) := by rw [List.drop_eq_getElem_cons hlt, he]
 have hm : q ∈ Z.filter (fun i => !goneAt f i) := by rw [hA.rest, hdr]; simp
 obtain ⟨hqZ, hqg⟩ := List.mem_filter.1 hm
 obtain ⟨Z1, Z2, hZ⟩ := List.append_of_mem hqZ
 have hrest := hA.rest
 rw [hZ, List.filter_append, List.filter_cons, if_pos hqg, hdr] at hrest
 have hnd := h.good.nodup
 rw [hA.base, hZ] at hnd
 have hnd2 : (Z1 ++ q :: Z2).Nodup := (List.nodup_cons.1 (List.nodup_append.1 hnd).2.1).2
 have hZ1 : Z1.filter (fun i => !goneAt f i) = [] := by
  cases hc : Z1.filter (fun i => !goneAt f i) with
  | nil => rfl
  | cons c r =>
   rw [hc] at hrest
   simp only [List.cons_append, List.cons.injEq] at hrest
   have hcm : c ∈ Z1 := (List.mem_filter.1 (by rw [hc]; simp : c ∈ Z1.filter (fun i => !goneAt f i))).1
   exact ((List.nodup_append.1 hnd2).2.2 c hcm q (by simp) hrest.1).elim
 rw [hZ1] at hrest
 simp only [List.nil_append, List.cons.injEq, true_and] at hrest
 exact ⟨Z1, Z2, hZ, by simpa using hqg, hZ1, hrest, hdr⟩
omit hid hI hl in
theorem TAt.keep (hq : (seenE T.e)[t.at_]? = some q) : ∃ X0' Z' P0' A' s', TAt T id (stepO T.e t .keep) f (W ++ [q]) X0' q Z' P0' [] A' s' := by
 obtain ⟨Z1, Z2, hZ, hqg, hZ1, hZ2, _⟩ := hA.next h hq
 subst hZ
 have hord : orderE T.e = (X0 ++ a :: Z1) ++ q :: Z2 := by rw [hA.base]; simp
 obtain ⟨A', z, hA1, hA2, hA3, hA4, hA5, hcase⟩ := gap_first h hord (seen_lt h.good.down (List.mem_of_getElem? hq))
 refine ⟨X0 ++ a :: Z1, Z2, P0 ++ a :: (M ++ Z1), A', (gapAt T.e q).2, {
  f_is := hA.f_is
  base := hord
  a_is := ?_
  order := by rw [hA.order]; simp
  vis := ?_
  rest := hZ2
  right := fun z hz => hA.right z (by simp [hz])
  left := fun z hz => hA.left z (by
   have := List.mem_of_mem_tail hz
   cases Z1 <;> simp [this])
  gapA := ⟨rfl, hA1, hA4⟩
  where_ := ?_
  gap := ?_
  run := fun h => (by cases h) }⟩
 ·
  show q = gapI T.e ((t.at_ + 1 : Nat) : Int)
  rw [gapI, if_neg om_, show (((t.at_ + 1 : Nat) : Int) - 1).toNat = t.at_ by omega, hq]; rfl
 ·
  have e : (P0 ++ a :: (M ++ Z1)) ++ [q] = (P0 ++ a :: M) ++ (Z1 ++ [q]) := by simp
  show ((P0 ++ a :: (M ++ Z1)) ++ [q]).filter _ = _
  rw [e, List.filter_append, hA.vis, List.filter_append, hZ1]
  simp [hqg]
 ·
  rcases hcase with ⟨h1, h2, _⟩ | ⟨h1, _, Y, h2⟩
  ·
   exact .inl ⟨h1, h2⟩
  ·
   exact .inr ⟨h1, Y, h2⟩
 ·
  rcases hcase with ⟨h1, h2, h3⟩ | ⟨h1, h3, Y, h2⟩
  ·
   subst h2
   obtain ⟨y, hy, hyr⟩ := hA.right A' (by simp) z hA2
   rw [h3] at hyr
   exact ⟨y, hy, fun c hc => by rw [h1] at hc; simp [sd, hyr] at hc, fun _ => by rw [hyr]; rfl⟩
  ·
   subst h2
   obtain ⟨y, hy, hyl⟩ := hA.left A' (by cases Z1 <;> simp) z hA2
   rw [h3] at hyl
   exact ⟨y, hy, fun c hc => by rw [h1] at hc; simp [sd, hyl] at hc, fun h4 => by rw [h1] at h4; cases h4⟩
theorem TAt.cut (hq : (seenE T.e)[t.at_]? = some q) : TAt T id (stepO T.e t .cut) (goneE f q) W X0 a Z P0 M A s := by
 have hg := hA.good h hid hI hl
 obtain ⟨Z1, Z2, hZ, hqg, hZ1, hZ2, hdr⟩ := hA.next h hq
 have hqm := List.mem_of_getElem? hq
 obtain ⟨z, hz⟩ : ∃ z, T.e[q]? = some z := ⟨_, List.getElem?_eq_getElem (seen_lt h.good.down hqm)⟩
 obtain ⟨yq, hyq, hyn, _⟩ := hA.old hz
 have hown := h.good.ownF hz
 have hat : atE f (res id (nm T.e q)) = some q := by
  have := hg.find hyq
  rw [hyn] at this
  rw [nm_at hz, res, if_neg (by rw [hown]; decide)]; exact this
 have hnf := hg.nodup
 rw [hA.order] at hnf
 have hqZ : q ∈ Z := by rw [hZ]; simp
 have hqn : q ∉ P0 ++ a :: M := fun hm => by
  have e : P0 ++ a :: (M ++ Z) = (P0 ++ a :: M) ++ Z := by simp
  rw [e] at hnf
  exact (List.nodup_append.1 hnf).2.2 q hm q hqZ rfl
 have hout : (stepO T.e t .cut).out = t.out ++ [⟨2, false, nm T.e q, 0⟩] := by
  show t.out ++ cutOps T.e t.at_ 1 = _
  rw [cutOps_one hq]
 have hfield : ∀ {i : Nat} {y : El}, f[i]? = some y → ∃ y', (goneE f q)[i]? = some y' ∧ y'.right = y.right ∧ y'.left = y.left := fun {i y} hy => by
  refine ⟨if i = q then { y with gone := true } else y, by rw [gone_at, hy]; rfl, ?_, ?_⟩ <;> split <;> rfl
 have hwk : walkE (goneE f q) = walkE f := funext fun i => gone_walk
 refine {
  f_is := ?_
  base := hA.base
  a_is := hA.a_is
  order := by rw [← hA.order]; exact congrFun hwk 0
  vis := ?_
  rest := ?_
  right := fun z hz x hx => by
   obtain ⟨y, hy, hyr⟩ := hA.right z hz x hx
   obtain ⟨y', h1, h2, _⟩ := hfield hy
   exact ⟨y', h1, h2.trans hyr⟩
  left := fun z hz x hx => by
   obtain ⟨y, hy, hyr⟩ := hA.left z hz x hx
   obtain ⟨y', h1, _, h2⟩ := hfield hy
   exact ⟨y', h1, h2.trans hyr⟩
  gapA := hA.gapA
  where_ := hA.where_
  gap := ?_
  run := fun h => (by cases h) }
 ·
  rw [hout]
  rw [List.length_append, List.length_singleton, addN_at (x := ⟨2, false, nm T.e q, 0⟩) (by simp), addN_app (Nat.le_refl _), ← hA.f_is, step_del hat rfl]
 ·
  rw [← hA.vis]
  refine List.filter_congr fun i hi => ?_
  rw [gone_is, decide_eq_false (fun e : i = q => hqn (by rw [← e]; exact hi)), Bool.false_or]
 ·
  have e : Z.filter (fun i => !goneAt (goneE f q) i) = (Z.filter (fun i => !goneAt f i)).filter (fun i => !decide (i = q)) := by
   rw [List.filter_filter]
   refine List.filter_congr fun i _ => ?_
   rw [gone_is]; simp [Bool.not_or]
  rw [e, hA.rest, hdr, List.filter_cons, if_neg (by simp)]
  show _ = (seenE T.e).drop (t.at_ + 1)
  refine List.filter_eq_self.2 fun i hi => ?_
  have hnd : ((seenE T.e).drop t.at_).Nodup := List.Nodup.sublist (List.drop_sublist _ _) h.good.seen_nodup
  rw [hdr] at hnd
  have := (List.nodup_cons.1 hnd).1
  simp only [Bool.not_eq_true', decide_eq_false_iff_not]
  rintro rfl; exact this hi
 ·
  obtain ⟨y, hy, hn, hw⟩ := hA.gap
  obtain ⟨y', h1, h2, h3⟩ := hfield hy
  refine ⟨y', h1, fun c hc => ?_, fun hs => by rw [h2, hwk]; exact hw hs⟩
  obtain ⟨j, hj, hjl⟩ := hn c (by unfold sd at hc ⊢; cases s <;> simp_all)
  exact ⟨j, by rw [gone_nm]; exact hj, by rw [hout, List.length_append, List.length_singleton]; omega⟩
omit h hid hI hl in
theorem TAt.grown (hg : Good f) {B : Nat} {s2 : Bool} {y : UInt8} {op : OpD} {t' : StS} (ht : t'.out = t.out ++ [op] ∧ t'.kept = t.kept ∧ t'.at_ = t.at_) (hB : B < f.length)
  (hf : growE f B s2 ⟨false, id, (t.out.length : Int) + 1⟩ y = addN id (t.out ++ [op]) T.e (t.out ++ [op]).length)
  (ho : orderE (growE f B s2 ⟨false, id, (t.out.length : Int) + 1⟩ y) = P0 ++ a :: ((M ++ [f.length]) ++ Z)) (hZ : ∀ z ∈ Z, z = B → s2 = true ∧ z ∉ Z.tail)
  (hgap : ∃ yA, (growE f B s2 ⟨false, id, (t.out.length : Int) + 1⟩ y)[A]? = some yA ∧ (∀ c ∈ sd yA s, c = f.length ∨ (c < f.length ∧ ∃ j : Int, nm f c = ⟨false, id, j⟩ ∧ j ≤ (t.out.length : Int))) ∧ (s = false → yA.right.flatMap (walkE (growE f B s2 ⟨false, id, (t.out.length : Int) + 1⟩ y)) = M ++ [f.length])) :
  TAt T id t' (growE f B s2 ⟨false, id, (t.out.length : Int) + 1⟩ y) (W ++ [f.length]) X0 a Z P0 (M ++ [f.length]) A s := by
 obtain ⟨ht1, ht2, ht3⟩ := ht
 have hin : ∀ i ∈ P0 ++ a :: (M ++ Z), i < f.length := fun i hi => order_lt hg.down (by rw [hA.order]; exact hi)
 have hgn : ∀ i, i < f.length → goneAt (growE f B s2 ⟨false, id, (t.out.length : Int) + 1⟩ y) i = goneAt f i := fun i hi => by
  obtain ⟨x, hx⟩ : ∃ x, f[i]? = some x := ⟨_, List.getElem?_eq_getElem hi⟩
  rw [goneAt_at (grow_old hx), goneAt_at hx]
  split
  ·
   exact (more_same x _ _ _).2.2
  ·
   rfl
 have hnew := grow_new (left := s2) (r := ⟨false, id, (t.out.length : Int) + 1⟩) (b := y) hB
 refine {
  f_is := by rw [ht1]; exact hf
  base := hA.base
  a_is := by rw [ht2]; exact hA.a_is
  order := ho
  vis := ?_
  rest := ?_
  right := fun z hz x hx => ?_
  left := fun z hz x hx => ?_
  gapA := hA.gapA
  where_ := hA.where_
  gap := ?_
  run := fun _ => ⟨M, f.length, _, rfl, by rw [grow_length], hnew, rfl, by rw [ht1, List.length_append, List.length_singleton]; simp⟩ }
 ·
  have e : P0 ++ a :: (M ++ [f.length]) = (P0 ++ a :: M) ++ [f.length] := by simp
  rw [e, List.filter_append, ← hA.vis]
  congr 1
  ·
   refine List.filter_congr fun i hi => ?_
   rw [hgn i (hin i (by simp at hi ⊢; rcases hi with h | h | h <;> simp [h]))]
  ·
   rw [List.filter_cons, if_pos (by rw [goneAt_at hnew]; rfl)]; rfl
 ·
  rw [ht3, ← hA.rest]
  refine List.filter_congr fun i hi => ?_
  rw [hgn i (hin i (by simp [hi]))]
 ·
  obtain ⟨w, hw, hwr⟩ := hA.right z hz x hx
  refine ⟨_, grow_old hw, ?_⟩
  split
  ·
   rename_i hzB
   obtain ⟨hs2, _⟩ := hZ z hz hzB
   rw [El.more, if_pos hs2]; exact hwr
  ·
   exact hwr
 ·
  obtain ⟨w, hw, hwr⟩ := hA.left z hz x hx
  refine ⟨_, grow_old hw, ?_⟩
  rw [if_neg fun hzB => (hZ z (List.mem_of_mem_tail hz) hzB).2 hz]; exact hwr
 ·
  obtain ⟨yA, h1, h2, h3⟩ := hgap
  refine ⟨yA, h1, fun c hc => ?_, h3⟩
  rw [grow_nm hB, ht1, List.length_append, List.length_singleton]
  rcases h2 c hc with rfl | ⟨hc2, j, hj, hjl⟩
  ·
   exact ⟨(t.out.length : Int) + 1, by rw [if_pos rfl], by omega⟩
  ·
   exact ⟨j, by rw [if_neg om_]; exact hj, by omega⟩
end
end Go.Fu
/- What the operations of a script make of a tree. Plain. -/
namespace Go.Fu
open Go.Pl Go.Fw
section
variable {L : Coms} {T : Tr} {id : Dig} {t : StS} {f : List El} {W X0 Z P0 M : List Nat} {a A q : Nat} {s : Bool}
 (h : TreeOk L T) (hid : id ∉ L.map (·.1)) (hI : RInv T.e t) (hl : t.out.length ≤ 2000) (hA : TAt T id t f W X0 a Z P0 M A s)
include h hid hI hl hA
theorem TAt.put1 (hk : t.kept ≤ (seenE T.e).length) (hr : ¬ t.run = true) (y : UInt8) : TAt T id (stepO T.e t (.put y)) (growE f A s ⟨false, id, (t.out.length : Int) + 1⟩ y) (W ++ [f.length]) X0 a Z P0 (M ++ [f.length]) A s ∧ A < f.length := by
 have hg := hA.good h hid hI hl
 obtain ⟨e1, e2⟩ := gap_at h hk
 obtain ⟨hs, hAt, hown⟩ := hA.gapA
 obtain ⟨zA, hzA, hzn, _⟩ := atE_some.1 hAt
 obtain ⟨y0, hy0, hyn, _⟩ := hA.old hzA
 have hB := (List.getElem?_eq_some_iff.1 hy0).1
 have hat : atE f (res id (gapAt T.e a).1) = some A := by
  have := hg.find hy0
  rw [hyn, hzn] at this
  rw [res, if_neg (by rw [hown]; decide)]; exact this
 have hout : (stepO T.e t (.put y)).out = t.out ++ [⟨1, s, (gapAt T.e a).1, y⟩] := by
  show t.out ++ [putOp T.e t y] = _
  rw [putOp, if_neg hr, e1, e2, ← hA.a_is, hs]
 have hf : growE f A s ⟨false, id, (t.out.length : Int) + 1⟩ y = addN id (t.out ++ [(⟨1, s, (gapAt T.e a).1, y⟩ : OpD)]) T.e (t.out ++ [(⟨1, s, (gapAt T.e a).1, y⟩ : OpD)]).length := by
  rw [List.length_append, List.length_singleton, addN_at (x := ⟨1, s, (gapAt T.e a).1, y⟩) (by simp), addN_app (Nat.le_refl _), ← hA.f_is, step_ins hat rfl]
 obtain ⟨yA, hyA, hnames, hwalk⟩ := hA.gap
 have hkid : kid f ⟨false, id, (t.out.length : Int) + 1⟩ (sd yA s) = sd yA s ++ [f.length] := kid_end fun c hc => by
  obtain ⟨j, hj, hjl⟩ := hnames c hc
  exact ⟨j, hj, by omega⟩
 have hnf := hg.nodup
 have hdn := hg.down A yA hyA
 have hnl : f.length ∉ orderE f := fun hm => by have := order_lt hg.down hm; omega
 refine ⟨hA.grown hg ⟨hout, rfl, rfl⟩ hB hf ?_ ?_ ?_, hB⟩
 ·
  rcases hA.where_ with ⟨hs0, hAa⟩ | ⟨hs1, Y, hY⟩
  ·
   subst hs0; subst hAa
   obtain ⟨u, w, huw⟩ : ∃ u w, A :: M = u ++ [w] := ⟨_, _, (List.dropLast_concat_getLast (l := A :: M) (by simp)).symm⟩
   have hwf : A :: yA.right.flatMap (walkE f) = u ++ [w] := by rw [hwalk rfl]; exact huw
   have hp := grow_end (b := y) hg.down hB hyA hkid hwf 0 hg.pos
   have hm : orderE f = (P0 ++ u) ++ w :: Z := by
    rw [hA.order]
    have : A :: (M ++ Z) = (A :: M) ++ Z := rfl
    rw [this, huw]; simp
   have hc : (orderE (growE f A false ⟨false, id, (t.out.length : Int) + 1⟩ y)).count f.length = 1 := by
    have h1 := grow_count (left := false) (r := ⟨false, id, (t.out.length : Int) + 1⟩) (b := y) hg.down hB 0 hg.pos
    rw [hg.once hB] at h1; exact h1
   have hpl := place_new (grow_filter hg.down hB 0 hg.pos) (List.count_pos_iff.1 (by rw [hc]; omega)) hc hp hm hnf hnl
   have e : P0 ++ A :: ((M ++ [f.length]) ++ Z) = P0 ++ ((A :: M) ++ (f.length :: Z)) := by simp
   show walkE _ 0 = _
   rw [hpl, e, huw]; simp
  ·
   subst hs1; subst hY
   have h1 := grow_left (b := y) hg.down hB hyA hkid 0 hg.pos
   have hsp : walkE f 0 = (P0 ++ a :: M) ++ A :: Y := by
    have := hA.order
    show orderE f = _
    rw [this]; simp
   show walkE _ 0 = _
   rw [h1, flat_ahead hsp hnf]; simp
 ·
  intro z hz hzA2
  rw [hA.order] at hnf
  rcases hA.where_ with ⟨_, hAa⟩ | ⟨hs1, Y, hY⟩
  ·
   exfalso
   have := (List.nodup_cons.1 (List.nodup_append.1 hnf).2.1).1
   exact this (by rw [← hAa, ← hzA2]; simp [hz])
  ·
   refine ⟨hs1, ?_⟩
   rw [hY] at hnf ⊢
   have h2 : (M ++ A :: Y).Nodup := (List.nodup_cons.1 (List.nodup_append.1 hnf).2.1).2
   have h3 := (List.nodup_cons.1 (List.nodup_append.1 h2).2.1).1
   rw [hzA2]; exact h3
 ·
  refine ⟨_, grow_at hB hyA, ?_, ?_⟩
  ·
   have e : sd (yA.more f s ⟨false, id, (t.out.length : Int) + 1⟩) s = sd yA s ++ [f.length] := by
    rw [← hkid]; unfold sd El.more; cases s <;> rfl
   rw [e]
   intro c hc
   rcases List.mem_append.1 hc with hc | hc
   ·
    refine .inr ⟨?_, hnames c hc⟩
    exact (hdn c (by unfold sd at hc; cases s <;> simp_all)).2
   ·
    simp at hc; exact .inl hc
  ·
   intro hs0
   subst hs0
   have e : (yA.more f false ⟨false, id, (t.out.length : Int) + 1⟩).right = yA.right ++ [f.length] := hkid
   rw [e, List.flatMap_append, List.flatMap_cons, List.flatMap_nil, grow_walk_new hg.down hB]
   rw [flatMap_same (g := walkE f) fun c hc => grow_above hg.down hB c (hdn c (.inr hc)).2 (hdn c (.inr hc)).1, hwalk rfl]; rfl
theorem TAt.put2 (hr : t.run = true) (y : UInt8) : ∃ p, p < f.length ∧ TAt T id (stepO T.e t (.put y)) (growE f p false ⟨false, id, (t.out.length : Int) + 1⟩ y) (W ++ [f.length]) X0 a Z P0 (M ++ [f.length]) A s := by
 have hg := hA.good h hid hI hl
 obtain ⟨M0, p, yp, hM, hp, hyp, hypr, hypn⟩ := hA.run hr
 have hB : p < f.length := by omega
 have hat : atE f (res id ⟨true, Dig.zero, (t.out.length : Int)⟩) = some p := by
  have := hg.find hyp
  rw [hypn] at this
  rw [res, if_pos rfl]; exact this
 have hout : (stepO T.e t (.put y)).out = t.out ++ [⟨1, false, ⟨true, Dig.zero, (t.out.length : Int)⟩, y⟩] := by
  show t.out ++ [putOp T.e t y] = _
  rw [putOp, if_pos hr]
 have hf : growE f p false ⟨false, id, (t.out.length : Int) + 1⟩ y = addN id (t.out ++ [(⟨1, false, ⟨true, Dig.zero, (t.out.length : Int)⟩, y⟩ : OpD)]) T.e (t.out ++ [(⟨1, false, ⟨true, Dig.zero, (t.out.length : Int)⟩, y⟩ : OpD)]).length := by
  rw [List.length_append, List.length_singleton, addN_at (x := ⟨1, false, ⟨true, Dig.zero, (t.out.length : Int)⟩, y⟩) (by simp), addN_app (Nat.le_refl _), ← hA.f_is, step_ins (x := ⟨1, false, ⟨true, Dig.zero, (t.out.length : Int)⟩, y⟩) hat rfl]
 have hkid : kid f ⟨false, id, (t.out.length : Int) + 1⟩ yp.right = f.length :: yp.right := by rw [hypr]; rfl
 have hnf := hg.nodup
 have hsp : walkE f 0 = (P0 ++ a :: M0) ++ p :: Z := by
  have := hA.order
  show orderE f = _
  rw [this, hM]; simp
 have hgr := grow_right (b := y) hg.down hB hyp hkid
 have hnf2 : ((P0 ++ a :: M0) ++ p :: Z).Nodup := by rw [← hsp]; exact hnf
 have hpZ : p ∉ Z := (List.nodup_cons.1 (List.nodup_append.1 hnf2).2.1).1
 have hpa : p ∉ P0 ++ a :: M0 := fun hm => (List.nodup_append.1 hnf2).2.2 p hm p (by simp) rfl
 have hpA : A ≠ p := by
  rcases hA.where_ with ⟨_, hAa⟩ | ⟨_, Y, hY⟩
  ·
   rintro rfl; exact hpa (by rw [hAa]; simp)
  ·
   rintro rfl; exact hpZ (by rw [hY]; simp)
 obtain ⟨yA, hyA, hnames, hwalk⟩ := hA.gap
 have hdn := hg.down A yA hyA
 refine ⟨p, hB, hA.grown hg ⟨hout, rfl, rfl⟩ hB hf ?_ (fun z hz e => absurd (e ▸ hz) hpZ) ⟨yA, ?_, ?_, ?_⟩⟩
 ·
  show walkE _ 0 = _
  rw [hgr 0 hg.pos, flat_after hsp hnf, hM]; simp
 ·
  rw [grow_else (List.getElem?_eq_some_iff.1 hyA).1 hpA]; exact hyA
 ·
  intro c hc
  refine .inr ⟨?_, hnames c hc⟩
  exact (hdn c (by unfold sd at hc; cases s <;> simp_all)).2
 ·
  intro hs0
  rw [flatMap_flatMap_same fun c hc => hgr c (hdn c (.inr hc)).2, hwalk hs0]
  have hMn : M.Nodup := by
   have h3 := hnf
   rw [hA.order] at h3
   exact (List.nodup_append.1 (List.nodup_cons.1 (List.nodup_append.1 h3).2.1).2).1
  rw [flat_after (l := M) (X := M0) (Y := []) hM hMn, hM]; simp
end
def stepW (q : List Nat) (x : Nat × Nat × List Nat) : Stp → Nat × Nat × List Nat
 | .keep => (x.1 + 1, x.2.1, x.2.2 ++ [(q[x.1]?).getD 0])
 | .cut => (x.1 + 1, x.2.1, x.2.2)
 | .put _ => (x.1, x.2.1 + 1, x.2.2 ++ [x.2.1])
theorem drop_at {l a : List UInt8} {x : UInt8} {i : Nat} (h : x :: a = l.drop i) : i < l.length ∧ l[i]? = some x ∧ a = l.drop (i + 1) := by
 have hi : i < l.length := by
  rcases Nat.lt_or_ge i l.length with hi | hi
  ·
   exact hi
  ·
   rw [List.drop_of_length_le hi] at h; cases h
 rw [List.drop_eq_getElem_cons hi] at h
 injection h with h1 h2
 exact ⟨hi, by rw [List.getElem?_eq_getElem hi, h1], h2⟩
theorem trans_tree {L : Coms} {T : Tr} {id : Dig} (h : TreeOk L T) (hid : id ∉ L.map (·.1)) {a0 b0 : List UInt8} {ss : List Stp} (hT : Trans a0 b0 ss) : ∀ {t : StS} {f : List El} {W X0 : List Nat} {a : Nat} {Z P0 M : List Nat} {A : Nat} {s : Bool}, RInv T.e t → TAt T id t f W X0 a Z P0 M A s →
  a0 = (textE T.e).drop t.at_ → t.at_ ≤ (seenE T.e).length → t.out.length + (ss.map Stp.cost).sum ≤ 2000 → ∃ f' W' X0' a' Z' P0' M' A' s', TAt T id (ss.foldl (stepO T.e) t) f' W' X0' a' Z' P0' M' A' s' ∧ (seenE T.e).drop (ss.foldl (stepO T.e) t).at_ = [] ∧
   W'.map (byteAt f') = W.map (byteAt f) ++ b0 ∧ (ss.foldl (stepW (seenE T.e)) (t.at_, f.length, W)).2.2 = W' := by
 have htl : (textE T.e).length = (seenE T.e).length := by simp [textE]
 induction hT with
 | nil =>
  intro t f W X0 a Z P0 M A s hI hA ha hat hb
  refine ⟨f, W, X0, a, Z, P0, M, A, s, hA, ?_, by simp, rfl⟩
  have hle : (textE T.e).length ≤ t.at_ := by
   rcases Nat.lt_or_ge t.at_ (textE T.e).length with hi | hi
   ·
    rw [List.drop_eq_getElem_cons hi] at ha; cases ha
   ·
    exact hi
  exact List.drop_of_length_le (by show (seenE T.e).length ≤ t.at_; omega)
 | @keep x a1 b1 ss1 hT ih =>
  intro t f W X0 a Z P0 M A s hI hA ha hat hb
  obtain ⟨h1, h2, h3⟩ := drop_at ha
  obtain ⟨q, hq⟩ : ∃ q, (seenE T.e)[t.at_]? = some q := ⟨_, List.getElem?_eq_getElem om_⟩
  obtain ⟨X0', Z', P0', A', s', hA'⟩ := hA.keep h hq
  have hI' := hI.step h .keep (by show t.at_ + 1 ≤ _; omega)
  have hqm := List.mem_of_getElem? hq
  obtain ⟨z, hz⟩ : ∃ z, T.e[q]? = some z := ⟨_, List.getElem?_eq_getElem (seen_lt h.good.down hqm)⟩
  obtain ⟨y, hy, _, hyb⟩ := hA.old hz
  have hx : byteAt f q = x := by
   rw [byteAt_at hy, hyb, ← byteAt_at hz]
   rw [textE, List.getElem?_map, hq] at h2
   exact Option.some.inj h2
  obtain ⟨f', W', X0', a', Z', P0', M', A', s', r1, r2, r3, r4⟩ := ih hI' hA' h3 (by show t.at_ + 1 ≤ _; omega) (by simp only [List.map_cons, List.sum_cons, Stp.cost] at hb; show t.out.length + _ ≤ _; omega)
  refine ⟨f', W', X0', a', Z', P0', M', A', s', r1, r2, ?_, ?_⟩
  ·
   rw [r3, List.map_append, List.map_cons, List.map_nil, hx]; simp
  ·
   rw [List.foldl_cons]
   have e : stepW (seenE T.e) (t.at_, f.length, W) .keep = (t.at_ + 1, f.length, W ++ [q]) := by simp [stepW, hq]
   rw [e]; exact r4
 | @cut x a1 b1 ss1 hT ih =>
  intro t f W X0 a Z P0 M A s hI hA ha hat hb
  simp only [List.map_cons, List.sum_cons, Stp.cost] at hb
  obtain ⟨h1, h2, h3⟩ := drop_at ha
  obtain ⟨q, hq⟩ : ∃ q, (seenE T.e)[t.at_]? = some q := ⟨_, List.getElem?_eq_getElem om_⟩
  have hA' := hA.cut h hid hI om_ hq
  have hI' := hI.step h .cut (by show t.at_ + 1 ≤ _; omega)
  have hol : (stepO T.e t .cut).out.length = t.out.length + 1 := by
   show (t.out ++ cutOps T.e t.at_ 1).length = _
   rw [cutOps_one hq]; simp
  obtain ⟨f', W', X0', a', Z', P0', M', A', s', r1, r2, r3, r4⟩ := ih hI' hA' h3 (by show t.at_ + 1 ≤ _; omega) (by rw [hol]; omega)
  refine ⟨f', W', X0', a', Z', P0', M', A', s', r1, r2, ?_, ?_⟩
  ·
   rw [r3, show byteAt (goneE f q) = byteAt f from funext fun i => gone_byte]
  ·
   rw [gone_length] at r4
   exact r4
 | @put y a1 b1 ss1 hT ih =>
  intro t f W X0 a Z P0 M A s hI hA ha hat hb
  simp only [List.map_cons, List.sum_cons, Stp.cost] at hb
  have hg := hA.good h hid hI om_
  have hI' := hI.step h (.put y) (by show t.at_ + 0 ≤ _; omega)
  have hk := hI.kept
  obtain ⟨B, s2, hB, hA'⟩ : ∃ B s2, B < f.length ∧ TAt T id (stepO T.e t (.put y)) (growE f B s2 ⟨false, id, (t.out.length : Int) + 1⟩ y) (W ++ [f.length]) X0 a Z P0 (M ++ [f.length]) A s := by
   by_cases hr : t.run = true
   ·
    obtain ⟨p, h1, h2⟩ := hA.put2 h hid hI om_ hr y
    exact ⟨p, false, h1, h2⟩
   ·
    obtain ⟨h1, h2⟩ := hA.put1 h hid hI om_ om_ hr y
    exact ⟨A, s, h2, h1⟩
  have hol : (stepO T.e t (.put y)).out.length = t.out.length + 1 := by show (t.out ++ [putOp T.e t y]).length = _; simp
  obtain ⟨f', W', X0', a', Z', P0', M', A', s', r1, r2, r3, r4⟩ := ih hI' hA' ha hat (by rw [hol]; omega)
  refine ⟨f', W', X0', a', Z', P0', M', A', s', r1, r2, ?_, ?_⟩
  ·
   have hWb : W.map (byteAt (growE f B s2 ⟨false, id, (t.out.length : Int) + 1⟩ y)) = W.map (byteAt f) := List.map_congr_left fun i hi => by
    have hio : i ∈ orderE f := by
     rw [← hA.vis] at hi
     have := (List.mem_filter.1 hi).1
     rw [hA.order]
     simp at this ⊢
     rcases this with h | h | h <;> simp [h]
    obtain ⟨x, hx⟩ : ∃ x, f[i]? = some x := ⟨_, List.getElem?_eq_getElem (order_lt hg.down hio)⟩
    rw [byteAt_at (grow_old hx), byteAt_at hx]
    split
    ·
     exact (more_same x _ _ _).2.1
    ·
     rfl
   rw [r3, List.map_append, hWb, List.map_cons, List.map_nil, byteAt_at (grow_new hB)]; simp
  ·
   rw [grow_length] at r4
   exact r4
theorem ops_tree {L : Coms} {T : Tr} {id : Dig} (h : TreeOk L T) {b : List UInt8} (hw : wrongC T id (opsE T.e b) = 0) :
  textE (addT T id (opsE T.e b)).e = b ∧ seenE (addT T id (opsE T.e b)).e = ((stp (textE T.e) b).foldl (stepW (seenE T.e)) (0, T.e.length, [])).2.2 := by
 obtain ⟨hid, hlen, _, _⟩ := wrongC_zero hw
 rw [show T.ad = L.map (·.1) from h.ads] at hid
 obtain ⟨X, Y, ho, ha, hX, hY⟩ := gap_split h (n := 0) (Nat.zero_le _)
 obtain ⟨A, z, hA1, hA2, hA3, hA4, hA5, hcase⟩ := gap_first h ho ha
 have hvis : (X ++ gapI T.e ((0 : Nat) : Int) :: []).filter (fun i => !goneAt T.e i) = [] := by
  have h1 : shown T.e (X ++ [gapI T.e ((0 : Nat) : Int)]) = [] := by rw [hX]; rfl
  exact List.map_eq_nil_iff.1 h1
 have hI := RInv.start T.e
 have hA : TAt T id st0 T.e [] X (gapI T.e ((0 : Nat) : Int)) Y X [] A (gapAt T.e (gapI T.e ((0 : Nat) : Int))).2 := {
  f_is := rfl
  base := ho
  a_is := rfl
  order := ho
  vis := hvis
  rest := by
   show _ = seenE T.e
   have e : X ++ gapI T.e ((0 : Nat) : Int) :: Y = (X ++ gapI T.e ((0 : Nat) : Int) :: []) ++ Y := by simp
   rw [seenE, ho, e, List.filter_append, hvis]; rfl
  right := fun z _ x hx => ⟨x, hx, rfl⟩
  left := fun z _ x hx => ⟨x, hx, rfl⟩
  gapA := ⟨rfl, hA1, hA4⟩
  where_ := by
   rcases hcase with ⟨h1, h2, _⟩ | ⟨h1, _, Y', h2⟩
   ·
    exact .inl ⟨h1, h2⟩
   ·
    exact .inr ⟨h1, Y', h2⟩
  gap := by
   refine ⟨z, hA2, fun c hc => ?_, fun hs => ?_⟩
   ·
    rcases hcase with ⟨h1, _, h3⟩ | ⟨h1, h3, _⟩
    ·
     rw [h1] at hc; simp [sd, h3] at hc
    ·
     rw [h1] at hc; simp [sd, h3] at hc
   ·
    rcases hcase with ⟨_, _, h3⟩ | ⟨h1, _⟩
    ·
     rw [h3]; rfl
    ·
     rw [h1] at hs; cases hs
  run := fun h => (by cases h) }
 have hcst : ((stp (textE T.e) b).map Stp.cost).sum ≤ 2000 := by rw [stp_cost, ← ops_length]; exact hlen
 obtain ⟨f', W', X0', a', Z', P0', M', A', s', r1, r2, r3, r4⟩ := trans_tree h hid (stp_trans (textE T.e) b) hI hA rfl (Nat.zero_le _) (by simpa [st0] using hcst)
 have hf : (addT T id (opsE T.e b)).e = f' := by
  rw [addT, if_pos hw, r1.f_is, ← ops_steps]
 have hs : seenE f' = W' := by
  rw [seenE, r1.order]
  have e : P0' ++ a' :: (M' ++ Z') = (P0' ++ a' :: M') ++ Z' := by simp
  rw [e, List.filter_append, r1.vis, r1.rest, r2]; simp
 rw [hf]
 exact ⟨by rw [textE, hs, r3]; rfl, by rw [hs]; exact r4.symm⟩
end Go.Fu
/- Tables of numbers, row by row, in memory. No condition; no program. -/
namespace Go.Fw
open Go.RowKit
def TabR (V : World) (K : IntKind) (v : Value) (n w : Nat) (c : Nat → Nat → Int) : Prop := ∃ A cap, v = .slice (some A) n cap ∧ ∀ i, i < n → ∃ Ai cap', Mem V (A.add (i * 1)) [.slice (some Ai) w cap'] ∧ ∀ j, j < w → Mem V (Ai.add (j * 1)) [.int K (c i j)]
theorem TabR.chg {V V' : World} {K : IntKind} {v : Value} {n w : Nat} {c : Nat → Nat → Int} {S : Nat → Prop} (h : TabR V K v n w c) (hc : Chg S V V') (hs : ∀ k, k < V.heap.size → ¬ S k) : TabR V' K v n w c := by
 obtain ⟨A, cap, e, h⟩ := h
 refine ⟨A, cap, e, fun i hi => ?_⟩
 obtain ⟨Ai, cap', h1, h2⟩ := h i hi
 refine ⟨Ai, cap', h1.chg hc (hs _ (h1.lt (by simp))), fun j hj => (h2 j hj).chg hc (hs _ ((h2 j hj).lt (by simp)))⟩
theorem TabR.ext {V V' : World} {K : IntKind} {v : Value} {n w : Nat} {c : Nat → Nat → Int} (h : TabR V K v n w c) (hc : Ext V V') : TabR V' K v n w c := h.chg hc fun _ _ f => f
theorem TabR.far {V V' : World} {K : IntKind} {v : Value} {n w : Nat} {c : Nat → Nat → Int} {S : Nat → Prop} (h : TabR V K v n w c) (hc : Chg S V V') (hs : ∀ k, S k → V.heap.size ≤ k) : TabR V' K v n w c := h.chg hc fun k hk hS => by have := hs k hS; omega
def tabL (n : Nat) (f : Nat → Value) : List Value := (List.range n).map f
theorem tabL_length (n : Nat) (f : Nat → Value) : (tabL n f).length = n := by simp [tabL]
theorem tabL_at {n i : Nat} {f : Nat → Value} (h : i < n) : (tabL n f)[i]? = some (f i) := by simp [tabL, h]
def updL (f : Nat → Value) (i : Nat) (v : Value) : Nat → Value := fun k => if k = i then v else f k
theorem tabL_set {n i : Nat} {f : Nat → Value} {v : Value} : (tabL n f).set i v = tabL n (updL f i v) := by
 apply List.ext_getElem?
 intro k
 rw [List.getElem?_set]
 by_cases hk : i = k
 ·
  subst hk
  rw [if_pos rfl]
  by_cases hi : i < n
  ·
   rw [if_pos (by rw [tabL_length]; exact hi), tabL_at hi, updL, if_pos rfl]
  ·
   rw [if_neg (by rw [tabL_length]; exact hi), List.getElem?_eq_none_iff.2 (by rw [tabL_length]; omega)]
 ·
  rw [if_neg hk]
  by_cases hi : k < n
  ·
   rw [tabL_at hi, tabL_at hi, updL, if_neg (fun e => hk e.symm)]
  ·
   rw [List.getElem?_eq_none_iff.2 (by rw [tabL_length]; omega), List.getElem?_eq_none_iff.2 (by rw [tabL_length]; omega)]
theorem tabL_const {n : Nat} {v : Value} : List.replicate n v = tabL n fun _ => v := by
 apply List.ext_getElem?
 intro k
 by_cases hk : k < n
 ·
  rw [tabL_at hk, List.getElem?_replicate, if_pos hk]
 ·
  rw [List.getElem?_eq_none_iff.2 (by simp; omega), List.getElem?_eq_none_iff.2 (by rw [tabL_length]; omega)]
theorem Blk.tab {w : World} {b n i : Nat} {T : TypeId} {f : Nat → Value} (h : Blk w b T (tabL n f)) (hi : i < n) : Mem w ((⟨b, 0, none⟩ : Addr).add (i * 1)) [f i] := by
 rw [Nat.mul_one]
 exact h.mem.sub i fun j v hj => by
  cases j with
  | zero => simp at hj; subst hj; exact tabL_at hi
  | succ j => simp at hj
end Go.Fw
