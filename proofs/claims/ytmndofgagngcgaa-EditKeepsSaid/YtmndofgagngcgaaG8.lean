/- Several texts as one: Ja, Jb, Jc. -/
import Derived.Test.YtmndofgagngcgaaG4
import Derived.Test.YtmndofgagngcgaaG2
set_option linter.unusedSimpArgs false
set_option linter.unusedVariables false
/- Edit scripts, plainly: least costs, the script, its operations; whom bytes come of. No condition; no program. -/
namespace Go.Fu
open Go.Pl Go.Fw
/-! ## The least costs -/
def cstAux (x : UInt8) (f : List UInt8 → Nat) (m : Nat) : List UInt8 → Nat
  | [] => m
  | y :: b => if x = y then f b else 1 + min (f (y :: b)) (cstAux x f m b)
/-- What it costs at least from one text to another one. -/
def cst : List UInt8 → List UInt8 → Nat
  | [] => fun b => b.length
  | x :: a => cstAux x (cst a) (a.length + 1)
theorem cst_nil (b : List UInt8) : cst [] b = b.length := rfl
theorem cst_end (a : List UInt8) : cst a [] = a.length := by cases a <;> rfl
theorem cst_cons (x y : UInt8) (a b : List UInt8) : cst (x :: a) (y :: b) = if x = y then cst a b else 1 + min (cst a (y :: b)) (cst (x :: a) b) := rfl
theorem cst_le : ∀ (a b : List UInt8), cst a b ≤ a.length + b.length
  | [], b => by rw [cst_nil]; simp
  | x :: a, b => by
    induction b with
    | nil => rw [cst_end]; simp
    | cons y b ih =>
      rw [cst_cons]
      have h1 := cst_le a b
      have h2 := cst_le a (y :: b)
      simp only [List.length_cons] at *
      split <;> omega
/-! ## The script -/
inductive Stp where
  | keep
  | cut
  | put (y : UInt8)
def Stp.kind : Stp → Nat
  | .keep => 1
  | .cut => 2
  | .put _ => 3
def stpAux (x : UInt8) (a : List UInt8) (f : List UInt8 → List Stp) : List UInt8 → List Stp
  | [] => .cut :: f []
  | y :: b => if x = y then .keep :: f b else if cst a (y :: b) ≤ cst (x :: a) b then .cut :: f (y :: b) else .put y :: stpAux x a f b
/-- Step by step. -/
def stp : List UInt8 → List UInt8 → List Stp
  | [] => fun b => b.map .put
  | x :: a => stpAux x a (stp a)
theorem stp_nil (b : List UInt8) : stp [] b = b.map .put := rfl
theorem stp_end (x : UInt8) (a : List UInt8) : stp (x :: a) [] = .cut :: stp a [] := rfl
theorem stp_cons (x y : UInt8) (a b : List UInt8) : stp (x :: a) (y :: b) = if x = y then .keep :: stp a b else if cst a (y :: b) ≤ cst (x :: a) b then .cut :: stp a (y :: b) else .put y :: stp (x :: a) b := rfl
/-- An edit. -/
structure EdD where
  kind : Nat
  n : Nat
  text : List UInt8
def EdD.more (e : EdD) : Stp → EdD
  | .put y => ⟨e.kind, e.n, e.text ++ [y]⟩
  | _ => ⟨e.kind, e.n + 1, e.text⟩
def openE (l : List EdD) (k : Nat) : List EdD := if l.getLast?.map EdD.kind = some k then l else l ++ [⟨k, 0, []⟩]
theorem openE_ne (l : List EdD) (k : Nat) : openE l k ≠ [] := by
  unfold openE
  split
  · rintro rfl; simp at *
  · simp
theorem openE_last (l : List EdD) (k : Nat) : ∃ e, (openE l k)[(openE l k).length - 1]? = some e ∧ e.kind = k := by
  unfold openE
  split
  · rename_i h
    rw [List.getLast?_eq_getElem?] at h
    obtain ⟨e, he, hk⟩ := Option.map_eq_some_iff.1 h
    exact ⟨e, he, hk⟩
  · exact ⟨⟨k, 0, []⟩, by simp, rfl⟩
/-- One step more. -/
def addE (l : List EdD) (s : Stp) : List EdD := (openE l s.kind).modify ((openE l s.kind).length - 1) fun e => e.more s
theorem addE_length (l : List EdD) (s : Stp) : (addE l s).length = (openE l s.kind).length := by simp [addE]
theorem openE_length (l : List EdD) (k : Nat) : (openE l k).length ≤ l.length + 1 ∧ l.length ≤ (openE l k).length := by
  unfold openE; split <;> simp
def scriptE (a b : List UInt8) : List EdD := (stp a b).foldl addE []
/-- What of a text an edit goes over. -/
def EdD.over (e : EdD) : Nat := if e.kind = 3 then 0 else e.n
def overE (l : List EdD) : Nat := (l.map EdD.over).sum
def Stp.over : Stp → Nat
  | .put _ => 0
  | _ => 1
/-- What an edit costs. -/
def EdD.cost (e : EdD) : Nat := if e.kind = 1 then 0 else e.n + e.text.length
def costE (l : List EdD) : Nat := (l.map EdD.cost).sum
def Stp.cost : Stp → Nat
  | .keep => 0
  | _ => 1
/-- May an edit be? -/
def EdD.May (e : EdD) : Prop := (e.kind = 1 ∨ e.kind = 2) ∧ 0 < e.n ∧ e.text = [] ∨ e.kind = 3 ∧ e.n = 0 ∧ e.text ≠ []
theorem sum_modify {f : EdD → Nat} {g : EdD → EdD} : ∀ {l : List EdD} {i : Nat} {e : EdD}, l[i]? = some e → ((l.modify i g).map f).sum + f e = (l.map f).sum + f (g e)
  | [], i, e, h => by simp at h
  | x :: r, 0, e, h => by
    simp at h; subst h
    simp only [List.modify_zero_cons, List.map_cons, List.sum_cons]; omega
  | x :: r, i + 1, e, h => by
    simp only [List.getElem?_cons_succ] at h
    have := sum_modify (f := f) (g := g) h
    simp only [List.modify_succ_cons, List.map_cons, List.sum_cons]; omega
theorem openE_over (l : List EdD) (k : Nat) : overE (openE l k) = overE l := by
  unfold openE overE
  split
  · rfl
  · simp [EdD.over]
theorem openE_cost (l : List EdD) (k : Nat) : costE (openE l k) = costE l := by
  unfold openE costE
  split
  · rfl
  · simp [EdD.cost]
theorem addE_over (l : List EdD) (s : Stp) : overE (addE l s) = overE l + s.over := by
  obtain ⟨e, he, hk⟩ := openE_last l s.kind
  have h := sum_modify (f := EdD.over) (g := fun e => e.more s) he
  have h2 := openE_over l s.kind
  unfold overE at h2 ⊢
  unfold addE
  have h3 : (e.more s).over = e.over + s.over := by
    cases s <;> simp [EdD.more, EdD.over, Stp.over, Stp.kind] at hk ⊢ <;> simp [hk]
  omega
theorem addE_cost (l : List EdD) (s : Stp) : costE (addE l s) = costE l + s.cost := by
  obtain ⟨e, he, hk⟩ := openE_last l s.kind
  have h := sum_modify (f := EdD.cost) (g := fun e => e.more s) he
  have h2 := openE_cost l s.kind
  unfold costE at h2 ⊢
  unfold addE
  have h3 : (e.more s).cost = e.cost + s.cost := by
    cases s <;> simp [EdD.more, EdD.cost, Stp.cost, Stp.kind] at hk ⊢ <;> simp [hk] <;> omega
  omega
theorem foldE_over (l : List EdD) (ss : List Stp) : overE (ss.foldl addE l) = overE l + (ss.map Stp.over).sum := by
  induction ss generalizing l with
  | nil => simp
  | cons s r ih => rw [List.foldl_cons, ih, addE_over]; simp; omega
theorem foldE_cost (l : List EdD) (ss : List Stp) : costE (ss.foldl addE l) = costE l + (ss.map Stp.cost).sum := by
  induction ss generalizing l with
  | nil => simp
  | cons s r ih => rw [List.foldl_cons, ih, addE_cost]; simp; omega
theorem stp_over : ∀ (a b : List UInt8), ((stp a b).map Stp.over).sum = a.length
  | [], b => by
    rw [stp_nil]
    induction b with
    | nil => rfl
    | cons y b ih => simpa [Stp.over] using ih
  | x :: a, b => by
    induction b with
    | nil => rw [stp_end, List.map_cons, List.sum_cons, stp_over a []]; simp [Stp.over]; omega
    | cons y b ih =>
      rw [stp_cons]
      split
      · rw [List.map_cons, List.sum_cons, stp_over a b]; simp [Stp.over]; omega
      · split
        · rw [List.map_cons, List.sum_cons, stp_over a (y :: b)]; simp [Stp.over]; omega
        · rw [List.map_cons, List.sum_cons, ih]; simp [Stp.over]
theorem script_over (a b : List UInt8) : overE (scriptE a b) = a.length := by
  rw [scriptE, foldE_over, stp_over]; simp [overE]
theorem stp_cost : ∀ (a b : List UInt8), ((stp a b).map Stp.cost).sum = cst a b
  | [], b => by
    rw [stp_nil, cst_nil]
    induction b with
    | nil => rfl
    | cons y b ih => simp [Stp.cost] at ih ⊢; omega
  | x :: a, b => by
    induction b with
    | nil => rw [stp_end, List.map_cons, List.sum_cons, stp_cost a [], cst_end, cst_end]; simp [Stp.cost]; omega
    | cons y b ih =>
      rw [stp_cons, cst_cons]
      split
      · rw [List.map_cons, List.sum_cons, stp_cost a b]; simp [Stp.cost]
      · split
        · rw [List.map_cons, List.sum_cons, stp_cost a (y :: b)]; simp [Stp.cost]; omega
        · rw [List.map_cons, List.sum_cons, ih]; simp [Stp.cost]; omega
theorem script_cost (a b : List UInt8) : costE (scriptE a b) = cst a b := by
  rw [scriptE, foldE_cost, stp_cost]; simp [costE]
theorem stp_self (a : List UInt8) : stp a a = List.replicate a.length .keep := by
  induction a with
  | nil => rfl
  | cons x a ih => rw [stp_cons, if_pos rfl, ih]; rfl
theorem stp_length (a b : List UInt8) : (stp a b).length ≤ a.length + b.length := by
  induction a generalizing b with
  | nil => rw [stp_nil]; simp
  | cons x a iha =>
    induction b with
    | nil => rw [stp_end]; have := iha []; simp at this ⊢; omega
    | cons y b ih =>
      rw [stp_cons]
      have h1 := iha b
      have h2 := iha (y :: b)
      simp only [List.length_cons] at *
      split
      · simp only [List.length_cons]; omega
      · split <;> simp only [List.length_cons] <;> omega
theorem foldE_length (l : List EdD) (ss : List Stp) : (ss.foldl addE l).length ≤ l.length + ss.length := by
  induction ss generalizing l with
  | nil => simp
  | cons s r ih =>
    rw [List.foldl_cons]
    have h1 := ih (addE l s)
    have h2 := addE_length l s
    have h3 := (openE_length l s.kind).1
    rw [List.length_cons]; omega
theorem script_length (a b : List UInt8) : (scriptE a b).length ≤ a.length + b.length := by
  have h1 := foldE_length [] (stp a b)
  have h2 := stp_length a b
  simp only [List.length_nil] at h1
  unfold scriptE; omega
/-- Edits of a script may be. -/
theorem addE_may {l : List EdD} (h : ∀ e ∈ l, e.May) (s : Stp) : ∀ e ∈ addE l s, e.May := by
  have hin : ∀ e ∈ openE l s.kind, e.May ∨ e = ⟨s.kind, 0, []⟩ := fun e he => by
    unfold openE at he
    split at he
    · exact .inl (h e he)
    · rcases List.mem_append.1 he with he | he
      · exact .inl (h e he)
      · simp at he; exact .inr he
  intro e he
  obtain ⟨i, hi⟩ := List.mem_iff_getElem?.1 he
  unfold addE at hi
  rw [List.getElem?_modify] at hi
  obtain ⟨x, hx, rfl⟩ := Option.map_eq_some_iff.1 hi
  by_cases hl : (openE l s.kind).length - 1 = i
  · rw [if_pos hl]
    obtain ⟨y, hy, hk⟩ := openE_last l s.kind
    rw [hl, hx] at hy
    obtain rfl := Option.some.inj hy
    rcases hin x (List.mem_of_getElem? hx) with hm | rfl
    · cases s <;> simp [Stp.kind] at hk <;> unfold EdD.May EdD.more at * <;> simp_all
    · cases s <;> unfold EdD.May EdD.more <;> simp [Stp.kind]
  · rw [if_neg hl]
    rcases hin x (List.mem_of_getElem? hx) with hm | rfl
    · exact hm
    · exfalso
      unfold openE at hx hl
      split at hx
      · rename_i hc
        have hm := h _ (List.mem_of_getElem? hx)
        unfold EdD.May at hm
        simp at hm
      · rename_i hc
        rw [if_neg hc] at hl
        have hm : ∀ e ∈ l, e.May := h
        rw [List.getElem?_append] at hx
        split at hx
        · have := h _ (List.mem_of_getElem? hx)
          unfold EdD.May at this
          simp at this
        · have := (List.getElem?_eq_some_iff.1 hx).1
          simp at this hl
          omega
theorem script_may (a b : List UInt8) : ∀ e ∈ scriptE a b, e.May := by
  have : ∀ (ss : List Stp) (l : List EdD), (∀ e ∈ l, e.May) → ∀ e ∈ ss.foldl addE l, e.May := fun ss => by
    induction ss with
    | nil => exact fun l h => h
    | cons s r ih => exact fun l h => ih _ (addE_may h s)
  exact this _ [] (fun e h => by cases h)
/-! ## The operations of a script -/
structure OpsSt where
  at_ : Nat
  kept : Nat
  out : List OpD
def insOps (g : RefD × Bool × Bool) (n : Nat) (s : List UInt8) : List OpD := s.mapIdx fun k b => if k = 0 then ⟨1, g.2.1, g.1, b⟩ else ⟨1, false, ⟨true, Dig.zero, ((n + k : Nat) : Int)⟩, b⟩
def cutOps (e : List El) (at_ n : Nat) : List OpD := (((seenE e).drop at_).take n).map fun q => ⟨2, false, nm e q, 0⟩
def edOps (e : List El) (s : OpsSt) (x : EdD) : OpsSt :=
  if x.kind = 1 then ⟨s.at_ + x.n, s.at_ + x.n, s.out⟩
  else if x.kind = 2 then ⟨s.at_ + x.n, s.kept, s.out ++ cutOps e s.at_ x.n⟩
  else ⟨s.at_, s.kept, s.out ++ insOps (gapE e (s.kept : Int)) s.out.length x.text⟩
def opsE (e : List El) (b : List UInt8) : List OpD := ((scriptE (textE e) b).foldl (edOps e) ⟨0, 0, []⟩).out
/-! ## Whom a text comes of -/
structure RuD where
  c : Dig
  n : Nat
noncomputable def addR (l : List RuD) (d : Dig) : List RuD := if l.getLast?.map RuD.c = some d then l.modify (l.length - 1) fun r => ⟨r.c, r.n + 1⟩ else l ++ [⟨d, 1⟩]
noncomputable def blameE (e : List El) : List RuD := ((seenE e).map fun q => (nm e q).c).foldl addR []
end Go.Fu

/- Tables of numbers, row by row, in memory. No condition; no program. -/
namespace Go.Fw
open Go.RowKit
/-- A table that is read: n rows of w numbers each. -/
def TabR (V : World) (K : IntKind) (v : Value) (n w : Nat) (c : Nat → Nat → Int) : Prop := ∃ A cap, v = .slice (some A) n cap ∧ ∀ i, i < n → ∃ Ai cap', Mem V (A.add (i * 1)) [.slice (some Ai) w cap'] ∧ ∀ j, j < w → Mem V (Ai.add (j * 1)) [.int K (c i j)]
theorem TabR.chg {V V' : World} {K : IntKind} {v : Value} {n w : Nat} {c : Nat → Nat → Int} {S : Nat → Prop} (h : TabR V K v n w c) (hc : Chg S V V') (hs : ∀ k, k < V.heap.size → ¬ S k) : TabR V' K v n w c := by
  obtain ⟨A, cap, e, h⟩ := h
  refine ⟨A, cap, e, fun i hi => ?_⟩
  obtain ⟨Ai, cap', h1, h2⟩ := h i hi
  refine ⟨Ai, cap', h1.chg hc (hs _ (h1.lt (by simp))), fun j hj => (h2 j hj).chg hc (hs _ ((h2 j hj).lt (by simp)))⟩
theorem TabR.ext {V V' : World} {K : IntKind} {v : Value} {n w : Nat} {c : Nat → Nat → Int} (h : TabR V K v n w c) (hc : Ext V V') : TabR V' K v n w c := h.chg hc fun _ _ f => f
theorem TabR.far {V V' : World} {K : IntKind} {v : Value} {n w : Nat} {c : Nat → Nat → Int} {S : Nat → Prop} (h : TabR V K v n w c) (hc : Chg S V V') (hs : ∀ k, S k → V.heap.size ≤ k) : TabR V' K v n w c := h.chg hc fun k hk hS => by have := hs k hS; omega
/-- Cells by number. -/
def tabL (n : Nat) (f : Nat → Value) : List Value := (List.range n).map f
theorem tabL_length (n : Nat) (f : Nat → Value) : (tabL n f).length = n := by simp [tabL]
theorem tabL_at {n i : Nat} {f : Nat → Value} (h : i < n) : (tabL n f)[i]? = some (f i) := by simp [tabL, h]
def updL (f : Nat → Value) (i : Nat) (v : Value) : Nat → Value := fun k => if k = i then v else f k
theorem tabL_set {n i : Nat} {f : Nat → Value} {v : Value} : (tabL n f).set i v = tabL n (updL f i v) := by
  apply List.ext_getElem?
  intro k
  rw [List.getElem?_set]
  by_cases hk : i = k
  · subst hk
    rw [if_pos rfl]
    by_cases hi : i < n
    · rw [if_pos (by rw [tabL_length]; exact hi), tabL_at hi, updL, if_pos rfl]
    · rw [if_neg (by rw [tabL_length]; exact hi), List.getElem?_eq_none_iff.2 (by rw [tabL_length]; omega)]
  · rw [if_neg hk]
    by_cases hi : k < n
    · rw [tabL_at hi, tabL_at hi, updL, if_neg (fun e => hk e.symm)]
    · rw [List.getElem?_eq_none_iff.2 (by rw [tabL_length]; omega), List.getElem?_eq_none_iff.2 (by rw [tabL_length]; omega)]
theorem tabL_const {n : Nat} {v : Value} : List.replicate n v = tabL n fun _ => v := by
  apply List.ext_getElem?
  intro k
  by_cases hk : k < n
  · rw [tabL_at hk, List.getElem?_replicate, if_pos hk]
  · rw [List.getElem?_eq_none_iff.2 (by simp; omega), List.getElem?_eq_none_iff.2 (by rw [tabL_length]; omega)]
theorem Blk.tab {w : World} {b n i : Nat} {T : TypeId} {f : Nat → Value} (h : Blk w b T (tabL n f)) (hi : i < n) : Mem w ((⟨b, 0, none⟩ : Addr).add (i * 1)) [f i] := by
  rw [Nat.mul_one]
  exact h.mem.sub i fun j v hj => by
    cases j with
    | zero => simp at hj; subst hj; exact tabL_at hi
    | succ j => simp at hj
end Go.Fw

/- Operations of a script: how many; whom a text comes of, run by run. No condition; no program. -/
namespace Go.Fu
open Go.Pl Go.Fw
theorem cutOps_length {e : List El} {a n : Nat} (h : a + n ≤ (seenE e).length) : (cutOps e a n).length = n := by
  simp [cutOps]; omega
theorem insOps_length {g : RefD × Bool × Bool} {n : Nat} {s : List UInt8} : (insOps g n s).length = s.length := by simp [insOps]
theorem overE_take (l : List EdD) (k : Nat) : overE (l.take k) ≤ overE l := by
  have : overE l = overE (l.take k) + overE (l.drop k) := by
    unfold overE
    rw [← List.sum_append, ← List.map_append, List.take_append_drop]
  omega
theorem overE_app (l m : List EdD) : overE (l ++ m) = overE l + overE m := by simp [overE]
theorem costE_app (l m : List EdD) : costE (l ++ m) = costE l + costE m := by simp [costE]
/-- What a script's state is behind some edits. -/
structure OpsInv (e : List El) (l : List EdD) (s : OpsSt) : Prop where
  at_ : s.at_ = overE l
  kept : s.kept ≤ s.at_
  len : s.out.length = costE l
theorem ops_inv {e : List El} : ∀ (m l : List EdD) (s : OpsSt), OpsInv e l s → (∀ x ∈ m, x.May) → overE (l ++ m) ≤ (seenE e).length → OpsInv e (l ++ m) (m.foldl (edOps e) s)
  | [], l, s, h, _, _ => by simpa using h
  | x :: m, l, s, h, hm, hb => by
    have hb1 : overE (l ++ [x]) ≤ (seenE e).length := by
      have : l ++ x :: m = (l ++ [x]) ++ m := by simp
      rw [this, overE_app] at hb; omega
    have h1 : OpsInv e (l ++ [x]) (edOps e s x) := by
      have hx := hm x (by simp)
      have ha := h.at_
      have hk := h.kept
      have hl := h.len
      rw [overE_app] at hb1
      have o1 : overE [x] = x.over := by simp [overE]
      have c1 : costE [x] = x.cost := by simp [costE]
      unfold EdD.May at hx
      unfold edOps
      by_cases k1 : x.kind = 1
      · rw [if_pos k1]
        refine ⟨?_, Nat.le_refl _, ?_⟩
        · rw [overE_app, o1, EdD.over, if_neg (by omega)]; show s.at_ + x.n = _; omega
        · rw [costE_app, c1, EdD.cost, if_pos k1]; exact hl
      · rw [if_neg k1]
        by_cases k2 : x.kind = 2
        · rw [if_pos k2]
          have hov : x.over = x.n := by rw [EdD.over, if_neg (by omega)]
          have ht : x.text = [] := by
            rcases hx with ⟨_, _, h⟩ | ⟨h, _⟩
            · exact h
            · omega
          refine ⟨?_, by show s.kept ≤ s.at_ + x.n; omega, ?_⟩
          · rw [overE_app, o1, hov]; show s.at_ + x.n = _; omega
          · rw [costE_app, c1, EdD.cost, if_neg k1, ht]
            show (s.out ++ cutOps e s.at_ x.n).length = _
            rw [List.length_append, cutOps_length (by rw [o1, hov] at hb1; omega), hl]; rfl
        · rw [if_neg k2]
          have h3 : x.kind = 3 ∧ x.n = 0 := by
            rcases hx with ⟨h, _⟩ | ⟨h, h', _⟩
            · omega
            · exact ⟨h, h'⟩
          refine ⟨?_, hk, ?_⟩
          · rw [overE_app, o1, EdD.over, if_pos h3.1]; exact ha
          · rw [costE_app, c1, EdD.cost, if_neg k1, h3.2]
            show (s.out ++ insOps _ _ x.text).length = _
            rw [List.length_append, insOps_length, hl]; omega
    have := ops_inv m (l ++ [x]) _ h1 (fun y hy => hm y (by simp [hy])) (by simpa using hb)
    simpa using this
theorem ops_start {e : List El} : OpsInv e [] ⟨0, 0, []⟩ := ⟨rfl, Nat.le_refl _, rfl⟩
/-- Behind the first k edits. -/
def opsAt (e : List El) (b : List UInt8) (k : Nat) : OpsSt := ((scriptE (textE e) b).take k).foldl (edOps e) ⟨0, 0, []⟩
theorem opsAt_inv (e : List El) (b : List UInt8) (k : Nat) : OpsInv e ((scriptE (textE e) b).take k) (opsAt e b k) := by
  have h := ops_inv (e := e) ((scriptE (textE e) b).take k) [] ⟨0, 0, []⟩ ops_start (fun x hx => script_may _ _ x (List.mem_of_mem_take hx)) (by
    rw [List.nil_append]
    have h1 := overE_take (scriptE (textE e) b) k
    rw [script_over] at h1
    simpa [textE] using h1)
  rw [List.nil_append] at h
  exact h
theorem opsAt_succ {e : List El} {b : List UInt8} {k : Nat} {x : EdD} (h : (scriptE (textE e) b)[k]? = some x) : opsAt e b (k + 1) = edOps e (opsAt e b k) x := by
  unfold opsAt
  rw [Go.Pl.take_succ h, List.foldl_append]; rfl
theorem opsAt_end {e : List El} {b : List UInt8} : (opsAt e b (scriptE (textE e) b).length).out = opsE e b := by
  unfold opsAt opsE
  rw [List.take_length]
/-- What is gone over, and what is left of it. -/
theorem opsAt_over {e : List El} {b : List UInt8} {k : Nat} {x : EdD} (h : (scriptE (textE e) b)[k]? = some x) : (opsAt e b k).at_ + x.over ≤ (seenE e).length := by
  have h1 := (opsAt_inv e b k).at_
  have h2 := overE_take (scriptE (textE e) b) (k + 1)
  rw [script_over, Go.Pl.take_succ h, overE_app] at h2
  have h3 : overE [x] = x.over := by simp [overE]
  have h4 : (textE e).length = (seenE e).length := by simp [textE]
  omega
theorem ops_length (e : List El) (b : List UInt8) : (opsE e b).length = cst (textE e) b := by
  rw [← opsAt_end, (opsAt_inv e b _).len, List.take_length, script_cost]
theorem cst_self (a : List UInt8) : cst a a = 0 := by
  rw [← stp_cost, stp_self]
  induction a.length with
  | zero => rfl
  | succ n ih => rw [List.replicate_succ, List.map_cons, List.sum_cons, ih]; rfl
theorem ops_self (e : List El) : opsE e (textE e) = [] := List.eq_nil_of_length_eq_zero (by rw [ops_length, cst_self])
/-! ## Runs -/
def spread (l : List RuD) : List Dig := l.flatMap fun r => List.replicate r.n r.c
structure RunsOk (l : List RuD) (ds : List Dig) : Prop where
  all : spread l = ds
  pos : ∀ r ∈ l, 1 ≤ r.n
  ne : ∀ (i : Nat) (r s : RuD), l[i]? = some r → l[i + 1]? = some s → r.c ≠ s.c
theorem RunsOk.add {l : List RuD} {ds : List Dig} (h : RunsOk l ds) (d : Dig) : RunsOk (addR l d) (ds ++ [d]) := by
  unfold addR
  by_cases hc : l.getLast?.map RuD.c = some d
  · rw [if_pos hc]
    obtain ⟨r, hr, hd⟩ := Option.map_eq_some_iff.1 hc
    rw [List.getLast?_eq_some_iff] at hr
    obtain ⟨ys, rfl⟩ := hr
    have e : (ys ++ [r]).modify ((ys ++ [r]).length - 1) (fun r => (⟨r.c, r.n + 1⟩ : RuD)) = ys ++ [⟨r.c, r.n + 1⟩] := by
      apply List.ext_getElem?
      intro i
      rw [List.getElem?_modify, List.getElem?_append, List.getElem?_append]
      by_cases hi : i < ys.length
      · rw [if_pos hi, if_pos hi]
        have : ¬ (ys ++ [r]).length - 1 = i := by simp; omega
        cases ys[i]? with
        | none => rfl
        | some z => show some (if (ys ++ [r]).length - 1 = i then _ else z) = _; rw [if_neg this]
      · rw [if_neg hi, if_neg hi]
        by_cases hj : i = ys.length
        · subst hj; simp
        · rw [List.getElem?_eq_none_iff.2 (by simp; omega), List.getElem?_eq_none_iff.2 (by simp; omega)]; rfl
    rw [e]
    refine ⟨?_, ?_, ?_⟩
    · rw [← h.all]
      simp only [spread, List.flatMap_append, List.flatMap_cons, List.flatMap_nil, List.append_nil, List.append_assoc]
      rw [List.replicate_succ', hd]
    · intro x hx
      rcases List.mem_append.1 hx with hx | hx
      · exact h.pos x (by simp [hx])
      · simp at hx; subst hx; simp
    · intro i x y hx hy
      rw [List.getElem?_append] at hx hy
      have h1 := h.ne i
      by_cases hi : i + 1 < ys.length
      · rw [if_pos hi] at hy
        rw [if_pos (by omega)] at hx
        exact h1 x y (by rw [List.getElem?_append_left (by omega)]; exact hx) (by rw [List.getElem?_append_left hi]; exact hy)
      · rw [if_neg hi] at hy
        have hil : i + 1 = ys.length := by
          have := (List.getElem?_eq_some_iff.1 hy).1; simp at this; omega
        rw [if_pos (by omega)] at hx
        rw [hil, Nat.sub_self] at hy
        simp at hy
        subst hy
        exact h1 x r (by rw [List.getElem?_append_left (by omega)]; exact hx) (by rw [hil]; simp)
  · rw [if_neg hc]
    refine ⟨?_, ?_, ?_⟩
    · rw [← h.all]; simp [spread]
    · intro x hx
      rcases List.mem_append.1 hx with hx | hx
      · exact h.pos x hx
      · simp at hx; subst hx; exact Nat.le_refl _
    · intro i x y hx hy
      rw [List.getElem?_append] at hx hy
      by_cases hi : i + 1 < l.length
      · rw [if_pos hi] at hy
        rw [if_pos (by omega)] at hx
        exact h.ne i x y hx hy
      · rw [if_neg hi] at hy
        have hil : i + 1 = l.length := by
          have := (List.getElem?_eq_some_iff.1 hy).1; simp at this; omega
        rw [if_pos (by omega)] at hx
        rw [hil, Nat.sub_self] at hy
        simp at hy
        subst hy
        intro hd
        refine hc ?_
        rw [List.getLast?_eq_getElem?, ← hil, Nat.add_sub_cancel, hx]
        show some x.c = some d
        rw [hd]
theorem runs_fold {l : List RuD} {ds : List Dig} (h : RunsOk l ds) : ∀ (es : List Dig), RunsOk (es.foldl addR l) (ds ++ es)
  | [] => by simpa using h
  | d :: es => by
    have := runs_fold (h.add d) es
    simpa using this
theorem runs_ok (e : List El) : RunsOk (blameE e) ((seenE e).map fun q => (nm e q).c) := by
  have := runs_fold (l := []) (ds := []) ⟨rfl, (fun r h => by cases h), (fun i r s h => by simp at h)⟩ ((seenE e).map fun q => (nm e q).c)
  simpa [blameE] using this
end Go.Fu
