/- Parts of a proof: what its last text leans on. No condition. -/
import Derived.ProofKit
import Derived.SizedLaws
import Derived.Below
import Derived.ChangeSame
import Derived.Deep.Slices
import Derived.OpenShut
import Derived.Test.YtjbeooimhoilmaaGreatDoorChecked
import Derived.Test.YtjbeooimhoilmaaGreatDoorRows
import Derived.Lib.LaidTab
import Derived.LaidHandle
import Derived.Stop.Joined
import Derived.Deep.DeepHandedRow
import Derived.MapKept
import Derived.WideKeyRuns
import Derived.ChangeMaps4
import Derived.DeepKeys3
import Derived.Test.YtjbeooimhoilmaaGreatDoorK02
import Derived.Test.YtjbeooimhoilmaaGreatDoorK03
import Derived.Test.YtjbeooimhoilmaaGreatDoorK07
import Derived.Test.YtjbeooimhoilmaaGreatDoorK08
set_option linter.unusedSimpArgs false
set_option linter.unusedVariables false
/- From a contract to a row, for a law's function; what an argument of the api's types is. No condition; no program. -/
namespace Go.Fw
open Go.RowKit Go.WideShapes Go.ChangeShapes Go.ChangeAt Go.Deep
section
variable {H : Type} {enc : TypeId × Value → H} {P : Program}
theorem post_below {f : Func} {s : ChangeSpec} {apart fresh handsOn again : Bool} {W W' : World} {args : Array Value} {v : Value} {ds gs : List (DataW H)} {before pa pv : List MemPlace}
  (hW : DataW.Whole enc P f.params.toList s.vars apart W args.toList ds gs before)
  (hres : ∀ (b : Nat) (sp : Nat → Bool) (hd : Bool), DataW.TrodAll enc P W' b sp hd f.resultTypes.toList (v.resultList f.resultTypes.size) (s.fn H (ds ++ gs)).results [])
  (hargs : ∀ sp : Nat → Bool, (∀ p ∈ before, sp p.block = true) → DataW.TrodAll enc P W' 0 sp true f.params.toList args.toList (s.fn H (ds ++ gs)).args pa)
  (hvars : ∀ sp : Nat → Bool, (∀ p ∈ before, sp p.block = true) → DataW.TrodVars enc P W' sp s.vars (s.fn H (ds ++ gs)).vars pv)
  (hps : before = pa ++ pv) (hb : Below W.heap.size W W')
  (hok : ∀ (j : Nat) (t : TypeId) (r : Value), f.resultTypes[j]? = some t → (v.resultList f.resultTypes.size)[j]? = some r → Value.okWide P W' .any 0 t r) :
  s.post enc P f apart fresh handsOn again W args v W' := by
 have hlt : ∀ p ∈ before, p.block < W.heap.size := fun p hp => hW.lt p hp
 have hold : ∀ p ∈ before, (fun b => decide (b < W.heap.size)) p.block = true := fun p hp => by simpa using hlt p hp
 refine ⟨ds, gs, before, [], pa, pv, hW, hres _ _ _, hargs _ hold, hvars _ hold, World.keptBut_mono (fun p hp => ⟨hp, ?_⟩) (hb.frame (· ∈ before)), fun _ => ?_⟩
 ·
  rw [hps, List.mem_append] at hp
  exact Or.inr hp
 ·
  obtain ⟨_, _, _, _, _, hz, hn⟩ := hW
  refine ⟨hok, _, _, ([] ++ pa) ++ pv, ⟨[] ++ pa, pv, trodAll_append (hargs _ (fun _ _ => rfl)) (hres _ _ _), hvars _ (fun _ _ => rfl), rfl, ?_, ?_⟩, ?_⟩
  ·
   intro b off hp
   have hin : MemPlace.cell b off ∈ before := by rw [hps]; simpa using hp
   rw [hb.frozen (hlt _ hin)]
   exact hz b off hin
  ·
   intro ha
   have := hn ha
   rw [hps] at this
   simpa using this
  ·
   intro p hp _
   rw [hps]
   simpa using hp
theorem trodAll_below {W W' : World} (hl : laidOutB P = true) (hb : Below W.heap.size W W') {sp : Nat → Bool} : ∀ {ts : List TypeId} {vs : List Value} {ds : List (DataW H)} {ps : List MemPlace},
  (∀ t ∈ ts, P.readableRec t = true ∧ t < P.types.size) → DataW.TrodAll enc P W 0 (fun _ => true) true ts vs ds ps → (∀ p ∈ ps, p.block < W.heap.size) → (∀ p ∈ ps, sp p.block = true) → DataW.TrodAll enc P W' 0 sp true ts vs ds ps
 | [], vs, ds, ps, _, h, _, _ => by
  obtain ⟨rfl, rfl, rfl⟩ := trodAll_nil h
  rfl
 | t :: ts, vs, ds, ps, hr, h, hlt, hsp => by
  obtain ⟨v, vs', d, ds', p, q, rfl, rfl, rfl, h1, h2⟩ := trodAll_cons h
  refine ⟨p, q, ?_, ?_, rfl⟩
  ·
   have hp : ∀ x ∈ p, x.block < W.heap.size := fun x hx => hlt x (List.mem_append_left _ hx)
   exact WideElems.Trod_stays hl (hr t (by simp)).1 (hr t (by simp)).2 h1 (fun x hx => hb.same (hp x hx)) (fun x hx => hsp x (List.mem_append_left _ hx))
  ·
   exact trodAll_below hl hb (fun u hu => hr u (by simp [hu])) h2 (fun x hx => hlt x (List.mem_append_right _ hx)) (fun x hx => hsp x (List.mem_append_right _ hx))
end
end Go.Fw
/- What an argument of plain data is, by its type. No condition; no program. -/
namespace Go.Fw
open Go.RowKit Go.WideShapes Go.ChangeShapes Go.ChangeAt Go.Deep
def RdW (P : Program) (t : TypeId) (R : World → List Value → Prop) : Prop :=
 ∀ (H : Type) (e : TypeId × Value → H) (w : World) (base : Nat) (spare : Nat → Bool) (held : Bool) (fuel : Nat) (cs : List Value) (d : DataW H) (ps : List MemPlace),
  DataW.trod e P w base spare held fuel t cs = some (d, ps) → (∀ n ∈ d.weights P t, n ≤ reachBytes) → R w cs
section
variable {P : Program} {t e : TypeId} {R : World → List Value → Prop}
theorem RdW.mono {R' : World → List Value → Prop} (h : RdW P t R) (hr : ∀ w cs, R w cs → R' w cs) : RdW P t R' := fun H en w b sp hd fu cs d ps ht hw => hr _ _ (h H en w b sp hd fu cs d ps ht hw)
theorem u8_of {n : Int} (h : (Lit.int .u8 n).wf = true) : ∃ b : UInt8, Value.int .u8 n = bc b := by
 have h1 : IntKind.u8.min = 0 := rfl
 have h2 : IntKind.u8.max = 255 := rfl
 simp only [Lit.wf, Bool.and_eq_true, decide_eq_true_eq] at h
 refine ⟨UInt8.ofNat n.toNat, ?_⟩
 unfold bc
 congr 1
 rw [UInt8.toNat_ofNat', Nat.mod_eq_of_lt (by omega)]
 omega
theorem RdW.u8 (ht : P.underlying t = some (.int .u8)) : RdW P t (fun _ cs => ∃ b, cs = [bc b]) := fun H en w bs sp hd fu cs d ps h _ => by
 obtain ⟨n, rfl, _, hn⟩ := DataW.trod_int ht h
 obtain ⟨b, hb⟩ := u8_of hn
 exact ⟨b, by rw [hb]⟩
theorem RdW.int (ht : P.underlying t = some (.int .i64)) : RdW P t (fun _ cs => ∃ i, cs = [.int .i64 i] ∧ InI64 i) := fun H en w bs sp hd fu cs d ps h _ => by
 obtain ⟨n, rfl, _, hn⟩ := DataW.trod_int ht h
 have h1 : IntKind.i64.min = -9223372036854775808 := rfl
 have h2 : IntKind.i64.max = 9223372036854775807 := rfl
 simp only [Lit.wf, Bool.and_eq_true, decide_eq_true_eq] at hn
 exact ⟨n, rfl, by omega, by omega⟩
theorem RdW.bool (ht : P.underlying t = some .bool) : RdW P t (fun _ cs => ∃ b, cs = [.bool b]) := fun H en w bs sp hd fu cs d ps h _ => by
 obtain ⟨b, rfl, _⟩ := DataW.trod_bool ht h
 exact ⟨b, rfl⟩
theorem RdW.string (ht : P.underlying t = some .string) : RdW P t (fun _ cs => ∃ s, cs = [.string s] ∧ s.size ≤ reachBytes) := fun H en w bs sp hd fu cs d ps h hw => by
 obtain ⟨s, rfl, hx, _⟩ := DataW.trod_string ht h
 injection hx with h1 h2
 subst h1
 have := hw s.data.toList.length (by simp [DataW.weights])
 exact ⟨s, rfl, by simpa using this⟩
theorem RdW.struct {fs : Array Field} (ht : P.underlying t = some (.struct fs)) (R : Nat → World → List Value → Prop) (hf : ∀ (i : Nat) (f : Field), fs[i]? = some f → RdW P f.type (R i)) :
  RdW P t (fun w cs => cs.length = P.cellsOf t ∧ ∀ (i : Nat) (f : Field), fs[i]? = some f → R i w ((cs.drop f.offset).take (P.cellsOf f.type))) := fun H en w bs sp hd fu cs d ps h hw => by
 obtain ⟨xs, n, _, hx, hl, hxl, hi⟩ := DataW.trod_struct ht h
 injection hx with h1 h2
 subst h1
 refine ⟨hl, fun i f hif => ?_⟩
 have h3 := hi i f hif
 have hlt : i < fs.size := (Array.getElem?_eq_some_iff.1 hif).1
 rw [List.getElem?_eq_getElem (by omega)] at h3
 refine hf i f hif H en w bs sp hd n _ _ _ h3 fun k hk => hw k ?_
 rw [DataW.weights, ht]
 refine DataW.weights_mem_each (j := i) (t := f.type) (d := (xs[i]'(by omega)).1) ?_ ?_ k hk
 ·
  simp [hif]
 ·
  simp [List.getElem?_eq_getElem (show i < xs.length by omega)]
theorem mem_weightsAll {H : Type} {e : TypeId} : ∀ {ds : List (DataW H)} {d : DataW H} {k : Nat}, d ∈ ds → k ∈ d.weights P e → k ∈ DataW.weightsAll P e ds
 | x :: ds, d, k, hd, hk => by
  simp only [DataW.weightsAll, List.mem_append]
  rcases List.mem_cons.1 hd with rfl | hd
  ·
   exact .inl hk
  ·
   exact .inr (mem_weightsAll hd hk)
theorem RdW.array1 {m : Nat} (ht : P.underlying t = some (.array m e)) (hc : P.cellsOf e = 1) (hct : P.cellsOf t = m) (he : RdW P e R) :
  RdW P t (fun w cs => cs.length = m ∧ ∀ (i : Nat) (v : Value), cs[i]? = some v → R w [v]) := fun H en w bs sp hd fu cs d ps h hw => by
 obtain ⟨xs, n, _, hx, hl, hxl, hi⟩ := DataW.trod_array ht h
 injection hx with h1 h2
 subst h1
 rw [hct] at hl
 refine ⟨hl, fun i v hv => ?_⟩
 have hlt : i < cs.length := (List.getElem?_eq_some_iff.1 hv).1
 have h3 := hi i (by omega)
 rw [hc, Nat.mul_one, List.getElem?_eq_getElem (by omega)] at h3
 have e1 : (cs.drop i).take 1 = [v] := by
  rw [List.drop_eq_getElem_cons hlt]
  have : cs[i] = v := (List.getElem?_eq_some_iff.1 hv).2
  simp [this]
 rw [e1] at h3
 refine he H en w bs sp hd n _ _ _ h3 fun k hk => hw k ?_
 rw [DataW.weights, ht]
 exact mem_weightsAll (List.mem_map.2 ⟨xs[i]'(by omega), List.getElem_mem _, rfl⟩) hk
theorem list_of {α : Type} {Q : Nat → α → Prop} : ∀ (m : Nat), (∀ i, i < m → ∃ a, Q i a) → ∃ xs : List α, xs.length = m ∧ ∀ i x, xs[i]? = some x → Q i x
 | 0, _ => ⟨[], rfl, fun i x h => by simp at h⟩
 | m + 1, h => by
  obtain ⟨xs, hl, hx⟩ := list_of m fun i hi => h i (by omega)
  obtain ⟨a, ha⟩ := h m (by omega)
  refine ⟨xs ++ [a], by simp [hl], fun i x hi => ?_⟩
  rcases Nat.lt_or_ge i m with hlt | hge
  ·
   rw [List.getElem?_append_left (by omega)] at hi; exact hx i x hi
  ·
   rw [List.getElem?_append_right (by omega)] at hi
   have h0 : i - xs.length = 0 := by
    rcases Nat.eq_zero_or_pos (i - xs.length) with h0 | h0
    ·
     exact h0
    ·
     rw [List.getElem?_eq_none (by simp; omega)] at hi; cases hi
   rw [h0] at hi
   simp at hi
   subst hi
   have : i = m := by omega
   subst this; exact ha
theorem RdW.slice {α : Type} {enc : α → List Value} {Q : World → α → Prop} {k : Nat} (ht : P.underlying t = some (.slice e)) (hc : P.cellsOf e = k) (hk : ∀ a, (enc a).length = k) (he : RdW P e (fun w cs => ∃ a, cs = enc a ∧ Q w a)) :
  RdW P t (fun w cs => ∃ v xs, cs = [v] ∧ Sl w enc k v xs ∧ xs.length * P.bytesOf e ≤ reachBytes ∧ ∀ (i : Nat) x, xs[i]? = some x → Q w x) := fun H en w bs sp hd fu cs d ps h hw => by
 rcases open_slice ht h with ⟨rfl, _⟩ | ⟨a, len, cap, m, n, D, Pl, rfl, hb, hl, hm, hmm, hx, hi⟩
 ·
  exact ⟨_, [], rfl, Sl.nil, by simp, fun i x hx => by simp at hx⟩
 ·
  injection hx with h1 h2
  subst h1
  have hle : len ≤ m := by rw [hmm]; split <;> omega
  obtain ⟨xs, hxl, hxs⟩ := list_of (Q := fun i (x : α) => Mem w (a.add (i * k)) (enc x) ∧ Q w x) len fun i hil => by
   obtain ⟨cs', hc1, hc2⟩ := hi i (by omega)
   rw [hc] at hc1
   obtain ⟨_, hcl, hcg⟩ := World.cells?_some hc1
   obtain ⟨x, rfl, hq⟩ := he H en w bs sp hd n _ _ _ hc2 fun u hu => hw u (by
    rw [DataW.weights, ht]
    refine List.mem_cons_of_mem _ (List.mem_append_left _ (mem_weightsAll (List.mem_map.2 ⟨i, by simpa using hil, rfl⟩) hu)))
   refine ⟨x, fun j v hj => ?_, hq⟩
   have hjl : j < (enc x).length := (List.getElem?_eq_some_iff.1 hj).1
   rw [hcg j (by omega), hj]
  refine ⟨_, xs, rfl, ⟨some a, len, cap, rfl, hxl, hl, hm, fun i x hx => ⟨a, rfl, (hxs i x hx).1⟩⟩, ?_, fun i x hx => (hxs i x hx).2⟩
  have := hw ((((List.range len).map D).length + ((List.range (m - len)).map fun j => D (len + j)).length) * P.bytesOf e) (by rw [DataW.weights, ht]; exact List.mem_cons_self)
  simp only [List.length_map, List.length_range] at this
  have h2 : xs.length * P.bytesOf e ≤ (len + (m - len)) * P.bytesOf e := Nat.mul_le_mul_right _ (by omega)
  omega
end
theorem reach_max {n : Nat} (h : n ≤ reachBytes) : n ≤ maxLen := Nat.le_trans h (by decide)
section api
variable {P : Program} {t e tb ti td tr : TypeId}
theorem RdW.dig (ht : P.underlying t = some (.array 32 e)) (he : P.underlying e = some (.int .u8)) (hc : P.cellsOf e = 1) (hct : P.cellsOf t = 32) : RdW P t (fun _ cs => ∃ d, cs = digC d) :=
 (RdW.array1 ht hc hct (RdW.u8 he)).mono fun w cs ⟨hl, hg⟩ => by
  obtain ⟨xs, hxl, hxs⟩ := list_of (Q := fun i (b : UInt8) => cs[i]? = some (bc b)) 32 fun i hi => by
   obtain ⟨b, hb⟩ := hg i _ (List.getElem?_eq_getElem (by omega))
   exact ⟨b, by rw [List.getElem?_eq_getElem (by omega)]; injection hb with hb; rw [hb]⟩
  refine ⟨⟨xs, hxl⟩, ?_⟩
  apply List.ext_getElem?
  intro i
  rcases Nat.lt_or_ge i 32 with h | h
  ·
   rw [hxs i _ (List.getElem?_eq_getElem (by omega)), digC, bytesC_get (l := xs) (List.getElem?_eq_getElem (by omega))]
  ·
   rw [List.getElem?_eq_none (by omega), List.getElem?_eq_none (by rw [digC_length]; omega)]
theorem list_split {cs : List Value} {a b : Nat} : cs.take (a + b) = cs.take a ++ (cs.drop a).take b := List.take_add
theorem RdW.ref {f0 f1 f2 : Field} (ht : P.underlying t = some (.struct #[f0, f1, f2])) (hct : P.cellsOf t = 34) (h0 : RdW P f0.type (fun _ cs => ∃ b, cs = [.bool b])) (h1 : RdW P f1.type (fun _ cs => ∃ d, cs = digC d)) (h2 : RdW P f2.type (fun _ cs => ∃ i, cs = [.int .i64 i] ∧ InI64 i))
  (o0 : f0.offset = 0) (o1 : f1.offset = 1) (o2 : f2.offset = 33) (c0 : P.cellsOf f0.type = 1) (c1 : P.cellsOf f1.type = 32) (c2 : P.cellsOf f2.type = 1) : RdW P t (fun _ cs => ∃ r, cs = refC r ∧ InI64 r.n) :=
 (RdW.struct ht (fun i w cs => match i with | 0 => ∃ b, cs = [.bool b] | 1 => ∃ d, cs = digC d | _ => ∃ i, cs = [.int .i64 i] ∧ InI64 i) (fun i f hf => by
  match i, hf with
  | 0, hf => simp at hf; subst hf; exact h0
  | 1, hf => simp at hf; subst hf; exact h1
  | 2, hf => simp at hf; subst hf; exact h2
  | i + 3, hf => simp at hf)).mono fun w cs ⟨hl, hg⟩ => by
   obtain ⟨b, hb⟩ := hg 0 f0 rfl
   obtain ⟨d, hd⟩ := hg 1 f1 rfl
   obtain ⟨n, hn, hi⟩ := hg 2 f2 rfl
   rw [o0, c0] at hb; rw [o1, c1] at hd; rw [o2, c2] at hn
   refine ⟨⟨b, d, n⟩, ?_, hi⟩
   have e1 : cs = cs.take (1 + 32 + 1) := by rw [List.take_of_length_le (by omega)]
   rw [e1, list_split, list_split, hd, hn]
   rw [List.drop_zero] at hb
   rw [hb]; rfl
theorem RdW.op {f0 f1 f2 f3 : Field} (ht : P.underlying t = some (.struct #[f0, f1, f2, f3])) (hct : P.cellsOf t = 37) (h0 : RdW P f0.type (fun _ cs => ∃ i, cs = [.int .i64 i] ∧ InI64 i)) (h1 : RdW P f1.type (fun _ cs => ∃ b, cs = [.bool b])) (h2 : RdW P f2.type (fun _ cs => ∃ r, cs = refC r ∧ InI64 r.n)) (h3 : RdW P f3.type (fun _ cs => ∃ b, cs = [bc b]))
  (o0 : f0.offset = 0) (o1 : f1.offset = 1) (o2 : f2.offset = 2) (o3 : f3.offset = 36) (c0 : P.cellsOf f0.type = 1) (c1 : P.cellsOf f1.type = 1) (c2 : P.cellsOf f2.type = 34) (c3 : P.cellsOf f3.type = 1) : RdW P t (fun _ cs => ∃ x, cs = opC x ∧ InI64 x.kind ∧ InI64 x.at_.n) :=
 (RdW.struct ht (fun i w cs => match i with | 0 => ∃ i, cs = [.int .i64 i] ∧ InI64 i | 1 => ∃ b, cs = [.bool b] | 2 => ∃ r, cs = refC r ∧ InI64 r.n | _ => ∃ b, cs = [bc b]) (fun i f hf => by
  match i, hf with
  | 0, hf => simp at hf; subst hf; exact h0
  | 1, hf => simp at hf; subst hf; exact h1
  | 2, hf => simp at hf; subst hf; exact h2
  | 3, hf => simp at hf; subst hf; exact h3
  | i + 4, hf => simp at hf)).mono fun w cs ⟨hl, hg⟩ => by
   obtain ⟨k, hk, hki⟩ := hg 0 f0 rfl
   obtain ⟨b, hb⟩ := hg 1 f1 rfl
   obtain ⟨r, hr, hi⟩ := hg 2 f2 rfl
   obtain ⟨x, hx⟩ := hg 3 f3 rfl
   rw [o0, c0] at hk; rw [o1, c1] at hb; rw [o2, c2] at hr; rw [o3, c3] at hx
   refine ⟨⟨k, b, r, x⟩, ?_, hki, hi⟩
   have e1 : cs = cs.take (1 + 1 + 34 + 1) := by rw [List.take_of_length_le (by omega)]
   rw [e1, list_split, list_split, list_split, hb, hr, hx]
   rw [List.drop_zero] at hk
   rw [hk]; simp [opC]
structure ComIn (w : World) (v : Value) (c : ComD) : Prop where
 com : Com w v c
 parents : c.parents.length * 32 ≤ reachBytes
 author : c.author.size ≤ reachBytes
 note : c.note.size ≤ reachBytes
 ops : c.ops.length * 72 ≤ reachBytes
 ints : ∀ (i : Nat) x, c.ops[i]? = some x → InI64 x.kind ∧ InI64 x.at_.n
theorem RdW.com {f0 f1 f2 f3 : Field} {ed eo : TypeId} (ht : P.underlying t = some (.struct #[f0, f1, f2, f3])) (hct : P.cellsOf t = 4)
  (u0 : P.underlying f0.type = some (.slice ed)) (cd : P.cellsOf ed = 32) (bd : P.bytesOf ed = 32) (hd : RdW P ed (fun _ cs => ∃ d, cs = digC d))
  (u1 : P.underlying f1.type = some .string) (u2 : P.underlying f2.type = some .string)
  (u3 : P.underlying f3.type = some (.slice eo)) (co : P.cellsOf eo = 37) (bo : P.bytesOf eo = 72) (ho : RdW P eo (fun _ cs => ∃ x, cs = opC x ∧ InI64 x.kind ∧ InI64 x.at_.n))
  (o0 : f0.offset = 0) (o1 : f1.offset = 1) (o2 : f2.offset = 2) (o3 : f3.offset = 3) (c0 : P.cellsOf f0.type = 1) (c1 : P.cellsOf f1.type = 1) (c2 : P.cellsOf f2.type = 1) (c3 : P.cellsOf f3.type = 1) :
  RdW P t (fun w cs => ∃ c, ComIn w (.agg cs.toArray) c) :=
 (RdW.struct ht (fun i w cs => match i with
   | 0 => ∃ v xs, cs = [v] ∧ Sl w digC 32 v xs ∧ xs.length * P.bytesOf ed ≤ reachBytes ∧ ∀ (i : Nat) x, xs[i]? = some x → True
   | 1 => ∃ s, cs = [.string s] ∧ s.size ≤ reachBytes
   | 2 => ∃ s, cs = [.string s] ∧ s.size ≤ reachBytes
   | _ => ∃ v xs, cs = [v] ∧ Sl w opC 37 v xs ∧ xs.length * P.bytesOf eo ≤ reachBytes ∧ ∀ (i : Nat) x, xs[i]? = some x → InI64 x.kind ∧ InI64 x.at_.n) (fun i f hf => by
  match i, hf with
  | 0, hf => simp at hf; subst hf; exact RdW.slice (Q := fun _ _ => True) u0 cd digC_length (hd.mono fun w cs ⟨d, h⟩ => ⟨d, h, trivial⟩)
  | 1, hf => simp at hf; subst hf; exact RdW.string u1
  | 2, hf => simp at hf; subst hf; exact RdW.string u2
  | 3, hf => simp at hf; subst hf; exact RdW.slice (Q := fun _ x => InI64 x.kind ∧ InI64 x.at_.n) u3 co opC_length ho
  | i + 4, hf => simp at hf)).mono fun w cs ⟨hl, hg⟩ => by
   obtain ⟨pv, xs, h0, hs, hb, _⟩ := hg 0 f0 rfl
   obtain ⟨au, h1, ha⟩ := hg 1 f1 rfl
   obtain ⟨no, h2, hn⟩ := hg 2 f2 rfl
   obtain ⟨ov, ys, h3, hso, hbo, hq⟩ := hg 3 f3 rfl
   rw [o0, c0] at h0; rw [o1, c1] at h1; rw [o2, c2] at h2; rw [o3, c3] at h3
   rw [bd] at hb; rw [bo] at hbo
   have e1 : cs = cs.take (1 + 1 + 1 + 1) := by rw [List.take_of_length_le (by omega)]
   rw [List.drop_zero] at h0
   have e2 : cs = comC pv au no ov := by rw [e1, list_split, list_split, list_split, h0, h1, h2, h3]; rfl
   refine ⟨⟨xs, au, no, ys⟩, ⟨pv, ov, by rw [e2], hs, hso, reach_max ha, reach_max hn⟩, hb, ha, hn, hbo, hq⟩
end api
theorem RdW.arg {H : Type} {en : TypeId × Value → H} {P : Program} {t : TypeId} {R : World → List Value → Prop} {w : World} {v : Value} {d : DataW H} {ps : List MemPlace} (h : RdW P t R) (ht : DataW.Trod en P w 0 (fun _ => true) true t v d ps) (hw : ∀ n ∈ d.weights P t, n ≤ reachBytes) : R w v.cells.toList := by
 obtain ⟨fuel, hf⟩ := ht
 exact h H en w _ _ _ fuel _ _ _ hf hw
theorem weights1 {H : Type} {P : Program} {ts : List TypeId} {ds : List (DataW H)} (h : (DataW.weightsEach P ts ds).all (· ≤ reachBytes) = true) {j : Nat} {t : TypeId} {d : DataW H} (ht : ts[j]? = some t) (hd : ds[j]? = some d) : ∀ n ∈ d.weights P t, n ≤ reachBytes := fun n hn => by
 have := List.all_eq_true.1 h n (DataW.weights_mem_each ht hd n hn)
 simpa using this
end Go.Fw
/- The api's types as arguments of this program: closed facts. No condition. -/
namespace Go.Proofs.YtjbeooimhoilmaaGreatDoor
open Go.RowKit Go.Fw Go.WideShapes Go.ChangeShapes
theorem own0 : ownKnob Tryz.prog.godebug = none := by kernel_rfl
theorem laidOut0 : laidOutB Tryz.prog = true := by kernel_rfl
theorem rd_dig : RdW Tryz.prog 43 (fun _ cs => ∃ d, cs = digC d) := RdW.dig Tryz.underlying43 Tryz.underlying5 (by kernel_rfl) (by kernel_rfl)
theorem rd_ref : RdW Tryz.prog 68 (fun _ cs => ∃ r, cs = refC r ∧ InI64 r.n) :=
 RdW.ref Tryz.underlying68 (by kernel_rfl) (RdW.bool Tryz.underlying4) rd_dig (RdW.int Tryz.underlying3) rfl rfl rfl (by kernel_rfl) (by kernel_rfl) (by kernel_rfl)
theorem rd_op : RdW Tryz.prog 70 (fun _ cs => ∃ x, cs = opC x ∧ InI64 x.kind ∧ InI64 x.at_.n) :=
 RdW.op Tryz.underlying70 (by kernel_rfl) (RdW.int Tryz.underlying3) (RdW.bool Tryz.underlying4) rd_ref (RdW.u8 Tryz.underlying5) rfl rfl rfl rfl (by kernel_rfl) (by kernel_rfl) (by kernel_rfl) (by kernel_rfl)
theorem bytes_op : Tryz.prog.bytesOf 70 = 72 := by kernel_rfl
theorem rd_com : RdW Tryz.prog 48 (fun w cs => ∃ c, ComIn w (.agg cs.toArray) c) :=
 RdW.com Tryz.underlying48 (by kernel_rfl) Tryz.underlying24 (by kernel_rfl) (by kernel_rfl) rd_dig Tryz.underlying9 Tryz.underlying9 Tryz.underlying46 (by kernel_rfl) bytes_op rd_op
  rfl rfl rfl rfl (by kernel_rfl) (by kernel_rfl) (by kernel_rfl) (by kernel_rfl)
section
variable {H : Type} {en : TypeId × Value → H} {w : World} {v : Value} {d : DataW H} {ps : List MemPlace} {base : Nat}
end
end Go.Proofs.YtjbeooimhoilmaaGreatDoor
/- What a row of this seat lists ('digest.keys'), as the contracts want it; a world that meets it. No condition. -/
namespace Go.Fw
open Go.RowKit Go.WideShapes Go.ChangeShapes Go.ChangeAt Go.Deep
section
variable {H : Type} {enc : TypeId × Value → H}
theorem law_lifted_and {C : Checked} {os : Os} {f : FuncId} {fn : Func} {s : ChangeSpec} {conds : List PathCond} {apart fresh handsOn again : Bool} {tb : TypeId} {X : World → Array Value → Prop}
  (hX : ∀ (w w' : World) (args : Array Value), w.heap = w'.heap → X w args → X w' args)
  (own : ownKnob C.prog.godebug = none) (started : os.Started) (noInit : C.prog.inits.idxOf? f = none) (hfn : C.prog.funcs[f]? = some fn)
  (witness : ∃ (w : World) (tape : Tape) (i : Input), w.os = os ∧ (w.forCall tape i).Shaped C.prog ∧ i.vars = [] ∧ Input.okWide C.prog (w.forCall tape i) .any w.heap.size f i ∧
   ((s.pre enc C.prog fn conds apart (w.forCall tape i).memory i.args ∧ X (w.forCall tape i).memory i.args) ∧ sizedMet enc C.prog fn (OpenSpec.ofChange s) apart (w.forCall tape i).memory i.args) ∧ ({} : Assume).holds C.prog (lone (Frame.enter C.prog f i.args .normal) [] (w.forCall tape i)))
  (hl : laidOutB C.prog = true) (hr : fn.params.toList.all (fun t => C.prog.readableRec t && decide (t < C.prog.types.size)) = true)
  (hres : fn.resultTypes = #[tb]) (hb : C.prog.underlying tb = some .bool) (hvars : s.vars = [])
  (hspec : ∀ ds : List (DataW H), ds.length = fn.params.toList.length → s.fn H ds = { results := [.lit (.bool true)], args := ds })
  (contract : ∀ (W : World) (base : Nat) (args : Array Value) (ds : List (DataW H)) (ps : List MemPlace),
   (∀ (j : Nat) t v, fn.params[j]? = some t → args[j]? = some v → Value.okWide C.prog W .any base t v) →
   DataW.TrodAll enc C.prog W 0 (fun _ => true) true fn.params.toList args.toList ds ps → (∀ p ∈ ps, p.block < W.heap.size) →
   (DataW.weightsEach C.prog fn.params.toList ds).all (· ≤ reachBytes) = true → W.noneFrozen ps → X W args →
   Calls C.prog f args W (Ret fun v W' => v = .bool true ∧ Ext W W')) :
  ReturnsInHanded {} C os f .any (fun w args => (s.pre enc C.prog fn conds apart w args ∧ X w args) ∧ sizedMet enc C.prog fn (OpenSpec.ofChange s) apart w args) (s.post enc C.prog fn apart fresh handsOn again) := by
 refine returnsInHanded_of_change_and hX own started noInit hfn witness ?_
 intro W base args ds gs before hval hW _ hsz hXW _
 have hW' := hW
 have hlt := hW.lt
 obtain ⟨p, q, hA, hV, rfl, hfz, _⟩ := hW
 rw [hvars] at hV
 have hv0 : s.plain.varTypes C.prog = [] := by simp [ChangeSpec.plain, DataSpec.varTypes, hvars]
 obtain ⟨rfl, rfl⟩ := trodVars_none hV
 rw [hv0] at hsz
 simp only [List.append_nil] at hsz hW' hlt hfz
 have hlen : ds.length = fn.params.toList.length := by
  have key : ∀ (ts : List TypeId) (vs : List Value) (ds : List (DataW H)) (ps : List MemPlace), DataW.TrodAll enc C.prog W 0 (fun _ => true) true ts vs ds ps → ds.length = ts.length := by
   intro ts
   induction ts with
   | nil => intro vs ds ps h; obtain ⟨_, rfl, _⟩ := trodAll_nil h; rfl
   | cons t ts ih => intro vs ds ps h; obtain ⟨_, _, _, _, _, _, _, rfl, _, _, h2⟩ := trodAll_cons h; simp [ih _ _ _ h2]
  exact key _ _ _ _ hA
 refine (contract W base args ds p hval hA (fun x hx => hlt x hx) hsz hfz hXW).mono fun e W' he => ?_
 cases e with
 | returned v =>
  obtain ⟨rfl, hx⟩ := he
  have hs := hspec ds hlen
  have hbel := hx.below
  have hrr : ∀ t ∈ fn.params.toList, C.prog.readableRec t = true ∧ t < C.prog.types.size := fun t ht => by
   have := List.all_eq_true.1 hr t ht
   simpa using this
  refine ⟨_, rfl, post_below (pa := p) (pv := []) hW' (fun b sp hd => ?_) (fun sp hsp => ?_) (fun sp _ => ?_) (by simp) hbel ?_⟩
  ·
   rw [List.append_nil, hs, hres]; exact trodAll_mk1 (shut_bool hb _)
  ·
   rw [List.append_nil, hs]; exact trodAll_below hl hbel hrr hA hlt hsp
  ·
   rw [List.append_nil, hs, hvars]; rfl
  ·
   intro j t r h1 h2
   rw [hres] at h1 h2
   cases j with
   | zero =>
    simp [Value.resultList] at h1 h2
    subst h1; subst h2
    exact okWide_bool_mk hb _
   | succ j => simp at h1
 | panicked ch => exact he.elim
 | outgrown => exact he.elim
theorem mem_of_tab {P : Program} {W : World} {name : String} {k : IntKind} {zs : List Int} {g : Nat} (h : Lib.TabIs P W name k zs) (hg : P.globalNamed name = some g) : Mem W ⟨g, 0, none⟩ (zs.map fun z => Value.int k z) := fun j v hj => by
 have hjl : j < zs.length := by simpa using (List.getElem?_eq_some_iff.1 hj).1
 have e : (⟨g, 0, none⟩ : Addr).add j = ⟨g, j, none⟩ := by unfold Addr.add; split <;> simp_all
 rw [e, h.cell hg j hjl]
 have : zs[j]? = some (zs.getD j 0) := by simp [List.getD, hjl]
 rw [List.getElem?_map, this] at hj
 simpa using hj
end
end Go.Fw
namespace Go.Proofs.YtjbeooimhoilmaaGreatDoor
open Go.RowKit Go.Fw Go.Pl
theorem keysT : (Tryz.prog.globals[0]?).map (·.type) = some 199 := by kernel_rfl
theorem keysNamed : Tryz.prog.globalNamed "recension/digest.keys" = some 0 := by kernel_rfl
theorem keys_cells32 : Tryz.prog.cellsOf 143 = 1 := by kernel_rfl
theorem keys_cellsK : Tryz.prog.cellsOf 199 = 64 := by kernel_rfl
theorem keys_laid : (Rows.laid_recension_digest_keys : DataW Unit) = Lib.tabData .u32 (keysL.map fun x => (x.toNat : Int)) := by kernel_rfl
abbrev laidL : List (String × DataW Unit) := [("recension/digest.keys", Rows.laid_recension_digest_keys)]
theorem keys_of_laid {W : World} (h : laidMetH Tryz.prog laidL W) : Mem W ⟨0, 0, none⟩ (wds keysL) := by
 have h' : laidMet Tryz.prog laidL W := h
 unfold laidL at h'
 rw [keys_laid] at h'
 have hT := Lib.tabIs_of_head keysNamed keysT Tryz.underlying199 Tryz.underlying143 keys_cells32 keys_cellsK h'
 have := mem_of_tab hT keysNamed
 rw [List.map_map] at this
 exact this
noncomputable def laidWorld (os : Os) : World :=
 let w0 := World.holding Tryz.prog os ⟨#[], #[], []⟩
 { w0 with heap := w0.heap.modify 0 fun
   | .cells _ t frozen => .cells (wds keysL).toArray t frozen
   | o => o }
theorem laidWorld_met (os : Os) (args : Array Value) : laidMetH Tryz.prog laidL ((laidWorld os).forCall (fun _ _ => 0) ⟨#[], args, []⟩).memory :=
 laidMet_of_run' 8 (by kernel_rfl) (by kernel_rfl)
end Go.Proofs.YtjbeooimhoilmaaGreatDoor
/- A slice of bytes as an argument of this program. No condition. -/
namespace Go.Fw
open Go.RowKit
theorem flat_bytes : ∀ xs : List UInt8, (xs.map fun b => [bc b]).flatten = bytesC xs
 | [] => rfl
 | x :: xs => by simp only [List.map_cons, List.flatten_cons, flat_bytes xs]; rfl
theorem Sl.by {w : World} {v : Value} {xs : List UInt8} (h : Sl w (fun b => [bc b]) 1 v xs) : By w v xs := by
 obtain ⟨A, c, rfl, hmc, hcm⟩ := h.lens
 obtain ⟨hl, _, _, hA⟩ := Sl.flat (k := 1) (fun _ => rfl) h
 rw [flat_bytes] at hA
 refine ⟨A, xs.length, c, rfl, rfl, hmc, hcm, hA, ?_⟩
 rintro rfl
 rcases Nat.eq_zero_or_pos xs.length with h0 | h0
 ·
  exact h0
 ·
  obtain ⟨a, h, _⟩ := hA h0; cases h
end Go.Fw
namespace Go.Proofs.YtjbeooimhoilmaaGreatDoor
open Go.RowKit Go.Fw Go.WideShapes Go.ChangeShapes
theorem reach_is : reachBytes = 140737488351232 := by decide
end Go.Proofs.YtjbeooimhoilmaaGreatDoor
/- Maps as rules of the calculus: made, looked up, written, cut, counted. Keys of whatever type whose equality is known. No condition; no program. -/
namespace Go.Fw
open Go.RowKit
structure KeyEq (P : Program) (k : TypeId) {α : Type} [DecidableEq α] (enc : α → Value) : Prop where
 eq : ∀ (w : World) (a b : α), (Op.equal k (enc a) (enc b)).run P w = .ok (decide (a = b)) w
 check : ∀ (w : World) (em : Bool) (a : α), (Instr.checkKey em 10000 k (enc a)).run P w = .ok () w
 wide : (match P.underlying k with | some (.array _ _) | some (.struct _) => true | _ => false) = true
 same : ∀ a : α, Instr.sameBits 10000 (enc a) (enc a) = true
section
variable {P : Program} {k : TypeId} {α β : Type} [DecidableEq α] {enc : α → Value}
def mfind (key : β → α) (a : α) : List β → Nat → Option (Nat × β)
 | [], _ => none
 | e :: r, i => if key e = a then some (i, e) else mfind key a r (i + 1)
theorem mfind_none {key : β → α} {a : α} : ∀ {l : List β} {i : Nat}, mfind key a l i = none → ∀ e ∈ l, key e ≠ a
 | [], _, _, e, he => by cases he
 | x :: r, i, h, e, he => by
  unfold mfind at h
  split at h
  ·
   cases h
  ·
   rename_i hne
   rcases List.mem_cons.1 he with rfl | he
   ·
    exact hne
   ·
    exact mfind_none h e he
theorem mfind_some {key : β → α} {a : α} : ∀ {l : List β} {i j : Nat} {e : β}, mfind key a l i = some (j, e) → i ≤ j ∧ l[j - i]? = some e ∧ key e = a
 | [], _, _, _, h => by cases h
 | x :: r, i, j, e, h => by
  unfold mfind at h
  split at h
  ·
   rename_i hk
   cases h
   exact ⟨Nat.le_refl _, by simp, hk⟩
  ·
   obtain ⟨h1, h2, h3⟩ := mfind_some h
   refine ⟨by omega, ?_, h3⟩
   rw [show j - i = (j - (i + 1)) + 1 by omega, List.getElem?_cons_succ]
   exact h2
theorem run_findAsking (K : KeyEq P k enc) (w : World) (a : α) (key : β → α) (me : β → MapEntry) (hme : ∀ e, (me e).key = enc (key e)) : ∀ (l : List β) (i : Nat),
  (Instr.findAsking k (enc a) (l.map me) i).run P w = .ok ((mfind key a l i).map fun p => (p.1, (me p.2).val)) w
 | [], i => by simp [Instr.findAsking, mfind]
 | e :: r, i => by
  simp only [List.map_cons, Instr.findAsking, Sem.run_bind, hme, K.eq, Result.andThen_ok, mfind]
  by_cases h : key e = a
  ·
   simp [h]
  ·
   have h' : ¬ a = key e := fun x => h x.symm
   simp only [h, h', decide_false, Bool.false_eq_true, if_false]
   exact run_findAsking K w a key me hme r (i + 1)
theorem run_findKey (K : KeyEq P k enc) (w : World) (a : α) (key : β → α) (me : β → MapEntry) (hme : ∀ e, (me e).key = enc (key e)) (l : List β) :
  (Instr.findKey k (enc a) (l.map me)).run P w = .ok ((mfind key a l 0).map fun p => (p.1, (me p.2).val)) w := by
 rw [run_findKey_eq w K.wide]
 exact run_findAsking K w a key me hme l 0
end
def mval {β : Type} (me : β → MapEntry) (z : Value) : Option (Nat × β) → Value
 | some p => (me p.2).val
 | none => z
def MapAt {β : Type} (w : World) (r : Nat) (me : β → MapEntry) (l : List β) (clock : Nat) : Prop := w.heap[r]? = some (.map (l.map me).toArray clock)
section
variable {β : Type} {w w' : World} {r : Nat} {me : β → MapEntry} {l : List β} {clock : Nat} {S : Nat → Prop}
theorem MapAt.lt (h : MapAt w r me l clock) : r < w.heap.size := (Array.getElem?_eq_some_iff.1 h).1
theorem MapAt.chg (h : MapAt w r me l clock) (hc : Chg S w w') (hs : ¬ S r) : MapAt w' r me l clock := (hc.block r h.lt hs).trans h
theorem MapAt.ext (h : MapAt w r me l clock) (hc : Ext w w') : MapAt w' r me l clock := h.chg hc (fun f => f)
end
theorem chg_setBlock {S : Nat → Prop} {w : World} {r : Nat} {o : Obj} (h : S r) : Chg S w { w with heap := w.heap.setIfInBounds r o } :=
 ⟨rfl, rfl, rfl, by simp, fun k hk hn => by
  have : r ≠ k := by rintro rfl; exact hn h
  simp [Array.getElem?_setIfInBounds, this], Nat.le_refl _⟩
theorem heap_setBlock {w : World} {r : Nat} {o : Obj} (h : r < w.heap.size) : ({ w with heap := w.heap.setIfInBounds r o } : World).heap[r]? = some o := by
 simp [Array.getElem?_setIfInBounds, h]
def Su (P : Program) (n : NN) (fr : Fr) (o : Op) (ty : TypeId) (w : World) (R : World → Prop) : Prop :=
 ∀ a (o' : Oper), o'.op = o → o'.type = ty → Rep n a fr → ∃ w', ((execOp a.eval o').run P w = .ok .skip w' ∨ ∃ v, (execOp a.eval o').run P w = .ok (.value v) w') ∧ R w'
section
variable {P : Program} {n : NN} {Φ : Exit → Fr → World → Prop} {fr : Fr} {w : World} {ty : TypeId} {R : World → Prop}
theorem WL.su {ops : Array Oper} {rest : List Oper} {o : Op} {pos : String} {aft : Array Edge}
  (hs : Su P n fr o ty w R) (h : ∀ w', R w' → WL P ops n Φ rest fr w') : WL P ops n Φ (⟨none, o, ty, pos, aft, none⟩ :: rest) fr w := fun a ha =>
 wpList_plain rfl fun K hK => by
  obtain ⟨w', hr, hR⟩ := hs a ⟨none, o, ty, pos, aft, none⟩ rfl rfl ha
  unfold Oper.wp
  rcases hr with hr | ⟨v, hr⟩
  ·
   rw [hr]; exact hK _ _ (h w' hR _ ha)
  ·
   rw [hr]; exact hK _ _ (h w' hR _ ha)
theorem RS.su {ops : Array Oper} {S : World → Prop} {fuel : Nat} {listed : Array Bool} {i : Nat} {o : Op} {pos : String} {aft : Array Edge}
  (hi : ops[i]? = some ⟨none, o, ty, pos, aft, none⟩) (hs : Su P n fr o ty w R)
  (h : ∀ w', R w' → S w' ∧ RH P ops S n Φ fuel (listed.setIfInBounds i true) fr w') : RS P ops S n Φ fuel listed i fr w := fun a ha => by
 obtain ⟨w', hr, hR⟩ := hs a ⟨none, o, ty, pos, aft, none⟩ rfl rfl ha
 obtain ⟨h1, h2⟩ := h w' hR
 unfold wpOp
 rw [hi]
 simp only [Region.wanted, if_true]
 refine .inl ?_
 unfold Oper.wp
 rcases hr with hr | ⟨v, hr⟩
 ·
  rw [hr]; exact ⟨h1, h2 _ ha⟩
 ·
  rw [hr]; exact ⟨h1, h2 _ ha⟩
theorem St.makeMap {t : TypeId} : St P n fr (.makeMap t none) ty w (fun v w' => ∃ r, v = .map (some r) ∧ w.heap.size ≤ r ∧ (∀ (β : Type) (me : β → MapEntry), MapAt w' r me ([] : List β) 0) ∧ Ext w w') := fun a o' ho hty ha => by
 refine ⟨.map (some w.heap.size), w.alloc (.map #[] 0), ?_, w.heap.size, rfl, Nat.le_refl _, fun β me => ?_, Chg.alloc _⟩
 ·
  simp [execOp, ho, Instr.makeMap, newObj, Sem.run]
 ·
  exact heap_alloc_new w _
theorem St.makeMapN {t k e : TypeId} {x : Operand} {q : IntKind} {i : Int} (hT : P.underlying t = some (.map k e)) (hx : ev fr x = some (.int q i)) : St P n fr (.makeMap t (some x)) ty w (fun v w' => ∃ r, v = .map (some r) ∧ w.heap.size ≤ r ∧ (∀ (β : Type) (me : β → MapEntry), MapAt w' r me ([] : List β) 0) ∧ Ext w w') := fun a o' ho hty ha => by
 refine ⟨.map (some w.heap.size), w.alloc (.map #[] 0), ?_, w.heap.size, rfl, Nat.le_refl _, fun β me => ?_, Chg.alloc _⟩
 ·
  simp [execOp, ho, Instr.makeMap, newObj, run_underlying hT, ha.ev hx, asInt, Sem.run]
  rfl
 ·
  exact heap_alloc_new w _
theorem Y.len_map {x : Operand} {t k e : TypeId} {r clock : Nat} {β : Type} {me : β → MapEntry} {l : List β} (hT : P.underlying t = some (.map k e)) (hx : ev fr x = some (.map (some r))) (hm : MapAt w r me l clock) :
  Yw P n fr (.call { callee := .builtin .len, args := #[x], argTypes := #[t] }) ty w (.int .i64 (l.length : Int)) w := fun a o' ho _ ha => by
 have h1 := MapKept.run_getObj_map (P := P) hm
 simp [execOp, ho, resolve, invoke, builtin, ha.ev hx, Builtin.len_, run_underlying hT, h1, goInt]
section keyed
variable {α β : Type} [DecidableEq α] {enc : α → Value} {key : β → α} {me : β → MapEntry} {l : List β} {clock r : Nat} {t k e : TypeId}
theorem Y.lookupOk {x y : Operand} {a : α} {z : Value} (K : KeyEq P k enc) (hme : ∀ e, (me e).key = enc (key e)) (hT : P.underlying t = some (.map k e)) (hz : ∀ w, (zeroValue e).run P w = .ok z w)
  (hx : ev fr x = some (.map (some r))) (hy : ev fr y = some (enc a)) (hm : MapAt w r me l clock) :
  Yw P n fr (.lookup t x y true) ty w (.tuple #[mval me z (mfind key a l 0), .bool (mfind key a l 0).isSome]) w := fun b o' ho _ ha => by
 have h1 := MapKept.run_getObj_map (P := P) hm
 have h2 := run_findKey K w a key me hme l
 have h3 := fun em => K.check w em a
 cases hf : mfind key a l 0 with
 | none => rw [hf] at h2; simp [mval, execOp, ho, ha.ev hx, ha.ev hy, Instr.lookup, run_underlying hT, h1, h3, h2, hz]
 | some p => rw [hf] at h2; simp [mval, execOp, ho, ha.ev hx, ha.ev hy, Instr.lookup, run_underlying hT, h1, h3, h2]
theorem Y.lookup {x y : Operand} {a : α} {z : Value} (K : KeyEq P k enc) (hme : ∀ e, (me e).key = enc (key e)) (hT : P.underlying t = some (.map k e)) (hz : ∀ w, (zeroValue e).run P w = .ok z w)
  (hx : ev fr x = some (.map (some r))) (hy : ev fr y = some (enc a)) (hm : MapAt w r me l clock) :
  Yw P n fr (.lookup t x y false) ty w (mval me z (mfind key a l 0)) w := fun b o' ho _ ha => by
 have h1 := MapKept.run_getObj_map (P := P) hm
 have h2 := run_findKey K w a key me hme l
 have h3 := fun em => K.check w em a
 cases hf : mfind key a l 0 with
 | none => rw [hf] at h2; simp [mval, execOp, ho, ha.ev hx, ha.ev hy, Instr.lookup, run_underlying hT, h1, h3, h2, hz]
 | some p => rw [hf] at h2; simp [mval, execOp, ho, ha.ev hx, ha.ev hy, Instr.lookup, run_underlying hT, h1, h3, h2]
theorem Y.lookupAt {x y : Operand} {a : α} {v : Value} {p : Nat × β} (K : KeyEq P k enc) (hme : ∀ e, (me e).key = enc (key e)) (hT : P.underlying t = some (.map k e))
  (hx : ev fr x = some (.map (some r))) (hy : ev fr y = some (enc a)) (hm : MapAt w r me l clock) (hf : mfind key a l 0 = some p) (hv : (me p.2).val = v) :
  Yw P n fr (.lookup t x y false) ty w v w := fun b o' ho _ ha => by
 have h1 := MapKept.run_getObj_map (P := P) hm
 have h2 := run_findKey K w a key me hme l
 have h3 := fun em => K.check w em a
 rw [hf] at h2
 simp [execOp, ho, ha.ev hx, ha.ev hy, Instr.lookup, run_underlying hT, h1, h3, h2, hv]
theorem Su.mapNew {x y z : Operand} {a : α} {v : Value} {b : β} (K : KeyEq P k enc) (hme : ∀ e, (me e).key = enc (key e)) (hT : P.underlying t = some (.map k e))
  (hx : ev fr x = some (.map (some r))) (hy : ev fr y = some (enc a)) (hzv : ev fr z = some v) (hm : MapAt w r me l clock) (hf : mfind key a l 0 = none) (hb : me b = { key := enc a, val := v, born := clock }) :
  Su P n fr (.mapUpdate t x y z) ty w (fun w' => MapAt w' r me (l ++ [b]) (clock + 1) ∧ Chg (· = r) w w') := fun c o' ho _ ha => by
 have h1 := MapKept.run_getObj_map (P := P) hm
 have h2 := run_findKey K w a key me hme l
 have h3 := fun em => K.check w em a
 rw [hf] at h2
 refine ⟨{ w with heap := w.heap.setIfInBounds r (.map ((l ++ [b]).map me).toArray (clock + 1)) }, .inl ?_, heap_setBlock hm.lt, chg_setBlock rfl⟩
 have h4 := MapKept.run_setObj_map (P := P) (.map ((l.map me).toArray.push { key := enc a, val := v, born := clock }) (clock + 1)) hm
 simp only [execOp, ho, ha.ev hx, ha.ev hy, ha.ev hzv, Instr.mapUpdate, Sem.run_bind, run_underlying hT, h1, Result.andThen_ok, h3, h2, Option.map_none, h4]
 simp [hb]
end keyed
end
end Go.Fw
/- Digests as a map's keys. No condition. -/
namespace Go.Fw
open Go.RowKit
theorem mapM_some {α β : Type} {f : α → Option β} : ∀ {l : List α}, (∀ x ∈ l, ∃ y, f x = some y) → ∃ ys, l.mapM f = some ys
 | [], _ => ⟨[], rfl⟩
 | x :: r, h => by
  obtain ⟨y, hy⟩ := h x (by simp)
  obtain ⟨ys, hys⟩ := mapM_some (l := r) fun z hz => h z (by simp [hz])
  exact ⟨y :: ys, by simp [List.mapM_cons, hy, hys]⟩
theorem sameBits_self {n : Nat} : ∀ {cs : List Value}, (∀ u ∈ cs, Instr.sameBits n u u = true) → Instr.sameBits (n + 1) (.agg cs.toArray) (.agg cs.toArray) = true := by
 intro cs h
 simp only [Instr.sameBits, beq_self_eq_true, Bool.true_and]
 rw [List.all_eq_true]
 rintro ⟨x, y⟩ hp
 have hxy : x = y ∧ x ∈ cs := by
  obtain ⟨i, hi⟩ := List.mem_iff_getElem?.1 hp
  rw [List.getElem?_zip_eq_some] at hi
  obtain ⟨h1, h2⟩ := hi
  exact ⟨Option.some.inj (h1.symm.trans h2), List.mem_of_getElem? h1⟩
 obtain ⟨rfl, hx⟩ := hxy
 exact h x hx
end Go.Fw
namespace Go.Proofs.YtjbeooimhoilmaaGreatDoor
open Go.RowKit Go.Fw
theorem cells_u8 : Tryz.prog.cellsOf 5 = 1 := by kernel_rfl
theorem cells_dig : Tryz.prog.cellsOf 43 = 32 := by kernel_rfl
theorem keyLits_u8 (D : Nat) (b : UInt8) : Tryz.prog.keyLits (D + 1) 5 [bc b] = some [.int .u8 (b.toNat : Int)] := by
 have hw : (Lit.int .u8 (b.toNat : Int)).wf = true := by
  have := b.toNat_lt
  simp only [Lit.wf, IntKind.min, IntKind.max, IntKind.bits, IntKind.signed]
  simp
  omega
 simp only [Program.keyLits, Tryz.underlying5, bc, hw]
 simp
theorem keyLits_dig (D : Nat) (d : Dig) : ∃ la, Tryz.prog.keyLits (D + 2) 43 (digC d) = some la := by
 obtain ⟨ys, hys⟩ := mapM_some (l := List.range 32) (f := fun i => Tryz.prog.keyLits (D + 1) 5 (((digC d).drop (i * 1)).take 1)) (by
  intro i hi
  rw [List.mem_range] at hi
  have hd := d.2
  have : ((digC d).drop (i * 1)).take 1 = [bc (d.1[i]'(by omega))] := by
   rw [Nat.mul_one, digC, bytesC, ← List.map_drop, List.drop_eq_getElem_cons (by omega)]
   rfl
  rw [this]
  exact ⟨_, keyLits_u8 D _⟩)
 refine ⟨ys.flatten, ?_⟩
 have e : Tryz.prog.keyLits ((D + 1) + 1) 43 (digC d) = ((List.range 32).mapM fun i => Tryz.prog.keyLits (D + 1) 5 (((digC d).drop (i * 1)).take 1)).map List.flatten := by
  conv => lhs; unfold Program.keyLits
  simp only [Tryz.underlying43, cells_dig, cells_u8, digC_length, if_true]
 rw [show D + 2 = (D + 1) + 1 from rfl, e, hys]
 rfl
theorem keyDig : KeyEq Tryz.prog 43 (fun d : Dig => digV d) where
 eq w a b := eqIn_dig 9998 a b w
 check w em a := by
  obtain ⟨la, hla⟩ := keyLits_dig 3 a
  exact run_checkKey_deep em 9997 3 43 (by kernel_rfl) w 5 (digV a) la (by simp only [Value.formed, Tryz.underlying43, cells_dig]; simp [digC_length]) (by simpa [Value.cells] using hla)
 wide := by rw [Tryz.underlying43]
 same a := sameBits_self (n := 9999) fun u hu => by
  simp only [digC, bytesC, List.mem_map] at hu
  obtain ⟨b, _, rfl⟩ := hu
  simp [bc, Instr.sameBits]
end Go.Proofs.YtjbeooimhoilmaaGreatDoor
/- Nodes of a graph, as data and in memory; what is wrong with a list of them. No condition. -/
namespace Go.Pl
open Go.Fw
structure Nd where
 id : Dig
 ps : List Dig
def risB : List Dig → Bool
 | a :: b :: r => lessB a b && risB (b :: r)
 | _ => true
def wrongE (ahead : List Dig) (n : Nd) : Int := if 8 < n.ps.length then 4 else if risB n.ps = false then 7 else if n.id ∈ ahead then 6 else if ∃ p ∈ n.ps, p ∉ ahead then 5 else 0
def fwrong : List Nd → List Dig → Nat → Nat × Int
 | [], _, _ => (0, 0)
 | n :: r, ahead, i => if wrongE ahead n = 0 then fwrong r (ahead ++ [n.id]) (i + 1) else (i, wrongE ahead n)
def readE (l : List Nd) : Nat × Int := if 200 < l.length then (0, 4) else fwrong l [] 0
abbrev idsL (l : List Nd) : List Dig := l.map Nd.id
theorem risB_at : ∀ {l : List Dig}, (∀ i a b, l[i]? = some a → l[i + 1]? = some b → lessB a b = true) → risB l = true
 | [], _ => rfl
 | [_], _ => rfl
 | a :: b :: r, h => by
  rw [risB, h 0 a b rfl rfl, Bool.true_and]
  exact risB_at fun i x y hx hy => h (i + 1) x y (by simpa using hx) (by simpa using hy)
theorem risB_not : ∀ {l : List Dig} {i : Nat} {a b : Dig}, l[i]? = some a → l[i + 1]? = some b → lessB a b = false → risB l = false
 | [], _, _, _, h, _, _ => by simp at h
 | [_], i, _, _, _, h, _ => by simp at h
 | x :: y :: r, 0, a, b, h, k, hl => by
  simp at h k; subst h; subst k
  rw [risB, hl, Bool.false_and]
 | x :: y :: r, i + 1, a, b, h, k, hl => by
  rw [risB, risB_not (l := y :: r) (i := i) (by simpa using h) (by simpa using k) hl, Bool.and_false]
theorem wrong_ok {ahead : List Dig} {n : Nd} (h : wrongE ahead n = 0) : n.ps.length ≤ 8 ∧ risB n.ps = true ∧ n.id ∉ ahead ∧ ∀ p ∈ n.ps, p ∈ ahead := by
 unfold wrongE at h
 split at h
 ·
  omega
 split at h
 ·
  omega
 split at h
 ·
  omega
 split at h
 ·
  omega
 rename_i h1 h2 h3 h4
 refine ⟨by omega, by simpa using h2, h3, fun p hp => ?_⟩
 by_cases hm : p ∈ ahead
 ·
  exact hm
 ·
  exact absurd ⟨p, hp, hm⟩ h4
theorem fwrong_step {l : List Nd} {i : Nat} {n : Nd} (hi : l[i]? = some n) (h : wrongE (idsL (l.take i)) n = 0) : fwrong (l.drop i) (idsL (l.take i)) i = fwrong (l.drop (i + 1)) (idsL (l.take (i + 1))) (i + 1) := by
 have hlt := (List.getElem?_eq_some_iff.1 hi).1
 have hn := (List.getElem?_eq_some_iff.1 hi).2
 rw [List.drop_eq_getElem_cons hlt, hn, fwrong, if_pos h, take_succ hi]
 simp [idsL]
theorem fwrong_stop {l : List Nd} {i : Nat} {n : Nd} (hi : l[i]? = some n) (h : wrongE (idsL (l.take i)) n ≠ 0) : fwrong (l.drop i) (idsL (l.take i)) i = (i, wrongE (idsL (l.take i)) n) := by
 have hlt := (List.getElem?_eq_some_iff.1 hi).1
 have hn := (List.getElem?_eq_some_iff.1 hi).2
 rw [List.drop_eq_getElem_cons hlt, hn, fwrong, if_neg h]
abbrev placed (ids : List Dig) : List (Dig × Nat) := ids.zipIdx
def pme (e : Dig × Nat) : MapEntry := { key := digV e.1, val := .int .i64 (e.2 : Int), born := e.2 }
theorem placed_isSome {d : Dig} : ∀ {ids : List Dig} {k i : Nat}, (mfind Prod.fst d (ids.zipIdx k) i).isSome = decide (d ∈ ids)
 | [], _, _ => by simp [mfind]
 | x :: r, k, i => by
  rw [List.zipIdx_cons, mfind]
  by_cases h : x = d
  ·
   simp [h]
  ·
   have h' : ¬ d = x := fun e => h e.symm
   rw [if_neg h, placed_isSome (ids := r)]
   simp [h']
theorem placed_some {d : Dig} : ∀ {ids : List Dig} {k i j : Nat} {e : Dig × Nat}, mfind Prod.fst d (ids.zipIdx k) i = some (j, e) → e.1 = d ∧ ids[e.2 - k]? = some d ∧ k ≤ e.2 ∧ ∀ x, x < e.2 - k → ids[x]? ≠ some d
 | [], _, _, _, _, h => by simp [mfind] at h
 | x :: r, k, i, j, e, h => by
  rw [List.zipIdx_cons, mfind] at h
  split at h
  ·
   rename_i hx
   cases h
   refine ⟨hx, by simpa using hx, Nat.le_refl _, fun y hy => by simp at hy⟩
  ·
   rename_i hx
   obtain ⟨h1, h2, h3, h4⟩ := placed_some (ids := r) (k := k + 1) h
   have e1 : e.2 - k = (e.2 - (k + 1)) + 1 := by omega
   refine ⟨h1, by rw [e1, List.getElem?_cons_succ]; exact h2, by omega, fun y hy => ?_⟩
   cases y with
   | zero => simp only [List.getElem?_cons_zero]; intro he; cases he; exact hx rfl
   | succ y => rw [List.getElem?_cons_succ]; exact h4 y (by omega)
theorem placed_none {d : Dig} {ids : List Dig} (h : d ∉ ids) : mfind Prod.fst d (placed ids) 0 = none := by
 have := placed_isSome (d := d) (ids := ids) (k := 0) (i := 0)
 simpa [h] using this
theorem placed_app (ids : List Dig) (d : Dig) : placed (ids ++ [d]) = placed ids ++ [(d, ids.length)] := by simp [placed, List.zipIdx_append]
end Go.Pl
namespace Go.Fw
open Go.Pl
structure NdV where
 n : Nd
 A : Option Addr
 c : Nat
abbrev NdV.pv (x : NdV) : Value := .slice x.A x.n.ps.length x.c
def ndC (x : NdV) : List Value := digC x.n.id ++ [x.pv]
theorem ndC_length (x : NdV) : (ndC x).length = 33 := by simp [ndC, digC_length]
abbrev ndV (x : NdV) : Value := .agg (ndC x).toArray
theorem one_ndC {x : NdV} : ∀ u ∈ ndC x, u.oneCell' = true := by
 intro u hu
 simp only [ndC, List.mem_append, List.mem_singleton] at hu
 rcases hu with hu | rfl
 ·
  exact one_digC u hu
 ·
  rfl
theorem Y.subN {P : Program} {n : NN} {fr : Fr} {w : World} {ty : TypeId} {x y : Operand} {p q : Nat} {t t' : TypeId} (hx : ev fr x = some (.int .i64 (p : Int))) (hy : ev fr y = some (.int .i64 (q : Int))) (h : q ≤ p) (hb : p ≤ 9223372036854775807) :
  Yw P n fr (.binOp .sub t x y t') ty w (.int .i64 ((p - q : Nat) : Int)) w := by
 have := Y.sub (P := P) (n := n) (w := w) (ty := ty) (t := t) (t' := t') hx hy ⟨by omega, by omega⟩
 rwa [show (p : Int) - (q : Int) = ((p - q : Nat) : Int) by omega] at this
def NdV.zero : NdV := ⟨⟨Dig.zero, []⟩, none, 0⟩
section
variable {w : World} {a : Addr} {id : Dig} {ps : List Dig} {A : Option Addr} {c : Nat}
theorem Mem.node0 (h : Mem w a (ndC ⟨⟨id, ps⟩, A, c⟩)) : Mem w (a.add 0) (digC id) := h.sub 0 fun j v hj => by
 have hlt : j < (digC id).length := (List.getElem?_eq_some_iff.1 hj).1
 rw [Nat.zero_add, ndC, List.getElem?_append_left hlt]
 exact hj
theorem Mem.node1 (h : Mem w a (ndC ⟨⟨id, ps⟩, A, c⟩)) : w.cell? (a.add 32) = some (.slice A ps.length c) := h.cell 32 (by
 rw [ndC, List.getElem?_append_right (by rw [digC_length]; omega), digC_length]
 rfl)
end
structure Nds (w : World) (u : Value) (l : List NdV) : Prop where
 sl : Sl w ndC 33 u l
 ps : ∀ x ∈ l, Sl w digC 32 x.pv x.n.ps
theorem Nds.ext {w w' : World} {u : Value} {l : List NdV} (h : Nds w u l) (hc : Ext w w') : Nds w' u l := ⟨h.sl.ext hc, fun x hx => (h.ps x hx).ext hc⟩
abbrev ndsL (l : List NdV) : List Nd := l.map NdV.n
end Go.Fw
namespace Go.Proofs.YtjbeooimhoilmaaGreatDoor
open Go.RowKit Go.Fw Go.Pl
abbrev TNo : TypeId := 45
theorem sz0_apiNode : (Tryz.prog.info? TNo).map (·.size) = some 33 := by kernel_rfl
theorem sz_apiNode (x : NdV) : (Tryz.prog.info? TNo).map (·.size) = some (ndC x).length := by rw [ndC_length]; exact sz0_apiNode
theorem sz_sDig_ : (Tryz.prog.info? 24).map (·.size) = some 1 := by kernel_rfl
theorem fo_apiNode0 : FieldOff Tryz.prog TNo 0 0 := ⟨_, _, 32, Tryz.underlying45, rfl, sz_dig, by decide, rfl⟩
theorem fo_apiNode1 : FieldOff Tryz.prog TNo 1 32 := ⟨_, _, 1, Tryz.underlying45, rfl, sz_sDig_, by decide, rfl⟩
theorem info_apiNode : ∃ i : TypeInfo, Tryz.prog.info? TNo = some i ∧ i.zero = some (ndV NdV.zero) ∧ i.size = 33 := by
 have h : (Tryz.prog.info? TNo).map (fun i => (i.zero, i.size)) = some (some (ndV NdV.zero), 33) := by kernel_rfl
 cases hi : Tryz.prog.info? TNo with
 | none => simp [hi] at h
 | some i => simp [hi] at h; exact ⟨i, rfl, h.1, h.2⟩
theorem zero_int (w : World) : (zeroValue 3).run Tryz.prog w = .ok (.int .i64 0) w := by
 have h : (Tryz.prog.info? 3).map (fun i => i.zero) = some (some (.int .i64 0)) := by kernel_rfl
 cases hi : Tryz.prog.info? 3 with
 | none => simp [hi] at h
 | some i => simp [hi] at h; simp [zeroValue, typeInfo, hi, h]
end Go.Proofs.YtjbeooimhoilmaaGreatDoor
/- Own, walked. No condition. -/
namespace Go.Proofs.YtjbeooimhoilmaaGreatDoor
open Go.RowKit Go.Fw Go.Pl
theorem one_flat {α : Type} {enc : α → List Value} (h : ∀ x, ∀ u ∈ enc x, u.oneCell' = true) {xs : List α} : ∀ u ∈ (xs.map enc).flatten, u.oneCell' = true := by
 intro u hu
 obtain ⟨l, hl, hu⟩ := List.mem_flatten.1 hu
 obtain ⟨d, _, rfl⟩ := List.mem_map.1 hl
 exact h d u hu
end Go.Proofs.YtjbeooimhoilmaaGreatDoor
