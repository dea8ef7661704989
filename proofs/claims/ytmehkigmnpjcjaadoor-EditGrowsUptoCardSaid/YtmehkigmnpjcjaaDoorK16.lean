/- Parts of a proof: what its last text leans on. No condition. -/
import Derived.LaidEqlPtr
import Derived.Test.YtmehkigmnpjcjaaDoorK04
import Derived.Test.YtmehkigmnpjcjaaDoorK06
import Derived.Test.YtmehkigmnpjcjaaDoorK08
import Derived.Test.YtmehkigmnpjcjaaDoorK13
import Derived.Test.YtmehkigmnpjcjaaDoorK14
import Derived.Test.YtmehkigmnpjcjaaDoorK15
set_option linter.unusedSimpArgs false
set_option linter.unusedVariables false
/- The plain laws of histories: texts and merges of versions; a lattice; what comes behind; another order. No condition; no program. -/
namespace Go.Proofs.YtmehkigmnpjcjaaDoor
open Go.Fw Go.Pl Go.Fu
section
open Classical
noncomputable def trK (l : List ComD) (S : Dig → Prop) : Nat → Tr
 | 0 => Tr.new
 | k + 1 => match l[k]? with
  | some c => if S (idD c) then addT (trK l S k) (idD c) c.ops else trK l S k
  | none => trK l S k
theorem trK_yes {l : List ComD} {S : Dig → Prop} {k : Nat} {c : ComD} (hc : l[k]? = some c) (h : S (idD c)) : trK l S (k + 1) = addT (trK l S k) (idD c) c.ops := by rw [trK, hc]; simp only [if_pos h]
theorem trK_no {l : List ComD} {S : Dig → Prop} {k : Nat} {c : ComD} (hc : l[k]? = some c) (h : ¬ S (idD c)) : trK l S (k + 1) = trK l S k := by rw [trK, hc]; simp only [if_neg h]
end
theorem trK_ok {l : List ComD} (hk : HOk l) (hl : l.length ≤ 200) {S : Dig → Prop} (hS : Closed l S) : ∀ {k : Nat}, k ≤ l.length → TreeOk (selS S (l.take k)) (trK l S k)
 | 0, _ => by rw [List.take_zero]; exact treeOk_new
 | k + 1, h => by
  obtain ⟨c, hc⟩ : ∃ c, l[k]? = some c := ⟨_, List.getElem?_eq_getElem om_⟩
  have ih := trK_ok hk hl hS (k := k) om_
  by_cases hs : S (idD c)
  ·
   rw [trK_yes hc hs]; exact sel_step hk hl hS hc hs ih
  ·
   rw [trK_no hc hs, sel_no hc hs]; exact ih
noncomputable def trH (l : List ComD) (ids : List Dig) : Tr := trK l (Under (ndsH l) ids) l.length
theorem trH_ok {l : List ComD} (hk : HOk l) (hl : l.length ≤ 200) (ids : List Dig) : TreeOk (selS (Under (ndsH l) ids) l) (trH l ids) := by
 have := trK_ok hk hl (closed_under l ids) (Nat.le_refl _)
 rwa [List.take_length] at this
open Classical in
noncomputable def txE (l : List ComD) (ids : List Dig) : Int := if (rdH l).2 ≠ 0 then (rdH l).2 else if ∃ d ∈ ids, d ∉ idsH l then 5 else 0
noncomputable def txL (l : List ComD) (ids : List Dig) : List UInt8 := if txE l ids = 0 then textE (trH l ids).e else []
open Classical in
noncomputable def mgE (l : List ComD) (a b : List Dig) : Int := if txE l (a ++ b) ≠ 0 then txE l (a ++ b) else if 8 < (hdL (ndsH l) (a ++ b)).length then 4 else 0
noncomputable def mgL (l : List ComD) (a b : List Dig) : List Dig := if mgE l a b = 0 then hdL (ndsH l) (a ++ b) else []
theorem txE_ok {l : List ComD} {ids : List Dig} : txE l ids = 0 ↔ l.length ≤ 200 ∧ HOk l ∧ ∀ d ∈ ids, d ∈ idsH l := by
 unfold txE
 constructor
 ·
  intro h
  split at h
  ·
   rename_i h1; exact absurd h h1
  split at h
  ·
   omega
  rename_i h1 h2
  obtain ⟨h3, h4⟩ := rdH_ok.1 (Decidable.not_not.1 h1)
  exact ⟨h3, h4, fun d hd => Classical.byContradiction fun hn => h2 ⟨d, hd, hn⟩⟩
 ·
  rintro ⟨h1, h2, h3⟩
  rw [if_neg (by rw [rdH_ok.2 ⟨h1, h2⟩]; decide), if_neg (by rintro ⟨d, hd, hn⟩; exact hn (h3 d hd))]
theorem mgE_ok {l : List ComD} {a b : List Dig} : mgE l a b = 0 ↔ txE l (a ++ b) = 0 ∧ (hdL (ndsH l) (a ++ b)).length ≤ 8 := by
 unfold mgE
 constructor
 ·
  intro h
  split at h
  ·
   rename_i h1; exact absurd h h1
  split at h
  ·
   omega
  rename_i h1 h2
  exact ⟨Decidable.not_not.1 h1, by omega⟩
 ·
  rintro ⟨h1, h2⟩
  rw [if_neg om_, if_neg om_]
theorem mgE_tx {l : List ComD} {a b : List Dig} (h : txE l (a ++ b) = 0) : mgE l a b = if 8 < (hdL (ndsH l) (a ++ b)).length then 4 else 0 := by
 unfold mgE; rw [if_neg om_]
theorem hin_of {l : List ComD} {ids : List Dig} (h : txE l ids = 0) : ∀ d ∈ ids, d ∈ idsL (ndsH l) := fun d hd => by rw [ids_nds]; exact (txE_ok.1 h).2.2 d hd
theorem nds_ok {l : List ComD} {ids : List Dig} (h : txE l ids = 0) : (readE (ndsH l)).2 = 0 := (txE_ok.1 h).2.1.nodes (txE_ok.1 h).1
theorem under_hd {l : List ComD} {a : List Dig} (h : txE l a = 0) : Under (ndsH l) (hdL (ndsH l) a) = Under (ndsH l) a := by
 funext d
 refine propext ⟨fun hu => ?_, fun hu => ?_⟩
 ·
  obtain ⟨x, hx, hd⟩ := hu
  exact ⟨x, hdL_sub (nds_ok h) (hin_of h) hx, hd⟩
 ·
  exact under_trans hu fun x hx => hdL_under (nds_ok h) (hin_of h) hx
theorem stays {l : List ComD} {m : ComD} (h : (rdH (l ++ [m])).2 = 0) (ids : List Dig) : (rdH l).2 = 0 ∧ ((txE l ids = txE (l ++ [m]) ids ∧ txL l ids = txL (l ++ [m]) ids) ∨ txE l ids = 5) := by
 obtain ⟨h1, h2⟩ := rdH_ok.1 h
 rw [List.length_append, List.length_singleton] at h1
 have hl : HOk l := by
  have := h2.take l.length
  rwa [List.take_append_of_le_length (Nat.le_refl _), List.take_length] at this
 have hr : (rdH l).2 = 0 := rdH_ok.2 ⟨by omega, hl⟩
 refine ⟨hr, ?_⟩
 by_cases hin : ∀ d ∈ ids, d ∈ idsH l
 ·
  left
  have t1 : txE l ids = 0 := txE_ok.2 ⟨by omega, hl, hin⟩
  have t2 : txE (l ++ [m]) ids = 0 := txE_ok.2 ⟨by rw [List.length_append, List.length_singleton]; omega, h2, fun d hd => by rw [idsH, List.map_append]; exact List.mem_append_left _ (hin d hd)⟩
  refine ⟨by rw [t1, t2], ?_⟩
  have g : Grow (ndsH l) (ndsH (l ++ [m])) := by
   have h3 := nds_ok t2
   have e : ndsH (l ++ [m]) = ndsH l ++ [ndH m] := List.map_append
   rw [e] at h3 ⊢
   exact more_grow h3
  have hu : Under (ndsH (l ++ [m])) ids = Under (ndsH l) ids := by
   funext d
   exact propext (g.under (hin_of t1))
  rw [txL, txL, if_pos t1, if_pos t2]
  have e : selS (Under (ndsH (l ++ [m])) ids) (l ++ [m]) = selS (Under (ndsH l) ids) l := by
   rw [hu, selS, selS, List.filter_append, List.map_append]
   have hno : ¬ Under (ndsH l) ids (idD m) := fun hu => by
    have h3 := under_ids (nds_ok t1) (hin_of t1) hu
    rw [ids_nds] at h3
    have h4 := (h2 l.length m (by simp)).new
    rw [List.take_append_of_le_length (Nat.le_refl _), List.take_length] at h4
    exact h4 h3
   simp [hno]
  exact (same_shown (trH_ok hl om_ ids) (trH_ok h2 (by rw [List.length_append, List.length_singleton]; omega) ids) fun c => by rw [e]).2.1
 ·
  right
  unfold txE
  rw [hr, if_neg de_, if_pos]
  exact Classical.byContradiction fun hn => hin fun d hd => Classical.byContradiction fun hd2 => hn ⟨d, hd, hd2⟩
end Go.Proofs.YtmehkigmnpjcjaaDoor
/- Fugue's trees in memory, as the program has them: nodes, children, the two maps. No condition. -/
namespace Go.Fw
open Go.Fu
def treeC (g0 rb ra n : Nat) : List Value := [.pointer (some ⟨g0, 0, none⟩), .map (some rb), .map (some ra), .int .i64 (n : Int)]
abbrev pC (g : Nat) : List Value := [.pointer (some ⟨g, 0, none⟩)]
abbrev ptrL (l : List Nat) : List Value := (l.map pC).flatten
theorem pC_length (g : Nat) : (pC g).length = 1 := rfl
theorem ptrL_length (l : List Nat) : (ptrL l).length = l.length := by rw [flat_length pC_length, Nat.mul_one]
section
variable {w : World} {a : Addr}
section
variable {g0 rb ra n : Nat} (h : Mem w a (treeC g0 rb ra n))
include h
theorem Mem.fugueTree0 : w.cell? (a.add 0) = some (.pointer (some ⟨g0, 0, none⟩)) := h.cell 0 rfl
theorem Mem.fugueTree1 : w.cell? (a.add 1) = some (.map (some rb)) := h.cell 1 rfl
theorem Mem.fugueTree2 : w.cell? (a.add 2) = some (.map (some ra)) := h.cell 2 rfl
theorem Mem.fugueTree3 : w.cell? (a.add 3) = some (.int .i64 (n : Int)) := h.cell 3 rfl
end
section
variable {x : El} {lv rv : Value} (h : Mem w a (nodeC x lv rv))
include h
theorem Mem.fuguenode0 : Mem w (a.add 0) (refC x.name) := h.sub 0 fun j v hj => by
 have hlt : j < (refC x.name).length := (List.getElem?_eq_some_iff.1 hj).1
 rw [Nat.zero_add, nodeC, List.getElem?_append_left hlt]; exact hj
theorem Mem.fuguenode1 : w.cell? (a.add 34) = some (.int .u8 (x.byte.toNat : Int)) := h.cell 34 (by rw [nodeC, List.getElem?_append_right (by rw [refC_length]; omega), refC_length]; rfl)
theorem Mem.fuguenode2 : w.cell? (a.add 35) = some (.bool x.gone) := h.cell 35 (by rw [nodeC, List.getElem?_append_right (by rw [refC_length]; omega), refC_length]; rfl)
theorem Mem.fuguenode3 : w.cell? (a.add 36) = some lv := h.cell 36 (by rw [nodeC, List.getElem?_append_right (by rw [refC_length]; omega), refC_length]; rfl)
theorem Mem.fuguenode4 : w.cell? (a.add 37) = some rv := h.cell 37 (by rw [nodeC, List.getElem?_append_right (by rw [refC_length]; omega), refC_length]; rfl)
end
end
structure Nn where
 el : El
 g : Nat
 lv : Value
 rv : Value
def Nn.sv (x : Nn) (s : Bool) : Value := cond s x.lv x.rv
abbrev els (ns : List Nn) : List El := ns.map Nn.el
def gOf (ns : List Nn) (c : Nat) : Nat := ((ns[c]?).map Nn.g).getD 0
theorem gOf_at {ns : List Nn} {c : Nat} {x : Nn} (h : ns[c]? = some x) : gOf ns c = x.g := by rw [gOf, h]; rfl
structure BE where
 k : RefD
 g : Nat
 born : Nat
def BE.me (e : BE) : MapEntry := { key := refV e.k, val := .pointer (some ⟨e.g, 0, none⟩), born := e.born }
structure AE where
 k : Dig
 n : Int
 born : Nat
def AE.me (e : AE) : MapEntry := { key := digV e.k, val := .int .i64 e.n, born := e.born }
abbrev liveN (ns : List Nn) : Nat := (els ns).countP fun x => !x.gone
def nodeA (ns : List Nn) : Option Nat → Option Addr
 | some i => some ⟨gOf ns i, 0, none⟩
 | none => none
abbrev nodeP (ns : List Nn) (o : Option Nat) : Value := .pointer (nodeA ns o)
def byA (ns : List Nn) (r : RefD) : Option Addr := if r = RefD.zero then none else nodeA ns (atE (els ns) r)
theorem byA_none (ns : List Nn) (r : RefD) : (byA ns r).isNone = true ↔ r = RefD.zero ∨ atE (els ns) r = none := by
 unfold byA
 by_cases h : r = RefD.zero
 ·
  simp [h]
 ·
  rw [if_neg h]
  cases atE (els ns) r <;> simp [nodeA, h]
end Go.Fw
namespace Go.Proofs.YtmehkigmnpjcjaaDoor
open Go.RowKit Go.Fw Go.Fu
abbrev TF : TypeId := 107
abbrev TN : TypeId := 104
abbrev TP : TypeId := 101
theorem TN_TP : TN ≠ TP := by decide
theorem TF_TN : TF ≠ TN := by decide
theorem TF_TP : TF ≠ TP := by decide
structure FtAt (w : World) (g rb ra : Nat) (ad : List Dig) (ns : List Nn) : Prop where
 blk : Blk w g TF (treeC (gOf ns 0) rb ra (liveN ns))
 node : ∀ (i : Nat) (x : Nn), ns[i]? = some x → Blk w x.g TN (nodeC x.el x.lv x.rv)
 kids : ∀ (i : Nat) (x : Nn) (s : Bool), ns[i]? = some x → Own w TP 1 (x.sv s) (ptrL ((side x.el s).map (gOf ns)))
 inj : ∀ (i j : Nat) (x y : Nn), ns[i]? = some x → ns[j]? = some y → x.g = y.g → i = j
 sep : ∀ (i j : Nat) (x y : Nn) (s t : Bool) (k : Nat), ns[i]? = some x → ns[j]? = some y → (x.sv s).ownBlock = some k → (y.sv t).ownBlock = some k → i = j ∧ s = t
 by_ : ∃ cl l, MapAt w rb BE.me l cl ∧ (∀ e ∈ l, e.born < cl) ∧ (l.map BE.born).Nodup ∧ l.length + 1 = ns.length ∧ (∀ e ∈ l, ∃ i x, 0 < i ∧ ns[i]? = some x ∧ x.el.name = e.k ∧ x.g = e.g) ∧ ∀ (i : Nat) (x : Nn), 0 < i → ns[i]? = some x → ∃ e ∈ l, e.k = x.el.name
 added : ∃ cl l, MapAt w ra AE.me l cl ∧ (∀ e ∈ l, e.born < cl) ∧ (l.map AE.born).Nodup ∧ (l.map AE.k).Nodup ∧ ∀ d, d ∈ l.map AE.k ↔ d ∈ ad
 ne : rb ≠ ra
def Fp (g rb ra : Nat) (ns : List Nn) (k : Nat) : Prop := k = g ∨ k = rb ∨ k = ra ∨ ∃ x ∈ ns, k = x.g ∨ ∃ s, (x.sv s).ownBlock = some k
section
variable {w w' : World} {g rb ra : Nat} {ad : List Dig} {ns : List Nn} {S : Nat → Prop}
theorem FtAt.lt (h : FtAt w g rb ra ad ns) {k : Nat} (hk : Fp g rb ra ns k) : k < w.heap.size := by
 rcases hk with rfl | rfl | rfl | ⟨x, hx, hk⟩
 ·
  exact h.blk.lt
 ·
  obtain ⟨cl, l, hM, _⟩ := h.by_; exact hM.lt
 ·
  obtain ⟨cl, l, hM, _⟩ := h.added; exact hM.lt
 ·
  obtain ⟨i, hx⟩ := List.mem_iff_getElem?.1 hx
  rcases hk with rfl | ⟨s, hk⟩
  ·
   exact (h.node i x hx).lt
  ·
   exact (h.kids i x s hx).lt k hk
theorem FtAt.chg (h : FtAt w g rb ra ad ns) (hc : Chg S w w') (hs : ∀ k, Fp g rb ra ns k → ¬ S k) : FtAt w' g rb ra ad ns where
 blk := h.blk.chg hc (hs g (.inl rfl))
 node i x hx := (h.node i x hx).chg hc (hs _ (.inr (.inr (.inr ⟨x, List.mem_of_getElem? hx, .inl rfl⟩))))
 kids i x s hx := (h.kids i x s hx).chg hc fun k hk => hs _ (.inr (.inr (.inr ⟨x, List.mem_of_getElem? hx, .inr ⟨s, hk⟩⟩)))
 inj := h.inj
 sep := h.sep
 by_ := by obtain ⟨cl, l, hM, hr⟩ := h.by_; exact ⟨cl, l, hM.chg hc (hs _ (.inr (.inl rfl))), hr⟩
 added := by obtain ⟨cl, l, hM, hr⟩ := h.added; exact ⟨cl, l, hM.chg hc (hs _ (.inr (.inr (.inl rfl)))), hr⟩
 ne := h.ne
theorem FtAt.ext (h : FtAt w g rb ra ad ns) (hc : Ext w w') : FtAt w' g rb ra ad ns := h.chg hc fun _ _ f => f
theorem FtAt.far (h : FtAt w g rb ra ad ns) (hc : Chg S w w') (hs : ∀ k, S k → w.heap.size ≤ k) : FtAt w' g rb ra ad ns := h.chg hc fun k hk hS => by have := hs k hS; have := h.lt hk; omega
theorem FtAt.map_ne (h : FtAt w g rb ra ad ns) {k : Nat} {cs : Array Value} {t : TypeId} {fz : Nat × Nat} (hk : w.heap[k]? = some (.cells cs t fz)) : k ≠ rb ∧ k ≠ ra := by
 obtain ⟨cl, l, hM, _⟩ := h.by_
 obtain ⟨cl', l', hM', _⟩ := h.added
 constructor
 ·
  rintro rfl; unfold MapAt at hM; rw [hk] at hM; cases hM
 ·
  rintro rfl; unfold MapAt at hM'; rw [hk] at hM'; cases hM'
theorem FtAt.g_ne (h : FtAt w g rb ra ad ns) : g ≠ rb ∧ g ≠ ra := h.map_ne h.blk
theorem FtAt.node_ne (h : FtAt w g rb ra ad ns) {i : Nat} {x : Nn} (hx : ns[i]? = some x) : x.g ≠ g ∧ x.g ≠ rb ∧ x.g ≠ ra := by
 have hb := h.node i x hx
 have hm := h.map_ne hb
 refine ⟨fun e => ?_, hm.1, hm.2⟩
 have hg := h.blk
 unfold Blk at hb hg
 rw [e, hg] at hb
 injection hb with hb; injection hb with _ hb
 exact TF_TN hb
theorem FtAt.kid_ne (h : FtAt w g rb ra ad ns) {i : Nat} {x : Nn} (hx : ns[i]? = some x) {s : Bool} {k : Nat} (hk : (x.sv s).ownBlock = some k) : k ≠ g ∧ k ≠ rb ∧ k ≠ ra ∧ ∀ (j : Nat) (y : Nn), ns[j]? = some y → k ≠ y.g := by
 obtain ⟨cs, fz, hb⟩ := (h.kids i x s hx).kind hk
 have hm := h.map_ne hb
 refine ⟨?_, hm.1, hm.2, fun j y hy => ?_⟩
 ·
  rintro rfl
  have hg := h.blk
  unfold Blk at hg
  rw [hg] at hb
  injection hb with hb; injection hb with _ hb
  exact TF_TP hb
 ·
  rintro rfl
  have hg := h.node j y hy
  unfold Blk at hg
  rw [hg] at hb
  injection hb with hb; injection hb with _ hb
  exact TN_TP hb
end
def goneN (ns : List Nn) (a : Nat) : List Nn := ns.modify a fun x => { x with el := { x.el with gone := true } }
section
variable {w w' : World} {g rb ra : Nat} {ad : List Dig} {ns : List Nn}
theorem goneN_at {a i : Nat} : (goneN ns a)[i]? = (ns[i]?).map fun x => if i = a then { x with el := { x.el with gone := true } } else x := by
 unfold goneN
 rw [List.getElem?_modify]
 by_cases h : a = i
 ·
  subst h; cases ns[a]? <;> simp
 ·
  cases ns[i]? with
  | none => rfl
  | some x => simp only [Option.map_some, if_neg h, if_neg (fun e : i = a => h e.symm)]; rfl
theorem goneN_els {a : Nat} : els (goneN ns a) = goneE (els ns) a := by
 refine List.ext_getElem? fun i => ?_
 rw [List.getElem?_map, goneN_at, gone_at, List.getElem?_map]
 cases ns[i]? with
 | none => rfl
 | some x => simp only [Option.map_some]; split <;> rfl
theorem goneN_length {a : Nat} : (goneN ns a).length = ns.length := by simp [goneN]
theorem goneN_g {a c : Nat} : gOf (goneN ns a) c = gOf ns c := by
 rw [gOf, gOf, goneN_at]
 cases ns[c]? with
 | none => rfl
 | some x => simp only [Option.map_some]; split <;> rfl
theorem goneN_inv {a i : Nat} {y : Nn} (h : (goneN ns a)[i]? = some y) : ∃ x, ns[i]? = some x ∧ y.g = x.g ∧ y.lv = x.lv ∧ y.rv = x.rv ∧ y.el.name = x.el.name ∧ y.el.left = x.el.left ∧ y.el.right = x.el.right ∧ y = if i = a then { x with el := { x.el with gone := true } } else x := by
 rw [goneN_at] at h
 obtain ⟨x, hx, rfl⟩ := Option.map_eq_some_iff.1 h
 refine ⟨x, hx, ?_, ?_, ?_, ?_, ?_, ?_, rfl⟩ <;> split <;> rfl
theorem FtAt.setGone {S : Nat → Prop} (h : FtAt w g rb ra ad ns) {a : Nat} {z : Nn} (hz : ns[a]? = some z) (hc : Chg S w w') (hS : ∀ k, S k → k = g ∨ k = z.g) (hg : Blk w' g TF (treeC (gOf ns 0) rb ra (liveN (goneN ns a)))) (hn : Blk w' z.g TN (nodeC { z.el with gone := true } z.lv z.rv)) : FtAt w' g rb ra ad (goneN ns a) where
 blk := by rw [goneN_g]; exact hg
 node i y hy := by
  obtain ⟨x, hx, _, _, _, _, _, _, hyx⟩ := goneN_inv hy
  by_cases hia : i = a
  ·
   subst hia
   rw [hz] at hx; injection hx with hx; subst hx
   rw [if_pos rfl] at hyx
   subst hyx; exact hn
  ·
   rw [if_neg hia] at hyx
   subst hyx
   exact (h.node i y hx).chg hc fun hk => by
    rcases hS _ hk with e | e
    ·
     exact (h.node_ne hx).1 e
    ·
     exact hia (h.inj i a _ _ hx hz e)
 kids i y s hy := by
  obtain ⟨x, hx, _, h1, h2, _, h3, h4, _⟩ := goneN_inv hy
  have hsv : y.sv s = x.sv s := by cases s <;> simp [Nn.sv, h1, h2]
  have hsd : side y.el s = side x.el s := by cases s <;> simp [side, h3, h4]
  rw [hsv, hsd, show gOf (goneN ns a) = gOf ns from funext fun c => goneN_g]
  refine (h.kids i x s hx).chg hc fun k hk hSk => ?_
  have := h.kid_ne hx hk
  rcases hS _ hSk with e | e
  ·
   exact this.1 e
  ·
   exact this.2.2.2 a z hz e
 inj i j y y' hy hy' e := by
  obtain ⟨x, hx, h1, _⟩ := goneN_inv hy
  obtain ⟨x', hx', h1', _⟩ := goneN_inv hy'
  exact h.inj i j x x' hx hx' (by rw [← h1, ← h1', e])
 sep i j y y' s t k hy hy' e e' := by
  obtain ⟨x, hx, _, h1, h2, _⟩ := goneN_inv hy
  obtain ⟨x', hx', _, h1', h2', _⟩ := goneN_inv hy'
  have hsv : y.sv s = x.sv s := by cases s <;> simp [Nn.sv, h1, h2]
  have hsv' : y'.sv t = x'.sv t := by cases t <;> simp [Nn.sv, h1', h2']
  exact h.sep i j x x' s t k hx hx' (by rw [← hsv]; exact e) (by rw [← hsv']; exact e')
 by_ := by
  obtain ⟨cl, l, hM, h1, h2, h3, h4, h5⟩ := h.by_
  refine ⟨cl, l, hM.chg hc (fun hk => ?_), h1, h2, by rw [goneN_length]; exact h3, fun e he => ?_, fun i y hi hy => ?_⟩
  ·
   rcases hS _ hk with e | e
   ·
    exact h.g_ne.1 e.symm
   ·
    exact (h.node_ne hz).2.1 e.symm
  ·
   obtain ⟨i, x, hi, hx, hn, hg⟩ := h4 e he
   refine ⟨i, _, hi, by rw [goneN_at, hx]; rfl, ?_, ?_⟩ <;> split <;> first | exact hn | exact hg
  ·
   obtain ⟨x, hx, _, _, _, hn, _⟩ := goneN_inv hy
   obtain ⟨e, he, hk⟩ := h5 i x hi hx
   exact ⟨e, he, hk.trans hn.symm⟩
 added := by
  obtain ⟨cl, l, hM, hr⟩ := h.added
  refine ⟨cl, l, hM.chg hc (fun hk => ?_), hr⟩
  rcases hS _ hk with e | e
  ·
   exact h.g_ne.2 e.symm
  ·
   exact (h.node_ne hz).2.2 e.symm
 ne := h.ne
noncomputable def growN (ns : List Nn) (a : Nat) (s : Bool) (r : RefD) (b : UInt8) (gn : Nat) (u : Value) : List Nn :=
 (ns ++ [(⟨⟨r, b, false, [], []⟩, gn, .slice none 0 0, .slice none 0 0⟩ : Nn)]).modify a fun z => { el := z.el.more (els ns) s r, g := z.g, lv := cond s u z.lv, rv := cond s z.rv u }
noncomputable abbrev grownNode (ns : List Nn) (z : Nn) (s : Bool) (r : RefD) (u : Value) : Nn := { el := z.el.more (els ns) s r, g := z.g, lv := cond s u z.lv, rv := cond s z.rv u }
section
variable {a gn : Nat} {s : Bool} {r : RefD} {b : UInt8} {u : Value}
theorem growN_length : (growN ns a s r b gn u).length = ns.length + 1 := by simp [growN]
theorem growN_new (ha : a < ns.length) : (growN ns a s r b gn u)[ns.length]? = some ⟨⟨r, b, false, [], []⟩, gn, .slice none 0 0, .slice none 0 0⟩ := by
 rw [growN, List.getElem?_modify]; simp; omega
theorem growN_old {i : Nat} {x : Nn} (hx : ns[i]? = some x) : (growN ns a s r b gn u)[i]? = some (if i = a then grownNode ns x s r u else x) := by
 have hi := (List.getElem?_eq_some_iff.1 hx).1
 rw [growN, List.getElem?_modify, List.getElem?_append_left hi, hx]
 by_cases h : i = a
 ·
  subst h; simp
 ·
  rw [if_neg h]
  show some (if a = i then _ else x) = _
  rw [if_neg (fun e => h e.symm)]
theorem growN_inv {i : Nat} {y : Nn} (ha : a < ns.length) (h : (growN ns a s r b gn u)[i]? = some y) : (i = ns.length ∧ y = ⟨⟨r, b, false, [], []⟩, gn, .slice none 0 0, .slice none 0 0⟩) ∨ ∃ x, ns[i]? = some x ∧ y = if i = a then grownNode ns x s r u else x := by
 have hi := (List.getElem?_eq_some_iff.1 h).1
 rw [growN_length] at hi
 by_cases hn : i = ns.length
 ·
  subst hn; rw [growN_new ha] at h; exact .inl ⟨rfl, (Option.some.inj h).symm⟩
 ·
  obtain ⟨x, hx⟩ : ∃ x, ns[i]? = some x := ⟨_, List.getElem?_eq_getElem om_⟩
  rw [growN_old hx] at h
  exact .inr ⟨x, hx, (Option.some.inj h).symm⟩
theorem growN_els (ha : a < ns.length) : els (growN ns a s r b gn u) = growE (els ns) a s r b := by
 have hl : (els ns).length = ns.length := List.length_map _
 refine List.ext_getElem? fun i => ?_
 rw [List.getElem?_map]
 by_cases hi : i < ns.length
 ·
  obtain ⟨x, hx⟩ : ∃ x, ns[i]? = some x := ⟨_, List.getElem?_eq_getElem hi⟩
  rw [growN_old hx, grow_old (x := x.el) (by rw [List.getElem?_map, hx]; rfl)]
  simp only [Option.map_some]
  split <;> rfl
 ·
  by_cases hn : i = ns.length
  ·
   subst hn
   have := grow_new (e := els ns) (left := s) (r := r) (b := b) (by rw [hl]; exact ha)
   rw [hl] at this
   rw [growN_new ha, this]; rfl
  ·
   rw [List.getElem?_eq_none_iff.2 (by rw [growN_length]; omega), List.getElem?_eq_none_iff.2 (by rw [grow_length, hl]; omega)]; rfl
theorem growN_g (ha : a < ns.length) {c : Nat} : gOf (growN ns a s r b gn u) c = if c = ns.length then gn else gOf ns c := by
 by_cases hc : c = ns.length
 ·
  subst hc; rw [if_pos rfl, gOf_at (growN_new ha)]
 ·
  rw [if_neg hc]
  by_cases hl : c < ns.length
  ·
   obtain ⟨x, hx⟩ : ∃ x, ns[c]? = some x := ⟨_, List.getElem?_eq_getElem hl⟩
   rw [gOf_at (growN_old hx), gOf_at hx]; split <;> rfl
  ·
   rw [gOf, gOf, List.getElem?_eq_none_iff.2 (by rw [growN_length]; omega), List.getElem?_eq_none_iff.2 om_]
theorem grown_sv {z : Nn} {t : Bool} : (grownNode ns z s r u).sv t = if t = s then u else z.sv t := by
 cases s <;> cases t <;> rfl
theorem grown_side {z : Nn} {t : Bool} : side (grownNode ns z s r u).el t = if t = s then kid (els ns) r (side z.el t) else side z.el t := by
 cases s <;> cases t <;> rfl
theorem FtAt.ins {S : Nat → Prop} (h : FtAt w g rb ra ad ns) (hd : Down (els ns)) {z : Nn} (hz : ns[a]? = some z) (hr : atE (els ns) r = none) (hc : Chg S w w') (hS : ∀ k, S k → k = g ∨ k = rb ∨ k = z.g ∨ (z.sv s).ownBlock = some k) (hgn : w.heap.size ≤ gn)
  (hg : Blk w' g TF (treeC (gOf ns 0) rb ra (liveN ns + 1))) (hzb : Blk w' z.g TN (nodeC (z.el.more (els ns) s r) (cond s u z.lv) (cond s z.rv u))) (hnb : Blk w' gn TN (nodeC ⟨r, b, false, [], []⟩ (.slice none 0 0) (.slice none 0 0)))
  (hO : Own w' TP 1 u (ptrL ((kid (els ns) r (side z.el s)).map fun c => if c = ns.length then gn else gOf ns c))) (hf : ∀ k, u.ownBlock = some k → (z.sv s).ownBlock = some k ∨ w.heap.size ≤ k)
  (hM : ∃ cl l, MapAt w rb BE.me l cl ∧ (∀ e ∈ l, e.born < cl) ∧ (l.map BE.born).Nodup ∧ l.length + 1 = ns.length ∧ (∀ e ∈ l, ∃ i x, 0 < i ∧ ns[i]? = some x ∧ x.el.name = e.k ∧ x.g = e.g) ∧ (∀ (i : Nat) (x : Nn), 0 < i → ns[i]? = some x → ∃ e ∈ l, e.k = x.el.name) ∧ MapAt w' rb BE.me (l ++ [⟨r, gn, cl⟩]) (cl + 1)) :
  FtAt w' g rb ra ad (growN ns a s r b gn u) := by
 have ha := (List.getElem?_eq_some_iff.1 hz).1
 have hpos : 0 < ns.length := by omega
 have hl : (els ns).length = ns.length := List.length_map _
 have keepN : ∀ i x, ns[i]? = some x → i ≠ a → Blk w' x.g TN (nodeC x.el x.lv x.rv) := fun i x hx hia => (h.node i x hx).chg hc fun hk => by
  have := h.node_ne hx
  rcases hS _ hk with e | e | e | e
  ·
   exact this.1 e
  ·
   exact this.2.1 e
  ·
   exact hia (h.inj i a _ _ hx hz e)
  ·
   exact (h.kid_ne hz e).2.2.2 i x hx rfl
 have keepK : ∀ i x t, ns[i]? = some x → (i ≠ a ∨ t ≠ s) → Own w' TP 1 (x.sv t) (ptrL ((side x.el t).map (gOf ns))) := fun i x t hx hne => (h.kids i x t hx).chg hc fun k hk hSk => by
  have := h.kid_ne hx hk
  rcases hS _ hSk with e | e | e | e
  ·
   exact this.1 e
  ·
   exact this.2.1 e
  ·
   exact this.2.2.2 a z hz e
  ·
   have := h.sep i a x z t s k hx hz hk e
   rcases hne with hne | hne
   ·
    exact hne this.1
   ·
    exact hne this.2
 have hgs : ∀ (i : Nat) (x : Nn) t, ns[i]? = some x → (side x.el t).map (gOf (growN ns a s r b gn u)) = (side x.el t).map (gOf ns) := fun i x t hx => List.map_congr_left fun c hcm => by
  have hxe : (els ns)[i]? = some x.el := by rw [List.getElem?_map, hx]; rfl
  have := hd i x.el hxe c (by cases t <;> first | exact .inr hcm | exact .inl hcm)
  rw [growN_g ha, if_neg om_]
 refine ⟨?_, fun i y hy => ?_, fun i y t hy => ?_, fun i j y y' hy hy' e => ?_, fun i j y y' t t' k hy hy' e e' => ?_, ?_, ?_, h.ne⟩
 ·
  rw [growN_g ha, if_neg om_]
  have : liveN (growN ns a s r b gn u) = liveN ns + 1 := by
   show (els _).countP _ = _
   rw [growN_els ha]
   have hm : (growE (els ns) a s r b).map El.gone = (els ns).map El.gone ++ [false] := by
    refine List.ext_getElem? fun i => ?_
    by_cases hi : i < (els ns).length
    ·
     obtain ⟨x, hx⟩ : ∃ x, (els ns)[i]? = some x := ⟨_, List.getElem?_eq_getElem hi⟩
     rw [List.getElem?_map, grow_old hx, List.getElem?_append_left (by simpa using hi), List.getElem?_map, hx]
     simp only [Option.map_some]
     split
     ·
      rw [more_gone]
     ·
      rfl
    ·
     by_cases hn : i = (els ns).length
     ·
      subst hn
      rw [List.getElem?_map, grow_new (by rw [hl]; exact ha), List.getElem?_append_right (by simp)]; simp
     ·
      rw [List.getElem?_eq_none_iff.2 (by rw [List.length_map, grow_length]; omega), List.getElem?_eq_none_iff.2 (by simp at hn hi ⊢; omega)]
   have h2 := congrArg (List.countP fun x => !x) hm
   rw [List.countP_map, List.countP_append, List.countP_map] at h2
   exact h2
  rw [this]; exact hg
 ·
  rcases growN_inv ha hy with ⟨_, rfl⟩ | ⟨x, hx, rfl⟩
  ·
   exact hnb
  ·
   by_cases hia : i = a
   ·
    subst hia
    rw [hz] at hx; injection hx with hx; subst hx
    rw [if_pos rfl]; exact hzb
   ·
    rw [if_neg hia]; exact keepN i x hx hia
 ·
  rcases growN_inv ha hy with ⟨_, rfl⟩ | ⟨x, hx, rfl⟩
  ·
   have : side (⟨r, b, false, [], []⟩ : El) t = [] := by cases t <;> rfl
   have h2 : (⟨⟨r, b, false, [], []⟩, gn, .slice none 0 0, .slice none 0 0⟩ : Nn).sv t = .slice none 0 0 := by cases t <;> rfl
   rw [h2, this]; exact Own.nil
  ·
   by_cases hia : i = a
   ·
    subst hia
    rw [hz] at hx; injection hx with hx; subst hx
    rw [if_pos rfl, grown_sv, grown_side]
    by_cases hts : t = s
    ·
     subst hts
     rw [if_pos rfl, if_pos rfl, show gOf (growN ns i t r b gn u) = (fun c => if c = ns.length then gn else gOf ns c) from funext fun c => growN_g ha]; exact hO
    ·
     rw [if_neg hts, if_neg hts, hgs i z t hz]; exact keepK i z t hz (.inr hts)
   ·
    rw [if_neg hia, hgs i x t hx]; exact keepK i x t hx (.inl hia)
 ·
  have hng : ∀ i x, ns[i]? = some x → (if i = a then grownNode ns x s r u else x).g = x.g := fun i x hx => by split <;> rfl
  rcases growN_inv ha hy with ⟨hi, rfl⟩ | ⟨x, hx, rfl⟩ <;> rcases growN_inv ha hy' with ⟨hj, rfl⟩ | ⟨x', hx', rfl⟩
  ·
   omega
  ·
   rw [hng j x' hx'] at e; have := (h.node j x' hx').lt; have e : gn = x'.g := e; omega
  ·
   rw [hng i x hx] at e; have := (h.node i x hx).lt; have e : x.g = gn := e; omega
  ·
   rw [hng i x hx, hng j x' hx'] at e; exact h.inj i j x x' hx hx' e
 ·
  have hno : ∀ (t : Bool) (k : Nat), ((⟨⟨r, b, false, [], []⟩, gn, .slice none 0 0, .slice none 0 0⟩ : Nn).sv t).ownBlock ≠ some k := fun t k => by cases t <;> simp [Nn.sv, Value.ownBlock]
  have low : ∀ (i : Nat) (x : Nn) (t : Bool) (k : Nat), ns[i]? = some x → (x.sv t).ownBlock = some k → k < w.heap.size := fun i x t k hx hk => (h.kids i x t hx).lt k hk
  rcases growN_inv ha hy with ⟨hi, rfl⟩ | ⟨x, hx, rfl⟩
  ·
   exact absurd e (hno t k)
  ·
   rcases growN_inv ha hy' with ⟨hj, rfl⟩ | ⟨x', hx', rfl⟩
   ·
    exact absurd e' (hno t' k)
   ·
    have pass : ∀ (i : Nat) (x : Nn) (t : Bool), ns[i]? = some x → ((if i = a then grownNode ns x s r u else x).sv t).ownBlock = some k → (i = a ∧ t = s ∧ u.ownBlock = some k) ∨ ((x.sv t).ownBlock = some k) := fun i x t hx e => by
     by_cases hia : i = a
     ·
      rw [if_pos hia, grown_sv] at e
      by_cases hts : t = s
      ·
       rw [if_pos hts] at e; exact .inl ⟨hia, hts, e⟩
      ·
       rw [if_neg hts] at e; exact .inr e
     ·
      rw [if_neg hia] at e; exact .inr e
    rcases pass i x t hx e with ⟨rfl, rfl, e1⟩ | e1 <;> rcases pass j x' t' hx' e' with ⟨rfl, rfl, e2⟩ | e2
    ·
     exact ⟨rfl, rfl⟩
    ·
     rcases hf k e1 with e3 | e3
     ·
      exact h.sep i j z x' t t' k hz hx' e3 e2
     ·
      have := low j x' t' k hx' e2; omega
    ·
     rcases hf k e2 with e3 | e3
     ·
      exact h.sep i j x z t t' k hx hz e1 e3
     ·
      have := low i x t k hx e1; omega
    ·
     exact h.sep i j x x' t t' k hx hx' e1 e2
 ·
  obtain ⟨cl, l, _, h1, h2, h3, h4, h5, h6⟩ := hM
  refine ⟨cl + 1, l ++ [⟨r, gn, cl⟩], h6, fun e he => ?_, ?_, by rw [List.length_append, growN_length]; simp; omega, fun e he => ?_, fun i y hi hy => ?_⟩
  ·
   rcases List.mem_append.1 he with he | he
   ·
    have := h1 e he; omega
   ·
    simp at he; subst he; simp
  ·
   rw [List.map_append, List.nodup_append]
   refine ⟨h2, by simp, fun x hx y hy => ?_⟩
   obtain ⟨e, he, rfl⟩ := List.mem_map.1 hx
   simp at hy; subst hy
   have := h1 e he; omega
  ·
   rcases List.mem_append.1 he with he | he
   ·
    obtain ⟨i, x, hi, hx, hn, hg⟩ := h4 e he
    refine ⟨i, _, hi, growN_old hx, ?_, ?_⟩ <;> split <;> first | exact hn | exact hg | exact (more_name _ _ _ _).trans hn
   ·
    simp at he; subst he
    exact ⟨ns.length, _, hpos, growN_new ha, rfl, rfl⟩
  ·
   rcases growN_inv ha hy with ⟨_, rfl⟩ | ⟨x, hx, rfl⟩
   ·
    exact ⟨⟨r, gn, cl⟩, by simp, rfl⟩
   ·
    obtain ⟨e, he, hk⟩ := h5 i x hi hx
    refine ⟨e, by simp [he], hk.trans ?_⟩
    split
    ·
     exact (more_name _ _ _ _).symm
    ·
     rfl
 ·
  obtain ⟨cl, l, hMa, hrest⟩ := h.added
  refine ⟨cl, l, hMa.chg hc (fun hk => ?_), hrest⟩
  rcases hS _ hk with e | e | e | e
  ·
   exact h.g_ne.2 e.symm
  ·
   exact h.ne e.symm
  ·
   exact (h.node_ne hz).2.2 e.symm
  ·
   exact (h.kid_ne hz e).2.2.1 rfl
where
 more_gone (x : El) (e : List El) (s : Bool) (r : RefD) : (x.more e s r).gone = x.gone := by unfold El.more; split <;> rfl
 more_name (x : El) (e : List El) (s : Bool) (r : RefD) : (x.more e s r).name = x.name := by unfold El.more; split <;> rfl
end
theorem FtAt.look (h : FtAt w g rb ra ad ns) (hG : Fu.Good (els ns)) {r : RefD} {cl : Nat} {l : List BE} (hM : MapAt w rb BE.me l cl) : mval BE.me (.pointer none) (mfind BE.k r l 0) = .pointer (byA ns r) := by
 obtain ⟨cl', l', hM', _, _, _, h4, h5⟩ := h.by_
 have hll : l.map BE.me = l'.map BE.me := by
  unfold MapAt at hM hM'
  rw [hM] at hM'
  injection hM' with hM'; injection hM' with hM' _
  exact Array.toList_inj.2 hM' |> fun h => by simpa using h
 have hb : ∀ e ∈ l, ∃ i x, 0 < i ∧ ns[i]? = some x ∧ refV x.el.name = refV e.k ∧ x.g = e.g := fun e he => by
  have : BE.me e ∈ l'.map BE.me := by rw [← hll]; exact List.mem_map_of_mem he
  obtain ⟨e', he', hee⟩ := List.mem_map.1 this
  obtain ⟨i, x, hi, hx, hn, hg⟩ := h4 e' he'
  have hk : refV e'.k = refV e.k := congrArg MapEntry.key hee
  have hg' : (Value.pointer (some ⟨e'.g, 0, none⟩)) = .pointer (some ⟨e.g, 0, none⟩) := congrArg MapEntry.val hee
  injection hg' with hg'; injection hg' with hg'; injection hg' with hg'
  exact ⟨i, x, hi, hx, by rw [hn]; exact hk, hg.trans hg'⟩
 have hc : ∀ (i : Nat) (x : Nn), 0 < i → ns[i]? = some x → ∃ e ∈ l, refV e.k = refV x.el.name := fun i x hi hx => by
  obtain ⟨e, he, hk⟩ := h5 i x hi hx
  have : BE.me e ∈ l.map BE.me := by rw [hll]; exact List.mem_map_of_mem he
  obtain ⟨e', he', hee⟩ := List.mem_map.1 this
  have hk' : refV e'.k = refV e.k := congrArg MapEntry.key hee
  exact ⟨e', he', by rw [hk', hk]⟩
 cases hf : mfind BE.k r l 0 with
 | none =>
  have hno := mfind_none hf
  show Value.pointer none = _
  congr 1
  unfold byA
  by_cases hr : r = RefD.zero
  ·
   rw [if_pos hr]
  rw [if_neg hr]
  cases ha : atE (els ns) r with
  | none => rfl
  | some i =>
   obtain ⟨y, hy, hn, _⟩ := atE_some.1 ha
   rw [List.getElem?_map] at hy
   obtain ⟨x, hx, rfl⟩ := Option.map_eq_some_iff.1 hy
   have hi : 0 < i := by
    by_cases h0 : i = 0
    ·
     subst h0
     have := (hG.zero (i := 0) (x := x.el) (by rw [List.getElem?_map, hx]; rfl)).2 rfl
     exact absurd (hn.symm.trans this) hr
    ·
     omega
   obtain ⟨e, he, hk⟩ := hc i x hi hx
   exact absurd (refV_inj (hk.trans (by rw [hn]))) (hno e he)
 | some p =>
  obtain ⟨_, hj, hk⟩ := mfind_some hf
  obtain ⟨i, x, hi, hx, hn, hg⟩ := hb p.2 (List.mem_of_getElem? hj)
  have hxn : x.el.name = r := (refV_inj hn).trans hk
  have hxe : (els ns)[i]? = some x.el := by rw [List.getElem?_map, hx]; rfl
  have hr : r ≠ RefD.zero := fun h0 => by
   have := (hG.zero hxe).1 (hxn.trans h0)
   omega
  have := hG.find hxe
  rw [hxn] at this
  rw [byA, if_neg hr, this]
  show Value.pointer (some ⟨p.2.g, 0, none⟩) = .pointer (some ⟨gOf ns i, 0, none⟩)
  rw [gOf_at hx, hg]
where
 refV_inj {a b : RefD} (h : refV a = refV b) : a = b := by
  have h2 : refC a = refC b := by
   injection h with h
   exact congrArg Array.toList h
  have h3 : some (Value.bool a.own) = some (Value.bool b.own) := by
   have := congrArg (fun l => l[0]?) h2; exact this
  have h4 : (refC a)[33]? = (refC b)[33]? := by rw [h2]
  rw [refC_get33, refC_get33] at h4
  have h5 : digC a.c = digC b.c := by
   have h6 : a.own = b.own := by injection h3 with h3; injection h3
   unfold refC at h2
   rw [h6] at h2
   injection h2 with _ h2
   exact (List.append_inj h2 (by rw [digC_length a.c, digC_length b.c])).1
  obtain ⟨o, c, n⟩ := a
  obtain ⟨o', c', n'⟩ := b
  injection h3 with h3; injection h3 with h3
  injection h4 with h4; injection h4 with _ h4
  have hc : c = c' := Subtype.ext (bytesC_inj h5)
  simp only at h3 h4
  rw [h3, hc, h4]
end
theorem sz0_fuguenode : (Tryd.prog.info? TP).map (·.size) = some 1 := by kernel_rfl
theorem szN : (Tryd.prog.info? TN).map (·.size) = some 38 := by kernel_rfl
theorem sz_sTP : (Tryd.prog.info? 102).map (·.size) = some 1 := by kernel_rfl
theorem fo_fugueTree0 : FieldOff Tryd.prog TF 0 0 := ⟨_, _, 1, Tryd.underlying107, rfl, sz0_fuguenode, by decide, rfl⟩
theorem fo_fugueTree1 : FieldOff Tryd.prog TF 1 1 := ⟨_, _, 1, Tryd.underlying107, rfl, by kernel_rfl, by decide, rfl⟩
theorem fo_fugueTree2 : FieldOff Tryd.prog TF 2 2 := ⟨_, _, 1, Tryd.underlying107, rfl, by kernel_rfl, by decide, rfl⟩
theorem fo_fugueTree3 : FieldOff Tryd.prog TF 3 3 := ⟨_, _, 1, Tryd.underlying107, rfl, sz_int, by decide, rfl⟩
theorem fo_fuguenode0 : FieldOff Tryd.prog TN 0 0 := ⟨_, _, 34, Tryd.underlying104, rfl, sz_ref, by decide, rfl⟩
theorem fo_fuguenode1 : FieldOff Tryd.prog TN 1 34 := ⟨_, _, 1, Tryd.underlying104, rfl, sz_uint8, by decide, rfl⟩
theorem fo_fuguenode2 : FieldOff Tryd.prog TN 2 35 := ⟨_, _, 1, Tryd.underlying104, rfl, sz_bool, by decide, rfl⟩
theorem fo_fuguenode3 : FieldOff Tryd.prog TN 3 36 := ⟨_, _, 1, Tryd.underlying104, rfl, sz_sTP, by decide, rfl⟩
theorem fo_fuguenode4 : FieldOff Tryd.prog TN 4 37 := ⟨_, _, 1, Tryd.underlying104, rfl, sz_sTP, by decide, rfl⟩
theorem keyRef : KeyEq Tryd.prog 60 (fun d : RefD => refV d) where
 eq w a b := eqIn_ref 9997 a b w
 check w em a := by
  obtain ⟨f0, f1, f2, hf, n0, n1, n2, t0, t1, t2, o0, o1, o2⟩ := fields_ref
  have hd : (Instr.checkKey em 9999 36 (digV a.c)).run Tryd.prog w = .ok () w := by
   obtain ⟨la, hla⟩ := keyLits_dig 3 a.c
   exact run_checkKey_deep em 9996 3 36 kr_ w 5 (digV a.c) la (by simp only [Value.formed, Tryd.underlying36, cells_dig]; simp [digC_length]) (by simpa [Value.cells] using hla)
  have hb : (Instr.checkKey em 9999 4 (.bool a.own)).run Tryd.prog w = .ok () w := by
   rw [show (9999 : Nat) = 9998 + 1 from rfl, Instr.checkKey]
   simp only [Sem.run_bind, run_underlying Tryd.underlying4, Result.andThen_ok]; rfl
  have hi : (Instr.checkKey em 9999 3 (.int .i64 a.n)).run Tryd.prog w = .ok () w := by
   rw [show (9999 : Nat) = 9998 + 1 from rfl, Instr.checkKey]
   simp only [Sem.run_bind, run_underlying Tryd.underlying3, Result.andThen_ok]; rfl
  rw [show (10000 : Nat) = 9999 + 1 from rfl, Instr.checkKey]
  simp only [Sem.run_bind, run_underlying ht_ref, Result.andThen_ok]
  rw [← Array.forIn_toList, hf]
  simp only [List.forIn_cons, List.forIn_nil, n0, n1, n2, t0, t1, t2, o0, o1, o2, ne_eq, not_false_eq_true, if_true, Sem.run_bind, part_one Tryd.underlying4 rfl (ref_own _), part_one Tryd.underlying3 rfl (ref_n _), part_dig, ref_c, Result.andThen_ok, hd, hb, hi, Sem.run_pure]
 wide := by rw [Tryd.underlying60]
 same a := sameBits_self (n := 9999) fun u hu => by
  simp only [refC, digC, bytesC, List.mem_cons, List.mem_append, List.mem_map, List.not_mem_nil, or_false] at hu
  rcases hu with rfl | ⟨b, _, rfl⟩ | rfl <;> simp [bc, Instr.sameBits]
abbrev UMB := Tryd.underlying105
abbrev UMA := Tryd.underlying73
theorem zero_ptr (w : World) : (zeroValue TP).run Tryd.prog w = .ok (.pointer none) w := by
 have h : (Tryd.prog.info? TP).map (fun i => i.zero) = some (some (.pointer none)) := by kernel_rfl
 cases hi : Tryd.prog.info? TP with
 | none => simp [hi] at h
 | some i => simp [hi] at h; simp [zeroValue, typeInfo, hi, h]
theorem Y.lookB {n : NN} {fr : Fr} {w : World} {ty : TypeId} {x y : Operand} {g rb ra : Nat} {ad : List Dig} {ns : List Nn} {r : RefD} (h : FtAt w g rb ra ad ns) (hG : Fu.Good (els ns)) (hx : ev fr x = some (.map (some rb))) (hy : ev fr y = some (refV r)) :
  Yw Tryd.prog n fr (.lookup 105 x y false) ty w (.pointer (byA ns r)) w := by
 obtain ⟨cl, l, hM, _⟩ := h.by_
 have := Y.lookup (n := n) (ty := ty) keyRef (fun _ => rfl) UMB zero_ptr hx hy hM
 rwa [h.look hG hM] at this
theorem AE.look {l : List AE} {ad : List Dig} (hk : ∀ d, d ∈ l.map AE.k ↔ d ∈ ad) (d : Dig) : (mfind AE.k d l 0).isSome = decide (d ∈ ad) := by
 rw [Bool.eq_iff_iff, decide_eq_true_eq, ← hk d]
 constructor
 ·
  intro hs
  obtain ⟨⟨j, e⟩, hp⟩ := Option.isSome_iff_exists.1 hs
  obtain ⟨_, hj, hkk⟩ := mfind_some hp
  exact List.mem_map.2 ⟨e, List.mem_of_getElem? hj, hkk⟩
 ·
  intro hm
  obtain ⟨e, he, hkk⟩ := List.mem_map.1 hm
  cases hf : mfind AE.k d l 0 with
  | none => exact absurd hkk (mfind_none hf e he)
  | some p => rfl
theorem eqIn_np (d : Nat) (p : Option Addr) (w : World) : (Op.equalIn (d + 1) TP (.pointer p) (.pointer none)).run Tryd.prog w = .ok p.isNone w := by
 rw [Op.equalIn, Sem.run_bind, run_underlying Tryd.underlying101]
 cases p <;> rfl
theorem eqIn_tp (d : Nat) (p : Option Addr) (w : World) : (Op.equalIn (d + 1) 54 (.pointer p) (.pointer none)).run Tryd.prog w = .ok p.isNone w := by
 rw [Op.equalIn, Sem.run_bind, run_underlying Tryd.underlying54]
 cases p <;> rfl
section
variable {n : NN} {fr : Fr} {w : World} {ty : TypeId} {x y : Operand} {t' : TypeId} {p : Option Addr}
theorem Y.eql_fuguenode (hx : ev fr x = some (.pointer p)) (hy : ev fr y = some (.pointer none)) : Yw Tryd.prog n fr (.binOp .eql TP x y t') ty w (.bool p.isNone) w :=
 Y.bin hx hy (by cases p <;> simp [eqGuard]) (by
  simp only [binOp, Op.equal, Sem.run_bind]
  rw [show Op.maxDepth = 9999 + 1 from rfl, eqIn_np 9999]; rfl)
theorem Y.neq_fuguenode (hx : ev fr x = some (.pointer p)) (hy : ev fr y = some (.pointer none)) : Yw Tryd.prog n fr (.binOp .neq TP x y t') ty w (.bool (!p.isNone)) w :=
 Y.bin hx hy (by cases p <;> simp [eqGuard]) (by
  simp only [binOp, Op.equal, Sem.run_bind]
  rw [show Op.maxDepth = 9999 + 1 from rfl, eqIn_np 9999]; rfl)
theorem Y.eql_fugueTree (hx : ev fr x = some (.pointer p)) (hy : ev fr y = some (.pointer none)) : Yw Tryd.prog n fr (.binOp .eql 54 x y t') ty w (.bool p.isNone) w :=
 Y.bin hx hy (by cases p <;> simp [eqGuard]) (by
  simp only [binOp, Op.equal, Sem.run_bind]
  rw [show Op.maxDepth = 9999 + 1 from rfl, eqIn_tp 9999]; rfl)
theorem Y.neq_fugueTree (hx : ev fr x = some (.pointer p)) (hy : ev fr y = some (.pointer none)) : Yw Tryd.prog n fr (.binOp .neq 54 x y t') ty w (.bool (!p.isNone)) w :=
 Y.bin hx hy (by cases p <;> simp [eqGuard]) (by
  simp only [binOp, Op.equal, Sem.run_bind]
  rw [show Op.maxDepth = 9999 + 1 from rfl, eqIn_tp 9999]; rfl)
end
end Go.Proofs.YtmehkigmnpjcjaaDoor
/- Fugue's tree: made, Len, Full, Has, find, New, walked. No condition. -/
namespace Go.Proofs.YtmehkigmnpjcjaaDoor
open Go.RowKit Go.Fw Go.Fu
theorem build_rootN (w : World) : (Instr.build TN [(2, Value.bool true)].toArray).run Tryd.prog w = .ok (.agg (nodeC El.root (.slice none 0 0) (.slice none 0 0)).toArray) w := run_build w _ _ _ kr_
theorem build_treeF (g0 rb ra : Nat) (w : World) : (Instr.build TF [(0, Value.pointer (some ⟨g0, 0, none⟩)), (1, .map (some rb)), (2, .map (some ra))].toArray).run Tryd.prog w = .ok (.agg (treeC g0 rb ra 0).toArray) w := run_build w _ _ _ kr_
abbrev newN (gn : Nat) : List Nn := [⟨El.root, gn, .slice none 0 0, .slice none 0 0⟩]
theorem FtAt.new {w : World} {g rb ra gn : Nat} (hB : Blk w g TF (treeC gn rb ra 0)) (hN : Blk w gn TN (nodeC El.root (.slice none 0 0) (.slice none 0 0))) (h1 : MapAt w rb BE.me [] 0) (h2 : MapAt w ra AE.me [] 0) (hne : rb ≠ ra) : FtAt w g rb ra [] (newN gn) where
 blk := hB
 node i x hx := by
  cases i with
  | zero => simp at hx; subst hx; exact hN
  | succ i => simp at hx
 kids i x s hx := by
  cases i with
  | zero => simp at hx; subst hx; cases s <;> exact Own.nil
  | succ i => simp at hx
 inj i j x y hx hy _ := by
  have h1 := (List.getElem?_eq_some_iff.1 hx).1
  have h2 := (List.getElem?_eq_some_iff.1 hy).1
  simp at h1 h2; omega
 sep i j x y s t k hx hy e := by
  cases i with
  | zero => simp at hx; subst hx; cases s <;> simp [Nn.sv, Value.ownBlock] at e
  | succ i => simp at hx
 by_ := ⟨0, [], h1, (fun e he => nomatch he), List.nodup_nil, rfl, (fun e he => nomatch he), fun i x hi hx => by
  cases i with
  | zero => omega
  | succ i => simp at hx⟩
 added := ⟨0, [], h2, (fun e he => nomatch he), List.nodup_nil, List.nodup_nil, fun d => Iff.rfl⟩
 ne := hne
theorem fmade_any (g rb ra : Nat) (ad : List Dig) (ns : List Nn) (w : World) (hT : FtAt w g rb ra ad ns) : Calls Tryd.prog 34 #[.pointer (some ⟨g, 0, none⟩)] w (Ret fun v w' => v = .bool true ∧ Ext w w') := by
 have hB0 := hT.blk
 have hlo : ∀ k, Fp g rb ra ns k → k < w.heap.size := fun k hk => hT.lt hk
 have hg0 := hB0.lt
 refine calls_of_CW 12 [2] [(0, .pointer (some ⟨g, 0, none⟩))] Tryd.func34 rfl rfl rfl (by simp) args1 ?_
 have hE : Ext w w := Chg.refl
 refine CW.sr fun K1 hK1 => ?_
 refine WL.a rfl ?_
 refine WL.nil (hK1 _ _ ?_); try clear hK1
 refine CW.sr fun K2 hK2 => ?_
 refine WL.m rfl ?_
 refine WL.v (Y.neq_fugueTree rfl rfl) ?_
 refine WL.m rfl ?_
 refine WL.know (d := 5) (u := .bool true) rfl (by rfl) ?_
 refine WL.g rfl rfl (Y.move rfl) ?_
 refine WL.g rfl rfl (Y.nilCheck rfl) ?_
 refine WL.g rfl rfl (Y.fieldAddr fo_fugueTree0 rfl) ?_
 refine WL.g rfl rfl (Y.load1 Tryd.underlying101 rfl hB0.mem.fugueTree0 rfl) ?_
 refine WL.g rfl rfl (Y.neq_fuguenode rfl rfl) ?_
 refine WL.v (Y.pick rfl rfl) ?_
 refine WL.a rfl ?_
 refine WL.nil (hK2 _ _ ?_); try clear hK2
 refine CW.ret ⟨_, rfl, ?_⟩
 exact ⟨rfl, hE⟩
theorem fnew_any (w : World) : Calls Tryd.prog 18 #[] w (Ret fun v w' => ∃ g rb ra gn, v = .pointer (some ⟨g, 0, none⟩) ∧ w.heap.size ≤ g ∧ w.heap.size ≤ rb ∧ w.heap.size ≤ ra ∧ w.heap.size ≤ gn ∧ FtAt w' g rb ra [] (newN gn) ∧ Ext w w') := by
 refine calls_of_CW 7 [0] [] Tryd.func18 rfl rfl rfl (by simp) args0 ?_
 have hE : Ext w w := Chg.refl
 refine CW.sr fun K1 hK1 => ?_
 refine WL.a rfl ?_
 refine WL.nil (hK1 _ _ ?_); try clear hK1
 refine CW.sr fun K2 hK2 => ?_
 refine WL.v (Y.build rfl (build_rootN _)) ?_
 refine WL.box rfl rfl de_ fun g2 w1 hx1 hg2 hB2 => ?_
 have hlt2 := hB2.lt; have hz1 := hx1.size
 have hM2 := hB2.mem; have hz1 := hx1.size; have hE := hE.thenExt hx1
 refine WL.st (St.makeMap) de_ fun v3 w2 hR2 => ?_
 obtain ⟨rb, rfl, hrb, hMb, hx2⟩ := hR2
 have hz2 := hx2.size
 have hE := hE.thenExt hx2
 have hB2 := hB2.ext hx2
 have hlb := (hMb BE BE.me).lt
 refine WL.st (St.makeMap) de_ fun v4 w3 hR3 => ?_
 obtain ⟨ra, rfl, hra, hMa, hx3⟩ := hR3
 have hz3 := hx3.size
 have hE := hE.thenExt hx3
 have hB2 := hB2.ext hx3
 refine WL.v (Y.build rfl (build_treeF _ _ _ _)) ?_
 refine WL.box rfl rfl de_ fun g6 w4 hx4 hg6 hB6 => ?_
 have hlt6 := hB6.lt; have hz4 := hx4.size
 have hM6 := hB6.mem; have hz4 := hx4.size; have hE := hE.thenExt hx4; have hB2 := hB2.ext hx4
 refine WL.a rfl ?_
 refine WL.nil (hK2 _ _ ?_); try clear hK2
 refine CW.ret ⟨_, rfl, ?_⟩
 exact ⟨_, rb, ra, _, rfl, by omega, by omega, by omega, by omega, FtAt.new hB6 hB2 (((hMb BE BE.me).ext hx3).ext hx4) ((hMa AE AE.me).ext hx4) om_, hE⟩
theorem ffind_any (g rb ra : Nat) (ad : List Dig) (ns : List Nn) (id : Dig) (r : RefD) (w : World) (hT : FtAt w g rb ra ad ns) (hG : Fu.Good (els ns)) : Calls Tryd.prog 36 #[.pointer (some ⟨g, 0, none⟩), digV id, refV r] w (Ret fun v w' => v = nodeP ns (atE (els ns) (res id r)) ∧ Ext w w') := by
 have hB0 := hT.blk
 have hlo : ∀ k, Fp g rb ra ns k → k < w.heap.size := fun k hk => hT.lt hk
 have hg0 := hB0.lt
 refine calls_of_CW 26 [6] [(0, .pointer (some ⟨g, 0, none⟩)), (1, digV id), (2, refV r)] Tryd.func36 rfl rfl rfl (by simp) args3 ?_
 have hE : Ext w w := Chg.refl
 refine CW.sr fun K1 hK1 => ?_
 refine WL.box rfl rfl de_ fun g4 w1 hx1 hg4 hB4 => ?_
 have hlt4 := hB4.lt; have hz1 := hx1.size
 have hM4 := hB4.mem; have hz1 := hx1.size; have hE := hE.thenExt hx1; have hT := hT.ext hx1; have hB0 := hB0.ext hx1
 refine WL.box rfl rfl de_ fun g5 w2 hx2 hg5 hB5 => ?_
 have hlt5 := hB5.lt; have hz2 := hx2.size
 have hM5 := hB5.mem; have hz2 := hx2.size; have hE := hE.thenExt hx2; have hT := hT.ext hx2; have hB0 := hB0.ext hx2; have hB4 := hB4.ext hx2
 refine WL.a rfl ?_
 refine WL.nil (hK1 _ _ ?_); try clear hK1
 refine CW.seq_to (X := Unit) (fun _ => [(0, .pointer (some ⟨g, 0, none⟩)), (4, .pointer (some ⟨g4, 0, none⟩)), (5, .pointer (some ⟨g5, 0, none⟩)), (6, .pointer none)]) (fun _ w0 => Ext w w0 ∧ Blk w0 g5 60 (refC (res id r)) ∧ Blk w0 g4 36 (digC id) ∧ FtAt w0 g rb ra ad ns ∧ w2.heap.size ≤ w0.heap.size) ?_ ?_
 ·
  skip
  refine CW.sr fun K3 hK3 => ?_
  refine WL.v (Y.fieldAddr fo_apiRef0 rfl) ?_
  refine WL.v (Y.load1 Tryd.underlying4 rfl hB5.mem.ref0 rfl) ?_
  refine WL.nil (hK3 _ _ ?_); try clear hK3
  (first | refine cd_ rfl ?_ ?_ | refine ce_ rfl ?_ ?_ | refine cn_ rfl ?_ ?_ | refine cb_ rfl ?_ ?_) <;> intro ht4
  ·
   -- then
   refine CW.region ?_
   refine WL.v (Y.load Tryd.underlying36 rfl hB4.mem (sz_apiDigest _) rfl) ?_
   refine WL.v (Y.fieldAddr fo_apiRef2 rfl) ?_
   refine WL.v (Y.load1 Tryd.underlying3 rfl hB5.mem.ref2 rfl) ?_
   refine WL.v (Y.build rfl (build_ref2 _ _ _)) ?_
   refine WL.store (g := g5) (pre := []) (old := refC r) (post := []) (new := refC ⟨false, id, r.n⟩) rfl rfl rfl rfl (sz_apiRef _) (by simpa using hB5) (by simp only [refC_length]) (one_refC) (fun w3 hc3 hB3_ => ?_)
   have hz3 := hc3.size; have hE := hE.step hc3 (fun k h => by omega); have hT := hT.chg hc3 (fun k hk h => by have := hlo k hk; omega); have hB0 := hB0.chg hc3 no_; have hB4 := hB4.chg hc3 no_
   have hB5 : Blk w3 g5 60 (refC (res id r)) := by
    rw [res, if_pos (by assumption)]; simpa using hB3_
   refine WL.nil ?_
   exact ⟨(), (by repeat (first | exact Fr.le.refl | exact Fr.le.nil | refine Fr.le.cons rfl ?_)), hE, hB5, hB4, hT, by omega⟩
  refine CW.skip ?_
  exact ⟨(), (by repeat (first | exact Fr.le.refl | exact Fr.le.nil | refine Fr.le.cons rfl ?_)), hE, (by rw [res, if_neg (by simp_all)]; exact hB5), hB4, hT, by omega⟩
 rintro u w4 hj4
 obtain ⟨hE, hB5, hB4, hT, hzj⟩ := hj4
 have hB0 := hT.blk
 refine CW.seq fun K5 hK5 => ?_
 refine CW.sr fun K6 hK6 => ?_
 refine WL.v (Y.load Tryd.underlying60 rfl hB5.mem (sz_apiRef _) rfl) ?_
 refine WL.v (Y.build0 (build_apiRef _)) ?_
 refine WL.v (Y.eql_apiRef rfl rfl) ?_
 refine WL.nil (hK6 _ _ ?_); try clear hK6
 (first | refine cd_ rfl ?_ ?_ | refine ce_ rfl ?_ ?_ | refine cn_ rfl ?_ ?_ | refine cb_ rfl ?_ ?_) <;> intro ht7
 ·
  -- then
  refine CW.sr fun K8 hK8 => ?_
  refine WL.m rfl ?_
  refine WL.v (Y.nilCheck rfl) ?_
  refine WL.v (Y.fieldAddr fo_fugueTree0 rfl) ?_
  refine WL.v (Y.load1 Tryd.underlying101 rfl hB0.mem.fugueTree0 rfl) ?_
  refine WL.a rfl ?_
  refine WL.nil (hK8 _ _ ?_); try clear hK8
  refine CW.ret ⟨_, rfl, ?_⟩
  exact ⟨by rw [show res id r = RefD.zero by assumption, hG.at0]; rfl, hE⟩
 refine CW.skip ?_
 refine hK5 _ _ ?_; try clear hK5
 refine CW.seq fun K9 hK9 => ?_
 refine CW.quiet (fun wq => Ext w4 wq) kr_ kr_ Chg.drew ?_
 refine QL.m rfl ?_
 refine QL.v (fun wq hq => Y.nilCheck rfl) ?_
 refine QL.v (fun wq hq => Y.fieldAddr fo_fugueTree1 rfl) ?_
 refine QL.v (fun wq hq => Y.load1 Tryd.underlying105 rfl (hB0.ext hq).mem.fugueTree1 rfl) ?_
 refine QL.v (fun wq hq => Y.load Tryd.underlying60 rfl (hB5.ext hq).mem (sz_apiRef _) rfl) ?_
 refine QL.v (fun wq hq => Y.lookB (hT.ext hq) hG rfl rfl) ?_
 refine QL.a rfl ?_
 refine QL.nil fun w5 hx5 => ?_
 have hz5 := hx5.size
 have hE := hE.thenExt hx5
 have hT := hT.ext hx5
 have hB0 := hB0.ext hx5
 have hB4 := hB4.ext hx5
 have hB5 := hB5.ext hx5
 refine hK9 _ _ ?_; try clear hK9
 refine CW.ret ⟨_, rfl, ?_⟩
 exact ⟨by rw [byA, if_neg (by assumption)], hE⟩
end Go.Proofs.YtmehkigmnpjcjaaDoor
