/- Parts of a proof: what its last text leans on. No condition. -/
import Derived.Test.YtmehkigmnpjcjaaDoorK06
import Derived.Test.YtmehkigmnpjcjaaDoorK10
import Derived.Test.YtmehkigmnpjcjaaDoorK16
import Derived.Test.YtmehkigmnpjcjaaDoorK19
import Derived.Test.YtmehkigmnpjcjaaDoorK21
import Derived.Test.YtmehkigmnpjcjaaDoorK23
set_option linter.unusedSimpArgs false
set_option linter.unusedVariables false
/- diff.Make, recensionref04.Make, walked. No condition. -/
namespace Go.Fw
open Go.RowKit Go.Fu
theorem bsG {l : List UInt8} {i : Nat} (h : i < (bs l).size) : (bs l)[i] = (l[i]?).getD 0 := by
 have h' : i < l.length := h
 rw [List.getElem?_eq_getElem h']; rfl
theorem bs_one {p : List UInt8} {j : Nat} (h : j < p.length) : (bs p).extract j (j + 1) = bs (Stp.put ((p[j]?).getD 0)).str := by
 apply ByteArray.ext
 rw [ByteArray.data_extract]
 show p.toArray.extract j (j + 1) = [(p[j]?).getD 0].toArray
 apply Array.ext'
 rw [Array.toList_extract, List.extract_eq_take_drop]
 rw [List.getElem?_eq_getElem h, show j + 1 - j = 1 by omega, List.drop_eq_getElem_cons h]
 rfl
theorem stepK {a b : List UInt8} {i j : Nat} (hi : i < a.length) (hj : j < b.length) (h : (a[i]?).getD 0 = (b[j]?).getD 0) : stp (a.drop i) (b.drop j) = .keep :: stp (a.drop (i + 1)) (b.drop (j + 1)) := by
 rw [List.getElem?_eq_getElem hi, List.getElem?_eq_getElem hj] at h
 rw [drop_cons hi, drop_cons hj, stp_cons]
 exact if_pos h
theorem stepC {a b : List UInt8} {i j : Nat} (hi : i < a.length) (h1 : ¬ (j < b.length ∧ (a[i]?).getD 0 = (b[j]?).getD 0)) (h2 : b.length ≤ j ∨ cst (a.drop (i + 1)) (b.drop j) ≤ cst (a.drop i) (b.drop (j + 1))) : stp (a.drop i) (b.drop j) = .cut :: stp (a.drop (i + 1)) (b.drop j) := by
 by_cases hj : j < b.length
 ·
  have hne : ¬ a[i] = b[j] := fun e => h1 ⟨hj, by rw [List.getElem?_eq_getElem hi, List.getElem?_eq_getElem hj, e]⟩
  have hle : cst (a.drop (i + 1)) (b.drop j) ≤ cst (a.drop i) (b.drop (j + 1)) := by
   rcases h2 with h2 | h2
   ·
    omega
   ·
    exact h2
  rw [drop_cons hj, drop_cons hi] at hle
  rw [drop_cons hi, drop_cons hj, stp_cons, if_neg hne, if_pos hle]
 ·
  rw [List.drop_of_length_le (l := b) (i := j) om_, drop_cons hi, stp_end]
theorem stepP {a b : List UInt8} {i j : Nat} (hj : j < b.length) (h1 : ¬ (i < a.length ∧ (a[i]?).getD 0 = (b[j]?).getD 0)) (h2 : ¬ (i < a.length ∧ cst (a.drop (i + 1)) (b.drop j) ≤ cst (a.drop i) (b.drop (j + 1)))) : stp (a.drop i) (b.drop j) = .put ((b[j]?).getD 0) :: stp (a.drop i) (b.drop (j + 1)) := by
 by_cases hi : i < a.length
 ·
  have hne : ¬ a[i] = b[j] := fun e => h1 ⟨hi, by rw [List.getElem?_eq_getElem hi, List.getElem?_eq_getElem hj, e]⟩
  have hle : ¬ cst (a.drop (i + 1)) (b.drop j) ≤ cst (a.drop i) (b.drop (j + 1)) := fun h => h2 ⟨hi, h⟩
  rw [drop_cons hj, drop_cons hi] at hle
  rw [drop_cons hi, drop_cons hj, stp_cons, if_neg hne, if_neg hle, List.getElem?_eq_getElem hj]; rfl
 ·
  rw [List.drop_of_length_le (l := a) om_, stp_nil, stp_nil, drop_cons hj, List.map_cons, List.getElem?_eq_getElem hj]; rfl
def mkErr (a b : List UInt8) : Nat := if 1000 < a.length ∨ 1000 < b.length then 3 else 0
def mkE (a b : List UInt8) : List EdD := if 1000 < a.length ∨ 1000 < b.length then [] else scriptE a b
structure MkAt (a b : List UInt8) (i j : Nat) (l : List EdD) : Prop where
 hi : i ≤ a.length
 hj : j ≤ b.length
 rest : (stp (a.drop i) (b.drop j)).foldl addE l = scriptE a b
 bd : BdE l (i + j)
 len : l.length ≤ i + j
theorem MkAt.start (a b : List UInt8) : MkAt a b 0 0 [] := ⟨Nat.zero_le _, Nat.zero_le _, by simp [scriptE], (fun x h => by cases h), Nat.le_refl _⟩
theorem MkAt.keep {a b : List UInt8} {i j : Nat} {l : List EdD} (h : MkAt a b i j l) (hi : i < a.length) (hj : j < b.length) (he : (a[i]?).getD 0 = (b[j]?).getD 0) : MkAt a b (i + 1) (j + 1) (addE l .keep) :=
 ⟨hi, hj, by have := h.rest; rwa [stepK hi hj he, List.foldl_cons] at this, fun x hx => by have := h.bd.add .keep x hx; omega, by have h1 := addE_length l .keep; have h2 := (openE_length l (Stp.keep).kind).1; have := h.len; omega⟩
theorem MkAt.cut {a b : List UInt8} {i j : Nat} {l : List EdD} (h : MkAt a b i j l) (hi : i < a.length) (h1 : ¬ (j < b.length ∧ (a[i]?).getD 0 = (b[j]?).getD 0)) (h2 : b.length ≤ j ∨ cst (a.drop (i + 1)) (b.drop j) ≤ cst (a.drop i) (b.drop (j + 1))) : MkAt a b (i + 1) j (addE l .cut) :=
 ⟨hi, h.hj, by have := h.rest; rwa [stepC hi h1 h2, List.foldl_cons] at this, fun x hx => by have := h.bd.add .cut x hx; omega, by have h1 := addE_length l .cut; have h2 := (openE_length l (Stp.cut).kind).1; have := h.len; omega⟩
theorem MkAt.put {a b : List UInt8} {i j : Nat} {l : List EdD} (h : MkAt a b i j l) (hj : j < b.length) (h1 : ¬ (i < a.length ∧ (a[i]?).getD 0 = (b[j]?).getD 0)) (h2 : ¬ (i < a.length ∧ cst (a.drop (i + 1)) (b.drop j) ≤ cst (a.drop i) (b.drop (j + 1)))) : MkAt a b i (j + 1) (addE l (.put ((b[j]?).getD 0))) :=
 ⟨h.hi, hj, by have := h.rest; rwa [stepP hj h1 h2, List.foldl_cons] at this, fun x hx => by have := h.bd.add (.put ((b[j]?).getD 0)) x hx; omega, by have h1 := addE_length l (.put ((b[j]?).getD 0)); have h2 := (openE_length l (Stp.put ((b[j]?).getD 0)).kind).1; have := h.len; omega⟩
theorem MkAt.fin {a b : List UInt8} {l : List EdD} (h : MkAt a b a.length b.length l) : l = scriptE a b := by
 have := h.rest
 rw [List.drop_length, List.drop_length] at this
 exact this
end Go.Fw
namespace Go.Proofs.YtmehkigmnpjcjaaDoor
open Go.RowKit Go.Fw Go.Fu Go.Pl
set_option maxRecDepth 100000 in
set_option maxHeartbeats 4000000 in
theorem fmake_any (a b : List UInt8) (w : World) (ha : a.length < 4611686018427387904) (hb : b.length < 4611686018427387904) : Calls Tryd.prog 29 #[.string (bs a), .string (bs b)] w (Ret fun v w' => ∃ u, v = .tuple #[u, .int .i64 (mkErr a b : Int)] ∧ Own w' TE 3 u (edL (mkE a b)) ∧ (∀ q, u.ownBlock = some q → w.heap.size ≤ q) ∧ Ext w w') := by
 have hsa := bs_size a
 have hsb := bs_size b
 refine calls_of_CW 103 [4, 5] [(0, .string (bs a)), (1, .string (bs b))] Tryd.func29 rfl rfl rfl (by simp) args2 ?_
 have hE : Ext w w := Chg.refl
 refine CW.sr fun K1 hK1 => ?_
 refine WL.a rfl ?_
 refine WL.a rfl ?_
 refine WL.nil (hK1 _ _ ?_); try clear hK1
 refine CW.seq fun K2 hK2 => ?_
 refine CW.seq_test 18 ((1000 : Int) < ((bs a).size : Int) ∨ (1000 : Int) < ((bs b).size : Int)) ?_ ?_
 ·
  refine CW.region ?_
  refine WL.m rfl ?_
  refine WL.v (Y.len_string Tryd.underlying9 rfl) ?_
  refine WL.v (Y.gtr rfl rfl) ?_
  refine WL.m rfl ?_
  (first | refine WL.casesD (d := 14) rfl ?_ ?_ | refine WL.casesND (d := 14) rfl ?_ ?_ | refine WL.cases (d := 14) rfl ?_ ?_) <;> intro hg14
  ·
   -- t14 = T
   refine WL.o rfl rfl ?_
   refine WL.o rfl rfl ?_
   refine WL.o rfl rfl ?_
   refine WL.v (Y.pick rfl rfl) ?_
   refine WL.nil ⟨⟨_, rfl, ?_⟩, rfl, Fr.okp⟩
   exact tst_ok
  ·
   -- t14 = F
   refine WL.g rfl rfl (Y.move rfl) ?_
   refine WL.g rfl rfl (Y.len_string Tryd.underlying9 rfl) ?_
   refine WL.g rfl rfl (Y.gtr rfl rfl) ?_
   refine WL.v (Y.pick rfl rfl) ?_
   refine WL.nil ⟨⟨_, rfl, ?_⟩, rfl, Fr.okp⟩
   exact tst_ok
 (first | refine cd_ rfl ?_ ?_ | refine ce_ rfl ?_ ?_ | refine cn_ rfl ?_ ?_ | refine cb_ rfl ?_ ?_) <;> intro ht3
 ·
  -- then
  refine CW.sr fun K4 hK4 => ?_
  refine WL.a rfl ?_
  refine WL.a rfl ?_
  refine WL.nil (hK4 _ _ ?_); try clear hK4
  refine CW.ret ⟨_, rfl, ?_⟩
  have ht9 : (1000 : Int) < ((bs a).size : Int) ∨ (1000 : Int) < ((bs b).size : Int) := by assumption
  have hbig : 1000 < a.length ∨ 1000 < b.length := by omega
  exact ⟨.slice none 0 0, by rw [mkErr, if_pos hbig]; rfl, by rw [mkE, if_pos hbig]; exact Own.nil, (fun q h => by simp [Value.ownBlock] at h), hE⟩
 refine CW.skip ?_
 refine hK2 _ _ ?_; try clear hK2
 refine CW.sr fun K5 hK5 => ?_
 refine WL.m rfl ?_
 refine WL.m rfl ?_
 refine WL.call Tryd.func53 rfl rfl rfl (costs_any a b _ om_ om_) (by simp) ?_; rintro v21 w1 hR1
 obtain ⟨hTab, hx1⟩ := hR1
 have hz1 := hx1.size
 have hE := hE.thenExt hx1
 obtain ⟨tA, tc, rfl, hrow⟩ := id hTab
 have hsm : ¬ (1000 < a.length ∨ 1000 < b.length) := by omega
 refine WL.a rfl ?_
 refine WL.nil (hK5 _ _ ?_); try clear hK5
 refine CW.sr fun K6 hK6 => ?_
 refine WL.alloc1 (z := .slice none 0 0) kr_ rfl de_ fun g7 w2 hx2 hg7 hB7 => ?_
 have hlt7 := hB7.lt; have hz2 := hx2.size
 have hM7 := hB7.mem; have hz2 := hx2.size; have hE := hE.thenExt hx2
 refine WL.nil (hK6 _ _ ?_); try clear hK6
 refine CW.sr fun K7 hK7 => ?_
 refine WL.v (Y.makeFunc rfl) ?_
 refine WL.a rfl ?_
 refine WL.nil (hK7 _ _ ?_); try clear hK7
 refine CW.sr fun K8 hK8 => ?_
 refine WL.a rfl ?_
 refine WL.a rfl ?_
 refine WL.nil (hK8 _ _ ?_); try clear hK8
 refine CW.seq fun K9 hK9 => ?_
 refine CW.block ?_
 refine CW.loop (X := Nat × Nat × List EdD × Value) (fun x => [(0, .string (bs a)), (1, .string (bs b)), (6, .slice (some tA) (a.length + 1) tc), (7, .pointer (some ⟨g7, 0, none⟩)), (8, .func (.func 54) #[] #[.pointer (some ⟨g7, 0, none⟩)]), (9, .int .i64 (x.1 : Int)), (10, .int .i64 (x.2.1 : Int))]) (fun x w0 => Blk w0 g7 TSE [x.2.2.2] ∧ MkAt a b x.1 x.2.1 x.2.2.1 ∧ Own w0 TE 3 x.2.2.2 (edL x.2.2.1) ∧ (∀ q, x.2.2.2.ownBlock = some q → w1.heap.size ≤ q) ∧ Chg (fun q => w1.heap.size ≤ q) w1 w0 ∧ Ext w w0) (fun x => (a.length - x.1) + (b.length - x.2.1)) (0, 0, [], .slice none 0 0) Fr.ok ⟨hB7, MkAt.start a b, Own.nil, (fun q h => by simp [Value.ownBlock] at h), Ext.chg hx2, hE⟩ ?_
 intro x w3 hl3
 obtain ⟨i, j, l, u⟩ := x
 dsimp only at hl3 ⊢
 obtain ⟨hB7, hM, hO, hfu, hC, hE⟩ := hl3
 have hTab2 := hTab.far hC (fun k h => h)
 obtain ⟨tA2, tc2, hte, hrow2⟩ := id hTab2
 injection hte with hte _ _
 injection hte with hte
 subst hte
 have hmi := hM.hi
 have hmj := hM.hj
 have hml := hM.len
 have hzc := hC.size
 have hlt7 := hB7.lt
 refine CW.seq fun K10 hK10 => ?_
 refine CW.seq_test 32 ((i : Int) < ((bs a).size : Int) ∨ (j : Int) < ((bs b).size : Int)) ?_ ?_
 ·
  refine CW.region ?_
  refine WL.m rfl ?_
  refine WL.m rfl ?_
  refine WL.v (Y.len_string Tryd.underlying9 rfl) ?_
  refine WL.v (Y.lss rfl rfl) ?_
  refine WL.m rfl ?_
  (first | refine WL.casesD (d := 27) rfl ?_ ?_ | refine WL.casesND (d := 27) rfl ?_ ?_ | refine WL.cases (d := 27) rfl ?_ ?_) <;> intro hg27
  ·
   -- t27 = T
   refine WL.o rfl rfl ?_
   refine WL.o rfl rfl ?_
   refine WL.o rfl rfl ?_
   refine WL.o rfl rfl ?_
   refine WL.v (Y.pick rfl rfl) ?_
   refine WL.nil ⟨⟨_, rfl, ?_⟩, rfl, Fr.okp⟩
   exact tst_ok
  ·
   -- t27 = F
   refine WL.g rfl rfl (Y.move rfl) ?_
   refine WL.g rfl rfl (Y.move rfl) ?_
   refine WL.g rfl rfl (Y.len_string Tryd.underlying9 rfl) ?_
   refine WL.g rfl rfl (Y.lss rfl rfl) ?_
   refine WL.v (Y.pick rfl rfl) ?_
   refine WL.nil ⟨⟨_, rfl, ?_⟩, rfl, Fr.okp⟩
   exact tst_ok
 (first | refine cd_ rfl ?_ ?_ | refine ce_ rfl ?_ ?_ | refine cn_ rfl ?_ ?_ | refine cb_ rfl ?_ ?_) <;> intro ht11
 ·
  -- then
  refine CW.skip ?_
  refine hK10 _ _ ?_; try clear hK10
  refine CW.block ?_
  refine CW.block ?_
  refine CW.seq_testE 42 (((i : Int) < ((bs a).size : Int) ∧ (j : Int) < ((bs b).size : Int)) ∧ (((a[i]?).getD 0).toNat : Int) = (((b[j]?).getD 0).toNat : Int)) ?_ ?_
  ·
   refine CW.quiet (fun wq => Ext w3 wq) kr_ kr_ Chg.drew ?_
   refine QL.m rfl ?_
   refine QL.m rfl ?_
   refine QL.v (fun wq hq => Y.len_string Tryd.underlying9 rfl) ?_
   refine QL.v (fun wq hq => Y.lss rfl rfl) ?_
   refine QL.m rfl ?_
   (first | refine QL.casesD (d := 47) rfl ?_ ?_ | refine QL.casesND (d := 47) rfl ?_ ?_ | refine QL.cases (d := 47) rfl ?_ ?_) <;> intro hg47
   ·
    -- t47 = T
    refine QL.g rfl rfl (fun wq hq => Y.move rfl) ?_
    refine QL.g rfl rfl (fun wq hq => Y.move rfl) ?_
    refine QL.g rfl rfl (fun wq hq => Y.len_string Tryd.underlying9 rfl) ?_
    refine QL.g rfl rfl (fun wq hq => Y.lss rfl rfl) ?_
    refine QL.v (fun wq hq => Y.pick rfl rfl) ?_
    refine QL.m rfl ?_
    (first | refine QL.casesD (d := 53) rfl ?_ ?_ | refine QL.casesND (d := 53) rfl ?_ ?_ | refine QL.cases (d := 53) rfl ?_ ?_) <;> intro hg53
    ·
     -- t53 = T
     refine QL.g rfl rfl (fun wq hq => Y.move rfl) ?_
     refine QL.g rfl rfl (fun wq hq => Y.move rfl) ?_
     refine QL.g rfl rfl (fun wq hq => Y.index_string (i := i) (s := bs a) Tryd.underlying9 rfl rfl om_) ?_
     rw [bsG]
     refine QL.g rfl rfl (fun wq hq => Y.move rfl) ?_
     refine QL.g rfl rfl (fun wq hq => Y.move rfl) ?_
     refine QL.g rfl rfl (fun wq hq => Y.index_string (i := j) (s := bs b) Tryd.underlying9 rfl rfl om_) ?_
     rw [bsG]
     refine QL.g rfl rfl (fun wq hq => Y.eql rfl rfl) ?_
     refine QL.v (fun wq hq => Y.pick rfl rfl) ?_
     refine QL.a rfl ?_
     refine QL.nil fun wq hq => ⟨⟨_, rfl, ?_⟩, hq, Fr.okp⟩
     exact tst_ok
    ·
     -- t53 = F
     refine QL.o rfl rfl ?_
     refine QL.o rfl rfl ?_
     refine QL.o rfl rfl ?_
     refine QL.o rfl rfl ?_
     refine QL.o rfl rfl ?_
     refine QL.o rfl rfl ?_
     refine QL.o rfl rfl ?_
     refine QL.v (fun wq hq => Y.pick rfl rfl) ?_
     refine QL.a rfl ?_
     refine QL.nil fun wq hq => ⟨⟨_, rfl, ?_⟩, hq, Fr.okp⟩
     exact tst_ok
   ·
    -- t47 = F
    refine QL.o rfl rfl ?_
    refine QL.o rfl rfl ?_
    refine QL.o rfl rfl ?_
    refine QL.o rfl rfl ?_
    refine QL.v (fun wq hq => Y.pick rfl rfl) ?_
    refine QL.m rfl ?_
    refine QL.o rfl rfl ?_
    refine QL.o rfl rfl ?_
    refine QL.o rfl rfl ?_
    refine QL.o rfl rfl ?_
    refine QL.o rfl rfl ?_
    refine QL.o rfl rfl ?_
    refine QL.o rfl rfl ?_
    refine QL.v (fun wq hq => Y.pick rfl rfl) ?_
    refine QL.a rfl ?_
    refine QL.nil fun wq hq => ⟨⟨_, rfl, ?_⟩, hq, Fr.okp⟩
    exact tst_ok
  intro w4 hx4; have hz4 := hx4.size; have hE := hE.thenExt hx4; have hB7 := hB7.ext hx4
  (first | refine cd_ rfl ?_ ?_ | refine ce_ rfl ?_ ?_ | refine cn_ rfl ?_ ?_ | refine cb_ rfl ?_ ?_) <;> intro ht12
  ·
   -- then
   refine CW.sr fun K13 hK13 => ?_
   refine WL.m rfl ?_
   refine WL.callV rfl Tryd.func54 rfl rfl rfl (fadd1_any g7 u l (i + j) .keep _ hB7 (hO.ext hx4) om_ hM.bd om_) (by simp) ?_; rintro v63 w5 hR5
   obtain ⟨u2, hB7, hO2, hf2, hc5⟩ := hR5
   have hz5 := hc5.size
   have hfr2 : ∀ q, u2.ownBlock = some q → w1.heap.size ≤ q := fun q hq => by
    rcases hf2 q hq with h | h
    ·
     exact hfu q h
    ·
     omega
   have hCC : Chg (fun q => w1.heap.size ≤ q) w1 w5 := (hC.thenExt hx4).trans hc5 (fun q _ h => by rcases h with h | h; omega; exact hfu q h)
   have hE := hE.step hc5 (fun q h => by rcases h with h | h; omega; have := hfu q h; omega)
   refine WL.nil (hK13 _ _ ?_); try clear hK13
   refine CW.sr fun K14 hK14 => ?_
   refine WL.m rfl ?_
   refine WL.v (Y.add rfl rfl o2_) ?_
   refine WL.a rfl ?_
   refine WL.nil (hK14 _ _ ?_); try clear hK14
   refine CW.region ?_
   refine WL.m rfl ?_
   refine WL.v (Y.add rfl rfl o2_) ?_
   refine WL.a rfl ?_
   refine WL.nil ?_
   have ht : ((i : Int) < ((bs a).size : Int) ∧ (j : Int) < ((bs b).size : Int)) ∧ (((a[i]?).getD 0).toNat : Int) = (((b[j]?).getD 0).toNat : Int) := by assumption
   exact ⟨(i + 1, j + 1, addE l .keep, u2), (by show (a.length - (i + 1)) + (b.length - (j + 1)) < (a.length - i) + (b.length - j); omega), Fr.ok, hB7, hM.keep om_ om_ (UInt8.toNat_inj.1 om_), hO2, hfr2, hCC, hE⟩
  refine CW.seq_testE 68 ((i : Int) < ((bs a).size : Int) ∧ ((j : Int) = ((bs b).size : Int) ∨ (cst (a.drop (i + 1)) (b.drop j) : Int) ≤ (cst (a.drop i) (b.drop (j + 1)) : Int))) ?_ ?_
  ·
   refine CW.quiet (fun wq => Ext w4 wq) kr_ kr_ Chg.drew ?_
   refine QL.m rfl ?_
   refine QL.m rfl ?_
   refine QL.v (fun wq hq => Y.len_string Tryd.underlying9 rfl) ?_
   refine QL.v (fun wq hq => Y.lss rfl rfl) ?_
   refine QL.m rfl ?_
   (first | refine QL.casesD (d := 73) rfl ?_ ?_ | refine QL.casesND (d := 73) rfl ?_ ?_ | refine QL.cases (d := 73) rfl ?_ ?_) <;> intro hg73
   ·
    -- t73 = T
    refine QL.g rfl rfl (fun wq hq => Y.move rfl) ?_
    refine QL.g rfl rfl (fun wq hq => Y.move rfl) ?_
    refine QL.g rfl rfl (fun wq hq => Y.len_string Tryd.underlying9 rfl) ?_
    refine QL.g rfl rfl (fun wq hq => Y.eql rfl rfl) ?_
    refine QL.g rfl rfl (fun wq hq => Y.move rfl) ?_
    (first | refine QL.casesD (d := 78) rfl ?_ ?_ | refine QL.casesND (d := 78) rfl ?_ ?_ | refine QL.cases (d := 78) rfl ?_ ?_) <;> intro hg78
    ·
     -- t78 = T
     refine QL.o rfl rfl ?_
     refine QL.o rfl rfl ?_
     refine QL.o rfl rfl ?_
     refine QL.o rfl rfl ?_
     refine QL.o rfl rfl ?_
     refine QL.o rfl rfl ?_
     refine QL.o rfl rfl ?_
     refine QL.o rfl rfl ?_
     refine QL.o rfl rfl ?_
     refine QL.o rfl rfl ?_
     refine QL.o rfl rfl ?_
     refine QL.o rfl rfl ?_
     refine QL.o rfl rfl ?_
     refine QL.o rfl rfl ?_
     refine QL.o rfl rfl ?_
     refine QL.o rfl rfl ?_
     refine QL.o rfl rfl ?_
     refine QL.g rfl rfl (fun wq hq => Y.pick rfl rfl) ?_
     refine QL.v (fun wq hq => Y.pick rfl rfl) ?_
     refine QL.a rfl ?_
     refine QL.nil fun wq hq => ⟨⟨_, rfl, ?_⟩, hq, Fr.okp⟩
     exact tst_ok
    ·
     -- t78 = F
     obtain ⟨r1, k1, hm1, hc1⟩ := hrow2 (i + 1) om_
     obtain ⟨r0, k0, hm0, hc0⟩ := hrow2 i om_
     have hm1 := hm1.ext hx4
     have hm0 := hm0.ext hx4
     have hc1 := fun j h => (hc1 j h).ext hx4
     have hc0 := fun j h => (hc0 j h).ext hx4
     refine QL.g rfl rfl (fun wq hq => Y.move rfl) ?_
     refine QL.g rfl rfl (fun wq hq => Y.move rfl) ?_
     refine QL.g rfl rfl (fun wq hq => Y.add rfl rfl o2_) ?_
     refine QL.g rfl rfl (fun wq hq => Y.indexAddrN Tryd.underlying130 rfl rfl sz0_sint16 om_ (i := i + 1)) ?_
     refine QL.g rfl rfl (fun wq hq => Y.load1 Tryd.underlying134 rfl ((hm1.ext hq).cell0) rfl) ?_
     refine QL.g rfl rfl (fun wq hq => Y.move rfl) ?_
     refine QL.g rfl rfl (fun wq hq => Y.indexAddrN Tryd.underlying134 rfl rfl sz0_int16 om_) ?_
     refine QL.g rfl rfl (fun wq hq => Y.load1 Tryd.underlying133 rfl ((hc1 j om_).ext hq).cell0 rfl) ?_
     refine QL.g rfl rfl (fun wq hq => Y.move rfl) ?_
     refine QL.g rfl rfl (fun wq hq => Y.move rfl) ?_
     refine QL.g rfl rfl (fun wq hq => Y.indexAddrN Tryd.underlying130 rfl rfl sz0_sint16 om_) ?_
     refine QL.g rfl rfl (fun wq hq => Y.load1 Tryd.underlying134 rfl ((hm0.ext hq).cell0) rfl) ?_
     refine QL.g rfl rfl (fun wq hq => Y.move rfl) ?_
     refine QL.g rfl rfl (fun wq hq => Y.add rfl rfl o2_) ?_
     refine QL.g rfl rfl (fun wq hq => Y.indexAddrN Tryd.underlying134 rfl rfl sz0_int16 om_ (i := j + 1)) ?_
     refine QL.g rfl rfl (fun wq hq => Y.load1 Tryd.underlying133 rfl ((hc0 (j + 1) om_).ext hq).cell0 rfl) ?_
     refine QL.g rfl rfl (fun wq hq => Y.leq rfl rfl) ?_
     refine QL.g rfl rfl (fun wq hq => Y.pick rfl rfl) ?_
     refine QL.v (fun wq hq => Y.pick rfl rfl) ?_
     refine QL.a rfl ?_
     refine QL.nil fun wq hq => ⟨⟨_, rfl, ?_⟩, hq, Fr.okp⟩
     exact tst_ok
   ·
    -- t73 = F
    refine QL.o rfl rfl ?_
    refine QL.o rfl rfl ?_
    refine QL.o rfl rfl ?_
    refine QL.o rfl rfl ?_
    refine QL.o rfl rfl ?_
    refine QL.goffU rfl rfl de_ ?_
    refine QL.goffU rfl rfl de_ ?_
    refine QL.goffU rfl rfl de_ ?_
    refine QL.goffU rfl rfl de_ ?_
    refine QL.goffU rfl rfl de_ ?_
    refine QL.goffU rfl rfl de_ ?_
    refine QL.goffU rfl rfl de_ ?_
    refine QL.goffU rfl rfl de_ ?_
    refine QL.goffU rfl rfl de_ ?_
    refine QL.goffU rfl rfl de_ ?_
    refine QL.goffU rfl rfl de_ ?_
    refine QL.goffU rfl rfl de_ ?_
    refine QL.goffU rfl rfl de_ ?_
    refine QL.goffU rfl rfl de_ ?_
    refine QL.goffU rfl rfl de_ ?_
    refine QL.goffU rfl rfl de_ ?_
    refine QL.goffU rfl rfl de_ ?_
    refine QL.o rfl rfl ?_
    refine QL.v (fun wq hq => Y.pick rfl rfl) ?_
    refine QL.a rfl ?_
    refine QL.nil fun wq hq => ⟨⟨_, rfl, ?_⟩, hq, Fr.okp⟩
    exact tst_ok
  intro w6 hx6; have hz6 := hx6.size; have hE := hE.thenExt hx6; have hB7 := hB7.ext hx6
  (first | refine cd_ rfl ?_ ?_ | refine ce_ rfl ?_ ?_ | refine cn_ rfl ?_ ?_ | refine cb_ rfl ?_ ?_) <;> intro ht15
  ·
   -- then
   refine CW.sr fun K16 hK16 => ?_
   refine WL.m rfl ?_
   refine WL.callV rfl Tryd.func54 rfl rfl rfl (fadd1_any g7 u l (i + j) .cut _ hB7 (hO.ext (hx4.thenExt hx6)) om_ hM.bd om_) (by simp) ?_; rintro v99 w7 hR7
   obtain ⟨u2, hB7, hO2, hf2, hc7⟩ := hR7
   have hz7 := hc7.size
   have hfr2 : ∀ q, u2.ownBlock = some q → w1.heap.size ≤ q := fun q hq => by
    rcases hf2 q hq with h | h
    ·
     exact hfu q h
    ·
     omega
   have hCC : Chg (fun q => w1.heap.size ≤ q) w1 w7 := (hC.thenExt (hx4.thenExt hx6)).trans hc7 (fun q _ h => by rcases h with h | h; omega; exact hfu q h)
   have hE := hE.step hc7 (fun q h => by rcases h with h | h; omega; have := hfu q h; omega)
   refine WL.nil (hK16 _ _ ?_); try clear hK16
   refine CW.region ?_
   refine WL.m rfl ?_
   refine WL.v (Y.add rfl rfl o2_) ?_
   refine WL.a rfl ?_
   refine WL.nil ?_
   have hn : ¬ (((i : Int) < ((bs a).size : Int) ∧ (j : Int) < ((bs b).size : Int)) ∧ (((a[i]?).getD 0).toNat : Int) = (((b[j]?).getD 0).toNat : Int)) := by assumption
   have ht : (i : Int) < ((bs a).size : Int) ∧ ((j : Int) = ((bs b).size : Int) ∨ (cst (a.drop (i + 1)) (b.drop j) : Int) ≤ (cst (a.drop i) (b.drop (j + 1)) : Int)) := by assumption
   exact ⟨(i + 1, j, addE l .cut, u2), (by show (a.length - (i + 1)) + (b.length - (j)) < (a.length - i) + (b.length - j); omega), Fr.ok, hB7, hM.cut om_ (fun h => hn ⟨o2_, by rw [h.2]⟩) om_, hO2, hfr2, hCC, hE⟩
  refine CW.sr fun K17 hK17 => ?_
  refine WL.m rfl ?_
  refine WL.m rfl ?_
  refine WL.m rfl ?_
  refine WL.m rfl ?_
  refine WL.v (Y.add rfl rfl o2_) ?_
  refine WL.v (Y.slice_str (i := j) (j := j + 1) Tryd.underlying9 rfl rfl rfl rfl rfl om_ om_) ?_
  rw [bs_one om_]
  refine WL.callV rfl Tryd.func54 rfl rfl rfl (fadd1_any g7 u l (i + j) (.put ((b[j]?).getD 0)) _ hB7 (hO.ext (hx4.thenExt hx6)) om_ hM.bd om_) (by simp) ?_; rintro v39 w8 hR8
  obtain ⟨u2, hB7, hO2, hf2, hc8⟩ := hR8
  have hz8 := hc8.size
  have hfr2 : ∀ q, u2.ownBlock = some q → w1.heap.size ≤ q := fun q hq => by
   rcases hf2 q hq with h | h
   ·
    exact hfu q h
   ·
    omega
  have hCC : Chg (fun q => w1.heap.size ≤ q) w1 w8 := (hC.thenExt (hx4.thenExt hx6)).trans hc8 (fun q _ h => by rcases h with h | h; omega; exact hfu q h)
  have hE := hE.step hc8 (fun q h => by rcases h with h | h; omega; have := hfu q h; omega)
  refine WL.nil (hK17 _ _ ?_); try clear hK17
  refine CW.region ?_
  refine WL.m rfl ?_
  refine WL.v (Y.add rfl rfl o2_) ?_
  refine WL.a rfl ?_
  refine WL.nil ?_
  have hn : ¬ (((i : Int) < ((bs a).size : Int) ∧ (j : Int) < ((bs b).size : Int)) ∧ (((a[i]?).getD 0).toNat : Int) = (((b[j]?).getD 0).toNat : Int)) := by assumption
  have hn2 : ¬ ((i : Int) < ((bs a).size : Int) ∧ ((j : Int) = ((bs b).size : Int) ∨ (cst (a.drop (i + 1)) (b.drop j) : Int) ≤ (cst (a.drop i) (b.drop (j + 1)) : Int))) := by assumption
  exact ⟨(i, j + 1, addE l (.put ((b[j]?).getD 0)), u2), (by show (a.length - (i)) + (b.length - (j + 1)) < (a.length - i) + (b.length - j); omega), Fr.ok, hB7, hM.put om_ (fun h => hn ⟨o2_, by rw [h.2]⟩) (fun h => hn2 ⟨by omega, .inr om_⟩), hO2, hfr2, hCC, hE⟩
 refine CW.exit ?_
 refine hK9 _ _ ?_; try clear hK9
 refine CW.sr fun K18 hK18 => ?_
 refine WL.v (Y.load1 Tryd.underlying86 rfl hB7.mem.cell0 rfl) ?_
 refine WL.a rfl ?_
 refine WL.a rfl ?_
 refine WL.nil (hK18 _ _ ?_); try clear hK18
 refine CW.ret ⟨_, rfl, ?_⟩
 have hn0 : ¬ ((i : Int) < ((bs a).size : Int) ∨ (j : Int) < ((bs b).size : Int)) := by assumption
 have ei : i = a.length := by omega
 have ej : j = b.length := by omega
 subst ei; subst ej
 have hfin := hM.fin
 subst hfin
 exact ⟨u, by rw [mkErr, if_neg hsm]; rfl, by rw [mkE, if_neg hsm]; exact hO, (fun q hq => by have := hfu q hq; omega), hE⟩
end Go.Proofs.YtmehkigmnpjcjaaDoor
/- The plain law of EditGrows: a history with the commit behind it that makes a text of one of its versions. No condition; no program run. -/
namespace Go.Proofs.YtmehkigmnpjcjaaDoor
open Go.Fw Go.Pl Go.Fu
theorem hread_app : ∀ {r s Q : List ComD}, HOk (Q ++ r) → hread (r ++ s) Q = hread s (Q ++ r)
 | [], s, Q, _ => by simp
 | x :: r, s, Q, h => by
  have h1 := h Q.length x (by rw [List.getElem?_append_right (Nat.le_refl _)]; simp)
  rw [List.take_append_of_le_length (Nat.le_refl _), List.take_length] at h1
  rw [List.cons_append, hread, if_pos (hErr_ok.2 h1), hread_app (by simpa using h)]
  simp
theorem rdH_snoc {P : List ComD} {c : ComD} (hk : HOk P) (hm : hErr P c = 0 ∨ hErr P c = 6) : (rdH (P ++ [c])).2 = 0 ∨ rdH (P ++ [c]) = (P.length, 6) ∨ rdH (P ++ [c]) = (0, 4) := by
 unfold rdH
 split
 ·
  exact .inr (.inr rfl)
 ·
  rw [hread_app (Q := []) (by simpa using hk), List.nil_append, hread]
  rcases hm with h | h
  ·
   rw [if_pos h]; exact .inl rfl
  ·
   rw [if_neg om_, h]; exact .inr (.inl rfl)
noncomputable def ecE (P : List ComD) (ids : List Dig) (au no : ByteArray) (b : List UInt8) : Int :=
 if mgE P ids [] ≠ 0 then mgE P ids [] else if nameB au.toList = false then 11 else if 200 < no.size then 3 else (mkErr (txL P ids) b : Int)
noncomputable def ecC (P : List ComD) (ids : List Dig) (au no : ByteArray) (b : List UInt8) : ComD := ⟨mgL P ids [], au, no, opsE (trH P ids).e b⟩
noncomputable def ecR (P : List ComD) (ids : List Dig) (au no : ByteArray) (b : List UInt8) : ComD := if ecE P ids au no b = 0 then ecC P ids au no b else nilC
structure EcOk (P : List ComD) (ids : List Dig) (au no : ByteArray) (b : List UInt8) : Prop where
 mg : mgE P ids [] = 0
 name : nameB au.toList = true
 note : no.size ≤ 200
 err : mkErr (txL P ids) b = 0
theorem ecE_ok {P : List ComD} {ids : List Dig} {au no : ByteArray} {b : List UInt8} (h : ecE P ids au no b = 0) : EcOk P ids au no b := by
 unfold ecE at h
 split at h
 ·
  rename_i h1; exact absurd h h1
 rename_i h1
 split at h
 ·
  exact absurd h de_
 rename_i h2
 split at h
 ·
  exact absurd h de_
 rename_i h3
 exact ⟨Decidable.not_not.1 h1, by simpa using h2, by omega, by omega⟩
section
variable {P : List ComD} {ids : List Dig} {au no : ByteArray} {b : List UInt8}
theorem ec_tx (h : mgE P ids [] = 0) : txE P ids = 0 := by
 have := (mgE_ok.1 h).1
 rwa [List.append_nil] at this
theorem ec_par (h : mgE P ids [] = 0) : mgL P ids [] = hdL (ndsH P) ids := by rw [mgL, if_pos h, List.append_nil]
theorem ec_txL (h : mgE P ids [] = 0) : txL P ids = textE (trH P ids).e := by rw [txL, if_pos (ec_tx h)]
theorem ec_len (h : EcOk P ids au no b) : (opsE (trH P ids).e b).length ≤ 2000 := by
 have h1 := h.err
 rw [mkErr] at h1
 rw [ops_length]
 have h2 := cst_le (textE (trH P ids).e) b
 rw [← ec_txL h.mg] at h2 ⊢
 split at h1
 ·
  cases h1
 ·
  omega
theorem ec_right (h : EcOk P ids au no b) {j : Nat} {x : OpD} (hx : (opsE (trH P ids).e b)[j]? = some x) : wrongAt (trH P ids).e (opsE (trH P ids).e b) j x = 0 := by
 obtain ⟨hl, hk, hin⟩ := txE_ok.1 (ec_tx h.mg)
 exact wrongN_get (ops_right (trH_ok hk hl ids) b) hx
theorem ec_may (h : EcOk P ids au no b) : mayI (ecC P ids au no b) = 0 := by
 obtain ⟨hl, hk, hin⟩ := txE_ok.1 (ec_tx h.mg)
 have hp := ec_par h.mg
 refine mayOk_i ⟨?_, ?_, h.name, h.note, ec_len h, fun j hj => ?_⟩
 ·
  show (mgL P ids []).length ≤ 8
  rw [hp]
  have := (mgE_ok.1 h.mg).2
  rwa [List.append_nil] at this
 ·
  show risingB (mgL P ids []) = true
  rw [hp]
  refine (rising_iff _).2 fun i x y hx hy => ?_
  obtain ⟨h1, rfl⟩ := List.getElem?_eq_some_iff.1 hx
  obtain ⟨h2, rfl⟩ := List.getElem?_eq_some_iff.1 hy
  exact List.pairwise_iff_getElem.1 (heads_up (hk.nodes hl)) i (i + 1) h1 h2 om_
 ·
  obtain ⟨x, hx⟩ : ∃ x, (opsE (trH P ids).e b)[j]? = some x := ⟨_, List.getElem?_eq_getElem hj⟩
  have hw := ec_right h hx
  show rightI (opsE (trH P ids).e b) ((j : Int) + 1) = 0
  by_cases h0 : rightI (opsE (trH P ids).e b) ((j : Int) + 1) = 0
  ·
   exact h0
  ·
   rw [wrongAt, if_pos h0] at hw; exact absurd hw h0
theorem ec_in (h : EcOk P ids au no b) : ∀ p ∈ (ecC P ids au no b).parents, p ∈ idsH P := fun p hp => by
 obtain ⟨hl, hk, hin⟩ := txE_ok.1 (ec_tx h.mg)
 have hp : p ∈ mgL P ids [] := hp
 rw [ec_par h.mg] at hp
 exact hin p (hdL_sub (hk.nodes hl) (hin_of (ec_tx h.mg)) hp)
theorem ec_err (h : EcOk P ids au no b) : hErr P (ecC P ids au no b) = 0 ∨ hErr P (ecC P ids au no b) = 6 := by
 obtain ⟨hl, hk, hin⟩ := txE_ok.1 (ec_tx h.mg)
 have hm := ec_may h
 by_cases hd : idD (ecC P ids au no b) ∈ idsH P
 ·
  right; unfold hErr; rw [if_neg om_, if_pos hd]
 left
 refine hErr_ok.2 ⟨hm, hd, ec_in h, fun x hx hr => ?_⟩
 have hT := trH_ok hk hl ids
 obtain ⟨j, hj⟩ := List.mem_iff_getElem?.1 (show x ∈ opsE (trH P ids).e b from hx)
 have hw := ec_right h hj
 have hr0 : rightI (opsE (trH P ids).e b) ((j : Int) + 1) = 0 := by
  by_cases h0 : rightI (opsE (trH P ids).e b) ((j : Int) + 1) = 0
  ·
   exact h0
  ·
   rw [wrongAt, if_pos h0] at hw; exact absurd hw h0
 have hat : atE (trH P ids).e x.at_ ≠ none := fun hn => by
  rw [wrongAt, if_neg om_, if_pos ⟨hr, hn⟩] at hw
  exact absurd hw de_
 obtain ⟨i, hi⟩ : ∃ i, atE (trH P ids).e x.at_ = some i := by
  cases h9 : atE (trH P ids).e x.at_ with
  | none => exact absurd h9 hat
  | some i => exact ⟨i, rfl⟩
 obtain ⟨y, hy, hn, _⟩ := atE_some.1 hi
 have hz : x.at_ ≠ RefD.zero := (refKind_two hr).2.2.2
 obtain ⟨_, _, _, id, ops, k, z, hmem, hzk, hkind, hname, _⟩ := ((hT.built.names x.at_).1 ⟨y, List.mem_of_getElem? hy, hn⟩).resolve_left hz
 obtain ⟨a, ha, hu, he⟩ := sel_mem.1 hmem
 injection he with he1 he2
 subst he1 he2
 have hhin : ∀ d ∈ (ecC P ids au no b).parents, d ∈ idsH P := ec_in h
 have hx1 : x.at_.c = idD a := by rw [hname]
 have hx2 : x.at_.n = (k : Int) + 1 := by rw [hname]
 refine (fnd_iff hk hl hhin).2 ⟨a, ha, hx1.symm, ?_, ?_, ?_⟩
 ·
  show Under (ndsH P) (mgL P ids []) x.at_.c
  rw [ec_par h.mg, under_hd (ec_tx h.mg), hx1]; exact hu
 ·
  have := (List.getElem?_eq_some_iff.1 hzk).1
  rw [hx2]; omega
 ·
  rw [hx2, show ((k : Int) + 1 - 1).toNat = k by omega, kindAt, hzk]; exact hkind
theorem trK_congr {l m : List ComD} {S S' : Dig → Prop} : ∀ {k : Nat}, k ≤ l.length → (∀ i, i < k → m[i]? = l[i]?) → (∀ c ∈ l, S' (idD c) ↔ S (idD c)) → trK m S' k = trK l S k
 | 0, _, _, _ => rfl
 | k + 1, hk, hm, hS => by
  obtain ⟨c, hc⟩ : ∃ c, l[k]? = some c := ⟨_, List.getElem?_eq_getElem om_⟩
  have hc2 : m[k]? = some c := by rw [hm k om_, hc]
  have ih := trK_congr (m := m) (S := S) (S' := S') (k := k) om_ (fun i hi => hm i om_) hS
  by_cases hs : S (idD c)
  ·
   rw [trK_yes hc hs, trK_yes hc2 ((hS c (List.mem_of_getElem? hc)).2 hs), ih]
  ·
   rw [trK_no hc hs, trK_no hc2 (fun h => hs ((hS c (List.mem_of_getElem? hc)).1 h)), ih]
theorem ec_grow (h : EcOk P ids au no b) (hr : (rdH (P ++ [ecC P ids au no b])).2 = 0) : let A := P ++ [ecC P ids au no b]; let d := idD (ecC P ids au no b)
  txE A [d] = 0 ∧ txL A [d] = b ∧ mgE A (ids ++ [d]) [] = 0 ∧ mgL A (ids ++ [d]) [] = [d] := by
 intro A d
 have tx := ec_tx h.mg
 obtain ⟨hl, hk, hin⟩ := txE_ok.1 tx
 obtain ⟨hlA, hkA⟩ := rdH_ok.1 hr
 have hT := trH_ok hk hl ids
 have hcA : A[P.length]? = some (ecC P ids au no b) := by rw [List.getElem?_append_right (Nat.le_refl _)]; simp
 have hmA : ∀ x ∈ P, x ∈ A := fun x hx => List.mem_append_left _ hx
 have hcm : ecC P ids au no b ∈ A := List.mem_of_getElem? hcA
 have hnew : d ∉ idsH P := by
  have := (hkA P.length _ hcA).new
  rwa [List.take_append_of_le_length (Nat.le_refl _), List.take_length] at this
 have idsA : idsH A = idsH P ++ [d] := by rw [idsH, List.map_append]; rfl
 have hA1 : ∀ x ∈ [d], x ∈ idsH A := fun x hx => by rw [List.mem_singleton.1 hx, idsA]; simp
 have t1 : txE A [d] = 0 := txE_ok.2 ⟨hlA, hkA, hA1⟩
 have g : Grow (ndsH P) (ndsH A) := by
  have h3 := hkA.nodes hlA
  have e : ndsH A = ndsH P ++ [ndH (ecC P ids au no b)] := List.map_append
  rw [e] at h3 ⊢
  exact more_grow h3
 have hpin : ∀ p ∈ (ecC P ids au no b).parents, p ∈ idsL (ndsH P) := fun p hp => by rw [ids_nds]; exact ec_in h p hp
 have hun : ∀ x, Under (ndsH P) (ecC P ids au no b).parents x ↔ Under (ndsH P) ids x := fun x => by
  show Under (ndsH P) (mgL P ids []) x ↔ _
  rw [ec_par h.mg, under_hd tx]
 have hab : ∀ x, Ab (ndsH A) d x ↔ x = d ∨ Under (ndsH P) ids x := fun x => by
  rw [← hun, ← g.under hpin]
  constructor
  ·
   intro hx
   generalize hd : d = d' at hx
   cases hx with
   | refl => exact .inl rfl
   | @step n p _ hn hp hpx =>
    obtain ⟨c, hc, rfl⟩ := List.mem_map.1 hn
    have : c = ecC P ids au no b := com_eq hkA hlA hc hcA hd.symm
    subst this
    exact .inr ⟨p, hp, hpx⟩
  ·
   rintro (rfl | ⟨p, hp, hx⟩)
   ·
    exact .refl _
   ·
    exact .step (n := ndH (ecC P ids au no b)) (List.mem_map.2 ⟨_, hcm, rfl⟩) hp hx
 have hS : ∀ x, Under (ndsH A) [d] x ↔ x = d ∨ Under (ndsH P) ids x := fun x => by
  rw [← hab]
  constructor
  ·
   rintro ⟨a, ha, hx⟩; rw [List.mem_singleton.1 ha] at hx; exact hx
  ·
   exact fun hx => ⟨d, by simp, hx⟩
 have e1 : trK A (Under (ndsH A) [d]) P.length = trH P ids := by
  rw [trH]
  refine trK_congr (Nat.le_refl _) (fun i hi => List.getElem?_append_left hi) fun c hc => ?_
  rw [hS]
  exact ⟨fun hx => hx.resolve_left fun e => hnew (e ▸ List.mem_map.2 ⟨c, hc, rfl⟩), .inr⟩
 have hSd : Under (ndsH A) [d] (idD (ecC P ids au no b)) := (hS _).2 (.inl rfl)
 have hTA := trK_ok hkA hlA (closed_under A [d]) (k := P.length) (by rw [List.length_append]; omega)
 have hw := sel_may hkA hlA (closed_under A [d]) hcA hSd hTA
 rw [e1] at hw
 have e2 : trH A [d] = addT (trH P ids) d (opsE (trH P ids).e b) := by
  rw [trH, show A.length = P.length + 1 by rw [List.length_append]; rfl, trK_yes hcA hSd, e1]; rfl
 have t2 : txL A [d] = b := by
  rw [txL, if_pos t1, e2]
  exact (ops_tree hT hw).1
 have hA2 : ∀ x ∈ ids ++ [d], x ∈ idsH A := fun x hx => by
  rw [idsA]
  rcases List.mem_append.1 hx with hx | hx
  ·
   exact List.mem_append_left _ (hin x hx)
  ·
   exact List.mem_append_right _ hx
 have t3 : txE A ((ids ++ [d]) ++ []) = 0 := by rw [List.append_nil]; exact txE_ok.2 ⟨hlA, hkA, hA2⟩
 have hA3 : ∀ x ∈ ids ++ [d], x ∈ idsL (ndsH A) := fun x hx => by rw [ids_nds]; exact hA2 x hx
 have hh : hdL (ndsH A) (ids ++ [d]) = [d] := by
  refine up_eq (heads_up (nds_ok t3)) (List.pairwise_singleton _ _) fun x => ?_
  rw [hdL_mem (nds_ok t3) hA3, List.mem_singleton]
  constructor
  ·
   rintro ⟨h1, h2⟩
   rcases List.mem_append.1 h1 with hx | hx
   ·
    exact (h2 d (by simp) ((hab x).2 (.inr ⟨x, hx, .refl _⟩))).symm
   ·
    exact List.mem_singleton.1 hx
  ·
   rintro rfl
   refine ⟨by simp, fun e he hed => ?_⟩
   rcases List.mem_append.1 he with he | he
   ·
    exfalso
    have h1 : Under (ndsH A) ids d := ⟨e, he, hed⟩
    rw [g.under (hin_of tx)] at h1
    have h2 := under_ids (nds_ok tx) (hin_of tx) h1
    rw [ids_nds] at h2
    exact hnew h2
   ·
    exact List.mem_singleton.1 he
 have t4 : mgE A (ids ++ [d]) [] = 0 := mgE_ok.2 ⟨t3, by rw [List.append_nil, hh]; simp⟩
 exact ⟨t1, t2, t4, by rw [mgL, if_pos t4, List.append_nil, hh]⟩
end
end Go.Proofs.YtmehkigmnpjcjaaDoor
/- A range over a function, where the one who goes round keeps what the iterator reads. No condition, no program. -/
namespace Go.Fw
open Go.RowKit
def IterN {σ α : Type} (P : Program) (gf : Nat) (lb : List Value) (w : World) (Setup : World → σ → World → Prop) (xs : σ → List α) (encs : α → List Value) (T0 : Nat → Prop) (Keep : σ → Nat → Nat → Prop) (At : σ → Nat → World → Prop) (Fin : World → Prop) (N : σ → Nat → World → Prop) : Prop :=
 ∀ (l : Nat) (w1 : World) (J : σ → Nat → World → Prop) (Jx : World → Prop), Ext w w1 →
  (∀ s V, Chg T0 w1 V → Setup w1 s V → J s 0 V) →
  (∀ s i V V', J s i V → Chg T0 V V' → J s i V') →
  (∀ V V', Jx V → Chg T0 V V' → Jx V') →
  (∀ s i V, J s i V → N s i V) →
  (∀ s i x V, J s i V → (xs s)[i]? = some x → At s i V →
   YieldAt (FX none) 0 P l (encs x).toArray V (fun e V' => ∃ b, e = .returned (.bool b) ∧ ((b = true ∧ J s (i + 1) V' ∧ Chg (fun k => ¬ Keep s i k) V V') ∨ (b = false ∧ Jx V' ∧ Chg (fun k => ¬ Keep s i k) V V')))) →
  Calls P gf (.func (.yield l) #[] #[] :: lb).toArray w1 (Ret fun _ V => ((∃ s, J s (xs s).length V) ∨ Jx V) ∧ Fin V)
theorem CN.rangeN {P : Program} {m : Nat} {ds : List Deferred} {Φ : Exit → List Deferred → Fr → World → Prop} {fr : Fr} {w : World} {σ α : Type} {g : Operand} {ps : List Nat} {assign body : Code} {gf : Nat} {lb : List Value} {fn : Func}
  {Setup : World → σ → World → Prop} {xs : σ → List α} {encs : α → List Value} {T0 : Nat → Prop} {Keep : σ → Nat → Nat → Prop} {At : σ → Nat → World → Prop} {Fin : World → Prop} {N : σ → Nat → World → Prop}
  (hg : ev fr g = some (.func (.func gf) #[] lb.toArray)) (hf : P.funcs[gf]? = some fn) (hb : fn.body.isNone = false) (hn : (fn.name == "runtime.NumGoroutine") = false)
  (hit : IterN P gf lb w Setup xs encs T0 Keep At Fin N) (hps : ∀ x, (encs x).length = ps.length) (hpm : ∀ p ∈ ps, p < m)
  (hT0 : ∀ k, T0 k → k < w.heap.size) (hK : ∀ w1 s V, w.heap.size + 2 ≤ w1.heap.size → Setup w1 s V → ∀ i, ¬ Keep s i (w.heap.size + 1))
  (I : σ → Nat → World → Prop) (Ix : σ → Exit → World → Prop)
  (h0 : ∀ w1 s V, Ext w w1 → w.heap.size + 2 ≤ w1.heap.size → Chg T0 w1 V → Setup w1 s V → I s 0 V)
  (hI : ∀ s i V V', I s i V → Chg (fun k => T0 k ∨ k = w.heap.size + 1) V V' → I s i V')
  (hIx : ∀ s e V V', Ix s e V → Chg (fun k => T0 k ∨ k = w.heap.size + 1) V V' → Ix s e V')
  (hN : ∀ s i V, I s i V → N s i V)
  (hround : ∀ s i x V, I s i V → (xs s)[i]? = some x → At s i V → w.heap.size + 2 ≤ V.heap.size →
   CW P assign (m, [], some (w.heap.size + 1)) (thenF (fun f V1 => Ext V V1 ∧ ∀ V2, Chg (fun k => k = w.heap.size + 1) V1 V2 →
    CW P body (m, [], some (w.heap.size + 1)) (RoundF (w.heap.size + 1) w.heap.size (Keep s i) (I s (i + 1)) (Ix s) V2) f V2) (fun _ _ _ => False)) (zipF ps (encs x) fr) V)
  (hdone : ∀ s V, I s (xs s).length V → V.heap[w.heap.size]? = some (.deferred (some [])) → (∃ V0, Fin V0 ∧ Chg (fun k => k = w.heap.size + 1) V0 V) → Φ .normal (mark w.heap.size :: ds) fr V)
  (hleave : ∀ s e V, Ix s e V → V.heap[w.heap.size]? = some (.deferred (some [])) → (∃ V0, Fin V0 ∧ Chg (fun k => k = w.heap.size + 1) V0 V) → e = .ret ∨ (∃ id, e = .exit id) ∨ (∃ t, e = .goto t) → Φ e (mark w.heap.size :: ds) fr V) :
  CN P (.rangeFunc g ps.toArray assign body) m none ds Φ fr w := by
 intro a ha
 refine wpIn_rangeFunc fun fn0 _ => ?_
 obtain ⟨rec, hrec⟩ : ∃ rec : LoopState → Option Code → Loop, rec = fun st pe => { state := st, pending := pe, fn := fn0, tmps := a.tmps, params := ps.toArray, assign, body, defers := w.heap.size } := ⟨_, rfl⟩
 obtain ⟨W1, hW1⟩ : ∃ W1, (w.alloc (.deferred (some []))).alloc (.loop (rec .ready none)) = W1 := ⟨_, rfl⟩
 have hx1 : Ext w W1 := by rw [← hW1]; exact (Chg.alloc _).trans (Chg.alloc (S := fun _ => False) _) (fun _ _ f => f)
 have hz1 : W1.heap.size = w.heap.size + 2 := by rw [← hW1]; simp
 have hL1 : W1.heap[w.heap.size + 1]? = some (.loop (rec .ready none)) := by
  rw [← hW1]; have := World.alloc_heap_new (w.alloc (.deferred (some []))) (.loop (rec .ready none)); rwa [World.size_alloc] at this
 have hD1 : W1.heap[w.heap.size]? = some (.deferred (some [])) := by
  rw [← hW1]; exact (Below.heap_alloc _ _ _ (by simp)).trans (World.alloc_heap_new w _)
 refine ⟨w.heap.size + 1, [mark w.heap.size], W1, { target := .fn (.func gf) lb.toArray, args := #[.func (.yield (w.heap.size + 1)) #[] #[]] }, W1, gf,
  #[.func (.yield (w.heap.size + 1)) #[] #[]] ++ lb.toArray, W1, ?_, ?_, fun _ _ => trivial, ?_, fun hx => (by simp [FX] at hx), ?_⟩
 ·
  rw [← hW1, hrec]; exact run_enterLoop_outer _ _ _ _ _
 ·
  have e := ha.ev hg
  simp only [resolve, e]
  simp [Deferred.ofValue, Act.eval]
 ·
  simp [invoke, run_callFunc hf hb hn]
 ·
  refine callsIn_FX.2 ?_
  have hdef : ∀ V : World, (a.defers = ds) → Rep (m, mark w.heap.size :: ds, none) { a with defers := mark w.heap.size :: a.defers } fr := fun V hd => ⟨ha.size, by rw [hd], ha.get⟩
  have hend : ∀ (st : LoopState) (pe : Option Code) (V : World), st ≠ .busy → V.heap[w.heap.size + 1]? = some (.loop (rec st pe)) →
    (Instr.endLoop (w.heap.size + 1)).run P V = .ok pe (V.putObj (w.heap.size + 1) (.loop (rec .exhausted pe))) := fun st pe V hs hv => by
   have := run_endLoop (P := P) hv (by rw [hrec]; exact hs)
   rw [hrec] at this ⊢
   exact this
  have key := hit (w.heap.size + 1) W1
   (fun s i V => I s i V ∧ V.heap[w.heap.size + 1]? = some (.loop (rec .ready none)) ∧ V.heap[w.heap.size]? = some (.deferred (some [])) ∧ w.heap.size + 2 ≤ V.heap.size ∧ ∀ i, ¬ Keep s i (w.heap.size + 1))
   (fun V => ∃ s e c, Ix s e V ∧ V.heap[w.heap.size + 1]? = some (.loop (rec .done (some c))) ∧ V.heap[w.heap.size]? = some (.deferred (some [])) ∧ w.heap.size + 2 ≤ V.heap.size ∧
    ((e = .ret ∧ c = .ret) ∨ (∃ id, e = .exit id ∧ c = .exit id) ∨ (∃ t, e = .goto t ∧ c = .goto t))) hx1
   (fun s V hc hs => ⟨h0 W1 s V hx1 om_ hc hs, (hc.block _ om_ (fun h => by have := hT0 _ h; omega)).trans hL1, (hc.block _ om_ (fun h => by have := hT0 _ h; omega)).trans hD1, by have := hc.size; omega, hK W1 s V om_ hs⟩)
   (fun s i V V' hJ hc => ⟨hI s i V V' hJ.1 (hc.mono fun _ _ h => .inl h), (hc.block _ om_ (fun h => by have := hT0 _ h; omega)).trans hJ.2.1, (hc.block _ om_ (fun h => by have := hT0 _ h; omega)).trans hJ.2.2.1, by have := hc.size; omega, hJ.2.2.2.2⟩)
   (fun V V' hJ hc => by
    obtain ⟨s, e, c, h1, h2, h3, h4, h5⟩ := hJ
    exact ⟨s, e, c, hIx s e V V' h1 (hc.mono fun _ _ h => .inl h), (hc.block _ om_ (fun h => by have := hT0 _ h; omega)).trans h2, (hc.block _ om_ (fun h => by have := hT0 _ h; omega)).trans h3, by have := hc.size; omega, h5⟩)
   (fun s i V hJ => hN s i V hJ.1)
   (fun s i x V hJ hx hAt => by
    obtain ⟨hi, hl, hD, hz, hk⟩ := hJ
    have hy := run_yield (P := P) (args := (encs x).toArray) hl (by rw [hrec]; simp [hps x])
    rw [hrec] at hy
    refine ⟨fn0, _, assign, body, hy, roundIn_of_wpIn trivial ?_⟩
    have hrep : Rep (m, [], some (w.heap.size + 1)) { tmps := (ps.toArray.zip (encs x).toArray).foldl (fun t (p, v) => t.setIfInBounds p v) a.tmps, defers := [] } (zipF ps (encs x) fr) := by
     have h1 : Rep (m, [], some (w.heap.size + 1)) { tmps := a.tmps, defers := [] } fr := ⟨ha.size, rfl, ha.get⟩
     have := Rep.zip (vs := encs x) hpm h1
     simpa using this
    refine wpIn_mono (hround s i x V hi hx hAt hz _ hrep) ?_
    rintro e a1 V1 ⟨f, hf1, hp⟩
    cases e with
    | normal =>
     obtain ⟨hx2, hbody⟩ := hp
     have hl1 := (hx2.block _ om_ (fun h => h)).trans hl
     have hD1 := (hx2.block _ om_ (fun h => h)).trans hD
     refine ⟨_, run_beginRound hl1 (by rw [hrec]), ?_⟩
     have hlt : w.heap.size + 1 < V1.heap.size := by have := hx2.size; omega
     have hl2 : (V1.putObj (w.heap.size + 1) (.loop { rec .ready none with state := .busy })).heap[w.heap.size + 1]? = some (.loop { rec .ready none with state := .busy }) := World.putObj_heap_same hlt
     have hD2 : (V1.putObj (w.heap.size + 1) (.loop { rec .ready none with state := .busy })).heap[w.heap.size]? = some (.deferred (some [])) := (World.putObj_heap_other om_).trans hD1
     have hc2 : Chg (fun k => k = w.heap.size + 1) V1 (V1.putObj (w.heap.size + 1) (.loop { rec .ready none with state := .busy })) := Chg.putObj _ rfl
     have fin : ∀ (jump : Option Code) (V3 : World), Chg (fun k => k ≠ w.heap.size + 1 ∧ k ≠ w.heap.size) (V1.putObj (w.heap.size + 1) (.loop { rec .ready none with state := .busy })) V3 →
       (Instr.endRound (w.heap.size + 1) jump).run P V3 = .ok (.bool jump.isNone) (V3.putObj (w.heap.size + 1) (.loop (rec (if jump.isNone then .ready else .done) jump))) ∧
       (V3.putObj (w.heap.size + 1) (.loop (rec (if jump.isNone then .ready else .done) jump))).heap[w.heap.size + 1]? = some (.loop (rec (if jump.isNone then .ready else .done) jump)) ∧
       (V3.putObj (w.heap.size + 1) (.loop (rec (if jump.isNone then .ready else .done) jump))).heap[w.heap.size]? = some (.deferred (some [])) ∧ w.heap.size + 2 ≤ (V3.putObj (w.heap.size + 1) (.loop (rec (if jump.isNone then .ready else .done) jump))).heap.size := fun jump V3 hk3 => by
      have hl3 := (hk3.block _ (Array.getElem?_eq_some_iff.1 hl2).1 (fun h => h.1 rfl)).trans hl2
      have hD3 := (hk3.block _ (Array.getElem?_eq_some_iff.1 hD2).1 (fun h => h.2 rfl)).trans hD2
      have hz3 := hk3.size
      have := run_endRound (P := P) jump hl3
      rw [hrec] at this ⊢
      refine ⟨this, World.putObj_heap_same (Array.getElem?_eq_some_iff.1 hl3).1, (World.putObj_heap_other om_).trans hD3, ?_⟩
      simp only [World.putObj_size] at hz3 ⊢
      have := hx2.size
      omega
     have chg : ∀ (V3 : World) (o : Obj), Chg (fun k => ¬ Keep s i k ∧ k ≠ w.heap.size + 1 ∧ k ≠ w.heap.size) (V1.putObj (w.heap.size + 1) (.loop { rec .ready none with state := .busy })) V3 → Chg (fun k => ¬ Keep s i k) V (V3.putObj (w.heap.size + 1) o) := fun V3 o hk3 =>
      ((hx2.chg.trans (hc2.mono (T := fun k => ¬ Keep s i k) fun k _ h => by rw [h]; exact hk i) (fun _ _ h => h)).trans (hk3.mono (T := fun k => ¬ Keep s i k) fun _ _ h => h.1) (fun _ _ h => h)).trans (Chg.putObj (S := fun k => ¬ Keep s i k) _ (hk i)) (fun _ _ h => h)
     refine wpIn_mono (hbody _ hc2 a1 hf1) ?_
     rintro e3 a3 V3 ⟨f3, hf3, hp3⟩
     cases e3 with
     | normal =>
      obtain ⟨hi3, hk3⟩ := hp3
      obtain ⟨hr, hl4, hD4, hz4⟩ := fin none V3 (hk3.mono fun _ _ h => ⟨h.2.1, h.2.2⟩)
      refine ⟨_, _, hr, true, rfl, .inl ⟨rfl, ⟨hI _ _ _ _ hi3 (Chg.putObj _ (.inr rfl)), hl4, hD4, hz4, hk⟩, ?_⟩⟩
      exact chg V3 _ hk3
     | ret =>
      obtain ⟨hi3, hk3⟩ := hp3
      obtain ⟨hr, hl4, hD4, hz4⟩ := fin (some .ret) V3 (hk3.mono fun _ _ h => ⟨h.2.1, h.2.2⟩)
      exact ⟨_, _, hr, false, rfl, .inr ⟨rfl, ⟨s, .ret, .ret, hIx _ _ _ _ hi3 (Chg.putObj _ (.inr rfl)), hl4, hD4, hz4, .inl ⟨rfl, rfl⟩⟩, chg V3 _ hk3⟩⟩
     | exit id =>
      obtain ⟨hi3, hk3⟩ := hp3
      obtain ⟨hr, hl4, hD4, hz4⟩ := fin (some (.exit id)) V3 (hk3.mono fun _ _ h => ⟨h.2.1, h.2.2⟩)
      exact ⟨_, _, hr, false, rfl, .inr ⟨rfl, ⟨s, .exit id, .exit id, hIx _ _ _ _ hi3 (Chg.putObj _ (.inr rfl)), hl4, hD4, hz4, .inr (.inl ⟨id, rfl, rfl⟩)⟩, chg V3 _ hk3⟩⟩
     | goto t =>
      obtain ⟨hi3, hk3⟩ := hp3
      obtain ⟨hr, hl4, hD4, hz4⟩ := fin (some (.goto t)) V3 (hk3.mono fun _ _ h => ⟨h.2.1, h.2.2⟩)
      exact ⟨_, _, hr, false, rfl, .inr ⟨rfl, ⟨s, .goto t, .goto t, hIx _ _ _ _ hi3 (Chg.putObj _ (.inr rfl)), hl4, hD4, hz4, .inr (.inr ⟨t, rfl, rfl⟩)⟩, chg V3 _ hk3⟩⟩
     | panic c => exact hp3.elim
     | outgrown => exact hp3.elim
    | exit id => exact hp.elim
    | goto t => exact hp.elim
    | ret => exact hp.elim
    | panic c => exact hp.elim
    | outgrown => exact hp.elim)
  have hlist : (Value.func (.yield (w.heap.size + 1)) #[] #[] :: lb).toArray = #[Value.func (.yield (w.heap.size + 1)) #[] #[]] ++ lb.toArray := by simp
  rw [hlist] at key
  refine key.mono ?_
  rintro e V hR
  cases e with
  | returned v =>
   obtain ⟨hR, hfin⟩ := hR
   rcases hR with ⟨s, hi, hl, hD, hz, _⟩ | ⟨s, e, c, hi, hl, hD, hz, hec⟩
   ·
    refine ⟨none, _, hend .ready none V (by simp) hl, _, fr, hdef V ha.defers, ?_⟩
    exact hdone s _ (hI _ _ _ _ hi (Chg.putObj _ (.inr rfl))) ((World.putObj_heap_other om_).trans hD) ⟨V, hfin, Chg.putObj _ rfl⟩
   ·
    refine ⟨some c, _, hend .done (some c) V (by simp) hl, ?_⟩
    have hi' := hIx _ _ _ _ hi (Chg.putObj (r := w.heap.size + 1) (.loop (rec .exhausted (some c))) (.inr rfl))
    have hD' : (V.putObj (w.heap.size + 1) (.loop (rec .exhausted (some c)))).heap[w.heap.size]? = some (.deferred (some [])) := (World.putObj_heap_other om_).trans hD
    have hw := hleave s e _ hi' hD' ⟨V, hfin, Chg.putObj _ rfl⟩ (by rcases hec with ⟨h, _⟩ | ⟨id, h, _⟩ | ⟨t, h, _⟩ <;> simp [h])
    rcases hec with ⟨rfl, rfl⟩ | ⟨id, rfl, rfl⟩ | ⟨t, rfl, rfl⟩
    ·
     exact wpIn_ret ⟨_, fr, hdef V ha.defers, hw⟩
    ·
     exact wpIn_exit ⟨_, fr, hdef V ha.defers, hw⟩
    ·
     exact wpIn_goto ⟨_, fr, hdef V ha.defers, hw⟩
  | panicked ch => exact hR.elim
  | outgrown => exact hR.elim
end Go.Fw
/- All, walked, in: walked. No condition. -/
namespace Go.Proofs.YtmehkigmnpjcjaaDoor
open Go.RowKit Go.Fw Go.Fu Go.Pl
structure AllS where
 lo : Nat
 hi : Nat
def AllSetup8 (w1 : World) (s : AllS) (V : World) : Prop := w1.heap.size ≤ s.lo ∧ s.lo ≤ s.hi ∧ s.hi ≤ V.heap.size
def allXs8 (e : List El) (_ : AllS) : List (RefD × UInt8) := (seenE e).map fun q => (nm e q, byteAt e q)
def allEnc8 (x : RefD × UInt8) : List Value := [refV x.1, bc x.2]
def allKeep8 (s : AllS) (_ : Nat) (k : Nat) : Prop := s.lo ≤ k ∧ k < s.hi
def AllN (ns : List Nn) (e : List El) (V : World) : Prop := ∀ q ∈ seenE e, ∃ gn lv rv, Blk V (gOf ns q) TN (nodeC ⟨nm e q, byteAt e q, gn, [], []⟩ lv rv)
theorem FtAt.allN {w : World} {g rb ra : Nat} {ad : List Dig} {ns : List Nn} (h : FtAt w g rb ra ad ns) (hG : Fu.Good (Fw.els ns)) : AllN ns (Fw.els ns) w := fun q hq => by
 have hel : (Fw.els ns).length = ns.length := List.length_map _
 have hl := seen_lt hG.down hq
 obtain ⟨z, hz⟩ : ∃ z, ns[q]? = some z := ⟨_, List.getElem?_eq_getElem om_⟩
 have hze : (Fw.els ns)[q]? = some z.el := by rw [List.getElem?_map, hz]; rfl
 exact ⟨z.el.gone, z.lv, z.rv, by rw [gOf_at hz, nm_at hze, byteAt_at hze]; exact h.node q z hz⟩
theorem ai_ref : AppInfo Tryd.prog 60 34 48 := by
 have h : (Tryd.prog.info? 60).map (fun i => (i.size, i.bytes, i.zero)) = some (34, 48, some (.agg (refC RefD.zero).toArray)) := by kernel_rfl
 obtain ⟨i, hi, h⟩ := Option.map_eq_some_iff.1 h
 injection h with h1 h2
 injection h2 with h2 h3
 exact ⟨i, _, hi, h3, h1, by show (refC RefD.zero).toArray.size = 34; simp [refC_length], h2, by decide, by decide⟩
theorem bs1_ref (r : RefD) (w : World) : (Instr.buildSlice 93 1 [(0, refV r)].toArray).run Tryd.prog w = .ok (.slice (some ⟨w.heap.size, 0, none⟩) 1 1) (w.alloc (.cells (refC r).toArray 60)) := by
 obtain ⟨i, z, hi, hz, hk, _⟩ := ai_ref
 exact run_bs1 Tryd.underlying93 hi hz om_ om_ rfl (by rw [refC_length, hk]) w
theorem fall_any (u : Addr) (w : World) : Calls Tryd.prog 33 #[.pointer (some u)] w (Ret fun v w' => ∃ b, v = .func (.func 56) #[] #[.pointer (some ⟨b, 0, none⟩)] ∧ w.heap.size ≤ b ∧ Blk w' b 54 [.pointer (some u)] ∧ Ext w w') := by
 refine calls_of_CW 4 [2] [(0, .pointer (some u))] Tryd.func33 rfl rfl rfl (by simp) args1 ?_
 have hE : Ext w w := Chg.refl
 refine CW.sr fun K1 hK1 => ?_
 refine WL.box rfl rfl de_ fun g1 w1 hx1 hg1 hB1 => ?_
 have hlt1 := hB1.lt; have hz1 := hx1.size
 have hM1 := hB1.mem; have hz1 := hx1.size; have hE := hE.thenExt hx1
 refine WL.a rfl ?_
 refine WL.nil (hK1 _ _ ?_); try clear hK1
 refine CW.sr fun K2 hK2 => ?_
 refine WL.v (Y.makeFunc rfl) ?_
 refine WL.a rfl ?_
 refine WL.nil (hK2 _ _ ?_); try clear hK2
 refine CW.ret ⟨_, rfl, ?_⟩
 exact ⟨g1, rfl, hg1, hB1, hE⟩
set_option maxRecDepth 100000 in
set_option maxHeartbeats 1000000 in
theorem fall1_any (g rb ra : Nat) (ad : List Dig) (ns : List Nn) (b : Nat) (w_ : World) (hT_ : FtAt w_ g rb ra ad ns) (hG : Fu.Good (Fw.els ns)) (hn : ns.length ≤ 400001) (hB_ : Blk w_ b 54 [.pointer (some ⟨g, 0, none⟩)]) : IterN Tryd.prog 56 [.pointer (some ⟨b, 0, none⟩)] w_ AllSetup8 (allXs8 (Fw.els ns)) allEnc8 (fun _ => False) allKeep8 (fun _ _ _ => True) (fun _ => True) (fun _ _ V => AllN ns (Fw.els ns) V) := by
 intro ln w J Jx hx0 hS hJ hJx hJN hR
 have hT := hT_.ext hx0
 have hB0 := hB_.ext hx0
 have hlv : (seenE (Fw.els ns)).length ≤ 400001 := by
  have h1 := List.countP_le_length (p := fun x : El => !x.gone) (l := Fw.els ns)
  rw [hG.seen_length]; rw [List.length_map] at h1; exact Nat.le_trans h1 hn
 refine calls_of_CW 24 [] [(0, .func (.yield ln) #[] #[]), (1, .pointer (some ⟨b, 0, none⟩))] Tryd.func56 rfl rfl rfl (by simp) args2 ?_
 have hE : Ext w w := Chg.refl
 refine CW.sr fun K1 hK1 => ?_
 refine WL.v (Y.load1 Tryd.underlying54 rfl (hB0.ext hE).mem.cell0 rfl) ?_
 refine WL.call Tryd.func48 rfl rfl rfl (flist_any g rb ra ad ns _ (hT.ext hE) hG hn) (by simp) ?_; rintro v6 w1 hR1
 obtain ⟨hO1, hf1, hx1⟩ := hR1
 have hz1 := hx1.size
 have hE := hE.thenExt hx1
 obtain ⟨A, m, c, rfl⟩ := hO1.lens
 obtain ⟨hlm, hlg⟩ := ptr_map hO1
 have hlt1 := hO1.lt
 have hcc := (hO1.mem A m c rfl).2.2.2
 unfold maxLen at hcc
 refine WL.v (Y.len_slice Tryd.underlying102 rfl) ?_
 refine WL.m rfl ?_
 refine WL.nil (hK1 _ _ ?_); try clear hK1
 refine CW.block ?_
 refine CW.loop (X := Nat) (fun x => [(0, .func (.yield ln) #[] #[]), (1, .pointer (some ⟨b, 0, none⟩)), (6, .slice A m c), (7, .int .i64 (m : Int)), (8, .int .i64 (x : Int))]) (fun x w0 => x ≤ m ∧ J ⟨w.heap.size, w1.heap.size⟩ x w0 ∧ Own w0 TP 1 (.slice A m c) (ptrL ((seenE (Fw.els ns)).map (gOf ns))) ∧ w1.heap.size ≤ w0.heap.size) (fun x => m - x) 0 Fr.ok ⟨Nat.zero_le _, hS _ _ hE ⟨Nat.le_refl _, hE.size, Nat.le_refl _⟩, hO1, Nat.le_refl _⟩ ?_
 intro x w2 hl2
 obtain ⟨hxm, hj, hO, hz2⟩ := hl2
 have hE : Ext w2 w2 := Chg.refl
 obtain ⟨_, hlg2⟩ := ptr_map hO
 refine CW.sr fun K2 hK2 => ?_
 refine WL.v (Y.lss rfl rfl) ?_
 refine WL.nil (hK2 _ _ ?_); try clear hK2
 refine CW.seq fun K3 hK3 => ?_
 (first | refine cd_ rfl ?_ ?_ | refine ce_ rfl ?_ ?_ | refine cn_ rfl ?_ ?_ | refine cb_ rfl ?_ ?_) <;> intro ht4
 ·
  -- then
  refine CW.skip ?_
  refine hK3 _ _ ?_; try clear hK3
  refine CW.seq fun K5 hK5 => ?_
  refine CW.block ?_
  refine CW.seq fun K6 hK6 => ?_
  obtain ⟨q, hq⟩ : ∃ q, (seenE (Fw.els ns))[x]? = some q := ⟨_, List.getElem?_eq_getElem om_⟩
  obtain ⟨a, rfl, hma⟩ := hlg2 x q hq
  obtain ⟨gn, lv, rv, hbn⟩ := hJN _ _ _ hj q (List.mem_of_getElem? hq)
  refine CW.region ?_
  refine WL.v (Y.indexAddrN Tryd.underlying102 rfl rfl sz0_fuguenode om_) ?_
  refine WL.v (Y.load1 Tryd.underlying101 rfl hma.cell0 rfl) ?_
  refine WL.a rfl ?_
  refine WL.nil (hK6 _ _ ?_); try clear hK6
  refine CW.seq fun K7 hK7 => ?_
  refine CW.headI 9 kr_ kr_ fun w3 hx3 => ?_
  skip; have hz3 := hx3.size; have hE := hE.thenExt hx3
  refine HL.val (Y.move rfl) de_ ?_
  refine HL.val (Y.move rfl) de_ ?_
  refine HL.val (Y.nilCheck rfl) de_ ?_
  refine HL.val (Y.fieldAddr fo_fuguenode0 rfl) de_ ?_
  refine HL.val (Y.load Tryd.underlying60 rfl ((hbn.ext hE).mem.fuguenode0) (sz_apiRef _) rfl) de_ ?_
  refine HL.val (Y.move rfl) de_ ?_
  refine HL.val (Y.nilCheck rfl) de_ ?_
  refine HL.val (Y.fieldAddr fo_fuguenode1 rfl) de_ ?_
  refine HL.val (Y.load1 Tryd.underlying5 rfl ((hbn.ext hE).mem.fuguenode1) rfl) de_ ?_
  refine HL.nil ?_
  refine WI.yield rfl rfl (hR ⟨w.heap.size, w1.heap.size⟩ x (nm (Fw.els ns) q, byteAt (Fw.els ns) q) w3 (hJ _ _ _ _ hj hE) (by show ((seenE (Fw.els ns)).map _)[x]? = _; rw [List.getElem?_map, hq]; rfl) trivial) de_ (fun b21 w4 hR4 => ?_)
  skip
  refine WI.val (Y.not rfl) de_ ?_
  refine WI.nil ?_
  refine hK7 _ _ ?_; try clear hK7
  (first | refine cd_ rfl ?_ ?_ | refine ce_ rfl ?_ ?_ | refine cn_ rfl ?_ ?_ | refine cb_ rfl ?_ ?_) <;> intro ht8
  ·
   -- then
   refine CW.ret ⟨_, rfl, ?_⟩
   rcases hR4 with ⟨hb, _⟩ | ⟨_, h, _⟩
   ·
    simp_all
   ·
    exact ⟨.inr h, trivial⟩
  refine CW.skip ?_
  refine hK5 _ _ ?_; try clear hK5
  refine CW.region ?_
  refine WL.v (Y.add rfl rfl o2_) ?_
  refine WL.m rfl ?_
  refine WL.nil ?_
  rcases hR4 with ⟨_, hj2, hc⟩ | ⟨hb, _⟩
  ·
   have hz4 := hc.size
   exact ⟨x + 1, (by show m - (x + 1) < m - x; omega), Fr.ok, (by show x + 1 ≤ m; omega), hj2, (hO.ext hE).chg hc (fun k hk h => h ⟨hf1 k hk, hlt1 k hk⟩), by omega⟩
  ·
   simp_all
 refine CW.exit ?_
 refine ⟨_, rfl, ?_⟩
 refine ⟨.inl ⟨⟨w.heap.size, w1.heap.size⟩, ?_⟩, trivial⟩
 have e : (allXs8 (Fw.els ns) ⟨w.heap.size, w1.heap.size⟩).length = x := by simp only [allXs8, List.length_map]; omega
 rw [e]
 exact hj
end Go.Proofs.YtmehkigmnpjcjaaDoor
