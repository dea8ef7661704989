/- does, FugueGaps, walked. No condition. -/
import Derived.Test.YtffkmlkdlhkkmaaFe
import Derived.Test.YtffkmlkdlhkkmaaFi
set_option linter.unusedSimpArgs false
set_option linter.unusedVariables false
namespace Go.Fw
open Go.Fu Go.Pl
/-- A call of one of two trees. -/
structure ActV where
  kind : Int
  two : Bool
  com : CmV
  n : Int
  at_ : RefD
def actC (x : ActV) : List Value := [.int .i64 x.kind, .bool x.two] ++ cmC x.com ++ [.int .i64 x.n] ++ refC x.at_
theorem actC_length (x : ActV) : (actC x).length = 70 := by simp [actC, cmC_length, refC_length]
theorem one_actC {x : ActV} : ∀ u ∈ actC x, u.oneCell' = true := by
  intro u hu
  simp only [actC, List.mem_append, List.mem_cons, List.not_mem_nil, or_false] at hu
  rcases hu with (((rfl | rfl) | hu) | rfl) | hu
  · rfl
  · rfl
  · exact one_cmC u hu
  · rfl
  · exact one_refC u hu
section
variable {w : World} {a : Addr} {x : ActV} (h : Mem w a (actC x))
include h
theorem Mem.recensionlaw08Act0 : w.cell? (a.add 0) = some (.int .i64 x.kind) := h.cell 0 rfl
theorem Mem.recensionlaw08Act1 : w.cell? (a.add 1) = some (.bool x.two) := h.cell 1 rfl
theorem Mem.recensionlaw08Act2 : Mem w (a.add 2) (cmC x.com) := h.sub 2 fun j v hj => by
  have hlt : j < 33 := by have := (List.getElem?_eq_some_iff.1 hj).1; rwa [cmC_length] at this
  rw [actC, List.append_assoc, List.append_assoc, List.getElem?_append_right (by simp), List.getElem?_append_left (by simp [cmC_length]; omega)]
  rw [show 2 + j - [Value.int .i64 x.kind, .bool x.two].length = j by simp]; exact hj
theorem Mem.recensionlaw08Act3 : w.cell? (a.add 35) = some (.int .i64 x.n) := h.cell 35 (by
  rw [actC, List.getElem?_append_left (by simp [cmC_length]), List.getElem?_append_right (by simp [cmC_length])]
  simp [cmC_length])
theorem Mem.recensionlaw08Act4 : Mem w (a.add 36) (refC x.at_) := h.sub 36 fun j v hj => by
  have hl : ([Value.int .i64 x.kind, Value.bool x.two] ++ cmC x.com ++ [Value.int .i64 x.n]).length = 36 := by simp [cmC_length]
  rw [actC, List.getElem?_append_right (by omega), hl, show 36 + j - 36 = j by omega]; exact hj
end
end Go.Fw
namespace Go.Proofs.Ytffkmlkdlhkkmaa
open Go.RowKit Go.Fw Go.Fu Go.Pl
abbrev TAc : TypeId := 75
theorem fo_recensionlaw08Act0 : FieldOff Try.prog TAc 0 0 := ⟨_, _, 1, Try.underlying75, rfl, by kernel_rfl, by decide, rfl⟩
theorem fo_recensionlaw08Act1 : FieldOff Try.prog TAc 1 1 := ⟨_, _, 1, Try.underlying75, rfl, by kernel_rfl, by decide, rfl⟩
theorem fo_recensionlaw08Act2 : FieldOff Try.prog TAc 2 2 := ⟨_, _, 33, Try.underlying75, rfl, by kernel_rfl, by decide, rfl⟩
theorem fo_recensionlaw08Act3 : FieldOff Try.prog TAc 3 35 := ⟨_, _, 1, Try.underlying75, rfl, by kernel_rfl, by decide, rfl⟩
theorem fo_recensionlaw08Act4 : FieldOff Try.prog TAc 4 36 := ⟨_, _, 34, Try.underlying75, rfl, by kernel_rfl, by decide, rfl⟩
/-- Both trees, whoever made them. -/
structure Two8 (w : World) (g rb ra : Nat) (ns : List Nn) (gr : Nat) (rs : List Rn) (av ev_ : Value) (L : Coms) (T : Tr) : Prop where
  ft : FtAt w g rb ra T.ad ns
  fe : Fw.els ns = T.e
  rt : RtAt w gr T.ad rs av ev_
  re : rels rs = T.e
  ok : TreeOk L T
  dis : ∀ q, Rp gr rs av ev_ q → ¬ Fp g rb ra ns q
theorem Two8.ext {w w' : World} {g rb ra : Nat} {ns : List Nn} {gr : Nat} {rs : List Rn} {av ev_ : Value} {L : Coms} {T : Tr} (h : Two8 w g rb ra ns gr rs av ev_ L T) (hx : Ext w w') : Two8 w' g rb ra ns gr rs av ev_ L T := ⟨h.ft.ext hx, h.fe, h.rt.ext hx, h.re, h.ok, h.dis⟩
theorem GrAt.two {w w0 : World} {g rb ra : Nat} {ns : List Nn} {gr : Nat} {rs : List Rn} {av ev_ : Value} {L : Coms} {T : Tr} {n : Nat} (h : GrAt w w0 g rb ra ns gr rs av ev_ L T n) : Two8 w0 g rb ra ns gr rs av ev_ L T := ⟨h.ft, h.fe, h.rt, h.re, h.ok, fun q hq => (h.rnew q hq).2⟩
/-- What a call may leave. -/
def Did8 (w w' : World) (g rb ra : Nat) (ns : List Nn) (gr : Nat) (rs : List Rn) (av ev_ : Value) (T : Tr) (a : ActV) : Prop := (a.kind ≠ 0 → Ext w w') ∧ (a.kind = 0 → ∃ ns' rs' av' ev' L', Two8 w' g rb ra ns' gr rs' av' ev' L' (addT T a.com.id a.com.ops) ∧ Chg (fun q => Fp g rb ra ns q ∨ Rp gr rs av ev_ q) w w' ∧ (∀ q, Fp g rb ra ns' q → Fp g rb ra ns q ∨ w.heap.size ≤ q) ∧ ∀ q, Rp gr rs' av' ev' q → Rp gr rs av ev_ q ∨ w.heap.size ≤ q)

set_option maxRecDepth 100000 in
set_option maxHeartbeats 4000000 in
theorem does_any (g rb ra : Nat) (ns : List Nn) (gr : Nat) (rs : List Rn) (av ev_ : Value) (L : Coms) (T : Tr) (x : ActV) (w : World) (hP : Two8 w g rb ra ns gr rs av ev_ L T) (hfew : T.ad.length < 4398046511104) (hx : Sl w opC 37 x.com.pv x.com.ops) (hfit : x.com.ops.length * 72 ≤ 140737488355328) (hb : x.com.ops ≠ [] → ∀ q, x.com.pv.ownBlock = some q → q < w.heap.size ∧ ¬ Fp g rb ra ns q ∧ ¬ Rp gr rs av ev_ q) : Calls Try.prog 28 #[.pointer (some ⟨g, 0, none⟩), .pointer (some ⟨gr, 0, none⟩), .agg (actC x).toArray] w (Ret fun v w' => v = .bool true ∧ Did8 w w' g rb ra ns gr rs av ev_ T x) := by
  have hok := hP.ok
  have hfe := hP.fe
  have hre := hP.re
  have hG : Fu.Good (Fw.els ns) := by rw [hfe]; exact hok.good
  have hGr : Fu.Good (rels rs) := by rw [hre]; exact hok.good
  have hel : (Fw.els ns).length = ns.length := List.length_map _
  have hel2 : (rels rs).length = rs.length := List.length_map _
  have hn5 : ns.length ≤ 400001 := by rw [← hel, hfe]; exact hok.few
  have hn6 : rs.length ≤ 400001 := by rw [← hel2, hre]; exact hok.few
  have hnn : ns.length = rs.length := by rw [← hel, ← hel2, hfe, hre]
  have hpos := hG.pos
  have hlv : (seenE T.e).length = liveN ns := by rw [← hfe]; exact hG.seen_length
  have hTl := fun q (hq : Fp g rb ra ns q) => hP.ft.lt hq
  have hRl := fun q (hq : Rp gr rs av ev_ q) => hP.rt.lt hq
  obtain ⟨EA, em, ec, rfl⟩ := hP.rt.es.lens
  have hem : rs.length = em := by
    obtain ⟨A', m', c', e, h1, _⟩ := hP.rt.sl
    injection e with e1 e2 e3
    omega
  refine calls_of_CW 160 [6] [(0, .pointer (some ⟨g, 0, none⟩)), (1, .pointer (some ⟨gr, 0, none⟩)), (2, .agg (actC x).toArray)] Try.func28 rfl rfl rfl (by simp) args3 ?_
  have hE : Ext w w := Chg.refl
  refine CW.seq fun K1 hK1 => ?_
  refine CW.region ?_   -- region 0
  refine WL.box rfl rfl (by decide) fun g5 w1 hx1 hg5 hB5 => ?_   -- t5 := box 75 t2
  have hlt5 := hB5.lt; have hz1 := hx1.size
  have hM5 := hB5.mem; have hz1 := hx1.size; have hE := hE.thenExt hx1
  refine WL.val (Y.assign rfl) (by decide) ?_   -- t6 := assign c(false)
  refine WL.nil ?_
  refine hK1 _ _ ?_; try clear hK1 K1
  refine CW.seq fun K2 hK2 => ?_
  refine CW.seq fun K3 hK3 => ?_
  refine CW.region ?_   -- region 1
  refine WL.val (Y.fieldAddr fo_recensionlaw08Act0 rfl) (by decide) ?_   -- t21 := fieldAddr 75 t5 0
  refine WL.val (Y.load1 Try.underlying3 rfl hB5.mem.recensionlaw08Act0 rfl) (by decide) ?_   -- t22 := load 3 t21
  refine WL.nil ?_
  refine hK3 _ _ ?_; try clear hK3 K3
  refine CW.block ?_   -- block 0
  refine CW.seq fun K4 hK4 => ?_
  refine CW.region ?_   -- region 2
  refine WL.val (Y.eql rfl rfl) (by decide) ?_   -- t24 := binOp eql 3 t22 c(0:i64) 3
  refine WL.val (Y.assign rfl) (by decide) ?_   -- t23 := assign t24
  refine WL.nil ?_
  refine hK4 _ _ ?_; try clear hK4 K4
  first | refine CW.condD rfl (fun ht5 => ?_) (fun ht5 => ?_) | refine CW.condND rfl (fun ht5 => ?_) (fun ht5 => ?_) | refine CW.condN rfl (fun ht5 => ?_) (fun ht5 => ?_) | refine CW.cond rfl (fun ht5 => ?_) (fun ht5 => ?_)
  · -- then
    refine CW.seq fun K6 hK6 => ?_
    refine CW.held (fun wq => Chg (fun q => Fp g rb ra ns q ∨ Rp gr rs av (.slice EA em ec) q) w1 wq) (by kernel_rfl) 20 rfl fun w2 hx2 => ?_
    have hS : Chg (fun q => Fp g rb ra ns q ∨ Rp gr rs av (.slice EA em ec) q) w1 w2 := Ext.chg hx2
    have hz2 := hx2.size
    have hE := hE.thenExt hx2
    have h5n : ¬ (Fp g rb ra ns g5 ∨ Rp gr rs av (.slice EA em ec) g5) := fun h => by
      rcases h with h | h
      · have := hTl _ h; omega
      · have := hRl _ h; omega
    refine RH.take 0 (fun _ _ _ _ h => h) (by kernel_rfl) hS rfl (by kernel_rfl) (by kernel_rfl) (fun wq hq => Y.move rfl) (by decide) ?_   -- t25 := move t0
    refine RH.take 1 (fun _ _ _ _ h => h) (by kernel_rfl) hS rfl (by kernel_rfl) (by kernel_rfl) (fun wq hq => Y.fieldAddr fo_recensionlaw08Act2 rfl) (by decide) ?_   -- t26 := fieldAddr 75 t5 2
    refine RH.take 2 (fun _ _ _ _ h => h) (by kernel_rfl) hS rfl (by kernel_rfl) (by kernel_rfl) (fun wq hq => Y.fieldAddr fo_recensionlaw08Commit0 rfl) (by decide) ?_   -- t27 := fieldAddr 42 t26 0
    refine RH.take 3 (fun _ _ _ _ h => h) (by kernel_rfl) hS rfl (by kernel_rfl) (by kernel_rfl) (fun wq hq => Y.load Try.underlying24 rfl (hB5.chg hq h5n).mem.recensionlaw08Act2.recensionlaw08Commit0 (sz_apiDigest _) rfl) (by decide) ?_   -- t28 := load 24 t27
    refine RH.take 5 (fun _ _ _ _ h => h) (by kernel_rfl) hS rfl (by kernel_rfl) (by kernel_rfl) (fun wq hq => Y.fieldAddr fo_recensionlaw08Act2 rfl) (by decide) ?_   -- t30 := fieldAddr 75 t5 2
    refine RH.take 6 (fun _ _ _ _ h => h) (by kernel_rfl) hS rfl (by kernel_rfl) (by kernel_rfl) (fun wq hq => Y.fieldAddr fo_recensionlaw08Commit1 rfl) (by decide) ?_   -- t31 := fieldAddr 42 t30 1
    refine RH.take 7 (fun _ _ _ _ h => h) (by kernel_rfl) hS rfl (by kernel_rfl) (by kernel_rfl) (fun wq hq => Y.load1 Try.underlying35 rfl (hB5.chg hq h5n).mem.recensionlaw08Act2.recensionlaw08Commit1 rfl) (by decide) ?_   -- t32 := load 35 t31
    refine RH.take 10 (fun _ _ _ _ h => h) (by kernel_rfl) hS rfl (by kernel_rfl) (by kernel_rfl) (fun wq hq => Y.move rfl) (by decide) ?_   -- t35 := move t1
    refine RH.take 11 (fun _ _ _ _ h => h) (by kernel_rfl) hS rfl (by kernel_rfl) (by kernel_rfl) (fun wq hq => Y.fieldAddr fo_recensionlaw08Act2 rfl) (by decide) ?_   -- t36 := fieldAddr 75 t5 2
    refine RH.take 12 (fun _ _ _ _ h => h) (by kernel_rfl) hS rfl (by kernel_rfl) (by kernel_rfl) (fun wq hq => Y.fieldAddr fo_recensionlaw08Commit0 rfl) (by decide) ?_   -- t37 := fieldAddr 42 t36 0
    refine RH.take 13 (fun _ _ _ _ h => h) (by kernel_rfl) hS rfl (by kernel_rfl) (by kernel_rfl) (fun wq hq => Y.load Try.underlying24 rfl (hB5.chg hq h5n).mem.recensionlaw08Act2.recensionlaw08Commit0 (sz_apiDigest _) rfl) (by decide) ?_   -- t38 := load 24 t37
    refine RH.take 14 (fun _ _ _ _ h => h) (by kernel_rfl) hS rfl (by kernel_rfl) (by kernel_rfl) (fun wq hq => Y.fieldAddr fo_recensionlaw08Act2 rfl) (by decide) ?_   -- t39 := fieldAddr 75 t5 2
    refine RH.take 15 (fun _ _ _ _ h => h) (by kernel_rfl) hS rfl (by kernel_rfl) (by kernel_rfl) (fun wq hq => Y.fieldAddr fo_recensionlaw08Commit1 rfl) (by decide) ?_   -- t40 := fieldAddr 42 t39 1
    refine RH.take 16 (fun _ _ _ _ h => h) (by kernel_rfl) hS rfl (by kernel_rfl) (by kernel_rfl) (fun wq hq => Y.load1 Try.underlying35 rfl (hB5.chg hq h5n).mem.recensionlaw08Act2.recensionlaw08Commit1 rfl) (by decide) ?_   -- t41 := load 35 t40
    refine RH.one 4 (by kernel_rfl) ?_
    refine RS.st rfl (St.buildSlice0 Try.underlying35 sz0_apiOp) (by decide) fun v29 w3 hR3 => ?_   -- buildSlice 35 0 []
    obtain ⟨gb, rfl, hgb, hOb, hx3⟩ := hR3
    have hz3 := hx3.size
    have hS := hS.thenExt hx3
    have hE := hE.thenExt hx3
    refine ⟨hS, ?_⟩
    refine RH.one 8 (by kernel_rfl) ?_
    refine RS.st rfl (St.append (news := (x.com.ops.map opC).flatten) Try.underlying35 Try.underlying35 ai_op rfl rfl hOb (Sl.src opC_length (hx.ext hE)) one_ops (by simp only [List.length_nil]; omega)) (by decide) fun v33 w4 hR4 => ?_   -- call append(t29, t32) : 35,35
    obtain ⟨hO7, hc7, hf7⟩ := hR4
    have hz7 := hc7.size
    rw [List.nil_append] at hO7
    have hgbo : ∀ q, (Value.slice (some ⟨gb, 0, none⟩) 0 0).ownBlock = some q → q = gb := fun q h => by
      injection h with h
      exact h.symm
    have hS : Chg (fun q => Fp g rb ra ns q ∨ Rp gr rs av (.slice EA em ec) q) w1 w4 := hS.stepO hc7 (fun q hq => .inr (by have := hgbo q hq; omega))
    have hE := hE.step hc7 (fun q hq => by have := hgbo q hq; omega)
    have hsl7 := hO7.sl opC_length (by decide)
    have hf7 : ∀ q, v33.ownBlock = some q → w2.heap.size ≤ q := fun q hq => by
      rcases hf7 with h | h
      · rw [h] at hq; have := hgbo q hq; omega
      · have := h q hq; omega
    refine ⟨hS, ?_⟩
    refine RH.one 9 (by kernel_rfl) ?_
    refine RS.call rfl (fun _ _ h => by cases h) Try.func17 rfl rfl rfl (fadd_any g rb ra T.ad ns x.com.id _ x.com.ops L _ (hP.ft.ext hE) (by rw [hfe]; exact hok) hsl7 (fun _ q hq => ⟨hO7.lt q hq, fun h => by have h1 := hTl _ h; have h2 := hf7 q hq; omega⟩)) (by decide) fun v34 w5 hR5 => ?_   -- call F17(t25, t28, t33) : 27,24,35
    obtain ⟨rfl, ns2, hT8, he8, hc8, hf8, _⟩ := hR5
    have hz8 := hc8.size
    have hS : Chg (fun q => Fp g rb ra ns q ∨ Rp gr rs av (.slice EA em ec) q) w1 w5 := hS.trans hc8 (fun q _ h => .inl h)
    have hR8 : RtAt w5 gr T.ad rs av (.slice EA em ec) := (hP.rt.ext hE).chg hc8 (fun q hq h => hP.dis q hq h)
    have hl8 : Sl w5 opC 37 x.com.pv x.com.ops := (hx.ext hE).chgN hc8 (fun h0 q hq h => (hb h0 q hq).2.1 h)
    refine ⟨hS, ?_⟩
    refine RH.one 17 (by kernel_rfl) ?_
    refine RS.call rfl (fun _ _ h => by cases h) Try.func33 rfl rfl rfl (radd_any gr T.ad rs av (.slice EA em ec) x.com.id _ x.com.ops L _ hR8 (by rw [hre]; exact hok) hfew hl8 (fun h0 q hq => ⟨by have h1 := (hb h0 q hq).1; have := hE.size; omega, (hb h0 q hq).2.2⟩)) (by decide) fun v42 w6 hR6 => ?_   -- call F33(t35, t38, t41) : 28,24,35
    obtain ⟨rfl, rs2, av2, ev2, hT9, he9, hc9, hf9⟩ := hR6
    have hz9 := hc9.size
    have hS : Chg (fun q => Fp g rb ra ns q ∨ Rp gr rs av (.slice EA em ec) q) w1 w6 := hS.trans hc9 (fun q _ h => .inr h)
    have hsame : wrongC ⟨T.ad, Fw.els ns⟩ x.com.id x.com.ops = wrongC ⟨T.ad, rels rs⟩ x.com.id x.com.ops := by rw [hfe, hre]
    rw [hfe] at hT8 he8
    rw [hre] at hT9 he9
    have hzF := hE.size
    obtain ⟨L2, hok2, _⟩ := hok.addT x.com.id x.com.ops
    have hA2 : Two8 w6 g rb ra ns2 gr rs2 av2 ev2 L2 (addT T x.com.id x.com.ops) := {
      ft := hT8.chg hc9 (fun q hq h => by
        rcases hf8 q hq with h1 | h1
        · exact hP.dis q h h1
        · have := hRl _ h; omega)
      fe := he8
      rt := hT9
      re := he9
      ok := hok2
      dis := fun q hq h => by
        rcases hf9 q hq with h1 | h1
        · rcases hf8 q h with h2 | h2
          · exact hP.dis q h1 h2
          · have := hRl _ h1; omega
        · have := hT8.lt h; omega }
    refine ⟨hS, ?_⟩
    refine RH.take 18 (fun _ _ _ _ h => h) (by kernel_rfl) hS rfl (by kernel_rfl) (by kernel_rfl) (fun wq hq => Y.eql rfl rfl) (by decide) ?_   -- t43 := binOp eql 3 t34 t42 3
    refine RH.take 19 (fun _ _ _ _ h => h) (by kernel_rfl) hS rfl (by kernel_rfl) (by kernel_rfl) (fun wq hq => Y.assign rfl) (by decide) ?_   -- t6 := assign t43
    refine RH.done (by kernel_rfl) ?_
    skip
    refine hK6 _ _ ?_; try clear hK6 K6
    refine CW.ret ⟨_, rfl, ?_⟩
    refine ⟨by rw [hsame]; simp, fun hk => absurd (by assumption) hk, fun _ => ⟨ns2, rs2, av2, ev2, L2, hA2, (Ext.chg hx1).trans hS (fun q _ h => h), fun q hq => ?_, fun q hq => ?_⟩⟩
    · rcases hf8 q hq with h | h
      · exact .inl h
      · exact .inr (by omega)
    · rcases hf9 q hq with h | h
      · exact .inl h
      · exact .inr (by omega)
  -- else
  refine CW.seq fun K7 hK7 => ?_
  refine CW.region ?_   -- region 4
  refine WL.val (Y.eql rfl rfl) (by decide) ?_   -- t45 := binOp eql 3 t22 c(1:i64) 3
  refine WL.val (Y.assign rfl) (by decide) ?_   -- t44 := assign t45
  refine WL.nil ?_
  refine hK7 _ _ ?_; try clear hK7 K7
  first | refine CW.condD rfl (fun ht8 => ?_) (fun ht8 => ?_) | refine CW.condND rfl (fun ht8 => ?_) (fun ht8 => ?_) | refine CW.condN rfl (fun ht8 => ?_) (fun ht8 => ?_) | refine CW.cond rfl (fun ht8 => ?_) (fun ht8 => ?_)
  · -- then
    refine CW.seq fun K9 hK9 => ?_
    refine CW.held (fun wq => Ext w1 wq) (by kernel_rfl) 25 rfl fun w7 hS => ?_
    refine RH.take 0 (fun _ _ _ _ h => h) (by kernel_rfl) hS rfl (by kernel_rfl) (by kernel_rfl) (fun wq hq => Y.move rfl) (by decide) ?_   -- t46 := move t0
    refine RH.take 2 (fun _ _ _ _ h => h) (by kernel_rfl) hS rfl (by kernel_rfl) (by kernel_rfl) (fun wq hq => Y.move rfl) (by decide) ?_   -- t48 := move t1
    refine RH.one 1 (by kernel_rfl) ?_
    refine RS.call rfl (fun _ _ h => by cases h) Try.func15 rfl rfl rfl ((by have h9 := ftext_any g rb ra _ ns _ ((hP.ft.ext hE).ext hS) hG hn5; rw [hfe] at h9; exact h9)) (by decide) fun v47 w8 hR8 => ?_   -- call F15(t46) : 27
    obtain ⟨rfl, hx8⟩ := hR8
    have hS : Ext w1 w8 := hS.thenExt hx8
    refine ⟨hS, ?_⟩
    refine RH.one 3 (by kernel_rfl) ?_
    refine RS.call rfl (fun _ _ h => by cases h) Try.func19 rfl rfl rfl ((by have h9 := rtext_any gr _ rs av _ _ ((hP.rt.ext hE).ext hS) hGr hn6; rw [hre] at h9; exact h9)) (by decide) fun v49 w9 hR9 => ?_   -- call F19(t48) : 28
    obtain ⟨rfl, hx9⟩ := hR9
    have hS : Ext w1 w9 := hS.thenExt hx9
    refine ⟨hS, ?_⟩
    refine RH.take 4 (fun _ _ _ _ h => h) (by kernel_rfl) hS rfl (by kernel_rfl) (by kernel_rfl) (fun wq hq => Y.eql_string rfl rfl) (by decide) ?_   -- t50 := binOp eql 9 t47 t49 9
    refine RH.take 5 (fun _ _ _ _ h => h) (by kernel_rfl) hS rfl (by kernel_rfl) (by kernel_rfl) (fun wq hq => Y.move rfl) (by decide) ?_   -- t51 := move t50
    first | refine RH.casesD (d := 51) rfl (fun hg51 => ?_) (fun hg51 => ?_) | refine RH.cases (d := 51) rfl (fun hg51 => ?_) (fun hg51 => ?_)
    · -- t51 = T
      refine RH.gtake 6 (fun _ _ _ _ h => h) (by kernel_rfl) hS rfl (by kernel_rfl) (by kernel_rfl) rfl rfl (fun wq hq => Y.move rfl) (by decide) ?_   -- t52 := move t0
      refine RH.gtake 8 (fun _ _ _ _ h => h) (by kernel_rfl) hS rfl (by kernel_rfl) (by kernel_rfl) rfl rfl (fun wq hq => Y.move rfl) (by decide) ?_   -- t54 := move t1
      refine RH.one 7 (by kernel_rfl) ?_
      refine RS.call rfl (fun _ _ h => by cases h; exact ⟨_, rfl, rfl⟩) Try.func14 rfl rfl rfl (flen_any g rb ra _ ns _ ((hP.ft.ext hE).ext hS)) (by decide) fun v53 w10 hR10 => ?_   -- call F14(t52) : 27
      obtain ⟨rfl, hx10⟩ := hR10
      have hS : Ext w1 w10 := hS.thenExt hx10
      refine ⟨hS, ?_⟩
      refine RH.one 9 (by kernel_rfl) ?_
      refine RS.call rfl (fun _ _ h => by cases h; exact ⟨_, rfl, rfl⟩) Try.func18 rfl rfl rfl ((by have h9 := rseen_any gr _ rs av _ _ ((hP.rt.ext hE).ext hS) hGr hn6; rw [hre] at h9; exact h9)) (by decide) fun v55 w11 hR11 => ?_   -- call F18(t54) : 28
      obtain ⟨hO11, _, hx11⟩ := hR11
      have hS : Ext w1 w11 := hS.thenExt hx11
      obtain ⟨SA, sm, sc, rfl⟩ := hO11.lens
      obtain ⟨hsm, _⟩ := int_map hO11
      have hsl : liveN ns = sm := by omega
      refine ⟨hS, ?_⟩
      refine RH.gtake 10 (fun _ _ _ _ h => h) (by kernel_rfl) hS rfl (by kernel_rfl) (by kernel_rfl) rfl rfl (fun wq hq => Y.len_slice Try.underlying43 rfl) (by decide) ?_   -- t56 := call len(t55) : 43
      refine RH.gtake 11 (fun _ _ _ _ h => h) (by kernel_rfl) hS rfl (by kernel_rfl) (by kernel_rfl) rfl rfl (fun wq hq => Y.eql rfl rfl) (by decide) ?_   -- t57 := binOp eql 3 t53 t56 3
      refine RH.take 12 (fun _ _ _ _ h => h) (by kernel_rfl) hS rfl (by kernel_rfl) (by kernel_rfl) (fun wq hq => Y.pick rfl rfl) (by decide) ?_   -- t58 := pick t51 t57 c(false)
      refine RH.take 13 (fun _ _ _ _ h => h) (by kernel_rfl) hS rfl (by kernel_rfl) (by kernel_rfl) (fun wq hq => Y.move rfl) (by decide) ?_   -- t59 := move t58
      first | refine RH.casesD (d := 59) rfl (fun hg59 => ?_) (fun hg59 => ?_) | refine RH.cases (d := 59) rfl (fun hg59 => ?_) (fun hg59 => ?_)
      · -- t59 = T
        refine RH.gtake 14 (fun _ _ _ _ h => h) (by kernel_rfl) hS rfl (by kernel_rfl) (by kernel_rfl) rfl rfl (fun wq hq => Y.move rfl) (by decide) ?_   -- t60 := move t0
        refine RH.gtake 16 (fun _ _ _ _ h => h) (by kernel_rfl) hS rfl (by kernel_rfl) (by kernel_rfl) rfl rfl (fun wq hq => Y.move rfl) (by decide) ?_   -- t62 := move t1
        refine RH.gtake 17 (fun _ _ _ _ h => h) (by kernel_rfl) hS rfl (by kernel_rfl) (by kernel_rfl) rfl rfl (fun wq hq => Y.nilCheck rfl) (by decide) ?_   -- t63 := nilCheck t62
        refine RH.gtake 18 (fun _ _ _ _ h => h) (by kernel_rfl) hS rfl (by kernel_rfl) (by kernel_rfl) rfl rfl (fun wq hq => Y.fieldAddr fo_recensionref08Tree1 rfl) (by decide) ?_   -- t64 := fieldAddr 55 t63 1
        refine RH.gtake 19 (fun _ _ _ _ h => h) (by kernel_rfl) hS rfl (by kernel_rfl) (by kernel_rfl) rfl rfl (fun wq hq => Y.load1 Try.underlying53 rfl ((hP.rt.ext hE).ext hq).blk.mem.recensionref08Tree1 rfl) (by decide) ?_   -- t65 := load 53 t64
        refine RH.gtake 20 (fun _ _ _ _ h => h) (by kernel_rfl) hS rfl (by kernel_rfl) (by kernel_rfl) rfl rfl (fun wq hq => Y.len_slice Try.underlying53 rfl) (by decide) ?_   -- t66 := call len(t65) : 53
        refine RH.gtake 21 (fun _ _ _ _ h => h) (by kernel_rfl) hS rfl (by kernel_rfl) (by kernel_rfl) rfl rfl (fun wq hq => Y.sub rfl rfl ⟨by omega, by omega⟩) (by decide) ?_   -- t67 := binOp sub 3 t66 c(1:i64) 3
        refine RH.one 15 (by kernel_rfl) ?_
        refine RS.call rfl (fun _ _ h => by cases h; exact ⟨_, rfl, rfl⟩) Try.func24 rfl rfl rfl (ffull_any g rb ra _ ns _ ((hP.ft.ext hE).ext hS)) (by decide) fun v61 w12 hR12 => ?_   -- call F24(t60) : 27
        obtain ⟨rfl, hx12⟩ := hR12
        have hS : Ext w1 w12 := hS.thenExt hx12
        refine ⟨hS, ?_⟩
        refine RH.gtake 22 (fun _ _ _ _ h => h) (by kernel_rfl) hS rfl (by kernel_rfl) (by kernel_rfl) rfl rfl (fun wq hq => Y.eql rfl rfl) (by decide) ?_   -- t68 := binOp eql 3 t61 t67 3
        refine RH.take 23 (fun _ _ _ _ h => h) (by kernel_rfl) hS rfl (by kernel_rfl) (by kernel_rfl) (fun wq hq => Y.pick rfl rfl) (by decide) ?_   -- t69 := pick t59 t68 c(false)
        refine RH.take 24 (fun _ _ _ _ h => h) (by kernel_rfl) hS rfl (by kernel_rfl) (by kernel_rfl) (fun wq hq => Y.assign rfl) (by decide) ?_   -- t6 := assign t69
        refine RH.done (by kernel_rfl) ?_
        have hx13 := hS; have hz13 := hx13.size; have hE := hE.thenExt hx13; have hB5 := hB5.ext hx13
        refine hK9 _ _ ?_; try clear hK9 K9
        refine CW.ret ⟨_, rfl, ?_⟩
        have h9 : ((ns.length - 1 : Nat) : Int) = (em : Int) - 1 := by omega
        exact ⟨by simp [h9], (fun _ => hE), (fun hk => by omega)⟩
      · -- t59 = F
        refine RH.goff 14 (fun _ _ _ _ h => h) (by kernel_rfl) hS rfl (by kernel_rfl) (by kernel_rfl) rfl rfl (by decide) ?_   -- t60 := move t0
        refine RH.goff 15 (fun _ _ _ _ h => h) (by kernel_rfl) hS rfl (by kernel_rfl) (by kernel_rfl) rfl rfl (by decide) ?_   -- t61 := call F24(t60) : 27
        refine RH.goff 16 (fun _ _ _ _ h => h) (by kernel_rfl) hS rfl (by kernel_rfl) (by kernel_rfl) rfl rfl (by decide) ?_   -- t62 := move t1
        refine RH.goff 17 (fun _ _ _ _ h => h) (by kernel_rfl) hS rfl (by kernel_rfl) (by kernel_rfl) rfl rfl (by decide) ?_   -- t63 := nilCheck t62
        refine RH.goff 18 (fun _ _ _ _ h => h) (by kernel_rfl) hS rfl (by kernel_rfl) (by kernel_rfl) rfl rfl (by decide) ?_   -- t64 := fieldAddr 55 t63 1
        refine RH.goff 19 (fun _ _ _ _ h => h) (by kernel_rfl) hS rfl (by kernel_rfl) (by kernel_rfl) rfl rfl (by decide) ?_   -- t65 := load 53 t64
        refine RH.goff 20 (fun _ _ _ _ h => h) (by kernel_rfl) hS rfl (by kernel_rfl) (by kernel_rfl) rfl rfl (by decide) ?_   -- t66 := call len(t65) : 53
        refine RH.goff 21 (fun _ _ _ _ h => h) (by kernel_rfl) hS rfl (by kernel_rfl) (by kernel_rfl) rfl rfl (by decide) ?_   -- t67 := binOp sub 3 t66 c(1:i64) 3
        refine RH.goff 22 (fun _ _ _ _ h => h) (by kernel_rfl) hS rfl (by kernel_rfl) (by kernel_rfl) rfl rfl (by decide) ?_   -- t68 := binOp eql 3 t61 t67 3
        refine RH.take 23 (fun _ _ _ _ h => h) (by kernel_rfl) hS rfl (by kernel_rfl) (by kernel_rfl) (fun wq hq => Y.pick rfl rfl) (by decide) ?_   -- t69 := pick t59 t68 c(false)
        refine RH.take 24 (fun _ _ _ _ h => h) (by kernel_rfl) hS rfl (by kernel_rfl) (by kernel_rfl) (fun wq hq => Y.assign rfl) (by decide) ?_   -- t6 := assign t69
        refine RH.done (by kernel_rfl) ?_
        have hx14 := hS; have hz14 := hx14.size; have hE := hE.thenExt hx14; have hB5 := hB5.ext hx14
        refine hK9 _ _ ?_; try clear hK9 K9
        refine CW.ret ⟨_, rfl, ?_⟩
        first | exact absurd rfl (by assumption) | (simp_all; done)
    · -- t51 = F
      refine RH.goff 6 (fun _ _ _ _ h => h) (by kernel_rfl) hS rfl (by kernel_rfl) (by kernel_rfl) rfl rfl (by decide) ?_   -- t52 := move t0
      refine RH.goff 7 (fun _ _ _ _ h => h) (by kernel_rfl) hS rfl (by kernel_rfl) (by kernel_rfl) rfl rfl (by decide) ?_   -- t53 := call F14(t52) : 27
      refine RH.goff 8 (fun _ _ _ _ h => h) (by kernel_rfl) hS rfl (by kernel_rfl) (by kernel_rfl) rfl rfl (by decide) ?_   -- t54 := move t1
      refine RH.goff 9 (fun _ _ _ _ h => h) (by kernel_rfl) hS rfl (by kernel_rfl) (by kernel_rfl) rfl rfl (by decide) ?_   -- t55 := call F18(t54) : 28
      refine RH.goff 10 (fun _ _ _ _ h => h) (by kernel_rfl) hS rfl (by kernel_rfl) (by kernel_rfl) rfl rfl (by decide) ?_   -- t56 := call len(t55) : 43
      refine RH.goff 11 (fun _ _ _ _ h => h) (by kernel_rfl) hS rfl (by kernel_rfl) (by kernel_rfl) rfl rfl (by decide) ?_   -- t57 := binOp eql 3 t53 t56 3
      refine RH.take 12 (fun _ _ _ _ h => h) (by kernel_rfl) hS rfl (by kernel_rfl) (by kernel_rfl) (fun wq hq => Y.pick rfl rfl) (by decide) ?_   -- t58 := pick t51 t57 c(false)
      refine RH.take 13 (fun _ _ _ _ h => h) (by kernel_rfl) hS rfl (by kernel_rfl) (by kernel_rfl) (fun wq hq => Y.move rfl) (by decide) ?_   -- t59 := move t58
      refine RH.goff 14 (fun _ _ _ _ h => h) (by kernel_rfl) hS rfl (by kernel_rfl) (by kernel_rfl) rfl rfl (by decide) ?_   -- t60 := move t0
      refine RH.goff 15 (fun _ _ _ _ h => h) (by kernel_rfl) hS rfl (by kernel_rfl) (by kernel_rfl) rfl rfl (by decide) ?_   -- t61 := call F24(t60) : 27
      refine RH.goff 16 (fun _ _ _ _ h => h) (by kernel_rfl) hS rfl (by kernel_rfl) (by kernel_rfl) rfl rfl (by decide) ?_   -- t62 := move t1
      refine RH.goff 17 (fun _ _ _ _ h => h) (by kernel_rfl) hS rfl (by kernel_rfl) (by kernel_rfl) rfl rfl (by decide) ?_   -- t63 := nilCheck t62
      refine RH.goff 18 (fun _ _ _ _ h => h) (by kernel_rfl) hS rfl (by kernel_rfl) (by kernel_rfl) rfl rfl (by decide) ?_   -- t64 := fieldAddr 55 t63 1
      refine RH.goff 19 (fun _ _ _ _ h => h) (by kernel_rfl) hS rfl (by kernel_rfl) (by kernel_rfl) rfl rfl (by decide) ?_   -- t65 := load 53 t64
      refine RH.goff 20 (fun _ _ _ _ h => h) (by kernel_rfl) hS rfl (by kernel_rfl) (by kernel_rfl) rfl rfl (by decide) ?_   -- t66 := call len(t65) : 53
      refine RH.goff 21 (fun _ _ _ _ h => h) (by kernel_rfl) hS rfl (by kernel_rfl) (by kernel_rfl) rfl rfl (by decide) ?_   -- t67 := binOp sub 3 t66 c(1:i64) 3
      refine RH.goff 22 (fun _ _ _ _ h => h) (by kernel_rfl) hS rfl (by kernel_rfl) (by kernel_rfl) rfl rfl (by decide) ?_   -- t68 := binOp eql 3 t61 t67 3
      refine RH.take 23 (fun _ _ _ _ h => h) (by kernel_rfl) hS rfl (by kernel_rfl) (by kernel_rfl) (fun wq hq => Y.pick rfl rfl) (by decide) ?_   -- t69 := pick t59 t68 c(false)
      refine RH.take 24 (fun _ _ _ _ h => h) (by kernel_rfl) hS rfl (by kernel_rfl) (by kernel_rfl) (fun wq hq => Y.assign rfl) (by decide) ?_   -- t6 := assign t69
      refine RH.done (by kernel_rfl) ?_
      have hx15 := hS; have hz15 := hx15.size; have hE := hE.thenExt hx15; have hB5 := hB5.ext hx15
      refine hK9 _ _ ?_; try clear hK9 K9
      refine CW.ret ⟨_, rfl, ?_⟩
      first | exact absurd rfl (by assumption) | (simp_all; done)
  -- else
  refine CW.seq fun K10 hK10 => ?_
  refine CW.region ?_   -- region 6
  refine WL.val (Y.eql rfl rfl) (by decide) ?_   -- t71 := binOp eql 3 t22 c(2:i64) 3
  refine WL.val (Y.assign rfl) (by decide) ?_   -- t70 := assign t71
  refine WL.nil ?_
  refine hK10 _ _ ?_; try clear hK10 K10
  first | refine CW.condD rfl (fun ht11 => ?_) (fun ht11 => ?_) | refine CW.condND rfl (fun ht11 => ?_) (fun ht11 => ?_) | refine CW.condN rfl (fun ht11 => ?_) (fun ht11 => ?_) | refine CW.cond rfl (fun ht11 => ?_) (fun ht11 => ?_)
  · -- then
    refine CW.seq fun K12 hK12 => ?_
    refine CW.region ?_   -- region 7
    refine WL.val (Y.move rfl) (by decide) ?_   -- t73 := move t0
    refine WL.val (Y.fieldAddr fo_recensionlaw08Act3 rfl) (by decide) ?_   -- t74 := fieldAddr 75 t5 3
    refine WL.val (Y.load1 Try.underlying3 rfl hB5.mem.recensionlaw08Act3 rfl) (by decide) ?_   -- t75 := load 3 t74
    refine WL.call Try.func25 rfl rfl rfl ((by have h9 := fref_any g rb ra _ ns x.n _ (hP.ft.ext hE) hG hn5; rw [hfe] at h9; exact h9)) (by simp) ?_; rintro v w16 ⟨rfl, hx16⟩; have hz16 := hx16.size; have hE := hE.thenExt hx16; have hB5 := hB5.ext hx16   -- t76 := call F25(t73, t75) : 27,3
    refine WL.val (Y.move rfl) (by decide) ?_   -- t72 := move t76
    refine WL.val (Y.extract rfl rfl) (by decide) ?_   -- t77 := extract t72 0
    refine WL.val (Y.extract rfl rfl) (by decide) ?_   -- t78 := extract t72 1
    refine as_apiRef rfl (by simp) (by decide) fun g7 w17 hx17 hg7 hB7 => ?_   -- alloc 49; store 49 t7 t77
    have hlt7 := hB7.lt; have hz17 := hx17.size
    have hM7 := hB7.mem; have hz17 := hx17.size; have hE := hE.thenExt hx17; have hB5 := hB5.ext hx17
    refine WL.val (Y.assign rfl) (by decide) ?_   -- t8 := assign t78
    refine WL.nil ?_
    refine hK12 _ _ ?_; try clear hK12 K12
    refine CW.seq fun K13 hK13 => ?_
    refine CW.region ?_   -- region 8
    refine WL.val (Y.move rfl) (by decide) ?_   -- t80 := move t1
    refine WL.val (Y.fieldAddr fo_recensionlaw08Act3 rfl) (by decide) ?_   -- t81 := fieldAddr 75 t5 3
    refine WL.val (Y.load1 Try.underlying3 rfl hB5.mem.recensionlaw08Act3 rfl) (by decide) ?_   -- t82 := load 3 t81
    refine WL.call Try.func44 rfl rfl rfl ((by have h9 := rref_any gr _ rs av _ x.n _ (hP.rt.ext hE) hGr hn6; rw [hre] at h9; exact h9)) (by simp) ?_; rintro v w18 ⟨rfl, hx18⟩; have hz18 := hx18.size; have hE := hE.thenExt hx18; have hB5 := hB5.ext hx18; have hB7 := hB7.ext hx18   -- t83 := call F44(t80, t82) : 28,3
    refine WL.val (Y.move rfl) (by decide) ?_   -- t79 := move t83
    refine WL.val (Y.extract rfl rfl) (by decide) ?_   -- t84 := extract t79 0
    refine WL.val (Y.extract rfl rfl) (by decide) ?_   -- t85 := extract t79 1
    refine as_apiRef rfl (by simp) (by decide) fun g9 w19 hx19 hg9 hB9 => ?_   -- alloc 49; store 49 t9 t84
    have hlt9 := hB9.lt; have hz19 := hx19.size
    have hM9 := hB9.mem; have hz19 := hx19.size; have hE := hE.thenExt hx19; have hB5 := hB5.ext hx19; have hB7 := hB7.ext hx19
    refine WL.val (Y.assign rfl) (by decide) ?_   -- t10 := assign t85
    refine WL.nil ?_
    refine hK13 _ _ ?_; try clear hK13 K13
    refine CW.seq fun K14 hK14 => ?_
    refine CW.region ?_   -- region 9
    refine WL.val (Y.load Try.underlying49 rfl hB7.mem (sz_apiRef _) rfl) (by decide) ?_   -- t86 := load 49 t7
    refine WL.val (Y.load Try.underlying49 rfl hB9.mem (sz_apiRef _) rfl) (by decide) ?_   -- t87 := load 49 t9
    refine WL.val (Y.eql_apiRef rfl rfl) (by decide) ?_   -- t88 := binOp eql 49 t86 t87 49
    refine WL.val (Y.move rfl) (by decide) ?_   -- t89 := move t88
    first | refine WL.casesD (d := 89) rfl (fun hg89 => ?_) (fun hg89 => ?_) | refine WL.casesND (d := 89) rfl (fun hg89 => ?_) (fun hg89 => ?_) | refine WL.cases (d := 89) rfl (fun hg89 => ?_) (fun hg89 => ?_)
    · -- t89 = T
      refine WL.gval rfl rfl (Y.move rfl) (by decide) ?_   -- t90 := move t8 [if 3=true]
      refine WL.gval rfl rfl (Y.move rfl) (by decide) ?_   -- t91 := move t10 [if 3=true]
      refine WL.gval rfl rfl (Y.eql_bool Try.underlying4 rfl rfl) (by decide) ?_   -- t92 := binOp eql 4 t90 t91 4 [if 3=true]
      refine WL.val (Y.pick rfl rfl) (by decide) ?_   -- t93 := pick t89 t92 c(false)
      refine WL.val (Y.assign rfl) (by decide) ?_   -- t6 := assign t93
      refine WL.nil ?_
      refine hK14 _ _ ?_; try clear hK14 K14
      refine CW.ret ⟨_, rfl, ?_⟩
      exact ⟨by simp, (fun _ => hE), (fun hk => by omega)⟩
    · -- t89 = F
      refine WL.goff rfl rfl (by decide) ?_   -- t90 := move t8 [if 3=true]
      refine WL.goff rfl rfl (by decide) ?_   -- t91 := move t10 [if 3=true]
      refine WL.goff rfl rfl (by decide) ?_   -- t92 := binOp eql 4 t90 t91 4 [if 3=true]
      refine WL.val (Y.pick rfl rfl) (by decide) ?_   -- t93 := pick t89 t92 c(false)
      refine WL.val (Y.assign rfl) (by decide) ?_   -- t6 := assign t93
      refine WL.nil ?_
      refine hK14 _ _ ?_; try clear hK14 K14
      refine CW.ret ⟨_, rfl, ?_⟩
      first | exact absurd rfl (by assumption) | (simp_all; done)
  -- else
  refine CW.seq fun K15 hK15 => ?_
  refine CW.region ?_   -- region 10
  refine WL.val (Y.eql rfl rfl) (by decide) ?_   -- t95 := binOp eql 3 t22 c(3:i64) 3
  refine WL.val (Y.assign rfl) (by decide) ?_   -- t94 := assign t95
  refine WL.nil ?_
  refine hK15 _ _ ?_; try clear hK15 K15
  first | refine CW.condD rfl (fun ht16 => ?_) (fun ht16 => ?_) | refine CW.condND rfl (fun ht16 => ?_) (fun ht16 => ?_) | refine CW.condN rfl (fun ht16 => ?_) (fun ht16 => ?_) | refine CW.cond rfl (fun ht16 => ?_) (fun ht16 => ?_)
  · -- then
    refine CW.seq fun K17 hK17 => ?_
    refine CW.region ?_   -- region 11
    refine WL.val (Y.move rfl) (by decide) ?_   -- t97 := move t0
    refine WL.val (Y.fieldAddr fo_recensionlaw08Act4 rfl) (by decide) ?_   -- t98 := fieldAddr 75 t5 4
    refine WL.val (Y.load Try.underlying49 rfl hB5.mem.recensionlaw08Act4 (sz_apiRef _) rfl) (by decide) ?_   -- t99 := load 49 t98
    refine WL.call Try.func26 rfl rfl rfl ((by have h9 := fplace_any g rb ra _ ns x.at_ _ (hP.ft.ext hE) hG hn5; rw [hfe] at h9; exact h9)) (by simp) ?_; rintro v w20 ⟨rfl, hx20⟩; have hz20 := hx20.size; have hE := hE.thenExt hx20; have hB5 := hB5.ext hx20   -- t100 := call F26(t97, t99) : 27,49
    refine WL.val (Y.move rfl) (by decide) ?_   -- t96 := move t100
    refine WL.val (Y.extract rfl rfl) (by decide) ?_   -- t101 := extract t96 0
    refine WL.val (Y.extract rfl rfl) (by decide) ?_   -- t102 := extract t96 1
    refine WL.val (Y.assign rfl) (by decide) ?_   -- t11 := assign t101
    refine WL.val (Y.assign rfl) (by decide) ?_   -- t12 := assign t102
    refine WL.nil ?_
    refine hK17 _ _ ?_; try clear hK17 K17
    refine CW.seq fun K18 hK18 => ?_
    refine CW.region ?_   -- region 12
    refine WL.val (Y.move rfl) (by decide) ?_   -- t104 := move t1
    refine WL.val (Y.fieldAddr fo_recensionlaw08Act4 rfl) (by decide) ?_   -- t105 := fieldAddr 75 t5 4
    refine WL.val (Y.load Try.underlying49 rfl hB5.mem.recensionlaw08Act4 (sz_apiRef _) rfl) (by decide) ?_   -- t106 := load 49 t105
    refine WL.call Try.func45 rfl rfl rfl ((by have h9 := rplace_any gr _ rs av _ x.at_ _ (hP.rt.ext hE) hGr hn6; rw [hre] at h9; exact h9)) (by simp) ?_; rintro v w21 ⟨rfl, hx21⟩; have hz21 := hx21.size; have hE := hE.thenExt hx21; have hB5 := hB5.ext hx21   -- t107 := call F45(t104, t106) : 28,49
    refine WL.val (Y.move rfl) (by decide) ?_   -- t103 := move t107
    refine WL.val (Y.extract rfl rfl) (by decide) ?_   -- t108 := extract t103 0
    refine WL.val (Y.extract rfl rfl) (by decide) ?_   -- t109 := extract t103 1
    refine WL.val (Y.assign rfl) (by decide) ?_   -- t13 := assign t108
    refine WL.val (Y.assign rfl) (by decide) ?_   -- t14 := assign t109
    refine WL.nil ?_
    refine hK18 _ _ ?_; try clear hK18 K18
    refine CW.seq fun K19 hK19 => ?_
    refine CW.quiet (fun wq => Ext w21 wq) (by kernel_rfl) (by kernel_rfl) Chg.drew ?_
    refine QL.val (fun wq hq => Y.move rfl) (by decide) ?_   -- t110 := move t11
    refine QL.val (fun wq hq => Y.move rfl) (by decide) ?_   -- t111 := move t13
    refine QL.val (fun wq hq => Y.eql rfl rfl) (by decide) ?_   -- t112 := binOp eql 3 t110 t111 3
    refine QL.val (fun wq hq => Y.move rfl) (by decide) ?_   -- t113 := move t112
    first | refine QL.casesD (d := 113) rfl (fun hg113 => ?_) (fun hg113 => ?_) | refine QL.casesND (d := 113) rfl (fun hg113 => ?_) (fun hg113 => ?_) | refine QL.cases (d := 113) rfl (fun hg113 => ?_) (fun hg113 => ?_)
    · -- t113 = T
      refine QL.gval rfl rfl (fun wq hq => Y.move rfl) (by decide) ?_   -- t114 := move t12 [if 3=true]
      refine QL.gval rfl rfl (fun wq hq => Y.move rfl) (by decide) ?_   -- t115 := move t14 [if 3=true]
      refine QL.gval rfl rfl (fun wq hq => Y.eql_bool Try.underlying4 rfl rfl) (by decide) ?_   -- t116 := binOp eql 4 t114 t115 4 [if 3=true]
      refine QL.val (fun wq hq => Y.pick rfl rfl) (by decide) ?_   -- t117 := pick t113 t116 c(false)
      refine QL.val (fun wq hq => Y.move rfl) (by decide) ?_   -- t118 := move t117
      first | refine QL.casesD (d := 118) rfl (fun hg118 => ?_) (fun hg118 => ?_) | refine QL.casesND (d := 118) rfl (fun hg118 => ?_) (fun hg118 => ?_) | refine QL.cases (d := 118) rfl (fun hg118 => ?_) (fun hg118 => ?_)
      · -- t118 = T
        refine QL.gval rfl rfl (fun wq hq => Y.move rfl) (by decide) ?_   -- t119 := move t0 [if 8=true]
        refine QL.gval rfl rfl (fun wq hq => Y.fieldAddr fo_recensionlaw08Act4 rfl) (by decide) ?_   -- t120 := fieldAddr 75 t5 4 [if 8=true]
        refine QL.gval rfl rfl (fun wq hq => Y.load Try.underlying49 rfl (hB5.ext hq).mem.recensionlaw08Act4 (sz_apiRef _) rfl) (by decide) ?_   -- t121 := load 49 t120 [if 8=true]
        refine QL.gcall rfl rfl Try.func27 rfl rfl rfl (fun wq hq => (ret_ext (by have h9 := fhas_any g rb ra _ ns x.at_ _ ((hP.ft.ext hE).ext hq) hG; rw [hfe] at h9; exact h9) hq)) (by decide) ?_   -- t122 := call F27(t119, t121) : 27,49 [if 8=true]
        refine QL.gval rfl rfl (fun wq hq => Y.move rfl) (by decide) ?_   -- t123 := move t1 [if 8=true]
        refine QL.gval rfl rfl (fun wq hq => Y.fieldAddr fo_recensionlaw08Act4 rfl) (by decide) ?_   -- t124 := fieldAddr 75 t5 4 [if 8=true]
        refine QL.gval rfl rfl (fun wq hq => Y.load Try.underlying49 rfl (hB5.ext hq).mem.recensionlaw08Act4 (sz_apiRef _) rfl) (by decide) ?_   -- t125 := load 49 t124 [if 8=true]
        refine QL.gcall rfl rfl Try.func46 rfl rfl rfl (fun wq hq => (ret_ext (by have h9 := rhas_any gr _ rs av _ x.at_ _ ((hP.rt.ext hE).ext hq) hGr hn6; rw [hre] at h9; exact h9) hq)) (by decide) ?_   -- t126 := call F46(t123, t125) : 28,49 [if 8=true]
        refine QL.gval rfl rfl (fun wq hq => Y.eql_bool Try.underlying4 rfl rfl) (by decide) ?_   -- t127 := binOp eql 4 t122 t126 4 [if 8=true]
        refine QL.val (fun wq hq => Y.pick rfl rfl) (by decide) ?_   -- t128 := pick t118 t127 c(false)
        refine QL.val (fun wq hq => Y.assign rfl) (by decide) ?_   -- t6 := assign t128
        refine QL.nil fun w22 hx22 => ?_
        have hz22 := hx22.size
        have hE := hE.thenExt hx22
        have hB5 := hB5.ext hx22
        refine hK19 _ _ ?_; try clear hK19 K19
        refine CW.ret ⟨_, rfl, ?_⟩
        exact ⟨by simp, (fun _ => hE), (fun hk => by omega)⟩
      · -- t118 = F
        refine QL.goff rfl rfl (by decide) ?_   -- t119 := move t0 [if 8=true]
        refine QL.goff rfl rfl (by decide) ?_   -- t120 := fieldAddr 75 t5 4 [if 8=true]
        refine QL.goff rfl rfl (by decide) ?_   -- t121 := load 49 t120 [if 8=true]
        refine QL.goff rfl rfl (by decide) ?_   -- t122 := call F27(t119, t121) : 27,49 [if 8=true]
        refine QL.goff rfl rfl (by decide) ?_   -- t123 := move t1 [if 8=true]
        refine QL.goff rfl rfl (by decide) ?_   -- t124 := fieldAddr 75 t5 4 [if 8=true]
        refine QL.goff rfl rfl (by decide) ?_   -- t125 := load 49 t124 [if 8=true]
        refine QL.goff rfl rfl (by decide) ?_   -- t126 := call F46(t123, t125) : 28,49 [if 8=true]
        refine QL.goff rfl rfl (by decide) ?_   -- t127 := binOp eql 4 t122 t126 4 [if 8=true]
        refine QL.val (fun wq hq => Y.pick rfl rfl) (by decide) ?_   -- t128 := pick t118 t127 c(false)
        refine QL.val (fun wq hq => Y.assign rfl) (by decide) ?_   -- t6 := assign t128
        refine QL.nil fun w23 hx23 => ?_
        have hz23 := hx23.size
        have hE := hE.thenExt hx23
        have hB5 := hB5.ext hx23
        refine hK19 _ _ ?_; try clear hK19 K19
        refine CW.ret ⟨_, rfl, ?_⟩
        first | exact absurd rfl (by assumption) | (simp_all; done)
    · -- t113 = F
      refine QL.goff rfl rfl (by decide) ?_   -- t114 := move t12 [if 3=true]
      refine QL.goff rfl rfl (by decide) ?_   -- t115 := move t14 [if 3=true]
      refine QL.goff rfl rfl (by decide) ?_   -- t116 := binOp eql 4 t114 t115 4 [if 3=true]
      refine QL.val (fun wq hq => Y.pick rfl rfl) (by decide) ?_   -- t117 := pick t113 t116 c(false)
      refine QL.val (fun wq hq => Y.move rfl) (by decide) ?_   -- t118 := move t117
      refine QL.goff rfl rfl (by decide) ?_   -- t119 := move t0 [if 8=true]
      refine QL.goff rfl rfl (by decide) ?_   -- t120 := fieldAddr 75 t5 4 [if 8=true]
      refine QL.goff rfl rfl (by decide) ?_   -- t121 := load 49 t120 [if 8=true]
      refine QL.goff rfl rfl (by decide) ?_   -- t122 := call F27(t119, t121) : 27,49 [if 8=true]
      refine QL.goff rfl rfl (by decide) ?_   -- t123 := move t1 [if 8=true]
      refine QL.goff rfl rfl (by decide) ?_   -- t124 := fieldAddr 75 t5 4 [if 8=true]
      refine QL.goff rfl rfl (by decide) ?_   -- t125 := load 49 t124 [if 8=true]
      refine QL.goff rfl rfl (by decide) ?_   -- t126 := call F46(t123, t125) : 28,49 [if 8=true]
      refine QL.goff rfl rfl (by decide) ?_   -- t127 := binOp eql 4 t122 t126 4 [if 8=true]
      refine QL.val (fun wq hq => Y.pick rfl rfl) (by decide) ?_   -- t128 := pick t118 t127 c(false)
      refine QL.val (fun wq hq => Y.assign rfl) (by decide) ?_   -- t6 := assign t128
      refine QL.nil fun w24 hx24 => ?_
      have hz24 := hx24.size
      have hE := hE.thenExt hx24
      have hB5 := hB5.ext hx24
      refine hK19 _ _ ?_; try clear hK19 K19
      refine CW.ret ⟨_, rfl, ?_⟩
      first | exact absurd rfl (by assumption) | (simp_all; done)
  -- else
  refine CW.seq fun K20 hK20 => ?_
  refine CW.region ?_   -- region 14
  refine WL.val (Y.eql rfl rfl) (by decide) ?_   -- t130 := binOp eql 3 t22 c(4:i64) 3
  refine WL.val (Y.assign rfl) (by decide) ?_   -- t129 := assign t130
  refine WL.nil ?_
  refine hK20 _ _ ?_; try clear hK20 K20
  first | refine CW.condD rfl (fun ht21 => ?_) (fun ht21 => ?_) | refine CW.condND rfl (fun ht21 => ?_) (fun ht21 => ?_) | refine CW.condN rfl (fun ht21 => ?_) (fun ht21 => ?_) | refine CW.cond rfl (fun ht21 => ?_) (fun ht21 => ?_)
  · -- then
    refine CW.seq fun K22 hK22 => ?_
    refine CW.region ?_   -- region 15
    refine WL.val (Y.move rfl) (by decide) ?_   -- t132 := move t0
    refine WL.val (Y.fieldAddr fo_recensionlaw08Act3 rfl) (by decide) ?_   -- t133 := fieldAddr 75 t5 3
    refine WL.val (Y.load1 Try.underlying3 rfl hB5.mem.recensionlaw08Act3 rfl) (by decide) ?_   -- t134 := load 3 t133
    refine WL.call Try.func34 rfl rfl rfl ((by have h9 := fgap_any g rb ra _ ns x.n _ (hP.ft.ext hE) hG hn5; rw [hfe] at h9; exact h9)) (by simp) ?_; rintro v w25 ⟨rfl, hx25⟩; have hz25 := hx25.size; have hE := hE.thenExt hx25; have hB5 := hB5.ext hx25   -- t135 := call F34(t132, t134) : 27,3
    refine WL.val (Y.move rfl) (by decide) ?_   -- t131 := move t135
    refine WL.val (Y.extract rfl rfl) (by decide) ?_   -- t136 := extract t131 0
    refine WL.val (Y.extract rfl rfl) (by decide) ?_   -- t137 := extract t131 1
    refine WL.val (Y.extract rfl rfl) (by decide) ?_   -- t138 := extract t131 2
    refine as_apiRef rfl (by simp) (by decide) fun g15 w26 hx26 hg15 hB15 => ?_   -- alloc 49; store 49 t15 t136
    have hlt15 := hB15.lt; have hz26 := hx26.size
    have hM15 := hB15.mem; have hz26 := hx26.size; have hE := hE.thenExt hx26; have hB5 := hB5.ext hx26
    refine WL.val (Y.assign rfl) (by decide) ?_   -- t16 := assign t137
    refine WL.val (Y.assign rfl) (by decide) ?_   -- t17 := assign t138
    refine WL.nil ?_
    refine hK22 _ _ ?_; try clear hK22 K22
    refine CW.seq fun K23 hK23 => ?_
    refine CW.region ?_   -- region 16
    refine WL.val (Y.move rfl) (by decide) ?_   -- t140 := move t1
    refine WL.val (Y.fieldAddr fo_recensionlaw08Act3 rfl) (by decide) ?_   -- t141 := fieldAddr 75 t5 3
    refine WL.val (Y.load1 Try.underlying3 rfl hB5.mem.recensionlaw08Act3 rfl) (by decide) ?_   -- t142 := load 3 t141
    refine WL.call Try.func47 rfl rfl rfl ((by have h9 := rgap_any gr _ rs av _ x.n _ (hP.rt.ext hE) hGr hn6; rw [hre] at h9; exact h9)) (by simp) ?_; rintro v w27 ⟨rfl, hx27⟩; have hz27 := hx27.size; have hE := hE.thenExt hx27; have hB5 := hB5.ext hx27; have hB15 := hB15.ext hx27   -- t143 := call F47(t140, t142) : 28,3
    refine WL.val (Y.move rfl) (by decide) ?_   -- t139 := move t143
    refine WL.val (Y.extract rfl rfl) (by decide) ?_   -- t144 := extract t139 0
    refine WL.val (Y.extract rfl rfl) (by decide) ?_   -- t145 := extract t139 1
    refine WL.val (Y.extract rfl rfl) (by decide) ?_   -- t146 := extract t139 2
    refine as_apiRef rfl (by simp) (by decide) fun g18 w28 hx28 hg18 hB18 => ?_   -- alloc 49; store 49 t18 t144
    have hlt18 := hB18.lt; have hz28 := hx28.size
    have hM18 := hB18.mem; have hz28 := hx28.size; have hE := hE.thenExt hx28; have hB5 := hB5.ext hx28; have hB15 := hB15.ext hx28
    refine WL.val (Y.assign rfl) (by decide) ?_   -- t19 := assign t145
    refine WL.val (Y.assign rfl) (by decide) ?_   -- t20 := assign t146
    refine WL.nil ?_
    refine hK23 _ _ ?_; try clear hK23 K23
    refine CW.seq fun K24 hK24 => ?_
    refine CW.region ?_   -- region 17
    refine WL.val (Y.load Try.underlying49 rfl hB15.mem (sz_apiRef _) rfl) (by decide) ?_   -- t147 := load 49 t15
    refine WL.val (Y.load Try.underlying49 rfl hB18.mem (sz_apiRef _) rfl) (by decide) ?_   -- t148 := load 49 t18
    refine WL.val (Y.eql_apiRef rfl rfl) (by decide) ?_   -- t149 := binOp eql 49 t147 t148 49
    refine WL.val (Y.move rfl) (by decide) ?_   -- t150 := move t149
    first | refine WL.casesD (d := 150) rfl (fun hg150 => ?_) (fun hg150 => ?_) | refine WL.casesND (d := 150) rfl (fun hg150 => ?_) (fun hg150 => ?_) | refine WL.cases (d := 150) rfl (fun hg150 => ?_) (fun hg150 => ?_)
    · -- t150 = T
      refine WL.gval rfl rfl (Y.move rfl) (by decide) ?_   -- t151 := move t16 [if 3=true]
      refine WL.gval rfl rfl (Y.move rfl) (by decide) ?_   -- t152 := move t19 [if 3=true]
      refine WL.gval rfl rfl (Y.eql_bool Try.underlying4 rfl rfl) (by decide) ?_   -- t153 := binOp eql 4 t151 t152 4 [if 3=true]
      refine WL.val (Y.pick rfl rfl) (by decide) ?_   -- t154 := pick t150 t153 c(false)
      refine WL.val (Y.move rfl) (by decide) ?_   -- t155 := move t154
      first | refine WL.casesD (d := 155) rfl (fun hg155 => ?_) (fun hg155 => ?_) | refine WL.casesND (d := 155) rfl (fun hg155 => ?_) (fun hg155 => ?_) | refine WL.cases (d := 155) rfl (fun hg155 => ?_) (fun hg155 => ?_)
      · -- t155 = T
        refine WL.gval rfl rfl (Y.move rfl) (by decide) ?_   -- t156 := move t17 [if 8=true]
        refine WL.gval rfl rfl (Y.move rfl) (by decide) ?_   -- t157 := move t20 [if 8=true]
        refine WL.gval rfl rfl (Y.eql_bool Try.underlying4 rfl rfl) (by decide) ?_   -- t158 := binOp eql 4 t156 t157 4 [if 8=true]
        refine WL.val (Y.pick rfl rfl) (by decide) ?_   -- t159 := pick t155 t158 c(false)
        refine WL.val (Y.assign rfl) (by decide) ?_   -- t6 := assign t159
        refine WL.nil ?_
        refine hK24 _ _ ?_; try clear hK24 K24
        refine CW.ret ⟨_, rfl, ?_⟩
        exact ⟨by simp, (fun _ => hE), (fun hk => by omega)⟩
      · -- t155 = F
        refine WL.goff rfl rfl (by decide) ?_   -- t156 := move t17 [if 8=true]
        refine WL.goff rfl rfl (by decide) ?_   -- t157 := move t20 [if 8=true]
        refine WL.goff rfl rfl (by decide) ?_   -- t158 := binOp eql 4 t156 t157 4 [if 8=true]
        refine WL.val (Y.pick rfl rfl) (by decide) ?_   -- t159 := pick t155 t158 c(false)
        refine WL.val (Y.assign rfl) (by decide) ?_   -- t6 := assign t159
        refine WL.nil ?_
        refine hK24 _ _ ?_; try clear hK24 K24
        refine CW.ret ⟨_, rfl, ?_⟩
        first | exact absurd rfl (by assumption) | (simp_all; done)
    · -- t150 = F
      refine WL.goff rfl rfl (by decide) ?_   -- t151 := move t16 [if 3=true]
      refine WL.goff rfl rfl (by decide) ?_   -- t152 := move t19 [if 3=true]
      refine WL.goff rfl rfl (by decide) ?_   -- t153 := binOp eql 4 t151 t152 4 [if 3=true]
      refine WL.val (Y.pick rfl rfl) (by decide) ?_   -- t154 := pick t150 t153 c(false)
      refine WL.val (Y.move rfl) (by decide) ?_   -- t155 := move t154
      refine WL.goff rfl rfl (by decide) ?_   -- t156 := move t17 [if 8=true]
      refine WL.goff rfl rfl (by decide) ?_   -- t157 := move t20 [if 8=true]
      refine WL.goff rfl rfl (by decide) ?_   -- t158 := binOp eql 4 t156 t157 4 [if 8=true]
      refine WL.val (Y.pick rfl rfl) (by decide) ?_   -- t159 := pick t155 t158 c(false)
      refine WL.val (Y.assign rfl) (by decide) ?_   -- t6 := assign t159
      refine WL.nil ?_
      refine hK24 _ _ ?_; try clear hK24 K24
      refine CW.ret ⟨_, rfl, ?_⟩
      first | exact absurd rfl (by assumption) | (simp_all; done)
  -- else
  refine CW.skip ?_
  refine hK2 _ _ ?_; try clear hK2 K2
  refine CW.seq fun K25 hK25 => ?_
  refine CW.region ?_   -- region 18
  refine WL.val (Y.assign rfl) (by decide) ?_   -- t6 := assign c(true)
  refine WL.nil ?_
  refine hK25 _ _ ?_; try clear hK25 K25
  refine CW.ret ⟨_, rfl, ?_⟩
  exact ⟨rfl, (fun _ => hE), (fun hk => by omega)⟩
end Go.Proofs.Ytffkmlkdlhkkmaa
