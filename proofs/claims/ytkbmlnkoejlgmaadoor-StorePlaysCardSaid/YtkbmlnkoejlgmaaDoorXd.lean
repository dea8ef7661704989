/- The store's laws: alive, StoreBack, walked. No condition. -/
import Derived.Test.YtkbmlnkoejlgmaaDoorXc
import Derived.Test.YtkbmlnkoejlgmaaDoorTr
import Derived.Test.YtkbmlnkoejlgmaaDoorOc
set_option linter.unusedSimpArgs false
set_option linter.unusedVariables false
namespace Go.Fw
open Go.RowKit
theorem By.lt {w : World} {v : Value} {b : List UInt8} (h : By w v b) (h0 : b ≠ []) : ∀ k, v.ownBlock = some k → k < w.heap.size := by
  obtain ⟨A, m, c, rfl, hl, _, _, hA, _⟩ := h
  intro k hk
  have : 0 < b.length := List.length_pos_iff.2 h0
  obtain ⟨a, rfl, hm⟩ := hA (by omega)
  have := hm.lt (by cases b with | nil => exact absurd rfl h0 | cons x r => simp [bytesC])
  simp [Value.ownBlock] at hk
  omega
/-- A slice of slices of bytes, read. -/
def Bss (w : World) (u : Value) (xs : List (Value × List UInt8)) : Prop := Sl w (fun x => [x.1]) 1 u xs ∧ ∀ (i : Nat) x, xs[i]? = some x → By w x.1 x.2 ∧ x.2.length ≤ 140737488351232
theorem tmod_pos {i : Int} {m : Nat} (h : 0 < m) : -(m : Int) < i.tmod m ∧ i.tmod m < m := by
  have h1 := Int.tmod_lt_of_pos i (b := (m : Int)) (by omega)
  have h2 := Int.lt_tmod_of_pos i (b := (m : Int)) (by omega)
  exact ⟨h2, h1⟩
theorem tmod_twice {i : Int} {m : Nat} (h : 0 < m) : ∃ k : Nat, (i.tmod m + m).tmod m = (k : Int) ∧ k < m := by
  obtain ⟨h1, h2⟩ := tmod_pos (i := i) h
  have h3 := Int.tmod_nonneg (a := i.tmod m + m) (m : Int) (by omega)
  obtain ⟨_, h4⟩ := tmod_pos (i := i.tmod m + m) h
  exact ⟨((i.tmod m + m).tmod m).toNat, by omega, by omega⟩
theorem Y.neq_bool {P : Program} {n : NN} {fr : Fr} {w : World} {ty : TypeId} {x y : Operand} {p q : Bool} {t t' : TypeId} (hT : P.underlying t = some .bool) (hx : ev fr x = some (.bool p)) (hy : ev fr y = some (.bool q)) :
    Yw P n fr (.binOp .neq t x y t') ty w (.bool (p != q)) w := Y.bin hx hy (by simp [eqGuard_at_bool]) (by
      have h := run_eql_bool (P := P) w t p q hT
      simp only [binOp, Sem.run_bind] at h ⊢
      cases hr : (Op.equal t (Value.bool p) (Value.bool q)).run P w with
      | ok v w2 => rw [hr] at h; simp at h ⊢; obtain ⟨h1, h2⟩ := h; subst h1; subst h2; simp [bne]
      | halt x w2 => rw [hr] at h; simp [Result.andThen] at h)
end Go.Fw
namespace Go.Proofs.YtkbmlnkoejlgmaaDoor
open Go.RowKit Go.Fw Go.Pl
abbrev True_ (w : World) (v : Value) (w' : World) : Prop := v = .bool true ∧ Ext w w'
set_option maxRecDepth 100000 in
theorem sha_a : ¬ shaD [97] = Dig.zero := by decide +kernel
theorem putE_nil : putE [] [97] = 0 := by simp [putE, mfind]
theorem putL_nil {l : List Ent} (h : PutL [] [97] l) : ∃ e, l = [e] ∧ e.k = shaD [97] ∧ e.b = [97] := by
  rw [PutL, if_pos ⟨putE_nil, rfl⟩] at h
  obtain ⟨e, rfl, h1, h2⟩ := h
  exact ⟨e, rfl, h1, h2⟩
theorem at_one {e : Ent} {d : Dig} (h : e.k = d) : at_ [e] d = some (0, e) := by simp [mfind, h]
theorem putE_one {e : Ent} (h : e.k = shaD [97]) (hb : e.b = [97]) : putE [e] [97] = 0 := by
  rw [putE, if_neg (by decide), if_pos (by rw [at_one h]; rfl), if_pos (by simp only [getB, at_one h, hb])]
theorem putL_one {e : Ent} {l : List Ent} (h : e.k = shaD [97]) (hp : PutL [e] [97] l) : l = [e] := by
  rw [PutL, if_neg (by rw [at_one h]; rintro ⟨_, h⟩; cases h)] at hp
  exact hp

theorem alive_any (w : World) (hK : Mem w ⟨0, 0, none⟩ (wds keysL)) : Calls Tryd.prog 8 #[] w (Ret fun v w' => v = .bool true ∧ Ext w w') := by
  have hK0 := hK
  have hk0 : (0 : Nat) < w.heap.size := hK.lt (fun h => by cases h)
  refine calls_of_CW 73 [0] [] Tryd.func8 rfl rfl rfl (by simp) args0 ?_
  have hE : Ext w w := Chg.refl
  refine CW.seq fun K1 hK1 => ?_
  refine CW.region ?_   -- region 0
  refine WL.val (Y.assign rfl) (by decide) ?_   -- t0 := assign c(false)
  refine WL.nil ?_
  refine hK1 _ _ ?_; try clear hK1 K1
  refine CW.seq fun K2 hK2 => ?_
  refine CW.region ?_   -- region 1
  refine WL.call Tryd.func7 rfl rfl rfl (stNew_any _) (by simp) ?_; rintro v8 w1 hR1   -- t8 := call F7() : 
  obtain ⟨g, r, rfl, hg, hr, hT, hx1⟩ := hR1
  have hz1 := hx1.size
  have hE := hE.thenExt hx1
  have hK := hK.ext hx1
  have hgr := hT.lt
  refine WL.val (Y.assign rfl) (by decide) ?_   -- t1 := assign t8
  refine WL.nil ?_
  refine hK2 _ _ ?_; try clear hK2 K2
  refine CW.seq fun K3 hK3 => ?_
  refine CW.seq fun K4 hK4 => ?_
  refine CW.region ?_   -- region 2
  refine WL.val (Y.move rfl) (by decide) ?_   -- t9 := move t1
  refine WL.val (Y.eql_storeStore rfl rfl) (by decide) ?_   -- t10 := binOp eql 23 t9 c(['Go.Value.pointer', 'none']) 23
  refine WL.nil ?_
  refine hK4 _ _ ?_; try clear hK4 K4
  first | refine CW.condD rfl (fun ht5 => ?_) (fun ht5 => ?_) | refine CW.condND rfl (fun ht5 => ?_) (fun ht5 => ?_) | refine CW.condN rfl (fun ht5 => ?_) (fun ht5 => ?_) | refine CW.cond rfl (fun ht5 => ?_) (fun ht5 => ?_)
  · -- then
    refine CW.seq fun K6 hK6 => ?_
    refine CW.region ?_   -- region 3
    refine WL.val (Y.assign rfl) (by decide) ?_   -- t0 := assign c(false)
    refine WL.nil ?_
    refine hK6 _ _ ?_; try clear hK6 K6
    refine CW.ret ⟨_, rfl, ?_⟩
    exact absurd (show false = true by assumption) (by decide)
  -- else
  refine CW.skip ?_
  refine hK3 _ _ ?_; try clear hK3 K3
  refine CW.seq fun K7 hK7 => ?_
  refine CW.region ?_   -- region 4
  refine WL.val (Y.move rfl) (by decide) ?_   -- t12 := move t1
  refine WL.bytesConst rfl (fun w => run_bsN Tryd.underlying26 ai_u8 [97] (by decide) (by decide) w) Tryd.underlying26 Tryd.underlying5 rfl (by unfold maxLen; decide) (by decide) (by decide) fun g14 w2 hx2 hg14 hO14 => ?_   -- buildSlice 26 1 [(0,c(97:u8))]; convert 26 26 t13
  skip; have hz2 := hx2.size; have hE := hE.thenExt hx2; have hK := hK.ext hx2
  refine WL.call Tryd.func9 rfl rfl rfl (stPut_any g r [] _ [97] _ (hT.ext hx2) hK ⟨by omega, by omega⟩ hO14.by (fun _ k hk => by simp [Value.ownBlock] at hk; have := hO14.lt g14 rfl; omega)) (by simp) ?_; rintro v15 w3 hR3   -- t15 := call F9(t12, t14) : 23,26
  obtain ⟨rfl, ⟨l3, ⟨hl3, _⟩, hT⟩, hc3⟩ := hR3
  have hz3 := hc3.size
  have hE := hE.step hc3 (fun k h => by rcases h with h | h <;> omega)
  have hK := hK0.ext hE
  obtain ⟨e, rfl, hek, heb⟩ := putL_nil hl3
  have he1 := putE_nil
  have hd1 := putD_ok he1
  have he2 := putE_one hek heb
  have hd2 := putD_ok he2
  have hO14 := hO14.chg hc3 (fun k hk h => by simp [Value.ownBlock] at hk; rcases h with h | h <;> omega)
  have hgr := hT.lt
  refine WL.val (Y.move rfl) (by decide) ?_   -- t11 := move t15
  refine WL.val (Y.extract rfl rfl) (by decide) ?_   -- t16 := extract t11 0
  refine WL.val (Y.extract rfl rfl) (by decide) ?_   -- t17 := extract t11 1
  refine as_apiDigest rfl (by simp) (by decide) fun g2 w4 hx4 hg2 hB2 => ?_   -- alloc 28; store 28 t2 t16
  have hlt2 := hB2.lt; have hz4 := hx4.size
  have hM2 := hB2.mem; have hz4 := hx4.size; have hE := hE.thenExt hx4; have hK := hK.ext hx4; have hO14 := hO14.ext hx4
  refine WL.val (Y.assign rfl) (by decide) ?_   -- t3 := assign t17
  refine WL.nil ?_
  refine hK7 _ _ ?_; try clear hK7 K7
  refine CW.seq fun K8 hK8 => ?_
  refine CW.region ?_   -- region 5
  refine WL.val (Y.move rfl) (by decide) ?_   -- t19 := move t1
  refine WL.bytesConst rfl (fun w => run_bsN Tryd.underlying26 ai_u8 [97] (by decide) (by decide) w) Tryd.underlying26 Tryd.underlying5 rfl (by unfold maxLen; decide) (by decide) (by decide) fun g21 w5 hx5 hg21 hO21 => ?_   -- buildSlice 26 1 [(0,c(97:u8))]; convert 26 26 t20
  skip; have hz5 := hx5.size; have hE := hE.thenExt hx5; have hK := hK.ext hx5; have hO14 := hO14.ext hx5; have hB2 := hB2.ext hx5
  refine WL.call Tryd.func9 rfl rfl rfl (stPut_any g r [e] _ [97] _ (hT.ext (hx4.thenExt hx5)) hK ⟨by omega, by omega⟩ hO21.by (fun _ k hk => by simp [Value.ownBlock] at hk; have := hO21.lt g21 rfl; omega)) (by simp) ?_; rintro v22 w6 hR6   -- t22 := call F9(t19, t21) : 23,26
  obtain ⟨rfl, ⟨l6, ⟨hl6, _⟩, hT⟩, hc6⟩ := hR6
  have hz6 := hc6.size
  have hE := hE.step hc6 (fun k h => by rcases h with h | h <;> omega)
  have hK := hK0.ext hE
  obtain rfl := putL_one hek hl6
  have hgr := hT.lt
  have hB2 := hB2.chg hc6 (fun h => by rcases h with h | h <;> omega)
  have hO14 := hO14.chg hc6 (fun k hk h => by simp [Value.ownBlock] at hk; rcases h with h | h <;> omega)
  have hO21 := hO21.chg hc6 (fun k hk h => by simp [Value.ownBlock] at hk; rcases h with h | h <;> omega)
  refine WL.val (Y.move rfl) (by decide) ?_   -- t18 := move t22
  refine WL.val (Y.extract rfl rfl) (by decide) ?_   -- t23 := extract t18 0
  refine WL.val (Y.extract rfl rfl) (by decide) ?_   -- t24 := extract t18 1
  refine as_apiDigest rfl (by simp) (by decide) fun g4 w7 hx7 hg4 hB4 => ?_   -- alloc 28; store 28 t4 t23
  have hlt4 := hB4.lt; have hz7 := hx7.size
  have hM4 := hB4.mem; have hz7 := hx7.size; have hE := hE.thenExt hx7; have hK := hK.ext hx7; have hO14 := hO14.ext hx7; have hB2 := hB2.ext hx7; have hO21 := hO21.ext hx7
  refine WL.val (Y.assign rfl) (by decide) ?_   -- t5 := assign t24
  refine WL.nil ?_
  refine hK8 _ _ ?_; try clear hK8 K8
  refine CW.seq fun K9 hK9 => ?_
  refine CW.region ?_   -- region 6
  refine WL.val (Y.move rfl) (by decide) ?_   -- t26 := move t1
  refine WL.val (Y.load Tryd.underlying28 rfl hB2.mem (sz_apiDigest _) rfl) (by decide) ?_   -- t27 := load 28 t2
  refine WL.call Tryd.func10 rfl rfl rfl (stGet_any g r [e] (putD [] [97]) _ (hT.ext hx7)) (by simp) ?_; rintro v28 w8 hR8   -- t28 := call F10(t26, t27) : 23,28
  obtain ⟨u6, rfl, hO8, hf8, hx8⟩ := hR8
  have hz8 := hx8.size
  have hE := hE.thenExt hx8
  have hK := hK.ext hx8
  have hB2 := hB2.ext hx8
  have hB4 := hB4.ext hx8
  have hO14 := hO14.ext hx8
  have hO21 := hO21.ext hx8
  have hT := hT.ext (hx7.thenExt hx8)
  have hg1 : getI [e] (putD [] [97]) = 0 := by rw [getI, at_one (hek.trans hd1.symm)]; rfl
  have hb1 : getB [e] (putD [] [97]) = [97] := by simp only [getB, at_one (hek.trans hd1.symm)]; exact heb
  have hO8b := hO8.by
  obtain ⟨A6, m6, c6, rfl⟩ := hO8b.lens
  refine WL.val (Y.move rfl) (by decide) ?_   -- t25 := move t28
  refine WL.val (Y.extract rfl rfl) (by decide) ?_   -- t29 := extract t25 0
  refine WL.val (Y.extract rfl rfl) (by decide) ?_   -- t30 := extract t25 1
  refine WL.val (Y.assign rfl) (by decide) ?_   -- t6 := assign t29
  refine WL.val (Y.assign rfl) (by decide) ?_   -- t7 := assign t30
  refine WL.nil ?_
  refine hK9 _ _ ?_; try clear hK9 K9
  refine CW.seq fun K10 hK10 => ?_
  refine CW.held (fun wq => Ext w8 wq) (by kernel_rfl) 43 rfl fun w9 hS => ?_
  refine RH.take 0 (fun _ _ _ _ h => h) (by kernel_rfl) hS rfl (by kernel_rfl) (by kernel_rfl) (fun wq hq => Y.move rfl) (by decide) ?_   -- t31 := move t3
  refine RH.take 1 (fun _ _ _ _ h => h) (by kernel_rfl) hS rfl (by kernel_rfl) (by kernel_rfl) (fun wq hq => Y.eql rfl rfl) (by decide) ?_   -- t32 := binOp eql 29 t31 c(0:i64) 29
  refine RH.take 2 (fun _ _ _ _ h => h) (by kernel_rfl) hS rfl (by kernel_rfl) (by kernel_rfl) (fun wq hq => Y.move rfl) (by decide) ?_   -- t33 := move t32
  refine RH.know (d := 33) (u := .bool true) rfl (by rw [decide_eq_true he1]) ?_
  refine RH.gtake 3 (fun _ _ _ _ h => h) (by kernel_rfl) hS rfl (by kernel_rfl) (by kernel_rfl) rfl rfl (fun wq hq => Y.move rfl) (by decide) ?_   -- t34 := move t5
  refine RH.gtake 4 (fun _ _ _ _ h => h) (by kernel_rfl) hS rfl (by kernel_rfl) (by kernel_rfl) rfl rfl (fun wq hq => Y.eql rfl rfl) (by decide) ?_   -- t35 := binOp eql 29 t34 c(0:i64) 29
  refine RH.take 5 (fun _ _ _ _ h => h) (by kernel_rfl) hS rfl (by kernel_rfl) (by kernel_rfl) (fun wq hq => Y.pick rfl rfl) (by decide) ?_   -- t36 := pick t33 t35 c(false)
  refine RH.take 6 (fun _ _ _ _ h => h) (by kernel_rfl) hS rfl (by kernel_rfl) (by kernel_rfl) (fun wq hq => Y.move rfl) (by decide) ?_   -- t37 := move t36
  refine RH.know (d := 37) (u := .bool true) rfl (by rw [decide_eq_true he2]) ?_
  refine RH.gtake 7 (fun _ _ _ _ h => h) (by kernel_rfl) hS rfl (by kernel_rfl) (by kernel_rfl) rfl rfl (fun wq hq => Y.load Tryd.underlying28 rfl (hB2.ext hq).mem (sz_apiDigest _) rfl) (by decide) ?_   -- t38 := load 28 t2
  refine RH.gtake 8 (fun _ _ _ _ h => h) (by kernel_rfl) hS rfl (by kernel_rfl) (by kernel_rfl) rfl rfl (fun wq hq => Y.load Tryd.underlying28 rfl (hB4.ext hq).mem (sz_apiDigest _) rfl) (by decide) ?_   -- t39 := load 28 t4
  refine RH.gtake 9 (fun _ _ _ _ h => h) (by kernel_rfl) hS rfl (by kernel_rfl) (by kernel_rfl) rfl rfl (fun wq hq => Y.eql_apiDigest rfl rfl) (by decide) ?_   -- t40 := binOp eql 28 t38 t39 28
  refine RH.take 10 (fun _ _ _ _ h => h) (by kernel_rfl) hS rfl (by kernel_rfl) (by kernel_rfl) (fun wq hq => Y.pick rfl rfl) (by decide) ?_   -- t41 := pick t37 t40 c(false)
  refine RH.take 11 (fun _ _ _ _ h => h) (by kernel_rfl) hS rfl (by kernel_rfl) (by kernel_rfl) (fun wq hq => Y.move rfl) (by decide) ?_   -- t42 := move t41
  refine RH.know (d := 42) (u := .bool true) rfl (by rw [decide_eq_true (hd1.trans hd2.symm)]) ?_
  refine RH.gtake 12 (fun _ _ _ _ h => h) (by kernel_rfl) hS rfl (by kernel_rfl) (by kernel_rfl) rfl rfl (fun wq hq => Y.load Tryd.underlying28 rfl (hB2.ext hq).mem (sz_apiDigest _) rfl) (by decide) ?_   -- t43 := load 28 t2
  refine RH.one 13 (by kernel_rfl) ?_
  refine RS.stG rfl (fun _ _ h => by cases h; exact ⟨_, rfl, rfl⟩) (St.buildSlice rfl (fun w => run_bsN Tryd.underlying26 ai_u8 [97] (by decide) (by decide) w)) (by decide) fun v44 w10 hR10 => ?_   -- buildSlice 26 1 [(0,c(97:u8))]
  obtain ⟨g44, rfl, hg44, hB44, hx10⟩ := hR10
  have hzS := hS.size
  have hS := hS.thenExt hx10
  refine ⟨hS, ?_⟩
  refine RH.one 14 (by kernel_rfl) ?_
  refine RS.stG rfl (fun _ _ h => by cases h; exact ⟨_, rfl, rfl⟩) (St.convBytes Tryd.underlying26 Tryd.underlying5 rfl hB44 rfl (by decide)) (by decide) fun v45 w11 hR11 => ?_   -- convert 26 26 t44
  obtain ⟨rfl, hO45, hc11⟩ := hR11
  have hS := hS.stepO hc11 (fun k h => .inr (by omega))
  refine ⟨hS, ?_⟩
  refine RH.one 15 (by kernel_rfl) ?_
  refine RS.call rfl (fun _ _ h => by cases h; exact ⟨_, rfl, rfl⟩) Tryd.func11 rfl rfl rfl (sum_any _ [97] _ hO45.by (fun _ => hO45.lt) (hK.ext hS) (by decide)) (by decide) fun v46 w12 hR12 => ?_   -- call F11(t45) : 26
  obtain ⟨rfl, hx12⟩ := hR12
  have hS := hS.thenExt hx12
  refine ⟨hS, ?_⟩
  refine RH.gtake 16 (fun _ _ _ _ h => h) (by kernel_rfl) hS rfl (by kernel_rfl) (by kernel_rfl) rfl rfl (fun wq hq => Y.eql_apiDigest rfl rfl) (by decide) ?_   -- t47 := binOp eql 28 t43 t46 28
  refine RH.take 17 (fun _ _ _ _ h => h) (by kernel_rfl) hS rfl (by kernel_rfl) (by kernel_rfl) (fun wq hq => Y.pick rfl rfl) (by decide) ?_   -- t48 := pick t42 t47 c(false)
  refine RH.take 18 (fun _ _ _ _ h => h) (by kernel_rfl) hS rfl (by kernel_rfl) (by kernel_rfl) (fun wq hq => Y.move rfl) (by decide) ?_   -- t49 := move t48
  refine RH.know (d := 49) (u := .bool true) rfl (by rw [decide_eq_true hd1]) ?_
  refine RH.gtake 19 (fun _ _ _ _ h => h) (by kernel_rfl) hS rfl (by kernel_rfl) (by kernel_rfl) rfl rfl (fun wq hq => Y.load Tryd.underlying28 rfl (hB2.ext hq).mem (sz_apiDigest _) rfl) (by decide) ?_   -- t50 := load 28 t2
  refine RH.gtake 20 (fun _ _ _ _ h => h) (by kernel_rfl) hS rfl (by kernel_rfl) (by kernel_rfl) rfl rfl (fun wq hq => Y.build0 (build_apiDigest _)) (by decide) ?_   -- t51 := build 28 []
  refine RH.gtake 21 (fun _ _ _ _ h => h) (by kernel_rfl) hS rfl (by kernel_rfl) (by kernel_rfl) rfl rfl (fun wq hq => Y.neq_apiDigest rfl rfl) (by decide) ?_   -- t52 := binOp neq 28 t50 t51 28
  refine RH.take 22 (fun _ _ _ _ h => h) (by kernel_rfl) hS rfl (by kernel_rfl) (by kernel_rfl) (fun wq hq => Y.pick rfl rfl) (by decide) ?_   -- t53 := pick t49 t52 c(false)
  refine RH.take 23 (fun _ _ _ _ h => h) (by kernel_rfl) hS rfl (by kernel_rfl) (by kernel_rfl) (fun wq hq => Y.move rfl) (by decide) ?_   -- t54 := move t53
  refine RH.know (d := 54) (u := .bool true) rfl (by rw [hd1, decide_eq_false sha_a]; rfl) ?_
  refine RH.gtake 24 (fun _ _ _ _ h => h) (by kernel_rfl) hS rfl (by kernel_rfl) (by kernel_rfl) rfl rfl (fun wq hq => Y.move rfl) (by decide) ?_   -- t55 := move t6
  refine RH.gtake 25 (fun _ _ _ _ h => h) (by kernel_rfl) hS rfl (by kernel_rfl) (by kernel_rfl) rfl rfl (fun wq hq => Y.bytes_string Tryd.underlying26 Tryd.underlying5 Tryd.underlying9 rfl hO8b.len.1 (hO8b.ext hq).mem.1 hO8b.mem.2) (by decide) ?_   -- t56 := convert 26 9 t55
  refine RH.gtake 26 (fun _ _ _ _ h => h) (by kernel_rfl) hS rfl (by kernel_rfl) (by kernel_rfl) rfl rfl (fun wq hq => Y.eql_string rfl rfl) (by decide) ?_   -- t57 := binOp eql 9 t56 c(STR) 9
  refine RH.take 27 (fun _ _ _ _ h => h) (by kernel_rfl) hS rfl (by kernel_rfl) (by kernel_rfl) (fun wq hq => Y.pick rfl rfl) (by decide) ?_   -- t58 := pick t54 t57 c(false)
  refine RH.take 28 (fun _ _ _ _ h => h) (by kernel_rfl) hS rfl (by kernel_rfl) (by kernel_rfl) (fun wq hq => Y.move rfl) (by decide) ?_   -- t59 := move t58
  refine RH.know (d := 59) (u := .bool true) rfl (by rw [bs_toList, hb1, show ByteArray.toList { data := #[97] } = [97] from bs_toList [97]]; rfl) ?_
  refine RH.gtake 29 (fun _ _ _ _ h => h) (by kernel_rfl) hS rfl (by kernel_rfl) (by kernel_rfl) rfl rfl (fun wq hq => Y.move rfl) (by decide) ?_   -- t60 := move t7
  refine RH.gtake 30 (fun _ _ _ _ h => h) (by kernel_rfl) hS rfl (by kernel_rfl) (by kernel_rfl) rfl rfl (fun wq hq => Y.eql rfl rfl) (by decide) ?_   -- t61 := binOp eql 29 t60 c(0:i64) 29
  refine RH.take 31 (fun _ _ _ _ h => h) (by kernel_rfl) hS rfl (by kernel_rfl) (by kernel_rfl) (fun wq hq => Y.pick rfl rfl) (by decide) ?_   -- t62 := pick t59 t61 c(false)
  refine RH.take 32 (fun _ _ _ _ h => h) (by kernel_rfl) hS rfl (by kernel_rfl) (by kernel_rfl) (fun wq hq => Y.move rfl) (by decide) ?_   -- t63 := move t62
  refine RH.know (d := 63) (u := .bool true) rfl (by rw [decide_eq_true hg1]) ?_
  refine RH.gtake 33 (fun _ _ _ _ h => h) (by kernel_rfl) hS rfl (by kernel_rfl) (by kernel_rfl) rfl rfl (fun wq hq => Y.move rfl) (by decide) ?_   -- t64 := move t1
  refine RH.one 34 (by kernel_rfl) ?_
  refine RS.call rfl (fun _ _ h => by cases h; exact ⟨_, rfl, rfl⟩) Tryd.func12 rfl rfl rfl (stLen_any g r [e] _ (hT.ext hS)) (by decide) fun v65 w13 hR13 => ?_   -- call F12(t64) : 23
  obtain ⟨rfl, hx13⟩ := hR13
  have hS := hS.thenExt hx13
  refine ⟨hS, ?_⟩
  refine RH.gtake 35 (fun _ _ _ _ h => h) (by kernel_rfl) hS rfl (by kernel_rfl) (by kernel_rfl) rfl rfl (fun wq hq => Y.eql rfl rfl) (by decide) ?_   -- t66 := binOp eql 3 t65 c(1:i64) 3
  refine RH.take 36 (fun _ _ _ _ h => h) (by kernel_rfl) hS rfl (by kernel_rfl) (by kernel_rfl) (fun wq hq => Y.pick rfl rfl) (by decide) ?_   -- t67 := pick t63 t66 c(false)
  refine RH.take 37 (fun _ _ _ _ h => h) (by kernel_rfl) hS rfl (by kernel_rfl) (by kernel_rfl) (fun wq hq => Y.move rfl) (by decide) ?_   -- t68 := move t67
  refine RH.know (d := 68) (u := .bool true) rfl (by rfl) ?_
  refine RH.gtake 38 (fun _ _ _ _ h => h) (by kernel_rfl) hS rfl (by kernel_rfl) (by kernel_rfl) rfl rfl (fun wq hq => Y.move rfl) (by decide) ?_   -- t69 := move t1
  refine RH.one 39 (by kernel_rfl) ?_
  refine RS.call rfl (fun _ _ h => by cases h; exact ⟨_, rfl, rfl⟩) Tryd.func14 rfl rfl rfl (stSize_any g r [e] _ (hT.ext hS)) (by decide) fun v70 w14 hR14 => ?_   -- call F14(t69) : 23
  obtain ⟨rfl, hx14⟩ := hR14
  have hS := hS.thenExt hx14
  refine ⟨hS, ?_⟩
  refine RH.gtake 40 (fun _ _ _ _ h => h) (by kernel_rfl) hS rfl (by kernel_rfl) (by kernel_rfl) rfl rfl (fun wq hq => Y.eql rfl rfl) (by decide) ?_   -- t71 := binOp eql 3 t70 c(1:i64) 3
  refine RH.take 41 (fun _ _ _ _ h => h) (by kernel_rfl) hS rfl (by kernel_rfl) (by kernel_rfl) (fun wq hq => Y.pick rfl rfl) (by decide) ?_   -- t72 := pick t68 t71 c(false)
  refine RH.take 42 (fun _ _ _ _ h => h) (by kernel_rfl) hS rfl (by kernel_rfl) (by kernel_rfl) (fun wq hq => Y.assign rfl) (by decide) ?_   -- t0 := assign t72
  refine RH.done (by kernel_rfl) ?_
  have hx15 := hS; have hz15 := hx15.size; have hE := hE.thenExt hx15; have hK := hK.ext hx15; have hO14 := hO14.ext hx15; have hB2 := hB2.ext hx15; have hO21 := hO21.ext hx15; have hB4 := hB4.ext hx15
  refine hK10 _ _ ?_; try clear hK10 K10
  refine CW.ret ⟨_, rfl, ?_⟩
  exact ⟨by rw [show total [e] = 1 by simp [total, heb]]; rfl, hE⟩
end Go.Proofs.YtkbmlnkoejlgmaaDoor
