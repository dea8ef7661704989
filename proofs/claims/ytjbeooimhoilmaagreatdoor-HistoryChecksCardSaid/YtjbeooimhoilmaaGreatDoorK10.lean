/- Parts of a proof: what its last text leans on. No condition. -/
import Derived.Shelf.SlSortCmp.NoneTotal
import Derived.Test.YtjbeooimhoilmaaGreatDoorProg
import Derived.Test.YtjbeooimhoilmaaGreatDoorK04
import Derived.Test.YtjbeooimhoilmaaGreatDoorK07
import Derived.Test.YtjbeooimhoilmaaGreatDoorK09
set_option linter.unusedSimpArgs false
set_option linter.unusedVariables false
/- Several texts as one: Sd, Sf, Sg, Sh, Sx. -/
/- Lists of digests: slices.Index, slices.Contains, the reference's Sorted, walked; the plain law of sorting. No condition. -/
namespace Go.Pl
open Go.Fw
def insAt (d : Dig) : List Dig → Nat
 | [] => 0
 | x :: r => if lessB x d = true then insAt d r + 1 else 0
def insD (out : List Dig) (d : Dig) : List Dig := if out[insAt d out]? = some d then out else out.take (insAt d out) ++ d :: out.drop (insAt d out)
def srtD (l : List Dig) : List Dig := l.foldl insD []
theorem insAt_le (d : Dig) : ∀ out, insAt d out ≤ out.length
 | [] => Nat.le_refl _
 | x :: r => by
  rw [insAt]
  split
  ·
   have := insAt_le d r; simp only [List.length_cons]; omega
  ·
   exact Nat.zero_le _
theorem insAt_is {d : Dig} : ∀ {out : List Dig} {k : Nat}, k ≤ out.length → (∀ j x, j < k → out[j]? = some x → lessB x d = true) → (∀ x, out[k]? = some x → lessB x d = false) → insAt d out = k
 | [], k, hk, _, _ => by simp at hk; subst hk; rfl
 | y :: r, 0, _, _, h2 => by rw [insAt, if_neg (by rw [h2 y rfl]; decide)]
 | y :: r, k + 1, hk, h1, h2 => by
  rw [insAt, if_pos (h1 0 y (by omega) rfl), insAt_is (by simpa using hk) (fun j x hj hx => h1 (j + 1) x (by omega) (by simpa using hx)) (fun x hx => h2 x (by simpa using hx))]
theorem insD_len (out : List Dig) (d : Dig) : (insD out d).length ≤ out.length + 1 := by
 unfold insD
 split
 ·
  omega
 ·
  have := insAt_le d out
  rw [List.length_append, List.length_cons, List.length_take, List.length_drop]; omega
theorem foldl_len (l : List Dig) : ∀ out : List Dig, (l.foldl insD out).length ≤ out.length + l.length := by
 induction l with
 | nil => intro out; simp
 | cons d l ih =>
  intro out
  have h1 := ih (insD out d)
  have h2 := insD_len out d
  simp only [List.foldl_cons, List.length_cons]; omega
theorem srtD_take {l : List Dig} {i : Nat} {d : Dig} (h : l[i]? = some d) : srtD (l.take (i + 1)) = insD (srtD (l.take i)) d := by
 rw [take_succ h, srtD, List.foldl_append]; rfl
end Go.Pl
namespace Go.Fw
open Go.RowKit
theorem Sl.at {α : Type} {w : World} {enc : α → List Value} {k : Nat} {A : Option Addr} {m c : Nat} {xs : List α} (h : Sl w enc k (.slice A m c) xs) {i : Nat} {x : α} (hx : xs[i]? = some x) : ∃ a, A = some a ∧ Mem w (a.add (i * k)) (enc x) := by
 obtain ⟨A', m', c', e, _, _, _, hls⟩ := h
 injection e with e1
 subst e1
 exact hls i x hx
end Go.Fw
namespace Go.Proofs.YtjbeooimhoilmaaGreatDoor
open Go.RowKit Go.Fw Go.Pl
abbrev TDg : TypeId := 43
set_option maxRecDepth 20000 in
theorem sorted_any (u : Value) (l : List Dig) (w : World) (hu : Sl w digC 32 u l) (hp : l.length * 32 ≤ 140737488351232) : Calls Tryz.prog 42 #[u] w (Ret fun v w' => Own w' TDg 32 v (flatD (srtD l)) ∧ (∀ k, v.ownBlock = some k → w.heap.size ≤ k) ∧ Ext w w') := by
 have hl := hu
 obtain ⟨A, m, c, rfl, hm, hmc, hcm, _⟩ := hu
 unfold maxLen at hcm
 refine calls_of_CW 63 [2] [(0, .slice A m c)] Tryz.func42 rfl rfl rfl (by simp) args1 ?_
 have hE : Ext w w := Chg.refl
 refine CW.sr fun K1 hK1 => ?_
 refine WL.a rfl ?_
 refine WL.nil (hK1 _ _ ?_); try clear hK1 K1
 refine CW.sr fun K2 hK2 => ?_
 refine WL.a rfl ?_
 refine WL.nil (hK2 _ _ ?_); try clear hK2 K2
 refine CW.seq fun K3 hK3 => ?_
 refine CW.sr fun K4 hK4 => ?_
 refine WL.a rfl ?_
 refine WL.nil (hK4 _ _ ?_); try clear hK4 K4
 refine CW.block ?_
 refine CW.loop (X := Nat × Value) (fun x => [(0, .slice A m c), (3, x.2), (4, .int .i64 (x.1 : Int))]) (fun x w0 => x.1 ≤ m ∧ Own w0 TDg 32 x.2 (flatD (srtD (l.take x.1))) ∧ (∀ k, x.2.ownBlock = some k → w.heap.size ≤ k) ∧ Ext w w0) (fun x => m - x.1) (0, .slice none 0 0) Fr.ok ⟨Nat.zero_le _, Own.nil, (fun k h => by simp [Value.ownBlock] at h), hE⟩ ?_
 intro x w1 hl1
 obtain ⟨i, u⟩ := x
 dsimp only at hl1 ⊢
 obtain ⟨hi, hO, hfu, hE⟩ := hl1
 obtain ⟨B, mb, cb, rfl⟩ := hO.lens
 obtain ⟨hlen, hmb, hcb⟩ := hO.len digC_length (by decide)
 have hmi : mb ≤ i := by have := foldl_len (l.take i) []; rw [List.length_take, List.length_nil] at this; unfold srtD at hlen; omega
 have hz1 := hE.size
 obtain ⟨out, hout⟩ : ∃ out, out = srtD (l.take i) := ⟨_, rfl⟩
 rw [← hout] at hO hlen
 refine CW.seq fun K5 hK5 => ?_
 refine CW.sr fun K6 hK6 => ?_
 refine WL.m rfl ?_
 refine WL.m rfl ?_
 refine WL.v (Y.len_slice Tryz.underlying24 rfl) ?_
 refine WL.v (Y.lss rfl rfl) ?_
 refine WL.nil (hK6 _ _ ?_); try clear hK6 K6
 (first | refine CW.condD rfl ?_ ?_ | refine CW.condND rfl ?_ ?_ | refine CW.condN rfl ?_ ?_ | refine CW.cond rfl ?_ ?_) <;> intro ht7
 ·
  -- then
  refine CW.skip ?_
  refine hK5 _ _ ?_; try clear hK5 K5
  obtain ⟨d, hd⟩ : ∃ d, l[i]? = some d := ⟨_, List.getElem?_eq_getElem (by omega)⟩
  obtain ⟨a, rfl, hma⟩ := hl.at hd
  refine CW.seq_to (X := Value) (fun u => [(0, .slice (some a) m c), (3, u), (4, .int .i64 (i : Int))]) (fun u w0 => Own w0 TDg 32 u (flatD (insD out d)) ∧ (∀ k, u.ownBlock = some k → w.heap.size ≤ k) ∧ Ext w w0) ?_ ?_
  ·
   skip
   refine CW.block ?_
   refine CW.sr fun K9 hK9 => ?_
   refine WL.a rfl ?_
   refine WL.nil (hK9 _ _ ?_); try clear hK9 K9
   refine CW.seq fun K10 hK10 => ?_
   refine CW.block ?_
   refine CW.loop (X := Nat) (fun x => [(0, .slice (some a) m c), (3, .slice B mb cb), (4, .int .i64 (i : Int)), (5, .int .i64 (x : Int))]) (fun x w0 => x ≤ mb ∧ (∀ j y, j < x → out[j]? = some y → lessB y d = true) ∧ Ext w1 w0) (fun x => mb - x) 0 Fr.ok ⟨Nat.zero_le _, (fun j y h => absurd h (by omega)), Chg.refl⟩ ?_
   intro x w2 hl2
   obtain ⟨hxm, hles, hx12⟩ := hl2
   have hE := hE.thenExt hx12
   have hz2 := hx12.size
   have hO := hO.ext hx12
   have hlo := hO.lt
   obtain ⟨y, hy⟩ : ∃ y : Dig, x < mb → out[x]? = some y := by
    by_cases h : x < mb
    ·
     exact ⟨_, fun _ => List.getElem?_eq_getElem (by rw [hlen]; exact h)⟩
    ·
     exact ⟨d, fun h' => absurd h' h⟩
   refine CW.seq fun K11 hK11 => ?_
   refine CW.seq_testE 27 (x < mb ∧ lessB y d = true) ?_ ?_
   ·
    refine CW.quiet (fun wq => Ext w2 wq) (by kernel_rfl) (by kernel_rfl) Chg.drew ?_
    refine QL.m rfl ?_
    refine QL.m rfl ?_
    refine QL.v (fun wq hq => Y.len_slice Tryz.underlying24 rfl) ?_
    refine QL.v (fun wq hq => Y.lss rfl rfl) ?_
    refine QL.m rfl ?_
    (first | refine QL.casesD (d := 17) rfl ?_ ?_ | refine QL.casesND (d := 17) rfl ?_ ?_ | refine QL.cases (d := 17) rfl ?_ ?_) <;> intro hg17
    ·
     -- t17 = T
     obtain ⟨b, rfl, hmb1⟩ := (hO.sl digC_length (by decide)).at (hy (by omega))
     refine QL.g rfl rfl (fun wq hq => Y.move rfl) ?_
     refine QL.g rfl rfl (fun wq hq => Y.move rfl) ?_
     refine QL.g rfl rfl (fun wq hq => Y.indexAddrN Tryz.underlying24 rfl rfl sz0_apiDigest (by omega)) ?_
     refine QL.g rfl rfl (fun wq hq => Y.load Tryz.underlying43 rfl (hmb1.ext hq) (sz_apiDigest _) rfl) ?_
     refine QL.g rfl rfl (fun wq hq => Y.move rfl) ?_
     refine QL.g rfl rfl (fun wq hq => Y.move rfl) ?_
     refine QL.g rfl rfl (fun wq hq => Y.indexAddrN Tryz.underlying24 rfl rfl sz0_apiDigest (by omega)) ?_
     refine QL.g rfl rfl (fun wq hq => Y.load Tryz.underlying43 rfl (hma.ext (hE.thenExt hq)) (sz_apiDigest _) rfl) ?_
     refine QL.gcall rfl rfl Tryz.func64 rfl rfl rfl (fun wq hq => ret_ext (rLess_any _ _ _) hq) (by decide) ?_
     refine QL.v (fun wq hq => Y.pick rfl rfl) ?_
     refine QL.nil fun wq hq => ⟨⟨_, rfl, ?_⟩, hq, Fr.okp⟩
     exact tst_ok
    ·
     -- t17 = F
     refine QL.o rfl rfl ?_
     refine QL.o rfl rfl ?_
     refine QL.o rfl rfl ?_
     refine QL.o rfl rfl ?_
     refine QL.o rfl rfl ?_
     refine QL.o rfl rfl ?_
     refine QL.o rfl rfl ?_
     refine QL.o rfl rfl ?_
     refine QL.o rfl rfl ?_
     refine QL.v (fun wq hq => Y.pick rfl rfl) ?_
     refine QL.nil fun wq hq => ⟨⟨_, rfl, ?_⟩, hq, Fr.okp⟩
     exact tst_ok
   intro w3 hx3; have hz3 := hx3.size; have hE := hE.thenExt hx3
   (first | refine CW.condD rfl ?_ ?_ | refine CW.condND rfl ?_ ?_ | refine CW.condN rfl ?_ ?_ | refine CW.cond rfl ?_ ?_) <;> intro ht12
   ·
    -- then
    refine CW.skip ?_
    refine hK11 _ _ ?_; try clear hK11 K11
    refine CW.block ?_
    refine CW.region ?_
    refine WL.m rfl ?_
    refine WL.v (Y.add rfl rfl ⟨by omega, by omega⟩) ?_
    refine WL.a rfl ?_
    refine WL.nil ?_
    refine ⟨x + 1, by show mb - (x + 1) < mb - x; omega, Fr.ok, by show x + 1 ≤ mb; omega, ?_, hx12.thenExt hx3⟩
    intro j z hj hz
    by_cases he : j = x
    ·
     subst he; rw [hy (by omega)] at hz; cases hz; exact ht12.2
    ·
     exact hles j z (by omega) hz
   have hat : insAt d out = x := insAt_is (by omega) hles fun z hz => by
    have hlt := (List.getElem?_eq_some_iff.1 hz).1
    rw [hy (by omega)] at hz
    cases hz
    cases hc : lessB y d with
    | false => rfl
    | true => exact absurd ⟨by omega, hc⟩ ht12
   refine CW.exit ?_
   refine hK10 _ _ ?_; try clear hK10 K10
   refine CW.seq_testE 44 (x = mb ∨ y ≠ d) ?_ ?_
   ·
    refine CW.quiet (fun wq => Ext w3 wq) (by kernel_rfl) (by kernel_rfl) Chg.drew ?_
    refine QL.m rfl ?_
    refine QL.m rfl ?_
    refine QL.v (fun wq hq => Y.len_slice Tryz.underlying24 rfl) ?_
    refine QL.v (fun wq hq => Y.eql rfl rfl) ?_
    refine QL.m rfl ?_
    (first | refine QL.casesD (d := 34) rfl ?_ ?_ | refine QL.casesND (d := 34) rfl ?_ ?_ | refine QL.cases (d := 34) rfl ?_ ?_) <;> intro hg34
    ·
     -- t34 = T
     refine QL.o rfl rfl ?_
     refine QL.o rfl rfl ?_
     refine QL.o rfl rfl ?_
     refine QL.o rfl rfl ?_
     refine QL.o rfl rfl ?_
     refine QL.o rfl rfl ?_
     refine QL.o rfl rfl ?_
     refine QL.o rfl rfl ?_
     refine QL.o rfl rfl ?_
     refine QL.v (fun wq hq => Y.pick rfl rfl) ?_
     refine QL.nil fun wq hq => ⟨⟨_, rfl, ?_⟩, hq, Fr.okp⟩
     exact tst_ok
    ·
     -- t34 = F
     obtain ⟨b, rfl, hmb1⟩ := ((hO.ext hx3).sl digC_length (by decide)).at (hy (by omega))
     refine QL.g rfl rfl (fun wq hq => Y.move rfl) ?_
     refine QL.g rfl rfl (fun wq hq => Y.move rfl) ?_
     refine QL.g rfl rfl (fun wq hq => Y.indexAddrN Tryz.underlying24 rfl rfl sz0_apiDigest (by omega)) ?_
     refine QL.g rfl rfl (fun wq hq => Y.load Tryz.underlying43 rfl (hmb1.ext hq) (sz_apiDigest _) rfl) ?_
     refine QL.g rfl rfl (fun wq hq => Y.move rfl) ?_
     refine QL.g rfl rfl (fun wq hq => Y.move rfl) ?_
     refine QL.g rfl rfl (fun wq hq => Y.indexAddrN Tryz.underlying24 rfl rfl sz0_apiDigest (by omega)) ?_
     refine QL.g rfl rfl (fun wq hq => Y.load Tryz.underlying43 rfl (hma.ext (hE.thenExt hq)) (sz_apiDigest _) rfl) ?_
     refine QL.g rfl rfl (fun wq hq => Y.neq_apiDigest rfl rfl) ?_
     refine QL.v (fun wq hq => Y.pick rfl rfl) ?_
     refine QL.nil fun wq hq => ⟨⟨_, rfl, ?_⟩, hq, Fr.okp⟩
     exact tst_ok
   intro w4 hx4; have hz4 := hx4.size; have hE := hE.thenExt hx4
   (first | refine CW.condD rfl ?_ ?_ | refine CW.condND rfl ?_ ?_ | refine CW.condN rfl ?_ ?_ | refine CW.cond rfl ?_ ?_) <;> intro ht13
   ·
    -- then
    refine CW.sr fun K14 hK14 => ?_
    refine WL.a rfl ?_
    refine WL.nil (hK14 _ _ ?_); try clear hK14 K14
    refine CW.sr fun K15 hK15 => ?_
    refine WL.m rfl ?_
    refine WL.m rfl ?_
    refine WL.m rfl ?_
    refine WL.v (Y.slice_hi Tryz.underlying24 rfl rfl sz0_apiDigest rfl (by omega)) ?_
    refine WL.st (St.append Tryz.underlying24 Tryz.underlying24 ai_dig rfl rfl Own.nil ((hO.ext (hx3.thenExt hx4)).srcTake digC_length (by decide) (j := x) (by omega)) (one_flat fun x => one_digC) (by simp; omega)) (by decide) fun v49 w5 hR5 => ?_
    have hn0 : ∀ k, (Value.slice none 0 0).ownBlock = some k → w4.heap.size ≤ k := fun k h => by simp [Value.ownBlock] at h
    obtain ⟨hO5, hc5, hf5⟩ := hR5
    have hz5 := hc5.size
    have hE := hE.step hc5 (fun k h => by have := hn0 k h; omega)
    have hf5 : ∀ k, v49.ownBlock = some k → w4.heap.size ≤ k := by
     rcases hf5 with h | h
     ·
      intro k hk; rw [h] at hk; exact hn0 k hk
     ·
      intro k hk; have := h k hk; omega
    obtain ⟨A5, m5, c5, rfl⟩ := hO5.lens
    have hO := (hO.ext (hx3.thenExt hx4)).chg hc5 (fun k hk h => by have := hlo k hk; have := hn0 k h; omega)
    refine WL.a rfl ?_
    refine WL.nil (hK15 _ _ ?_); try clear hK15 K15
    refine CW.sr fun K16 hK16 => ?_
    refine WL.m rfl ?_
    refine WL.m rfl ?_
    refine WL.m rfl ?_
    refine WL.v (Y.indexAddrN Tryz.underlying24 rfl rfl sz0_apiDigest (by omega)) ?_
    refine WL.v (Y.load Tryz.underlying43 rfl (hma.ext hE) (sz_apiDigest _) rfl) ?_
    refine WL.st (St.buildSlice rfl (bs1_dig _)) (by decide) fun v55 w6 hR6 => ?_
    obtain ⟨g55, rfl, hg55, hB55, hx6⟩ := hR6
    have hz6 := hx6.size
    have hE := hE.thenExt hx6
    refine WL.st (St.append Tryz.underlying24 Tryz.underlying24 ai_dig rfl rfl (hO5.ext hx6) (Src.one hB55 (digC_length _)) one_digC (by rw [List.nil_append, flat_length digC_length, List.length_take]; omega)) (by decide) fun v56 w7 hR7 => ?_
    obtain ⟨hO7, hc7, hf7⟩ := hR7
    have hz7 := hc7.size
    have hE := hE.step hc7 (fun k h => by have := hf5 k h; omega)
    have hf7 : ∀ k, v56.ownBlock = some k → w4.heap.size ≤ k := by
     rcases hf7 with h | h
     ·
      intro k hk; rw [h] at hk; exact hf5 k hk
     ·
      intro k hk; have := h k hk; omega
    obtain ⟨A7, m7, c7, rfl⟩ := hO7.lens
    have hO := (hO.ext hx6).chg hc7 (fun k hk h => by have := hlo k hk; have := hf5 k h; omega)
    refine WL.a rfl ?_
    refine WL.nil (hK16 _ _ ?_); try clear hK16 K16
    refine CW.region ?_
    refine WL.m rfl ?_
    refine WL.m rfl ?_
    refine WL.m rfl ?_
    refine WL.v (Y.slice_lo Tryz.underlying24 rfl rfl sz0_apiDigest rfl (by omega)) ?_
    refine WL.st (St.append Tryz.underlying24 Tryz.underlying24 ai_dig rfl rfl hO7 (hO.srcDrop digC_length (by decide) (j := x) (by omega)) (one_flat fun x => one_digC) (by rw [List.length_append, List.nil_append, flat_length digC_length, List.length_take, digC_length]; omega)) (by decide) fun v61 w8 hR8 => ?_
    obtain ⟨hO8, hc8, hf8⟩ := hR8
    have hz8 := hc8.size
    have hE := hE.step hc8 (fun k h => by have := hf7 k h; omega)
    have hf8 : ∀ k, v61.ownBlock = some k → w4.heap.size ≤ k := by
     rcases hf8 with h | h
     ·
      intro k hk; rw [h] at hk; exact hf7 k hk
     ·
      intro k hk; have := h k hk; omega
    obtain ⟨A8, m8, c8, rfl⟩ := hO8.lens
    refine WL.a rfl ?_
    refine WL.nil ?_
    refine ⟨.slice A8 m8 c8, Fr.ok, ?_, fun k hk => by have := hf8 k hk; omega, hE⟩
    rw [insD, hat, if_neg (by
     intro h
     have hlt := (List.getElem?_eq_some_iff.1 h).1
     rcases ht13 with h3 | h3
     ·
      omega
     ·
      rw [hy (by omega)] at h; cases h; exact h3 rfl)]
    simpa [flatD] using hO8
   refine CW.skip ?_
   obtain ⟨h1, h2⟩ := not_or.1 ht13
   have h3 : y = d := Classical.not_not.1 h2
   refine ⟨.slice B mb cb, Fr.ok, ?_, fun k hk => by have := hfu k hk; omega, hE⟩
   rw [insD, hat, if_pos (by rw [hy (by omega), h3])]
   exact hO.ext (hx3.thenExt hx4)
  rintro u w9 hj9
  obtain ⟨hO, hfu, hE⟩ := hj9
  refine CW.region ?_
  refine WL.m rfl ?_
  refine WL.v (Y.add rfl rfl ⟨by omega, by omega⟩) ?_
  refine WL.a rfl ?_
  refine WL.nil ?_
  refine ⟨(i + 1, u), by show m - (i + 1) < m - i; omega, Fr.ok, by show i + 1 ≤ m; omega, ?_, hfu, hE⟩
  show Own _ _ _ _ (flatD (srtD (l.take (i + 1))))
  rw [srtD_take hd, ← hout]
  exact hO
 refine CW.exit ?_
 refine hK3 _ _ ?_; try clear hK3 K3
 refine CW.sr fun K17 hK17 => ?_
 refine WL.m rfl ?_
 refine WL.a rfl ?_
 refine WL.nil (hK17 _ _ ?_); try clear hK17 K17
 refine CW.ret ⟨_, rfl, ?_⟩
 refine ⟨?_, hfu, hE⟩
 rw [hout, List.take_of_length_le (by omega)] at hO
 exact hO
end Go.Proofs.YtjbeooimhoilmaaGreatDoor
/- slices.SortFunc's contract at digests, laid by the shelf at this program, in plain words. No condition. -/
namespace Go.Proofs.YtjbeooimhoilmaaGreatDoor
open Go.Shelf
def sortD_ren : Go.Shelf.Ren := ⟨fun | 6 => 61 | 15 => 85 | 14 => 84 | 28 => 102 | 29 => 103 | 20 => 94 | 21 => 95 | 22 => 96 | 23 => 97 | 24 => 98 | 25 => 99 | 26 => 100 | 27 => 101 | 46 => 112 | 47 => 113 | 48 => 114 | 49 => 115 | 50 => 116 | 57 => 122 | n => n, fun | 22 => 24 | 24 => 43 | 25 => 132 | 3 => 3 | 39 => 147 | 0 => 0 | 53 => 143 | 55 => 161 | 4 => 4 | 46 => 166 | 45 => 165 | 50 => 80 | 5 => 5 | 9 => 9 | 66 => 182 | 70 => 186 | 76 => 196 | 77 => 108 | n => n, fun | n => n⟩
theorem sortD : Go.Proofs.SlLaysF0.n6 Tryz.prog sortD_ren := {
 mixed := by kernel_rfl
 f6 := ⟨Tryz.f61.name, by decide, Tryz.func61.trans (congrArg some (by kernel_rfl))⟩
 f14 := ⟨Tryz.f84.name, by decide, Tryz.func84.trans (congrArg some (by kernel_rfl))⟩
 f15 := Tryz.func85.trans (congrArg some (by kernel_rfl))
 f20 := ⟨Tryz.f94.name, by decide, Tryz.func94.trans (congrArg some (by kernel_rfl))⟩
 f21 := ⟨Tryz.f95.name, by decide, Tryz.func95.trans (congrArg some (by kernel_rfl))⟩
 f22 := ⟨Tryz.f96.name, by decide, Tryz.func96.trans (congrArg some (by kernel_rfl))⟩
 f23 := ⟨Tryz.f97.name, by decide, Tryz.func97.trans (congrArg some (by kernel_rfl))⟩
 f24 := ⟨Tryz.f98.name, by decide, Tryz.func98.trans (congrArg some (by kernel_rfl))⟩
 f25 := ⟨Tryz.f99.name, by decide, Tryz.func99.trans (congrArg some (by kernel_rfl))⟩
 f26 := ⟨Tryz.f100.name, by decide, Tryz.func100.trans (congrArg some (by kernel_rfl))⟩
 f27 := ⟨Tryz.f101.name, by decide, Tryz.func101.trans (congrArg some (by kernel_rfl))⟩
 f28 := Tryz.func102.trans (congrArg some (by kernel_rfl))
 f29 := Tryz.func103.trans (congrArg some (by kernel_rfl))
 f46 := ⟨Tryz.f112.name, by decide, Tryz.func112.trans (congrArg some (by kernel_rfl))⟩
 f47 := Tryz.func113.trans (congrArg some (by kernel_rfl))
 f48 := Tryz.func114.trans (congrArg some (by kernel_rfl))
 f49 := ⟨Tryz.f115.name, by decide, Tryz.func115.trans (congrArg some (by kernel_rfl))⟩
 f50 := ⟨Tryz.f116.name, by decide, Tryz.func116.trans (congrArg some (by kernel_rfl))⟩
 f57 := ⟨Tryz.f122.name, by decide, Tryz.func122.trans (congrArg some (by kernel_rfl))⟩
 t0 := Tryz.underlying0
 a0 := Tryz.isAgg0
 z0 := Tryz.sizeOf0
 v0 := Tryz.zeroValue0
 t3 := Tryz.underlying3
 a3 := Tryz.isAgg3
 z3 := Tryz.sizeOf3
 v3 := Tryz.zeroValue3
 t4 := Tryz.underlying4
 a4 := Tryz.isAgg4
 z4 := Tryz.sizeOf4
 v4 := Tryz.zeroValue4
 t5 := Tryz.underlying5
 a5 := Tryz.isAgg5
 z5 := Tryz.sizeOf5
 v5 := Tryz.zeroValue5
 t9 := Tryz.underlying9
 a9 := Tryz.isAgg9
 z9 := Tryz.sizeOf9
 v9 := Tryz.zeroValue9
 t22 := Tryz.underlying24
 a22 := Tryz.isAgg24
 z22 := Tryz.sizeOf24
 v22 := Tryz.zeroValue24
 t25 := Tryz.underlying132
 a25 := Tryz.isAgg132
 z25 := Tryz.sizeOf132
 v25 := Tryz.zeroValue132
 t39 := Tryz.underlying147
 a39 := Tryz.isAgg147
 z39 := Tryz.sizeOf147
 v39 := Tryz.zeroValue147
 t45 := Tryz.underlying165
 a45 := Tryz.isAgg165
 z45 := Tryz.sizeOf165
 v45 := Tryz.zeroValue165
 t46 := Tryz.underlying166
 a46 := Tryz.isAgg166
 z46 := Tryz.sizeOf166
 v46 := Tryz.zeroValue166
 t50 := Tryz.underlying80
 a50 := Tryz.isAgg80
 z50 := Tryz.sizeOf80
 v50 := Tryz.zeroValue80
 t53 := Tryz.underlying143
 a53 := Tryz.isAgg143
 z53 := Tryz.sizeOf143
 v53 := Tryz.zeroValue143
 t55 := Tryz.underlying161
 a55 := Tryz.isAgg161
 z55 := Tryz.sizeOf161
 v55 := Tryz.zeroValue161
 t66 := Tryz.underlying182
 a66 := Tryz.isAgg182
 z66 := Tryz.sizeOf182
 v66 := Tryz.zeroValue182
 t70 := Tryz.underlying186
 a70 := Tryz.isAgg186
 z70 := Tryz.sizeOf186
 v70 := Tryz.zeroValue186
 t76 := Tryz.underlying196
 a76 := Tryz.isAgg196
 z76 := Tryz.sizeOf196
 v76 := Tryz.zeroValue196
 t77 := Tryz.underlying108
 a77 := Tryz.isAgg108
 z77 := Tryz.sizeOf108
 v77 := Tryz.zeroValue108 }
end Go.Proofs.YtjbeooimhoilmaaGreatDoor
/- slices.SortFunc at digests of our own: what it leaves; the order of digests. No condition; no program. -/
namespace Go.Pl
open Go.Fw Go.Proofs Go.Sort
theorem bl_asymm : ∀ {a b : List UInt8}, Op.bytesLess a b = true → Op.bytesLess b a = false
 | _, [], h => by simp [Op.bytesLess] at h
 | [], _ :: _, _ => by simp [Op.bytesLess]
 | a :: x, b :: y, h => by
  simp only [Op.bytesLess, Bool.or_eq_true, decide_eq_true_eq, Bool.and_eq_true, beq_iff_eq] at h
  simp only [Op.bytesLess, Bool.or_eq_false_iff, decide_eq_false_iff_not, Bool.and_eq_false_imp, beq_iff_eq]
  rcases h with h | ⟨rfl, h⟩
  ·
   exact ⟨fun h' => by have := UInt8.lt_iff_toNat_lt.1 h; have := UInt8.lt_iff_toNat_lt.1 h'; omega, fun e => by subst e; exact absurd h (UInt8.lt_irrefl _)⟩
  ·
   exact ⟨UInt8.lt_irrefl _, fun _ => bl_asymm h⟩
theorem bl_trans : ∀ {a b c : List UInt8}, Op.bytesLess a b = true → Op.bytesLess b c = true → Op.bytesLess a c = true
 | _, [], _, h, _ => by simp [Op.bytesLess] at h
 | _, _ :: _, [], _, h => by simp [Op.bytesLess] at h
 | [], _ :: _, _ :: _, _, _ => by simp [Op.bytesLess]
 | a :: x, b :: y, c :: z, h, k => by
  simp only [Op.bytesLess, Bool.or_eq_true, decide_eq_true_eq, Bool.and_eq_true, beq_iff_eq] at h k ⊢
  rcases h with h | ⟨rfl, h⟩
  ·
   rcases k with k | ⟨rfl, k⟩
   ·
    exact .inl (UInt8.lt_trans h k)
   ·
    exact .inl h
  ·
   rcases k with k | ⟨rfl, k⟩
   ·
    exact .inl k
   ·
    exact .inr ⟨rfl, bl_trans h k⟩
theorem bl_tri : ∀ {a b : List UInt8}, a.length = b.length → Op.bytesLess a b = false → Op.bytesLess b a = false → a = b
 | [], [], _, _, _ => rfl
 | [], _ :: _, h, _, _ => by simp at h
 | _ :: _, [], h, _, _ => by simp at h
 | a :: x, b :: y, hl, h, k => by
  simp only [Op.bytesLess, Bool.or_eq_false_iff, decide_eq_false_iff_not, Bool.and_eq_false_imp, beq_iff_eq] at h k
  have e : a = b := UInt8.toNat_inj.1 (by
   have h1 : ¬ a.toNat < b.toNat := fun x => h.1 (UInt8.lt_iff_toNat_lt.2 x)
   have h2 : ¬ b.toNat < a.toNat := fun x => k.1 (UInt8.lt_iff_toNat_lt.2 x)
   omega)
  subst e
  rw [bl_tri (by simpa using hl) (h.2 rfl) (k.2 rfl)]
theorem less_asymm {a b : Dig} (h : lessB a b = true) : lessB b a = false := bl_asymm h
theorem less_trans {a b c : Dig} (h : lessB a b = true) (k : lessB b c = true) : lessB a c = true := bl_trans h k
theorem less_tri {a b : Dig} (h : lessB a b = false) (k : lessB b a = false) : a = b := Subtype.ext (bl_tri (by rw [a.2, b.2]) h k)
theorem less_irrefl (a : Dig) : lessB a a = false := bytesLess_self _
def cfD (a b : Dig) : Int := if lessB a b = true then -1 else 1
theorem lt_cfD (a b : Dig) : ltOf cfD a b = lessB a b := by
 unfold ltOf cfD
 cases lessB a b <;> simp
theorem swo_cfD : SWO (ltOf cfD) where
 irrefl x := by rw [lt_cfD]; exact less_irrefl x
 trans x y z h k := by rw [lt_cfD] at h k ⊢; exact less_trans h k
 ntrans x y z h k := by
  rw [lt_cfD] at h k ⊢
  cases hc : lessB x z with
  | false => rfl
  | true =>
   cases hd : lessB y x with
   | true => rw [less_trans hd hc] at k; cases k
   | false =>
    have := less_tri h hd; subst this
    rw [hc] at k; cases k
def sortedD (l : List Dig) : List Dig := l.mergeSort fun x y => !(ltOf cfD) y x
end Go.Pl
namespace Go.Fw
open Go.RowKit Go.Proofs Go.Sort
theorem flat_get {α : Type} {enc : α → List Value} {k : Nat} (hk : 0 < k) (he : ∀ x, (enc x).length = k) : ∀ (xs : List α) (t : Nat), ((xs.map enc).flatten)[t]? = (xs[t / k]?).bind fun x => (enc x)[t % k]?
 | [], t => by simp
 | x :: xs, t => by
  simp only [List.map_cons, List.flatten_cons, List.getElem?_append, he]
  split
  ·
   rename_i h
   rw [Nat.div_eq_of_lt h, Nat.mod_eq_of_lt h]; rfl
  ·
   rename_i h
   have e1 : t / k = (t - k) / k + 1 := Nat.div_eq_sub_div hk (by omega)
   have e2 : t % k = (t - k) % k := Nat.mod_eq_sub_mod (by omega)
   rw [flat_get hk he xs, e1, e2, List.getElem?_cons_succ]
theorem flatK_toList {α : Type} [Inhabited α] {enc : α → List Value} {k : Nat} (hk : 0 < k) (he : ∀ x, (enc x).length = k) (xs : List α) : (flatK enc k xs.toArray).toList = (xs.map enc).flatten := by
 apply List.ext_getElem?
 intro t
 rw [flat_get hk he]
 by_cases ht : t < xs.length * k
 ·
  have h1 : t / k < xs.length := Nat.div_lt_of_lt_mul (by rw [Nat.mul_comm]; exact ht)
  have h2 : t % k < (enc xs[t / k]).length := by rw [he]; exact Nat.mod_lt _ hk
  have h3 : t < (flatK enc k xs.toArray).size := by rw [size_flatK]; exact ht
  have h4 := get_flatK enc k xs.toArray t (by simpa using ht)
  rw [getElem!_pos _ t h3, getElem!_pos xs.toArray (t / k) (by simpa using h1)] at h4
  rw [Array.getElem?_toList, Array.getElem?_eq_getElem h3, h4, List.getElem?_eq_getElem h1, Option.bind_some, List.getElem?_eq_getElem h2]
  simp only [List.getElem_toArray]
  rw [getElem!_pos (enc xs[t / k]) (t % k) h2]
 ·
  have h1 : ¬ t / k < xs.length := fun h => ht (Nat.lt_mul_of_div_lt h hk)
  rw [Array.getElem?_toList, Array.getElem?_eq_none (by rw [size_flatK]; simpa using ht), List.getElem?_eq_none (by omega)]
  rfl
theorem putCells_list (F : Array Value) (xs rest : List Value) (h : F.size = xs.length) : putCells id 0 F (xs ++ rest).toArray = (F.toList ++ rest).toArray := by
 apply Array.ext_getElem?
 intro j
 simp only [putCells, Array.getElem?_mapIdx, List.getElem?_toArray, List.getElem?_append, Nat.zero_le, true_and, Nat.zero_add, Nat.sub_zero, id]
 by_cases hj : j < F.size
 ·
  rw [if_pos (by omega), if_pos (by simpa using hj), List.getElem?_eq_getElem (by omega), Array.getElem?_toList, Array.getElem?_eq_getElem hj]
  simp only [Option.map_some, if_pos hj]
  rw [getElem!_pos F j hj]
 ·
  rw [if_neg (by omega), if_neg (by simpa using hj), h]
  simp only [if_neg (show ¬ j < xs.length by omega), Array.length_toList, h]
  cases rest[j - xs.length]? <;> rfl
section
variable {w : World} {e : TypeId} {k g n c : Nat} {α : Type} [Inhabited α] {enc : α → List Value} {l : List α}
theorem Own.holds (hk : 0 < k) (he : ∀ x, (enc x).length = k) (h : Own w e k (.slice (some ⟨g, 0, none⟩) n c) ((l.map enc).flatten)) : HoldsK enc k w g 0 l.toArray ∧ g < w.heap.size := by
  rcases h with ⟨h, _⟩ | ⟨g', n', c', rest, fz, h, hh, hxl, hnc, hcm, hal, hfz⟩
  · cases h
  injection h with h2 h3 h4
  injection h2 with h2
  injection h2 with h2
  subst h2; subst h3; subst h4
  refine ⟨fun j hj => ?_, (Array.getElem?_eq_some_iff.1 hh).1⟩
  have hj' : j < (flatK enc k l.toArray).toList.length := by simpa using hj
  have hjx : j < ((l.map enc).flatten).length := by rw [← flatK_toList hk he]; exact hj'
  refine ⟨?_, ?_⟩
  · rw [Nat.zero_add]
    unfold World.cell?
    simp only [hh]
    simp only [List.getElem?_toArray]
    rw [List.getElem?_append_left hjx, ← flatK_toList hk he, Array.getElem?_toList, Array.getElem?_eq_getElem hj, getElem!_pos _ j hj]
    rfl
  · rw [Nat.zero_add]
    unfold World.frozen?
    simp only [hh]
    have := hfz j (by have : ((l.map enc).flatten).length ≤ c * k := by rw [← hal]; simp
                      omega)
    simp only [Bool.and_eq_false_imp, decide_eq_true_eq, decide_eq_false_iff_not]
    omega
theorem Own.sorted (hk : 0 < k) (he : ∀ x, (enc x).length = k) (h : Own w e k (.slice (some ⟨g, 0, none⟩) n c) ((l.map enc).flatten)) {l' : List α} (hl : l'.length = l.length) (m : Nat) (os : Array Obj) :
  Own (sortWorldK enc k w g 0 m l'.toArray os) e k (.slice (some ⟨g, 0, none⟩) n c) ((l'.map enc).flatten) ∧ Chg (· = g) w (sortWorldK enc k w g 0 m l'.toArray os) := by
 rcases h with ⟨h, _⟩ | ⟨g', n', c', rest, fz, h, hh, hxl, hnc, hcm, hal, hfz⟩
 ·
  cases h
 injection h with h2 h3 h4
 injection h2 with h2
 injection h2 with h2
 subst h2; subst h3; subst h4
 have hlen : ((l'.map enc).flatten).length = ((l.map enc).flatten).length := by rw [flat_length he, flat_length he, hl]
 have hlt := (Array.getElem?_eq_some_iff.1 hh).1
 have hg : (sortWorldK enc k w g 0 m l'.toArray os).heap[g]? = some (.cells ((l'.map enc).flatten ++ rest).toArray e fz) := by
  show ((w.heap.modify g (onCells (putCells id 0 (flatK enc k l'.toArray)))) ++ os)[g]? = _
  rw [Array.getElem?_append_left (by simpa using hlt), Array.getElem?_modify, if_pos rfl, hh, Option.map_some]
  simp only [onCells]
  rw [putCells_list _ _ _ (by rw [size_flatK, flat_length he]; simp [hl]), flatK_toList hk he]
 refine ⟨.inr ⟨g, n, c, rest, fz, rfl, hg, by rw [hlen, hxl], hnc, hcm, by rw [List.length_append, hlen, ← List.length_append, hal], hfz⟩, rfl, rfl, rfl, ?_, fun b hb hn => ?_, Nat.le_add_right _ _⟩
 ·
  show _ ≤ ((w.heap.modify g _) ++ os).size
  simp
 ·
  show ((w.heap.modify g (onCells (putCells id 0 (flatK enc k l'.toArray)))) ++ os)[b]? = _
  rw [Array.getElem?_append_left (by simpa using hb), Array.getElem?_modify, if_neg (fun h => hn h.symm)]
end
theorem Ext.grown {W w' : World} (h : Ext W w') : ∃ q os', w' = grow (W.drewN q) os' := by
 refine ⟨w'.drawn - W.drawn, w'.heap.extract W.heap.size w'.heap.size, ?_⟩
 obtain ⟨h1, h2, h3, h4, h5, h6⟩ := h
 have hh : w'.heap = W.heap ++ w'.heap.extract W.heap.size w'.heap.size := by
  apply Array.ext_getElem?
  intro i
  by_cases hi : i < W.heap.size
  ·
   rw [Array.getElem?_append_left hi]; exact h5 i hi (fun f => f)
  ·
   rw [Array.getElem?_append_right (by omega), Array.getElem?_extract]
   split
   ·
    congr 1; omega
   ·
    rw [Array.getElem?_eq_none (by omega)]
 cases W; cases w'
 simp only [World.drewN, grow] at *
 subst h1; subst h2; subst h3
 congr 1
 omega
end Go.Fw
/- The plain law of a commit's references: sorting what is gathered once is sorting by insertion. No condition; no program. -/
namespace Go.Pl
open Go.Fw Go.Proofs Go.Sort
abbrev Up (l : List Dig) : Prop := l.Pairwise fun x y => lessB x y = true
theorem up_eq : ∀ {a b : List Dig}, Up a → Up b → (∀ x, x ∈ a ↔ x ∈ b) → a = b
 | [], [], _, _, _ => rfl
 | [], y :: b, _, _, h => by have := (h y).2 (by simp); simp at this
 | x :: a, [], _, _, h => by have := (h x).1 (by simp); simp at this
 | x :: a, y :: b, ha, hb, h => by
  have ha' := List.pairwise_cons.1 ha
  have hb' := List.pairwise_cons.1 hb
  have e : x = y := by
   have h1 := (h x).1 (by simp)
   have h2 := (h y).2 (by simp)
   rcases List.mem_cons.1 h1 with h1 | h1
   ·
    exact h1
   rcases List.mem_cons.1 h2 with h2 | h2
   ·
    exact h2.symm
   have h3 := hb'.1 x h1
   have h4 := ha'.1 y h2
   rw [less_asymm h3] at h4
   cases h4
  subst e
  have := up_eq ha'.2 hb'.2 fun z => by
   constructor
   ·
    intro hz
    rcases List.mem_cons.1 ((h z).1 (by simp [hz])) with h1 | h1
    ·
     subst h1; have := ha'.1 z hz; rw [less_irrefl] at this; cases this
    ·
     exact h1
   ·
    intro hz
    rcases List.mem_cons.1 ((h z).2 (by simp [hz])) with h1 | h1
    ·
     subst h1; have := hb'.1 z hz; rw [less_irrefl] at this; cases this
    ·
     exact h1
  rw [this]
def ins (d : Dig) : List Dig → List Dig
 | [] => [d]
 | x :: r => if lessB x d = true then x :: ins d r else if x = d then x :: r else d :: x :: r
theorem insD_eq (d : Dig) : ∀ out, insD out d = ins d out
 | [] => by simp [insD, insAt, ins]
 | x :: r => by
  have ih := insD_eq d r
  unfold insD at ih ⊢
  rw [insAt, ins]
  split
  ·
   simp only [List.getElem?_cons_succ, List.take_succ_cons, List.drop_succ_cons]
   rw [← ih]
   split <;> simp
  ·
   simp only [List.getElem?_cons_zero, Option.some.injEq, List.take_zero, List.drop_zero, List.nil_append]
theorem mem_ins {d y : Dig} : ∀ {out : List Dig}, y ∈ ins d out ↔ y = d ∨ y ∈ out
 | [] => by simp [ins]
 | x :: r => by
  rw [ins]
  split
  ·
   rw [List.mem_cons, mem_ins, List.mem_cons]
   constructor
   ·
    rintro (h | h | h)
    ·
     exact .inr (.inl h)
    ·
     exact .inl h
    ·
     exact .inr (.inr h)
   ·
    rintro (h | h | h)
    ·
     exact .inr (.inl h)
    ·
     exact .inl h
    ·
     exact .inr (.inr h)
  ·
   split
   ·
    rename_i h; subst h
    simp
   ·
    simp
theorem up_ins {d : Dig} : ∀ {out : List Dig}, Up out → Up (ins d out)
 | [], _ => by simp [ins, Up]
 | x :: r, h => by
  have h' := List.pairwise_cons.1 h
  rw [ins]
  split
  ·
   rename_i hl
   refine List.pairwise_cons.2 ⟨fun y hy => ?_, up_ins h'.2⟩
   rcases mem_ins.1 hy with rfl | hy
   ·
    exact hl
   ·
    exact h'.1 y hy
  ·
   rename_i hl
   split
   ·
    exact h
   ·
    rename_i hne
    have hdx : lessB d x = true := by
     cases hc : lessB d x with
     | true => rfl
     | false => exact absurd (less_tri (by simpa using hl) hc) hne
    refine List.pairwise_cons.2 ⟨fun y hy => ?_, h⟩
    rcases List.mem_cons.1 hy with rfl | hy
    ·
     exact hdx
    ·
     exact less_trans hdx (h'.1 y hy)
theorem srt_up (l : List Dig) : ∀ out, Up out → Up (l.foldl insD out) := by
 induction l with
 | nil => intro out h; exact h
 | cons d l ih => intro out h; rw [List.foldl_cons]; exact ih _ (by rw [insD_eq]; exact up_ins h)
theorem srt_mem (l : List Dig) (y : Dig) : ∀ out, y ∈ l.foldl insD out ↔ y ∈ l ∨ y ∈ out := by
 induction l with
 | nil => intro out; simp
 | cons d l ih =>
  intro out
  rw [List.foldl_cons, ih, insD_eq, mem_ins, List.mem_cons]
  constructor
  ·
   rintro (h | h | h)
   ·
    exact .inl (.inr h)
   ·
    exact .inl (.inl h)
   ·
    exact .inr h
  ·
   rintro ((h | h) | h)
   ·
    exact .inr (.inl h)
   ·
    exact .inl h
   ·
    exact .inr (.inr h)
theorem sortedD_mem (l : List Dig) (y : Dig) : y ∈ sortedD l ↔ y ∈ l := (List.mergeSort_perm l _).mem_iff
theorem sortedD_length (l : List Dig) : (sortedD l).length = l.length := (List.mergeSort_perm l _).length_eq
theorem sortedD_up {l : List Dig} (h : l.Nodup) : Up (sortedD l) := by
 have h1 : (sortedD l).Pairwise fun x y => (!(ltOf cfD) y x) = true := List.pairwise_mergeSort (le := fun x y => !(ltOf cfD) y x) (fun a b c h k => by
   simp only [lt_cfD, Bool.not_eq_true'] at h k ⊢
   have := swo_cfD.ntrans c b a (by rw [lt_cfD]; exact k) (by rw [lt_cfD]; exact h)
   rwa [lt_cfD] at this) (fun a b => by
   simp only [lt_cfD, Bool.or_eq_true, Bool.not_eq_true']
   cases hc : lessB b a with
   | false => exact .inl rfl
   | true => exact .inr (less_asymm hc)) l
 have h2 : (sortedD l).Nodup := (List.mergeSort_perm l _).nodup_iff.2 h
 refine (h1.and h2).imp fun {a b} hab => ?_
 have h3 := hab.1
 simp only [lt_cfD, Bool.not_eq_true'] at h3
 cases hc : lessB a b with
 | true => rfl
 | false => exact absurd (less_tri hc h3) hab.2
end Go.Pl
/- slices.SortFunc at digests of our own, whatever the comparing function that tells the digests' order. No condition. -/
namespace Go.Proofs.YtjbeooimhoilmaaGreatDoor
open Go.RowKit Go.Fw Go.Pl Go.Sort
instance : Inhabited Dig := ⟨Dig.zero⟩
theorem sort_gen {f : Nat} {fn : Func} {c : Code} (cf : Dig → Dig → Int) (hcf : ∀ a b, ltOf cf a b = lessB a b) (hf : Tryz.prog.funcs[f]? = some fn) (hnm : (fn.name == "runtime.NumGoroutine") = false) (hbd : fn.body = some c)
  (hcmp : ∀ (a b : Dig) (w : World), Calls Tryz.prog f #[digV a, digV b] w (Ret fun v w' => v = .int .i64 (cf a b) ∧ Ext w w'))
  (A : Option Addr) (m c : Nat) (l : List Dig) (w : World) (hO : Own w TDg 32 (.slice A m c) (flatD l)) (hs : l.length < 4611686018427387904) : Calls Tryz.prog 61 #[.slice A m c, .func (.func f) #[] #[]] w (Ret fun v w' => v = .tuple #[] ∧ Own w' TDg 32 (.slice A m c) (flatD (sortedD l)) ∧ Chg (fun k => (Value.slice A m c).ownBlock = some k) w w') := by
 have hlt : ltOf cf = ltOf cfD := by funext a b; rw [hcf, lt_cfD]
 obtain ⟨hlen, hmc, hcm⟩ := hO.len digC_length (by decide)
 unfold maxLen at hcm
 by_cases h0 : l = []
 ·
  subst h0
  simp at hlen
  subst hlen
  refine (AnyF.slices_SortFunc_none sortD A c _ w).mono fun e w' h => ?_
  obtain ⟨rfl, rfl⟩ := h
  exact ⟨rfl, by unfold sortedD; rw [List.mergeSort_nil]; exact hO, Chg.refl⟩
 ·
  obtain ⟨g, rfl, hg⟩ := hO.head (by
   intro h
   have := congrArg List.length h
   rw [flat_length digC_length, List.length_nil] at this
   cases l with
   | nil => exact h0 rfl
   | cons _ _ => simp at this)
  obtain ⟨hH, hblk⟩ := hO.holds (by decide) digC_length
  have hC : CmpLays Tryz.prog f #[] digC 32 cf g 0 l.toArray.size w := fun mm os dk _ x y => by
   rw [Array.append_empty]
   refine (hcmp x y _).mono fun e w' h => ?_
   cases e with
   | returned v => obtain ⟨rfl, hx⟩ := h; exact ⟨rfl, hx.grown⟩
   | panicked ch => exact h.elim
   | outgrown => exact h.elim
  have hcon := AnyQ.slices_SortFunc_total sortD 32 Tryz.isAgg43 Tryz.sizeOf43 digC digC_length (fun x v hv => one_digC v hv) cf (hlt ▸ swo_cfD) f #[] g 0 c l.toArray w (enters_of hf hnm hbd) hC hH hblk (by simpa using hs) (fun x y h k => by rw [hcf] at h k; exact less_tri h k)
  subst hlen
  refine Calls.mono (R := fun e w' => e = .returned (.tuple #[]) ∧ ∃ n os, w' = sortWorldK digC 32 w g 0 n (l.toArray.toList.mergeSort fun x y => !(ltOf cf) y x).toArray os) hcon fun e w' h => ?_
  obtain ⟨rfl, n, os, rfl⟩ := h
  obtain ⟨h1, h2⟩ := hO.sorted (l' := sortedD l) (by decide) digC_length (sortedD_length l) n os
  have e : (l.toArray.toList.mergeSort fun x y => !(ltOf cf) y x) = sortedD l := by rw [hlt]; rfl
  rw [e]
  refine ⟨rfl, h1, h2.mono fun b _ hb => by rw [hb]; rfl⟩
end Go.Proofs.YtjbeooimhoilmaaGreatDoor
/- The list of nodes read: order, wrong, read, Check, walked. No condition. -/
namespace Go.Proofs.YtjbeooimhoilmaaGreatDoor
open Go.RowKit Go.Fw Go.Pl Go.Sort
def cfO (a b : Dig) : Int := if lessB a b = true then -1 else if a = b then 0 else 1
theorem lt_cfO (a b : Dig) : ltOf cfO a b = lessB a b := by
 unfold ltOf cfO
 cases lessB a b <;> simp
 split <;> simp
theorem gorder_any (a b : Dig) (w : World) : Calls Tryz.prog 62 #[digV a, digV b] w (Ret fun v w' => v = .int .i64 (cfO a b) ∧ Ext w w') := by
 refine calls_of_CW 13 [4] [(0, digV a), (1, digV b)] Tryz.func62 rfl rfl rfl (by simp) args2 ?_
 have hE : Ext w w := Chg.refl
 refine CW.sr fun K1 hK1 => ?_
 refine WL.box rfl rfl (by decide) fun g2 w1 hx1 hg2 hB2 => ?_
 have hlt2 := hB2.lt; have hz1 := hx1.size
 have hM2 := hB2.mem; have hz1 := hx1.size; have hE := hE.thenExt hx1
 refine WL.box rfl rfl (by decide) fun g3 w2 hx2 hg3 hB3 => ?_
 have hlt3 := hB3.lt; have hz2 := hx2.size
 have hM3 := hB3.mem; have hz2 := hx2.size; have hE := hE.thenExt hx2; have hB2 := hB2.ext hx2
 refine WL.a rfl ?_
 refine WL.nil (hK1 _ _ ?_); try clear hK1 K1
 refine CW.seq fun K2 hK2 => ?_
 refine CW.block ?_
 refine CW.sr fun K3 hK3 => ?_
 refine WL.v (Y.load Tryz.underlying43 rfl hB2.mem (sz_apiDigest _) rfl) ?_
 refine WL.v (Y.load Tryz.underlying43 rfl hB3.mem (sz_apiDigest _) rfl) ?_
 refine WL.call Tryz.func76 rfl rfl rfl (less_any _ _ _) (by simp) ?_; rintro v w3 ⟨rfl, hx3⟩; have hz3 := hx3.size; have hE := hE.thenExt hx3; have hB2 := hB2.ext hx3; have hB3 := hB3.ext hx3
 refine WL.a rfl ?_
 refine WL.nil (hK3 _ _ ?_); try clear hK3 K3
 (first | refine CW.condD rfl ?_ ?_ | refine CW.condND rfl ?_ ?_ | refine CW.condN rfl ?_ ?_ | refine CW.cond rfl ?_ ?_) <;> intro ht4
 ·
  -- then
  refine CW.sr fun K5 hK5 => ?_
  refine WL.a rfl ?_
  refine WL.nil (hK5 _ _ ?_); try clear hK5 K5
  refine CW.ret ⟨_, rfl, ?_⟩
  exact ⟨by rw [cfO, if_pos (by assumption)], hE⟩
 refine CW.sr fun K6 hK6 => ?_
 refine WL.v (Y.load Tryz.underlying43 rfl hB2.mem (sz_apiDigest _) rfl) ?_
 refine WL.v (Y.load Tryz.underlying43 rfl hB3.mem (sz_apiDigest _) rfl) ?_
 refine WL.v (Y.eql_apiDigest rfl rfl) ?_
 refine WL.a rfl ?_
 refine WL.nil (hK6 _ _ ?_); try clear hK6 K6
 (first | refine CW.condD rfl ?_ ?_ | refine CW.condND rfl ?_ ?_ | refine CW.condN rfl ?_ ?_ | refine CW.cond rfl ?_ ?_) <;> intro ht7
 ·
  -- then
  refine CW.sr fun K8 hK8 => ?_
  refine WL.a rfl ?_
  refine WL.nil (hK8 _ _ ?_); try clear hK8 K8
  refine CW.ret ⟨_, rfl, ?_⟩
  exact ⟨by rw [cfO, if_neg (by simp_all), if_pos (by assumption)], hE⟩
 refine CW.skip ?_
 refine hK2 _ _ ?_; try clear hK2 K2
 refine CW.sr fun K9 hK9 => ?_
 refine WL.a rfl ?_
 refine WL.nil (hK9 _ _ ?_); try clear hK9 K9
 refine CW.ret ⟨_, rfl, ?_⟩
 exact ⟨by rw [cfO, if_neg (by simp_all), if_neg (by assumption)], hE⟩
theorem gwrong_any (y : NdV) (ids : List Dig) (r cl : Nat) (w : World) (hx : Sl w digC 32 y.pv y.n.ps) (hM : MapAt w r pme (placed ids) cl) : Calls Tryz.prog 83 #[ndV y, .map (some r)] w (Ret fun v w' => v = .int .i64 (wrongE ids y.n) ∧ Ext w w') := by
 have hx0 := hx
 have hM0 := hM
 obtain ⟨⟨id, ps⟩, A, c⟩ := y
 obtain ⟨_, _, _, he, hl, hmc, hcm, _⟩ := hx
 cases he
 have hx := hx0
 unfold maxLen at hcm
 dsimp only [NdV.pv] at hx hx0 hl hmc ⊢
 refine calls_of_CW 64 [4] [(0, ndV ⟨⟨id, ps⟩, A, c⟩), (1, .map (some r))] Tryz.func83 rfl rfl rfl (by simp) args2 ?_
 have hE : Ext w w := Chg.refl
 refine CW.sr fun K1 hK1 => ?_
 refine WL.box rfl rfl (by decide) fun g2 w1 hx1 hg2 hB2 => ?_
 have hlt2 := hB2.lt; have hz1 := hx1.size
 have hM2 := hB2.mem; have hz1 := hx1.size; have hE := hE.thenExt hx1; have hx := hx.ext hx1; have hM := hM.ext hx1
 refine WL.a rfl ?_
 refine WL.nil (hK1 _ _ ?_); try clear hK1 K1
 refine CW.seq fun K2 hK2 => ?_
 refine CW.sr fun K3 hK3 => ?_
 refine WL.v (Y.fieldAddr fo_apiNode1 rfl) ?_
 refine WL.v (Y.load1 Tryz.underlying24 rfl hB2.mem.node1 rfl) ?_
 refine WL.v (Y.len_slice Tryz.underlying24 rfl) ?_
 refine WL.v (Y.gtr rfl rfl) ?_
 refine WL.nil (hK3 _ _ ?_); try clear hK3 K3
 (first | refine CW.condD rfl ?_ ?_ | refine CW.condND rfl ?_ ?_ | refine CW.condN rfl ?_ ?_ | refine CW.cond rfl ?_ ?_) <;> intro ht4
 ·
  -- then
  refine CW.sr fun K5 hK5 => ?_
  refine WL.a rfl ?_
  refine WL.nil (hK5 _ _ ?_); try clear hK5 K5
  refine CW.ret ⟨_, rfl, ?_⟩
  exact ⟨by rw [wrongE, if_pos (by show 8 < ps.length; omega)], hE⟩
 refine CW.skip ?_
 refine hK2 _ _ ?_; try clear hK2 K2
 refine CW.seq fun K6 hK6 => ?_
 refine CW.sr fun K7 hK7 => ?_
 refine WL.v (Y.fieldAddr fo_apiNode1 rfl) ?_
 refine WL.v (Y.load1 Tryz.underlying24 rfl hB2.mem.node1 rfl) ?_
 refine WL.v (Y.len_slice Tryz.underlying24 rfl) ?_
 refine WL.m rfl ?_
 refine WL.nil (hK7 _ _ ?_); try clear hK7 K7
 refine CW.block ?_
 refine CW.loop (X := Nat) (fun x => [(1, .map (some r)), (2, .pointer (some ⟨g2, 0, none⟩)), (18, .int .i64 (ps.length : Int)), (19, .int .i64 (x : Int))]) (fun x w0 => x ≤ ps.length ∧ (∀ i a b, i + 1 < x → ps[i]? = some a → ps[i + 1]? = some b → lessB a b = true) ∧ Ext w w0 ∧ Blk w0 g2 TNo (ndC ⟨⟨id, ps⟩, A, c⟩)) (fun x => ps.length - x) 0 Fr.ok ⟨Nat.zero_le _, (fun i a b h => by omega), hE, hB2⟩ ?_
 intro x w2 hl2
 obtain ⟨hxl, hris, hE, hB2⟩ := hl2
 have hx := hx0.ext hE
 have hM := hM0.ext hE
 refine CW.sr fun K8 hK8 => ?_
 refine WL.v (Y.lss rfl rfl) ?_
 refine WL.nil (hK8 _ _ ?_); try clear hK8 K8
 refine CW.seq fun K9 hK9 => ?_
 (first | refine CW.condD rfl ?_ ?_ | refine CW.condND rfl ?_ ?_ | refine CW.condN rfl ?_ ?_ | refine CW.cond rfl ?_ ?_) <;> intro ht10
 ·
  -- then
  refine CW.skip ?_
  refine hK9 _ _ ?_; try clear hK9 K9
  refine CW.seq fun K11 hK11 => ?_
  refine CW.block ?_
  refine CW.sr fun K12 hK12 => ?_
  refine WL.m rfl ?_
  refine WL.a rfl ?_
  refine WL.nil (hK12 _ _ ?_); try clear hK12 K12
  obtain ⟨p, hp⟩ : ∃ p, ps[x]? = some p := ⟨_, List.getElem?_eq_getElem (by omega)⟩
  obtain ⟨q, hq0⟩ : ∃ q, 0 < x → ps[x - 1]? = some q := by
   by_cases h : 0 < x
   ·
    exact ⟨ps[x - 1]'(by omega), fun _ => List.getElem?_eq_getElem (by omega)⟩
   ·
    exact ⟨p, fun h2 => absurd h2 h⟩
  obtain ⟨a, rfl, hma⟩ := hx.at hp
  have hmq : 0 < x → Mem w2 (a.add ((x - 1) * 32)) (digC q) := fun h => by
   obtain ⟨a2, ha2, hm2⟩ := hx.at (hq0 h)
   cases ha2; exact hm2
  refine CW.seq_testE 38 (0 < x ∧ lessB q p = false) ?_ ?_
  ·
   refine CW.quiet (fun wq => Ext w2 wq) (by kernel_rfl) (by kernel_rfl) Chg.drew ?_
   refine QL.m rfl ?_
   refine QL.v (fun wq hq => Y.gtr rfl rfl) ?_
   refine QL.m rfl ?_
   (first | refine QL.casesD (d := 24) rfl ?_ ?_ | refine QL.casesND (d := 24) rfl ?_ ?_ | refine QL.cases (d := 24) rfl ?_ ?_) <;> intro hg24
   ·
    -- t24 = T
    refine QL.g rfl rfl (fun wq hq => Y.fieldAddr fo_apiNode1 rfl) ?_
    refine QL.g rfl rfl (fun wq hq => Y.load1 Tryz.underlying24 rfl (hB2.ext hq).mem.node1 rfl) ?_
    refine QL.g rfl rfl (fun wq hq => Y.move rfl) ?_
    refine QL.g rfl rfl (fun wq hq => Y.subN (q := 1) rfl rfl (by omega) (by omega)) ?_
    refine QL.g rfl rfl (fun wq hq => Y.indexAddrN Tryz.underlying24 rfl rfl sz0_apiDigest (by omega)) ?_
    refine QL.g rfl rfl (fun wq hq => Y.load Tryz.underlying43 rfl ((hmq (by omega)).ext hq) (sz_apiDigest _) rfl) ?_
    refine QL.g rfl rfl (fun wq hq => Y.fieldAddr fo_apiNode1 rfl) ?_
    refine QL.g rfl rfl (fun wq hq => Y.load1 Tryz.underlying24 rfl (hB2.ext hq).mem.node1 rfl) ?_
    refine QL.g rfl rfl (fun wq hq => Y.move rfl) ?_
    refine QL.g rfl rfl (fun wq hq => Y.indexAddrN Tryz.underlying24 rfl rfl sz0_apiDigest (by omega)) ?_
    refine QL.g rfl rfl (fun wq hq => Y.load Tryz.underlying43 rfl (hma.ext hq) (sz_apiDigest _) rfl) ?_
    refine QL.gcall rfl rfl Tryz.func76 rfl rfl rfl (fun wq hq => ret_ext (less_any _ _ _) hq) (by decide) ?_
    refine QL.g rfl rfl (fun wq hq => Y.not rfl) ?_
    refine QL.v (fun wq hq => Y.pick rfl rfl) ?_
    refine QL.nil fun wq hq => ⟨⟨_, rfl, ?_⟩, hq, Fr.okp⟩
    exact tst_ok
   ·
    -- t24 = F
    refine QL.o rfl rfl ?_
    refine QL.o rfl rfl ?_
    refine QL.o rfl rfl ?_
    refine QL.o rfl rfl ?_
    refine QL.o rfl rfl ?_
    refine QL.o rfl rfl ?_
    refine QL.o rfl rfl ?_
    refine QL.o rfl rfl ?_
    refine QL.o rfl rfl ?_
    refine QL.o rfl rfl ?_
    refine QL.o rfl rfl ?_
    refine QL.o rfl rfl ?_
    refine QL.o rfl rfl ?_
    refine QL.v (fun wq hq => Y.pick rfl rfl) ?_
    refine QL.nil fun wq hq => ⟨⟨_, rfl, ?_⟩, hq, Fr.okp⟩
    exact tst_ok
  intro w3 hx3; have hz3 := hx3.size; have hE := hE.thenExt hx3; have hx := hx.ext hx3; have hM := hM.ext hx3; have hB2 := hB2.ext hx3
  (first | refine CW.condD rfl ?_ ?_ | refine CW.condND rfl ?_ ?_ | refine CW.condN rfl ?_ ?_ | refine CW.cond rfl ?_ ?_) <;> intro ht13
  ·
   -- then
   refine CW.sr fun K14 hK14 => ?_
   refine WL.a rfl ?_
   refine WL.nil (hK14 _ _ ?_); try clear hK14 K14
   refine CW.ret ⟨_, rfl, ?_⟩
   exact ⟨by rw [wrongE, if_neg (by show ¬ 8 < ps.length; omega), if_pos (risB_not (hq0 ht13.1) (by rw [Nat.sub_add_cancel ht13.1]; exact hp) ht13.2)], hE⟩
  refine CW.skip ?_
  refine hK11 _ _ ?_; try clear hK11 K11
  refine CW.region ?_
  refine WL.v (Y.add rfl rfl ⟨by omega, by omega⟩) ?_
  refine WL.m rfl ?_
  refine WL.nil ?_
  refine ⟨x + 1, by show ps.length - (x + 1) < ps.length - x; omega, Fr.ok, by show x + 1 ≤ ps.length; omega, ?_, hE, hB2⟩
  intro i a2 b2 hi h1 h2
  by_cases e : i + 1 < x
  ·
   exact hris i a2 b2 e h1 h2
  ·
   have e2 : i = x - 1 := by omega
   subst e2
   rw [Nat.sub_add_cancel (by omega), hp] at h2
   rw [hq0 (by omega)] at h1
   cases h1; cases h2
   cases hc : lessB q p with
   | true => rfl
   | false => exact absurd ⟨by omega, hc⟩ ht13
 refine CW.exit ?_
 refine hK6 _ _ ?_; try clear hK6 K6
 refine CW.seq fun K15 hK15 => ?_
 refine CW.sr fun K16 hK16 => ?_
 refine WL.m rfl ?_
 refine WL.v (Y.fieldAddr fo_apiNode0 rfl) ?_
 refine WL.v (Y.load Tryz.underlying43 rfl hB2.mem.node0 (sz_apiDigest _) rfl) ?_
 refine WL.v (Y.lookupOk keyDig (fun _ => rfl) Tryz.underlying72 zero_int rfl rfl hM) ?_
 refine WL.m rfl ?_
 refine WL.v (Y.extract rfl rfl) ?_
 refine WL.v (Y.extract rfl rfl) ?_
 refine WL.a rfl ?_
 refine WL.a rfl ?_
 refine WL.nil (hK16 _ _ ?_); try clear hK16 K16
 refine CW.sr fun K17 hK17 => ?_
 refine WL.m rfl ?_
 refine WL.nil (hK17 _ _ ?_); try clear hK17 K17
 (first | refine CW.condD rfl ?_ ?_ | refine CW.condND rfl ?_ ?_ | refine CW.condN rfl ?_ ?_ | refine CW.cond rfl ?_ ?_) <;> intro ht18
 ·
  -- then
  refine CW.sr fun K19 hK19 => ?_
  refine WL.a rfl ?_
  refine WL.nil (hK19 _ _ ?_); try clear hK19 K19
  refine CW.ret ⟨_, rfl, ?_⟩
  exact ⟨by rw [wrongE, if_neg (by show ¬ 8 < ps.length; omega), if_neg (by rw [risB_at fun i a b h1 h2 => hris i a b (by have := (List.getElem?_eq_some_iff.1 h2).1; omega) h1 h2]; decide), if_pos (by have := ht18; rw [placed_isSome] at this; simpa using this)], hE⟩
 refine CW.skip ?_
 refine hK15 _ _ ?_; try clear hK15 K15
 refine CW.seq fun K20 hK20 => ?_
 refine CW.seq fun K21 hK21 => ?_
 have hrisT : risB ps = true := risB_at fun i a b h1 h2 => hris i a b (by have := (List.getElem?_eq_some_iff.1 h2).1; omega) h1 h2
 have hnid : ¬ id ∈ ids := fun h => by have := ht18; rw [placed_isSome] at this; simp [h] at this
 refine CW.region ?_
 refine WL.v (Y.fieldAddr fo_apiNode1 rfl) ?_
 refine WL.v (Y.load1 Tryz.underlying24 rfl hB2.mem.node1 rfl) ?_
 refine WL.v (Y.len_slice Tryz.underlying24 rfl) ?_
 refine WL.m rfl ?_
 refine WL.nil (hK21 _ _ ?_); try clear hK21 K21
 refine CW.block ?_
 refine CW.loop (X := Nat) (fun x => [(1, .map (some r)), (2, .pointer (some ⟨g2, 0, none⟩)), (49, .slice A ps.length c), (50, .int .i64 (ps.length : Int)), (51, .int .i64 (x : Int))]) (fun x w0 => x ≤ ps.length ∧ (∀ i a, i < x → ps[i]? = some a → a ∈ ids) ∧ Ext w w0 ∧ Blk w0 g2 TNo (ndC ⟨⟨id, ps⟩, A, c⟩)) (fun x => ps.length - x) 0 Fr.ok ⟨Nat.zero_le _, (fun i a h => by omega), hE, hB2⟩ ?_
 intro x w4 hl4
 obtain ⟨hxl, hin, hE, hB2⟩ := hl4
 have hx := hx0.ext hE
 have hM := hM0.ext hE
 refine CW.sr fun K22 hK22 => ?_
 refine WL.v (Y.lss rfl rfl) ?_
 refine WL.nil (hK22 _ _ ?_); try clear hK22 K22
 refine CW.seq fun K23 hK23 => ?_
 (first | refine CW.condD rfl ?_ ?_ | refine CW.condND rfl ?_ ?_ | refine CW.condN rfl ?_ ?_ | refine CW.cond rfl ?_ ?_) <;> intro ht24
 ·
  -- then
  refine CW.skip ?_
  refine hK23 _ _ ?_; try clear hK23 K23
  refine CW.seq fun K25 hK25 => ?_
  refine CW.block ?_
  refine CW.seq fun K26 hK26 => ?_
  obtain ⟨p, hp⟩ : ∃ p, ps[x]? = some p := ⟨_, List.getElem?_eq_getElem (by omega)⟩
  obtain ⟨a, rfl, hma⟩ := hx.at hp
  refine CW.region ?_
  refine WL.v (Y.indexAddrN Tryz.underlying24 rfl rfl sz0_apiDigest (by omega)) ?_
  refine WL.v (Y.load Tryz.underlying43 rfl hma (sz_apiDigest _) rfl) ?_
  refine as_apiDigest rfl (by simp) (by decide) fun g9 w5 hx5 hg9 hB9 => ?_
  have hlt9 := hB9.lt; have hz5 := hx5.size
  have hM9 := hB9.mem; have hz5 := hx5.size; have hE := hE.thenExt hx5; have hx := hx.ext hx5; have hM := hM.ext hx5; have hB2 := hB2.ext hx5
  refine WL.nil (hK26 _ _ ?_); try clear hK26 K26
  refine CW.sr fun K27 hK27 => ?_
  refine WL.m rfl ?_
  refine WL.v (Y.load Tryz.underlying43 rfl hB9.mem (sz_apiDigest _) rfl) ?_
  refine WL.v (Y.lookupOk keyDig (fun _ => rfl) Tryz.underlying72 zero_int rfl rfl hM) ?_
  refine WL.m rfl ?_
  refine WL.v (Y.extract rfl rfl) ?_
  refine WL.v (Y.extract rfl rfl) ?_
  refine WL.a rfl ?_
  refine WL.a rfl ?_
  refine WL.nil (hK27 _ _ ?_); try clear hK27 K27
  refine CW.sr fun K28 hK28 => ?_
  refine WL.m rfl ?_
  refine WL.v (Y.not rfl) ?_
  refine WL.nil (hK28 _ _ ?_); try clear hK28 K28
  (first | refine CW.condD rfl ?_ ?_ | refine CW.condND rfl ?_ ?_ | refine CW.condN rfl ?_ ?_ | refine CW.cond rfl ?_ ?_) <;> intro ht29
  ·
   -- then
   refine CW.sr fun K30 hK30 => ?_
   refine WL.a rfl ?_
   refine WL.nil (hK30 _ _ ?_); try clear hK30 K30
   refine CW.ret ⟨_, rfl, ?_⟩
   exact ⟨by rw [wrongE, if_neg (by show ¬ 8 < ps.length; omega), if_neg (by show ¬ risB ps = false; rw [hrisT]; decide), if_neg hnid, if_pos ⟨p, List.mem_of_getElem? hp, by have := ht29; rw [placed_isSome] at this; simpa using this⟩], hE⟩
  refine CW.skip ?_
  refine hK25 _ _ ?_; try clear hK25 K25
  refine CW.region ?_
  refine WL.v (Y.add rfl rfl ⟨by omega, by omega⟩) ?_
  refine WL.m rfl ?_
  refine WL.nil ?_
  refine ⟨x + 1, by show ps.length - (x + 1) < ps.length - x; omega, Fr.ok, by show x + 1 ≤ ps.length; omega, ?_, hE, hB2⟩
  intro i a2 hi h1
  by_cases e : i < x
  ·
   exact hin i a2 e h1
  ·
   have e2 : i = x := by omega
   subst e2
   rw [hp] at h1; cases h1
   have := ht29; rw [placed_isSome] at this; simpa using this
 refine CW.exit ?_
 refine hK20 _ _ ?_; try clear hK20 K20
 refine CW.sr fun K31 hK31 => ?_
 refine WL.a rfl ?_
 refine WL.nil (hK31 _ _ ?_); try clear hK31 K31
 refine CW.ret ⟨_, rfl, ?_⟩
 exact ⟨by rw [wrongE, if_neg (by show ¬ 8 < ps.length; omega), if_neg (by show ¬ risB ps = false; rw [hrisT]; decide), if_neg hnid, if_neg (by
  rintro ⟨p, hp, hn⟩
  obtain ⟨i, hi⟩ := List.mem_iff_getElem?.1 hp
  have hi : ps[i]? = some p := hi
  exact hn (hin i p (by have := (List.getElem?_eq_some_iff.1 hi).1; omega) hi))], hE⟩
theorem gread_any (u : Value) (l : List NdV) (w : World) (hl : Nds w u l) : Calls Tryz.prog 60 #[u] w (Ret fun v w' => ∃ m, v = .tuple #[m, .int .i64 ((readE (ndsL l)).1 : Int), .int .i64 (readE (ndsL l)).2] ∧ ((readE (ndsL l)).2 = 0 → ∃ r, m = .map (some r) ∧ w.heap.size ≤ r ∧ MapAt w' r pme (placed (idsL (ndsL l))) l.length) ∧ Ext w w') := by
 have hl0 := hl
 obtain ⟨⟨A, m, c, rfl, hlm, hmc, hcm, hlx⟩, hps⟩ := hl
 unfold maxLen at hcm
 obtain ⟨id, hid, hzd, _⟩ := info_apiNode
 have hln : (ndsL l).length = m := by simpa using hlm
 refine calls_of_CW 35 [2, 3, 4] [(0, .slice A m c)] Tryz.func60 rfl rfl rfl (by simp) args1 ?_
 have hE : Ext w w := Chg.refl
 refine CW.sr fun K1 hK1 => ?_
 refine WL.a rfl ?_
 refine WL.a rfl ?_
 refine WL.a rfl ?_
 refine WL.nil (hK1 _ _ ?_); try clear hK1 K1
 refine CW.seq fun K2 hK2 => ?_
 refine CW.sr fun K3 hK3 => ?_
 refine WL.m rfl ?_
 refine WL.v (Y.len_slice Tryz.underlying37 rfl) ?_
 refine WL.v (Y.gtr rfl rfl) ?_
 refine WL.nil (hK3 _ _ ?_); try clear hK3 K3
 (first | refine CW.condD rfl ?_ ?_ | refine CW.condND rfl ?_ ?_ | refine CW.condN rfl ?_ ?_ | refine CW.cond rfl ?_ ?_) <;> intro ht4
 ·
  -- then
  refine CW.sr fun K5 hK5 => ?_
  refine WL.a rfl ?_
  refine WL.a rfl ?_
  refine WL.a rfl ?_
  refine WL.nil (hK5 _ _ ?_); try clear hK5 K5
  refine CW.ret ⟨_, rfl, ?_⟩
  have he : readE (ndsL l) = (0, 4) := by rw [readE, if_pos (by omega)]
  exact ⟨_, by rw [he]; rfl, fun h => by rw [he] at h; simp at h, hE⟩
 refine CW.skip ?_
 refine hK2 _ _ ?_; try clear hK2 K2
 refine CW.sr fun K6 hK6 => ?_
 refine WL.m rfl ?_
 refine WL.v (Y.len_slice Tryz.underlying37 rfl) ?_
 refine WL.st (St.makeMapN Tryz.underlying72 rfl) (by decide) fun v14 w1 hR1 => ?_
 obtain ⟨r, rfl, hr, hMp, hx1⟩ := hR1
 have hz1 := hx1.size
 have hE := hE.thenExt hx1
 have hM := hMp _ pme
 have hre : readE (ndsL l) = fwrong (ndsL l) [] 0 := by rw [readE, if_neg (by omega)]
 refine WL.a rfl ?_
 refine WL.nil (hK6 _ _ ?_); try clear hK6 K6
 refine CW.seq fun K7 hK7 => ?_
 refine CW.sr fun K8 hK8 => ?_
 refine WL.m rfl ?_
 refine WL.v (Y.len_slice Tryz.underlying37 rfl) ?_
 refine WL.m rfl ?_
 refine WL.nil (hK8 _ _ ?_); try clear hK8 K8
 refine CW.block ?_
 refine CW.loop (X := Nat) (fun x => [(5, .map (some r)), (15, .slice A m c), (16, .int .i64 (m : Int)), (17, .int .i64 (x : Int))]) (fun x w0 => x ≤ m ∧ fwrong (ndsL l) [] 0 = fwrong ((ndsL l).drop x) (idsL ((ndsL l).take x)) x ∧ Ext w w0 ∧ MapAt w0 r pme (placed (idsL ((ndsL l).take x))) x) (fun x => m - x) 0 Fr.ok ⟨Nat.zero_le _, by simp, hE, by simpa using hM⟩ ?_
 intro x w2 hl2
 clear hE hM
 obtain ⟨hxm, hfw, hE, hM⟩ := hl2
 have hzE := hE.size
 refine CW.sr fun K9 hK9 => ?_
 refine WL.v (Y.lss rfl rfl) ?_
 refine WL.nil (hK9 _ _ ?_); try clear hK9 K9
 refine CW.seq fun K10 hK10 => ?_
 (first | refine CW.condD rfl ?_ ?_ | refine CW.condND rfl ?_ ?_ | refine CW.condN rfl ?_ ?_ | refine CW.cond rfl ?_ ?_) <;> intro ht11
 ·
  -- then
  refine CW.skip ?_
  refine hK10 _ _ ?_; try clear hK10 K10
  refine CW.seq fun K12 hK12 => ?_
  refine CW.block ?_
  refine CW.seq fun K13 hK13 => ?_
  obtain ⟨y, hy⟩ : ∃ y, l[x]? = some y := ⟨_, List.getElem?_eq_getElem (by omega)⟩
  obtain ⟨a, rfl, hma⟩ := hlx _ _ hy
  have hyn : (ndsL l)[x]? = some y.n := by simp [hy]
  refine CW.region ?_
  refine WL.m rfl ?_
  refine WL.v (Y.indexAddrN Tryz.underlying37 rfl rfl sz0_apiNode (by omega)) ?_
  refine WL.v (Y.load Tryz.underlying45 rfl (hma.ext hE) (sz_apiNode _) rfl) ?_
  refine WL.alloc (hid) (hzd) rfl (by decide) fun g7 w3 hx3 hg7 hB7 => ?_
  have hlt7 := hB7.lt; have hz3 := hx3.size
  have hM7 := hB7.mem; have hz3 := hx3.size; have hE := hE.thenExt hx3
  refine WL.a rfl ?_
  refine WL.store (g := g7) (pre := []) (old := ndC NdV.zero) (post := []) (new := ndC y) rfl rfl rfl rfl (sz_apiNode _) (by simpa using hB7) (by rw [ndC_length, ndC_length]) (one_ndC) (fun w4 hc4 hB4_ => ?_)
  have hz4 := hc4.size; have hE := hE.step hc4 (fun k h => by omega)
  have hB7 : Blk w4 g7 TNo (ndC y) := by simpa using hB4_
  have hM := (hM.ext hx3).chg hc4 (fun h => by have := hM.lt; omega)
  refine WL.nil (hK13 _ _ ?_); try clear hK13 K13
  refine CW.seq fun K14 hK14 => ?_
  refine CW.sr fun K15 hK15 => ?_
  refine WL.v (Y.load Tryz.underlying45 rfl hB7.mem (sz_apiNode _) rfl) ?_
  refine WL.m rfl ?_
  refine WL.call Tryz.func83 rfl rfl rfl (gwrong_any y _ r _ _ ((hps y (List.mem_of_getElem? hy)).ext hE) hM) (by simp) ?_; rintro v w5 ⟨rfl, hx5⟩; have hz5 := hx5.size; have hE := hE.thenExt hx5; have hB7 := hB7.ext hx5
  refine WL.a rfl ?_
  refine WL.nil (hK15 _ _ ?_); try clear hK15 K15
  refine CW.sr fun K16 hK16 => ?_
  refine WL.m rfl ?_
  refine WL.v (Y.neq rfl rfl) ?_
  refine WL.nil (hK16 _ _ ?_); try clear hK16 K16
  (first | refine CW.condD rfl ?_ ?_ | refine CW.condND rfl ?_ ?_ | refine CW.condN rfl ?_ ?_ | refine CW.cond rfl ?_ ?_) <;> intro ht17
  ·
   -- then
   refine CW.sr fun K18 hK18 => ?_
   refine WL.m rfl ?_
   refine WL.m rfl ?_
   refine WL.a rfl ?_
   refine WL.a rfl ?_
   refine WL.a rfl ?_
   refine WL.nil (hK18 _ _ ?_); try clear hK18 K18
   refine CW.ret ⟨_, rfl, ?_⟩
   exact ⟨_, by rw [hre, hfw, fwrong_stop hyn (by assumption)], fun h => by rw [hre, hfw, fwrong_stop hyn (by assumption)] at h; exact absurd h (by assumption), hE⟩
  refine CW.skip ?_
  refine hK14 _ _ ?_; try clear hK14 K14
  have hw0 : wrongE (idsL ((ndsL l).take x)) y.n = 0 := Decidable.not_not.1 (by assumption)
  have hok := wrong_ok hw0
  have hM := hM.ext hx5
  refine CW.region ?_
  refine WL.m rfl ?_
  refine WL.v (Y.fieldAddr fo_apiNode0 rfl) ?_
  refine WL.v (Y.load Tryz.underlying43 rfl hB7.mem.node0 (sz_apiDigest _) rfl) ?_
  refine WL.m rfl ?_
  refine WL.su (Su.mapNew (b := (y.n.id, x)) keyDig (fun _ => rfl) Tryz.underlying72 rfl rfl rfl hM (placed_none hok.2.2.1) rfl) fun w6 hR6 => ?_
  obtain ⟨hM, hc6⟩ := hR6
  have hz6 := hc6.size
  have hE := hE.step hc6 (fun k h => by omega)
  refine WL.nil (hK12 _ _ ?_); try clear hK12 K12
  refine CW.region ?_
  refine WL.v (Y.add rfl rfl ⟨by omega, by omega⟩) ?_
  refine WL.m rfl ?_
  refine WL.nil ?_
  refine ⟨x + 1, by show m - (x + 1) < m - x; omega, Fr.ok, by show x + 1 ≤ m; omega, hfw.trans (fwrong_step hyn hw0), hE, ?_⟩
  show MapAt _ r pme (placed (idsL ((ndsL l).take (x + 1)))) (x + 1)
  rw [take_succ hyn, idsL, List.map_append, List.map_cons, List.map_nil, placed_app]
  have e : (List.map Nd.id (List.take x (ndsL l))).length = x := by rw [List.length_map, List.length_take]; omega
  rw [e]; exact hM
 refine CW.exit ?_
 refine hK7 _ _ ?_; try clear hK7 K7
 refine CW.sr fun K19 hK19 => ?_
 refine WL.m rfl ?_
 refine WL.a rfl ?_
 refine WL.a rfl ?_
 refine WL.a rfl ?_
 refine WL.nil (hK19 _ _ ?_); try clear hK19 K19
 refine CW.ret ⟨_, rfl, ?_⟩
 have hxm2 : x = m := by omega
 subst hxm2
 have e1 : (ndsL l).drop x = [] := List.drop_of_length_le (by omega)
 have e2 : (ndsL l).take x = ndsL l := List.take_of_length_le (by omega)
 have hr0 : readE (ndsL l) = (0, 0) := by rw [hre, hfw, e1]; rfl
 rw [e2] at hM
 exact ⟨_, by rw [hr0]; rfl, fun _ => ⟨r, rfl, hr, by rw [hlm]; exact hM⟩, hE⟩
end Go.Proofs.YtjbeooimhoilmaaGreatDoor
