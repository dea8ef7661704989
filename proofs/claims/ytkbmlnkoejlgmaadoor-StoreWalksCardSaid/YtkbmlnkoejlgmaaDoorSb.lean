/- SHA-256 as plain Lean: words, schedule, rounds. No condition; no program. -/
import Derived.Test.YtkbmlnkoejlgmaaDoorSa
set_option linter.unusedSimpArgs false
set_option linter.unusedVariables false
namespace Go.Pl
open Go.Fw
def rotr (x : UInt32) (n : Nat) : UInt32 := x >>> UInt32.ofNat n ||| x <<< UInt32.ofNat (32 - n)
def sg0 (x : UInt32) : UInt32 := (rotr x 7 ^^^ rotr x 18) ^^^ x >>> UInt32.ofNat 3
def sg1 (x : UInt32) : UInt32 := (rotr x 17 ^^^ rotr x 19) ^^^ x >>> UInt32.ofNat 10
def wordB (b : List UInt8) (i : Nat) : UInt32 := (((b.getD (4 * i) 0).toUInt32 <<< UInt32.ofNat 24 ||| (b.getD (4 * i + 1) 0).toUInt32 <<< UInt32.ofNat 16) ||| (b.getD (4 * i + 2) 0).toUInt32 <<< UInt32.ofNat 8) ||| (b.getD (4 * i + 3) 0).toUInt32
/-- The word behind the words ws. -/
def nextW (ws : List UInt32) : UInt32 := ws.getD (ws.length - 16) 0 + sg0 (ws.getD (ws.length - 15) 0) + ws.getD (ws.length - 7) 0 + sg1 (ws.getD (ws.length - 2) 0)
/-- The first n words of a block. -/
def schedN (b : List UInt8) : Nat → List UInt32
  | 0 => []
  | n + 1 => schedN b n ++ [if n < 16 then wordB b n else nextW (schedN b n)]
theorem schedN_length (b : List UInt8) : ∀ n, (schedN b n).length = n
  | 0 => rfl
  | n + 1 => by rw [schedN, List.length_append, schedN_length b n]; rfl
def nextAt (b : List UInt8) (x : Nat) : UInt32 := (schedN b x).getD (x - 16) 0 + sg0 ((schedN b x).getD (x - 15) 0) + (schedN b x).getD (x - 7) 0 + sg1 ((schedN b x).getD (x - 2) 0)
theorem sched_lo (b : List UInt8) {x : Nat} (h : x < 16) : schedN b (x + 1) = schedN b x ++ [wordB b x] := by rw [schedN, if_pos h]
theorem sched_hi (b : List UInt8) {x : Nat} (h : 16 ≤ x) : schedN b (x + 1) = schedN b x ++ [nextAt b x] := by rw [schedN, if_neg (by omega), nextW, schedN_length]; rfl
theorem repl_split {x : Nat} (h : x < 64) (l : List UInt32) : l ++ List.replicate (64 - x) 0 = l ++ 0 :: List.replicate (63 - x) 0 := by rw [show 64 - x = (63 - x) + 1 by omega, List.replicate_succ]
theorem sched_get {b : List UInt8} {x j : Nat} (h : j < x) : (schedN b x)[j]? = some ((schedN b x).getD j 0) := by
  rw [List.getD_eq_getElem?_getD, List.getElem?_eq_getElem (by rw [schedN_length]; exact h)]; rfl
theorem sched_get2 {b : List UInt8} {x j : Nat} {r : List UInt32} (h : j < x) : (schedN b x ++ r)[j]? = some ((schedN b x).getD j 0) := by
  rw [List.getElem?_append_left (by rw [schedN_length]; exact h), sched_get h]
structure V8 where
  a : UInt32
  b : UInt32
  c : UInt32
  d : UInt32
  e : UInt32
  f : UInt32
  g : UInt32
  h : UInt32
  deriving DecidableEq
def V8.ws (v : V8) : List UInt32 := [v.a, v.b, v.c, v.d, v.e, v.f, v.g, v.h]
def V8.add (v s : V8) : V8 := ⟨v.a + s.a, v.b + s.b, v.c + s.c, v.d + s.d, v.e + s.e, v.f + s.f, v.g + s.g, v.h + s.h⟩
def rT (v : V8) (k w : UInt32) : UInt32 := v.h + ((rotr v.e 6 ^^^ rotr v.e 11) ^^^ rotr v.e 25) + ((v.e &&& v.f) ^^^ (~~~v.e &&& v.g)) + k + w
def rU (v : V8) : UInt32 := ((rotr v.a 2 ^^^ rotr v.a 13) ^^^ rotr v.a 22) + (((v.a &&& v.b) ^^^ (v.a &&& v.c)) ^^^ (v.b &&& v.c))
def rnd (v : V8) (k w : UInt32) : V8 := ⟨rT v k w + rU v, v.a, v.b, v.c, v.d + rT v k w, v.e, v.f, v.g⟩
def keysL : List UInt32 := [1116352408, 1899447441, 3049323471, 3921009573, 961987163, 1508970993, 2453635748, 2870763221, 3624381080, 310598401, 607225278, 1426881987, 1925078388, 2162078206, 2614888103, 3248222580, 3835390401, 4022224774, 264347078, 604807628, 770255983, 1249150122, 1555081692, 1996064986, 2554220882, 2821834349, 2952996808, 3210313671, 3336571891, 3584528711, 113926993, 338241895, 666307205, 773529912, 1294757372, 1396182291, 1695183700, 1986661051, 2177026350, 2456956037, 2730485921, 2820302411, 3259730800, 3345764771, 3516065817, 3600352804, 4094571909, 275423344, 430227734, 506948616, 659060556, 883997877, 958139571, 1322822218, 1537002063, 1747873779, 1955562222, 2024104815, 2227730452, 2361852424, 2428436474, 2756734187, 3204031479, 3329325298]
def rounds (ws : List UInt32) : Nat → V8 → V8
  | 0, v => v
  | n + 1, v => rnd (rounds ws n v) (keysL.getD n 0) (ws.getD n 0)
def mixV (s : V8) (b : List UInt8) : V8 := (rounds (schedN b 64) 64 s).add s
def beginV : V8 := ⟨1779033703, 3144134277, 1013904242, 2773480762, 1359893119, 2600822924, 528734635, 1541459225⟩
def digN (c : UInt8) : Nat := if 48 ≤ c.toNat ∧ c.toNat ≤ 57 then c.toNat - 48 else if 97 ≤ c.toNat ∧ c.toNat ≤ 102 then c.toNat - 97 + 10 else 16
def wordL (l : List UInt8) (i : Nat) : Nat → UInt32
  | 0 => 0
  | k + 1 => 16 * wordL l i k + UInt32.ofNat (digN (l.getD (8 * i + k) 0))
theorem ws_get {v : V8} {j : Nat} (h : j < 8) : v.ws[j]? = some (v.ws.getD j 0) := by
  rw [List.getD_eq_getElem?_getD, List.getElem?_eq_getElem (by exact h)]; rfl
theorem keys_get {j : Nat} (h : j < 64) : keysL[j]? = some (keysL.getD j 0) := by
  rw [List.getD_eq_getElem?_getD, List.getElem?_eq_getElem (by exact h)]; rfl
end Go.Pl
