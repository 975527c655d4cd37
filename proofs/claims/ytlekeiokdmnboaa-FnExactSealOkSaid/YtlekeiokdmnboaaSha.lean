/- What SHA-256 computes, over words of 32 bits, and how the whole numbers of Go's code tell it: plain Lean, no program. -/
import Derived.Laws.BitsLemmas
namespace Go.Proofs.Ytlekeiokdmnboaa.Sha
open Go

/-- A word as the whole number that holds it. -/
def U (x : BitVec 32) : Int := (x.toNat : Int)
theorem U_nonneg (x : BitVec 32) : 0 ≤ U x := Int.natCast_nonneg _
theorem U_lt (x : BitVec 32) : U x < 4294967296 := by have := x.isLt; unfold U; omega
theorem U_add (a b : BitVec 32) : (U a + U b) % 4294967296 = U (a + b) := by
  unfold U; rw [BitVec.toNat_add]; omega
theorem U_add3 (a b c : BitVec 32) : (U a + U b + U c) % 4294967296 = U (a + b + c) := by
  rw [← U_add, ← U_add]; omega
theorem U_add4 (a b c d : BitVec 32) : (U a + U b + U c + U d) % 4294967296 = U (a + b + c + d) := by
  rw [← U_add, ← U_add, ← U_add]; omega
theorem U_add5 (a b c d e : BitVec 32) : (U a + U b + U c + U d + U e) % 4294967296 = U (a + b + c + d + e) := by
  rw [← U_add, ← U_add, ← U_add, ← U_add]; omega
theorem U_add7 (a b c d e f g : BitVec 32) : (U a + U b + U c + U d + U e + U f + U g) % 4294967296 = U (a + b + c + d + e + f + g) := by
  rw [← U_add, ← U_add, ← U_add, ← U_add, ← U_add, ← U_add]; omega
theorem U_add1_5 (x a b c d e : BitVec 32) : (U x + (U a + U b + U c + U d + U e)) % 4294967296 = U (x + (a + b + c + d + e)) := by
  rw [← U_add x, ← U_add5]; omega
theorem U_mod (a : BitVec 32) : U a % 4294967296 = U a := by
  have := U_lt a; have := U_nonneg a; omega
theorem ofInt_U32 (a : BitVec 32) : BitVec.ofInt 32 (U a) = a := by
  unfold U; rw [BitVec.ofInt_natCast]; simp
theorem toNat_ofInt64 (a : BitVec 32) : (BitVec.ofInt 64 (U a)).toNat = a.toNat := by
  unfold U; rw [BitVec.ofInt_natCast, BitVec.toNat_ofNat]; have := a.isLt; omega
theorem xor32 (a b : BitVec 32) : bits .xor .u32 (U a) (U b) = U (a ^^^ b) := by
  show IntKind.u32.wrap ((BitVec.ofInt 32 (U a) ^^^ BitVec.ofInt 32 (U b)).toNat : Int) = _
  rw [ofInt_U32, ofInt_U32, IntKind.wrap_u32]; exact U_mod _
theorem and32 (a b : BitVec 32) : bits .and .u32 (U a) (U b) = U (a &&& b) := by
  show IntKind.u32.wrap ((BitVec.ofInt 32 (U a) &&& BitVec.ofInt 32 (U b)).toNat : Int) = _
  rw [ofInt_U32, ofInt_U32, IntKind.wrap_u32]; exact U_mod _
theorem or32 (a b : BitVec 32) : bits .or .u32 (U a) (U b) = U (a ||| b) := by
  show IntKind.u32.wrap ((BitVec.ofInt 32 (U a) ||| BitVec.ofInt 32 (U b)).toNat : Int) = _
  rw [ofInt_U32, ofInt_U32, IntKind.wrap_u32]; exact U_mod _
theorem wrap64_small (n : Nat) (h : n < 9223372036854775808) : IntKind.i64.wrap (n : Int) = n := by
  rw [IntKind.wrap_i64]; omega
theorem xor64 (a b : BitVec 32) : bits .xor .i64 (U a) (U b) = U (a ^^^ b) := by
  show IntKind.i64.wrap ((BitVec.ofInt 64 (U a) ^^^ BitVec.ofInt 64 (U b)).toNat : Int) = _
  rw [BitVec.toNat_xor, toNat_ofInt64, toNat_ofInt64, ← BitVec.toNat_xor, wrap64_small _ (by have := (a ^^^ b).isLt; omega)]; rfl
theorem and64 (a b : BitVec 32) : bits .and .i64 (U a) (U b) = U (a &&& b) := by
  show IntKind.i64.wrap ((BitVec.ofInt 64 (U a) &&& BitVec.ofInt 64 (U b)).toNat : Int) = _
  rw [BitVec.toNat_and, toNat_ofInt64, toNat_ofInt64, ← BitVec.toNat_and, wrap64_small _ (by have := (a &&& b).isLt; omega)]; rfl
theorem or64 (a b : BitVec 32) : bits .or .i64 (U a) (U b) = U (a ||| b) := by
  show IntKind.i64.wrap ((BitVec.ofInt 64 (U a) ||| BitVec.ofInt 64 (U b)).toNat : Int) = _
  rw [BitVec.toNat_or, toNat_ofInt64, toNat_ofInt64, ← BitVec.toNat_or, wrap64_small _ (by have := (a ||| b).isLt; omega)]; rfl
/-- All ones, turned into a word: its complement. -/
theorem not64 (a : BitVec 32) : bits .xor .i64 4294967295 (U a) = U (~~~a) := by
  have h : (4294967295 : Int) = U (BitVec.allOnes 32) := by decide
  rw [h, xor64]; congr 1
theorem not32 (a : BitVec 32) : bits .xor .u32 4294967295 (U a) = U (~~~a) := by
  have h : (4294967295 : Int) = U (BitVec.allOnes 32) := by decide
  rw [h, xor32]; congr 1
/-- The lowest 32 bits of a number that is not negative. -/
theorem mask64 (x : Int) (h0 : 0 ≤ x) (h1 : x < 4611686018427387904) : bits .and .i64 x 4294967295 = x % 4294967296 := by
  have := bits_mask .i64 62 (by decide) (fun n a b => by rw [IntKind.wrap_i64]; omega) 32 (by decide) x h0 h1
  exact this
theorem shr_U (a : BitVec 32) (n : Nat) : U a / 2 ^ n = U (a >>> n) := by
  unfold U; rw [BitVec.toNat_ushiftRight, Nat.shiftRight_eq_div_pow]; simp
/-- A turn to the right, as the reference computes it. -/
theorem turn64 (a : BitVec 32) (n : Nat) (h2 : 2 ≤ n) (h32 : n < 32) : bits .and .i64 (bits .or .i64 (U a / 2 ^ n) (U a * 2 ^ (32 - n))) 4294967295 = U (a.rotateRight n) := by
  have ha := a.isLt
  have hx : U a / 2 ^ n = ((a.toNat >>> n : Nat) : Int) := by unfold U; rw [Nat.shiftRight_eq_div_pow]; simp
  have hy : U a * 2 ^ (32 - n) = ((a.toNat <<< (32 - n) : Nat) : Int) := by unfold U; rw [Nat.shiftLeft_eq]; simp
  have hb : a.toNat >>> n < 2 ^ 62 := by rw [Nat.shiftRight_eq_div_pow]; exact Nat.lt_of_le_of_lt (Nat.div_le_self _ _) (by omega)
  have hp : 2 ^ (32 - n) ≤ 2 ^ 30 := Nat.pow_le_pow_right (by decide) (by omega)
  have hc : a.toNat <<< (32 - n) < 2 ^ 62 := by
    rw [Nat.shiftLeft_eq]
    calc a.toNat * 2 ^ (32 - n) ≤ a.toNat * 2 ^ 30 := Nat.mul_le_mul_left _ hp
      _ < 2 ^ 62 := by omega
  rw [hx, hy, (bits_nat .i64 62 (by decide) (fun n a b => by rw [IntKind.wrap_i64]; omega) _ _ hb hc).2,
    mask64 _ (Int.natCast_nonneg _) (by have := Nat.or_lt_two_pow hb hc; omega)]
  unfold U
  rw [BitVec.toNat_rotateRight, Nat.mod_eq_of_lt h32]
  have : (a.toNat >>> n ||| a.toNat <<< (32 - n)) % 4294967296 = a.toNat >>> n ||| a.toNat <<< (32 - n) % 2 ^ 32 := by
    show _ % 2 ^ 32 = _
    rw [Nat.or_mod_two_pow]
    congr 1
    exact Nat.mod_eq_of_lt (by rw [Nat.shiftRight_eq_div_pow]; exact Nat.lt_of_le_of_lt (Nat.div_le_self _ _) ha)
  rw [← this]; simp
/-- A turn to the left by 32 - n, as math/bits computes it, is a turn to the right by n. -/
theorem turn32 (a : BitVec 32) (n : Nat) (h32 : n < 32) : bits .or .u32 ((U a * 2 ^ (32 - n)) % 4294967296) (U a / 2 ^ n) = U (a.rotateRight n) := by
  have ha := a.isLt
  have hx : U a / 2 ^ n = U (a >>> n) := shr_U a n
  have hy : (U a * 2 ^ (32 - n)) % 4294967296 = U (a <<< (32 - n)) := by
    unfold U; rw [BitVec.toNat_shiftLeft, Nat.shiftLeft_eq]; simp
  rw [hx, hy, or32, BitVec.or_comm]
  congr 1
  apply BitVec.eq_of_toNat_eq
  rw [BitVec.toNat_rotateRight, Nat.mod_eq_of_lt h32, BitVec.toNat_or, BitVec.toNat_ushiftRight, BitVec.toNat_shiftLeft]

/-! ### The words of a block -/
def sg0 (x : BitVec 32) : BitVec 32 := x.rotateRight 7 ^^^ x.rotateRight 18 ^^^ x >>> 3
def sg1 (x : BitVec 32) : BitVec 32 := x.rotateRight 17 ^^^ x.rotateRight 19 ^^^ x >>> 10
/-- Four bytes, the highest first. -/
def word (a b c d : Int) : BitVec 32 := BitVec.ofInt 32 (a * 16777216 + b * 65536 + c * 256 + d)
/-- The word of number n: of the first sixteen as m tells them. -/
def W (m : Nat → BitVec 32) (n : Nat) : BitVec 32 :=
  if n < 16 then m n else W m (n - 16) + sg0 (W m (n - 15)) + W m (n - 7) + sg1 (W m (n - 2))
termination_by n
decreasing_by all_goals omega
theorem W_low (m : Nat → BitVec 32) (n : Nat) (h : n < 16) : W m n = m n := by rw [W, if_pos h]
theorem W_high (m : Nat → BitVec 32) (n : Nat) (h : ¬ n < 16) : W m n = W m (n - 16) + sg0 (W m (n - 15)) + W m (n - 7) + sg1 (W m (n - 2)) := by rw [W, if_neg h]

/-! ### One round -/
structure H8 where
  a : BitVec 32
  b : BitVec 32
  c : BitVec 32
  d : BitVec 32
  e : BitVec 32
  f : BitVec 32
  g : BitVec 32
  h : BitVec 32
def H8.get (v : H8) : Nat → BitVec 32
  | 0 => v.a
  | 1 => v.b
  | 2 => v.c
  | 3 => v.d
  | 4 => v.e
  | 5 => v.f
  | 6 => v.g
  | 7 => v.h
  | _ => 0
def bs0 (x : BitVec 32) : BitVec 32 := x.rotateRight 2 ^^^ x.rotateRight 13 ^^^ x.rotateRight 22
def bs1 (x : BitVec 32) : BitVec 32 := x.rotateRight 6 ^^^ x.rotateRight 11 ^^^ x.rotateRight 25
def ch (e f g : BitVec 32) : BitVec 32 := e &&& f ^^^ ~~~e &&& g
def maj (a b c : BitVec 32) : BitVec 32 := a &&& b ^^^ a &&& c ^^^ b &&& c
def step (k w : BitVec 32) (v : H8) : H8 :=
  let t1 := v.h + bs1 v.e + ch v.e v.f v.g + k + w
  ⟨t1 + bs0 v.a + maj v.a v.b v.c, v.a, v.b, v.c, v.d + t1, v.e, v.f, v.g⟩
def steps (k w : Nat → BitVec 32) (v : H8) : Nat → H8
  | 0 => v
  | n + 1 => step (k n) (w n) (steps k w v n)
def plus (v h : H8) : H8 := ⟨h.a + v.a, h.b + v.b, h.c + v.c, h.d + v.d, h.e + v.e, h.f + v.f, h.g + v.g, h.h + v.h⟩
/-- The constants of the cube roots of the first 64 primes. -/
def KL : List Nat := [0x428a2f98, 0x71374491, 0xb5c0fbcf, 0xe9b5dba5, 0x3956c25b, 0x59f111f1, 0x923f82a4, 0xab1c5ed5,
  0xd807aa98, 0x12835b01, 0x243185be, 0x550c7dc3, 0x72be5d74, 0x80deb1fe, 0x9bdc06a7, 0xc19bf174,
  0xe49b69c1, 0xefbe4786, 0x0fc19dc6, 0x240ca1cc, 0x2de92c6f, 0x4a7484aa, 0x5cb0a9dc, 0x76f988da,
  0x983e5152, 0xa831c66d, 0xb00327c8, 0xbf597fc7, 0xc6e00bf3, 0xd5a79147, 0x06ca6351, 0x14292967,
  0x27b70a85, 0x2e1b2138, 0x4d2c6dfc, 0x53380d13, 0x650a7354, 0x766a0abb, 0x81c2c92e, 0x92722c85,
  0xa2bfe8a1, 0xa81a664b, 0xc24b8b70, 0xc76c51a3, 0xd192e819, 0xd6990624, 0xf40e3585, 0x106aa070,
  0x19a4c116, 0x1e376c08, 0x2748774c, 0x34b0bcb5, 0x391c0cb3, 0x4ed8aa4a, 0x5b9cca4f, 0x682e6ff3,
  0x748f82ee, 0x78a5636f, 0x84c87814, 0x8cc70208, 0x90befffa, 0xa4506ceb, 0xbef9a3f7, 0xc67178f2]
def K (n : Nat) : BitVec 32 := BitVec.ofNat 32 (KL.getD n 0)
def first : H8 := ⟨0x6a09e667, 0xbb67ae85, 0x3c6ef372, 0xa54ff53a, 0x510e527f, 0x9b05688c, 0x1f83d9ab, 0x5be0cd19⟩
/-- The words of a block of bytes that begins at 'at'. -/
def wordAt (p : List Int) (i : Nat) : BitVec 32 := word (p.getD (4 * i) 0) (p.getD (4 * i + 1) 0) (p.getD (4 * i + 2) 0) (p.getD (4 * i + 3) 0)
def block (h : H8) (p : List Int) : H8 := plus (steps K (W (wordAt p)) h 64) h
/-- The bytes of block number j. -/
def chunk (p : List Int) (j : Nat) : List Int := (p.drop (64 * j)).take 64
def digest8 (p : List Int) : H8 := (List.range (p.length / 64)).foldl (fun h j => block h (chunk p j)) first
def bytes4 (x : BitVec 32) : List Int := [U x / 16777216 % 256, U x / 65536 % 256, U x / 256 % 256, U x % 256]
def outUpTo (h : H8) (n : Nat) : List Int := (List.range n).flatMap fun i => bytes4 (h.get i)
/-- What may be turned: whole blocks of bytes. -/
def WholeB (p : List Int) : Prop := p.length % 64 = 0 ∧ 0 < p.length ∧ p.length < 140737488355328 ∧ ∀ x ∈ p, 0 ≤ x ∧ x ≤ 255
instance (p : List Int) : Decidable (WholeB p) := by unfold WholeB; infer_instance
theorem chunk_getD (p : List Int) (j i : Nat) (hi : i < 64) : (chunk p j).getD i 0 = p.getD (64 * j + i) 0 := by
  unfold chunk
  simp [List.getD_eq_getElem?_getD, List.getElem?_take, hi, List.getElem?_drop]
theorem getD_byte (p : List Int) (h : ∀ x ∈ p, 0 ≤ x ∧ x ≤ 255) (i : Nat) : 0 ≤ p.getD i 0 ∧ p.getD i 0 ≤ 255 := by
  rw [List.getD_eq_getElem?_getD]
  rcases hx : p[i]? with _ | x
  · simp
  · exact h x (List.mem_of_getElem? hx)
theorem chunk_byte (p : List Int) (h : ∀ x ∈ p, 0 ≤ x ∧ x ≤ 255) (j i : Nat) : 0 ≤ (chunk p j).getD i 0 ∧ (chunk p j).getD i 0 ≤ 255 :=
  getD_byte _ (fun x hx => h x (List.mem_of_mem_drop (List.mem_of_mem_take hx))) i
end Go.Proofs.Ytlekeiokdmnboaa.Sha
