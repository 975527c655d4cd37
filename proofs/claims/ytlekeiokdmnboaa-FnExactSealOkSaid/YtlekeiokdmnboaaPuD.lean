/- What the two programs' digests compute: SHA-256 of the same padded bytes; plain Lean over the printed functions. -/
import Derived.Test.YtlekeiokdmnboaaPa2
import Derived.Test.YtlekeiokdmnboaaPa5
import Derived.Test.YtlekeiokdmnboaaPa4
import Derived.Test.YtlekeiokdmnboaaPa3
import Derived.Test.YtlekeiokdmnboaaPa6
import Derived.Test.YtlekeiokdmnboaaDigest
import Derived.Test.YtlekeiokdmnboaaCloneBytes
import Derived.Test.YtlekeiokdmnboaaSha
import Derived.Laws.BitsLemmas
namespace Go.Proofs.Ytlekeiokdmnboaa.Pu
open Go Go.RowKit Go.Proofs.YtlekeiokdmnboaaW.PrintWords Go.Proofs.YtlekeiokdmnboaaW.PrintLast Go.Proofs.YtlekeiokdmnboaaW.PrintMore Go.Proofs.Ytlekeiokdmnboaa.Pa Go.Proofs.Ytlekeiokdmnboaa.Sha
set_option linter.unusedVariables false

/-! ### The padding -/
def tail8 (v : Int) : Nat → List Int
  | 0 => []
  | j + 1 => (shr .i64 v (8 * (j : Int))) % 256 :: tail8 v j
theorem tail8_len (v : Int) (j : Nat) : (tail8 v j).length = j := by
  induction j with
  | zero => rfl
  | succ j ih => simp [tail8, ih]
theorem tail8_byte (v : Int) (j : Nat) : ∀ x ∈ tail8 v j, 0 ≤ x ∧ x ≤ 255 := by
  induction j with
  | zero => intro x hx; simp [tail8] at hx
  | succ j ih =>
    intro x hx
    rcases List.mem_cons.1 hx with rfl | hx
    · omega
    · exact ih x hx
theorem w64 (n : Int) (h : -9223372036854775808 ≤ n ∧ n ≤ 9223372036854775807) : wrap64 n = n := by unfold wrap64; omega
theorem u64_small (n : Int) (h0 : 0 ≤ n) (h1 : n < 18446744073709551616) : IntKind.u64.wrap n = n := by rw [IntKind.wrap_u64]; omega
theorem spec_tail (v : Int) (j : Nat) (hj : j ≤ 8) (l : List Int) (hl : l.length + j < 140737488355328) : Ev (fun k => spec_Padded.l1 k l v (8 * (j : Int) - 8)) (l ++ tail8 v j) := by
  induction j generalizing l with
  | zero =>
    refine Ev.step (fun k => ?_) (Ev.now _)
    show (if (8 * ((0 : Nat) : Int) - 8) ≥ 0 then _ else _) = _
    rw [if_neg (by omega)]; simp [tail8]
  | succ j ih =>
    have e := ih (by omega) (l ++ [(shr .i64 v (8 * (j : Int))) % 256]) (by simp only [List.length_append, List.length_singleton]; omega)
    rw [List.append_assoc, List.singleton_append] at e
    refine Ev.step (fun k => ?_) e
    show (if (8 * ((j + 1 : Nat) : Int) - 8) ≥ 0 then _ else _) = _
    have a1 : (8 * ((j + 1 : Nat) : Int) - 8) = 8 * (j : Int) := by omega
    rw [a1, if_pos (by omega), u64_small _ (by omega) (by omega), if_pos (by omega), if_pos (by omega), w64 _ (by omega)]
theorem impl_tail (v : Int) (j : Nat) (hj : j ≤ 8) (l : List Int) (hl : l.length + j < 140737488355328) : Ev (fun k => impl_Padded.l1 k l v ((j : Int) - 1)) (l ++ tail8 v j) := by
  induction j generalizing l with
  | zero =>
    refine Ev.step (fun k => ?_) (Ev.now _)
    show (if (((0 : Nat) : Int) - 1) ≥ 0 then _ else _) = _
    rw [if_neg (by omega)]; simp [tail8]
  | succ j ih =>
    have e := ih (by omega) (l ++ [(shr .i64 v (8 * (j : Int))) % 256]) (by simp only [List.length_append, List.length_singleton]; omega)
    rw [List.append_assoc, List.singleton_append] at e
    refine Ev.step (fun k => ?_) e
    show (if (((j + 1 : Nat) : Int) - 1) ≥ 0 then _ else _) = _
    have a1 : (((j + 1 : Nat) : Int) - 1) = (j : Int) := by omega
    rw [a1, if_pos (by omega), w64 _ (by omega), u64_small _ (by omega) (by omega), if_pos (by omega), if_pos (by omega), w64 _ (by omega)]
def pad (l : List Int) : List Int := (l ++ [128]) ++ (List.replicate ((119 - l.length % 64) % 64) 0 ++ tail8 ((l.length : Int) * 8) 8)
theorem spec_zeros (l0 : List Int) (h0 : l0.length < 140737488000000) (z : Nat) (l : List Int) (hz : z < 64) (hm : (l.length + z) % 64 = 56) (hl : l.length + z + 8 < 140737488355328) :
    Ev (fun k => spec_Padded.l0 k l0 l) (l ++ (List.replicate z 0 ++ tail8 ((l0.length : Int) * 8) 8)) := by
  induction z generalizing l with
  | zero =>
    refine Ev.step (fun k => ?_) (spec_tail _ 8 (by omega) l (by omega))
    show (if ((l.length : Int) % 64) = 56 then _ else _) = _
    rw [if_pos (by omega), w64 _ (by omega)]
    rfl
  | succ z ih =>
    have e := ih (l ++ [0]) (by omega) (by simp only [List.length_append, List.length_singleton]; omega) (by simp only [List.length_append, List.length_singleton]; omega)
    rw [List.append_assoc, List.singleton_append] at e
    refine Ev.step (fun k => ?_) e
    show (if ((l.length : Int) % 64) = 56 then _ else _) = _
    rw [if_neg (by omega), if_pos (by omega)]
theorem impl_zeros (l0 : List Int) (h0 : l0.length < 140737488000000) (z : Nat) (l : List Int) (hz : z < 64) (hm : (l.length + z) % 64 = 56) (hl : l.length + z + 8 < 140737488355328) :
    Ev (fun k => impl_Padded.l0 k l0 l) (l ++ (List.replicate z 0 ++ tail8 ((l0.length : Int) * 8) 8)) := by
  have tm : Int.tmod (wrap64 ((l.length : Int) + 8)) 64 = ((l.length : Int) + 8) % 64 := by
    rw [w64 _ (by omega), Int.tmod_eq_emod_of_nonneg (by omega)]
  induction z generalizing l with
  | zero =>
    refine Ev.step (fun k => ?_) (impl_tail _ 8 (by omega) l (by omega))
    show (if (Int.tmod (wrap64 ((l.length : Int) + 8)) 64) = 0 then _ else _) = _
    rw [tm, if_pos (by omega), w64 _ (by omega), Int.mul_comm]
    rfl
  | succ z ih =>
    have tm2 : Int.tmod (wrap64 (((l ++ [0]).length : Int) + 8)) 64 = (((l ++ [0]).length : Int) + 8) % 64 := by
      rw [w64 _ (by simp only [List.length_append, List.length_singleton]; omega), Int.tmod_eq_emod_of_nonneg (by omega)]
    have e := ih (l ++ [0]) (by omega) (by simp only [List.length_append, List.length_singleton]; omega) (by simp only [List.length_append, List.length_singleton]; omega) tm2
    rw [List.append_assoc, List.singleton_append] at e
    refine Ev.step (fun k => ?_) e
    show (if (Int.tmod (wrap64 ((l.length : Int) + 8)) 64) = 0 then _ else _) = _
    rw [tm, if_neg (by omega), if_pos (by omega)]
theorem padded_spec (l : List Int) (hl : l.length < 140737488000000) : Ev (fun k => spec_Padded.f k l) (pad l) := by
  refine Ev.congr (f := fun k => spec_Padded.l0 k l (l ++ [128])) (fun k => ?_) (spec_zeros l hl _ _ (by omega) (by simp only [List.length_append, List.length_singleton]; omega) (by simp only [List.length_append, List.length_singleton]; omega))
  show ((some ([] : List Int)).bind _) = _
  simp only [Option.bind_some, List.nil_append, List.length_nil, Nat.zero_add]
  rw [if_pos (by omega), if_pos (by omega)]
theorem padded_impl (l : List Int) (hl : l.length < 140737488000000) : Ev (fun k => impl_Padded.f k l) (pad l) := by
  refine Ev.congr (f := fun k => impl_Padded.l0 k l (l ++ [128])) (fun k => ?_) (impl_zeros l hl _ _ (by omega) (by simp only [List.length_append, List.length_singleton]; omega) (by simp only [List.length_append, List.length_singleton]; omega))
  show ((slices_Clone_byte_byte.f l).bind _) = _
  rw [show slices_Clone_byte_byte.f l = some l from if_pos (by omega)]
  simp only [Option.bind_some]
  rw [if_pos (by omega)]
theorem pad_len (l : List Int) : (pad l).length = l.length + 1 + (119 - l.length % 64) % 64 + 8 := by
  unfold pad
  simp only [List.length_append, List.length_singleton, List.length_replicate, tail8_len]
  omega
theorem pad_whole (l : List Int) (hl : l.length < 140737488000000) (hb : ∀ x ∈ l, 0 ≤ x ∧ x ≤ 255) : WholeB (pad l) := by
  refine ⟨by rw [pad_len]; omega, by rw [pad_len]; omega, by rw [pad_len]; omega, fun x hx => ?_⟩
  unfold pad at hx
  rcases List.mem_append.1 hx with hx | hx
  · rcases List.mem_append.1 hx with hx | hx
    · exact hb x hx
    · simp at hx; omega
  · rcases List.mem_append.1 hx with hx | hx
    · have := List.eq_of_mem_replicate hx; omega
    · exact tail8_byte _ _ x hx

/-! ### The reference's words -/
theorem or_plus (a b : Nat) (i : Nat) (hb : b < 2 ^ i) (ha : a % 2 ^ i = 0) : a ||| b = a + b := by
  have hq : a = 2 ^ i * (a / 2 ^ i) := by have := Nat.div_add_mod a (2 ^ i); omega
  rw [hq, ← Nat.two_pow_add_eq_or_of_lt hb]
theorem word64 (x0 x1 x2 x3 : Int) (h0 : 0 ≤ x0 ∧ x0 ≤ 255) (h1 : 0 ≤ x1 ∧ x1 ≤ 255) (h2 : 0 ≤ x2 ∧ x2 ≤ 255) (h3 : 0 ≤ x3 ∧ x3 ≤ 255) :
    Go.bits .or .i64 (Go.bits .or .i64 (Go.bits .or .i64 (wrap64 ((wrap64 x0) * 16777216)) (wrap64 ((wrap64 x1) * 65536))) (wrap64 ((wrap64 x2) * 256))) (wrap64 x3) = U (word x0 x1 x2 x3) := by
  obtain ⟨a, rfl⟩ := Int.eq_ofNat_of_zero_le h0.1
  obtain ⟨b, rfl⟩ := Int.eq_ofNat_of_zero_le h1.1
  obtain ⟨c, rfl⟩ := Int.eq_ofNat_of_zero_le h2.1
  obtain ⟨d, rfl⟩ := Int.eq_ofNat_of_zero_le h3.1
  have e0 : wrap64 ((wrap64 (a : Int)) * 16777216) = ((a * 16777216 : Nat) : Int) := by unfold wrap64; omega
  have e1 : wrap64 ((wrap64 (b : Int)) * 65536) = ((b * 65536 : Nat) : Int) := by unfold wrap64; omega
  have e2 : wrap64 ((wrap64 (c : Int)) * 256) = ((c * 256 : Nat) : Int) := by unfold wrap64; omega
  have e3 : wrap64 (d : Int) = ((d : Nat) : Int) := by unfold wrap64; omega
  have hk : ∀ n : Int, 0 ≤ n → n < 2 ^ 32 → IntKind.i64.wrap n = n := fun n x y => by rw [IntKind.wrap_i64]; omega
  rw [e0, e1, e2, e3, (bits_nat .i64 32 (by decide) hk _ _ (by omega) (by omega)).2, or_plus _ _ 24 (by omega) (by omega),
    (bits_nat .i64 32 (by decide) hk _ _ (by omega) (by omega)).2, or_plus _ _ 16 (by omega) (by omega),
    (bits_nat .i64 32 (by decide) hk _ _ (by omega) (by omega)).2, or_plus _ _ 8 (by omega) (by omega)]
  unfold U word
  have : ((a : Int) * 16777216 + (b : Int) * 65536 + (c : Int) * 256 + (d : Int)) = ((a * 16777216 + b * 65536 + c * 256 + d : Nat) : Int) := by omega
  rw [this, BitVec.ofInt_natCast, BitVec.toNat_ofNat]
  omega
theorem turn_spec (x : BitVec 32) (n : Nat) (h2 : 2 ≤ n) (h32 : n < 32) : spec_l2Turn.f (U x) (n : Int) = some (U (x.rotateRight n)) := by
  have hx := U_lt x
  have hx0 := U_nonneg x
  unfold spec_l2Turn.f
  rw [u64_small _ (by omega) (by omega), w64 (32 - (n : Int)) (by omega), u64_small (32 - (n : Int)) (by omega) (by omega), if_pos (by omega), if_pos (by omega)]
  have a1 : shr .i64 (U x) (n : Int) = U x / 2 ^ n := by
    show U x / 2 ^ min (n : Int).toNat 64 = _
    rw [show min (n : Int).toNat 64 = n by omega]
  have a2 : shl .i64 (U x) (32 - (n : Int)) = U x * 2 ^ (32 - n) := by
    show IntKind.i64.wrap (U x * 2 ^ min (32 - (n : Int)).toNat 64) = _
    rw [show min (32 - (n : Int)).toNat 64 = 32 - n by omega]
    have hp : (2 : Int) ^ (32 - n) ≤ 2 ^ 30 := by
      have := Nat.pow_le_pow_right (n := 2) (by decide) (show 32 - n ≤ 30 by omega)
      exact_mod_cast this
    have hp0 : (0 : Int) < 2 ^ (32 - n) := Int.pow_pos (by decide)
    have hle : U x * 2 ^ (32 - n) ≤ 4294967296 * 1073741824 := Int.mul_le_mul (by omega) (by simpa using hp) (by omega) (by omega)
    have hge : 0 ≤ U x * 2 ^ (32 - n) := Int.mul_nonneg hx0 (by omega)
    rw [IntKind.wrap_i64]; omega
  rw [a1, a2, turn64 x n h2 h32]
def wl (m : Nat → BitVec 32) (i : Nat) : List Int := (List.range i).map fun j => U (W m j)
theorem wl_len (m : Nat → BitVec 32) (i : Nat) : (wl m i).length = i := by simp [wl]
theorem wl_succ (m : Nat → BitVec 32) (i : Nat) : wl m (i + 1) = wl m i ++ [U (W m i)] := by simp [wl, List.range_succ]
theorem wl_at (m : Nat → BitVec 32) (i j : Nat) (h : j < i) : rd (wl m i) (j : Int) = U (W m j) := by simp [rd, wl, List.getD_eq_getElem?_getD, List.getElem?_map, List.getElem?_range h]
theorem words_lo (c : List Int) (hc : c.length = 64) (hb : ∀ i, 0 ≤ c.getD i 0 ∧ c.getD i 0 ≤ 255) (r : List Int) (h16 : Ev (fun k => spec_l2Words.l1 k (wl (wordAt c) 16) 16) r) (j i : Nat) (hj : 16 - i = j) (hi : i ≤ 16) :
    Ev (fun k => spec_l2Words.l0 k c (wl (wordAt c) i) (i : Int)) r := by
  induction j generalizing i with
  | zero =>
    obtain rfl : i = 16 := by omega
    refine Ev.step (fun k => ?_) h16
    show (if ((16 : Nat) : Int) < 16 then _ else _) = _
    rw [if_neg (by omega)]
  | succ j ih =>
    have e := ih (i + 1) (by omega) (by omega)
    refine Ev.step (fun k => ?_) e
    show (if (i : Int) < 16 then _ else _) = _
    rw [w64 (4 * (i : Int)) (by omega), w64 (4 * (i : Int) + 1) (by omega), w64 (4 * (i : Int) + 2) (by omega), w64 (4 * (i : Int) + 3) (by omega), w64 ((i : Int) + 1) (by omega), hc, wl_len]
    rw [if_pos (by omega), if_pos (by omega), if_pos (by omega), if_pos (by omega), if_pos (by omega), if_pos (by omega), if_pos (by omega), if_pos (by omega), if_pos (by omega), if_pos (by omega)]
    have g : ∀ (q : Nat) (z : Int), z = 4 * (i : Int) + q → rd c z = c.getD (4 * i + q) 0 := fun q z hz => by
      show c.getD z.toNat 0 = _
      congr 1
      omega
    rw [show rd c (4 * (i : Int)) = c.getD (4 * i) 0 from g 0 _ (by omega), show rd c (4 * (i : Int) + 1) = c.getD (4 * i + 1) 0 from g 1 _ (by omega), show rd c (4 * (i : Int) + 2) = c.getD (4 * i + 2) 0 from g 2 _ (by omega), show rd c (4 * (i : Int) + 3) = c.getD (4 * i + 3) 0 from g 3 _ (by omega),
      word64 _ _ _ _ (hb _) (hb _) (hb _) (hb _), wl_succ, W_low _ _ (by omega)]
    rfl
theorem sum4_in (a b c d : BitVec 32) : 0 ≤ U a + U b + U c + U d ∧ U a + U b + U c + U d < 4611686018427387904 := by
  have := U_lt a; have := U_lt b; have := U_lt c; have := U_lt d; have := U_nonneg a; have := U_nonneg b; have := U_nonneg c; have := U_nonneg d
  omega
theorem sum4 (a b c d : BitVec 32) : wrap64 (wrap64 (wrap64 (U a + U b) + U c) + U d) = U a + U b + U c + U d := by
  have := U_lt a; have := U_lt b; have := U_lt c; have := U_lt d; have := U_nonneg a; have := U_nonneg b; have := U_nonneg c; have := U_nonneg d
  unfold wrap64
  omega
theorem words_hi (m : Nat → BitVec 32) (j i : Nat) (hj : 64 - i = j) (h16 : 16 ≤ i) (hi : i ≤ 64) : Ev (fun k => spec_l2Words.l1 k (wl m i) (i : Int)) (wl m 64) := by
  induction j generalizing i with
  | zero =>
    obtain rfl : i = 64 := by omega
    refine Ev.step (fun k => ?_) (Ev.now _)
    show (if ((64 : Nat) : Int) < 64 then _ else _) = _
    rw [if_neg (by omega)]
  | succ j ih =>
    have e := ih (i + 1) (by omega) (by omega) (by omega)
    refine Ev.step (fun k => ?_) e
    show (if (i : Int) < 64 then _ else _) = _
    have b15 : wrap64 ((i : Int) - 15) = ((i - 15 : Nat) : Int) := by rw [w64 _ (by omega)]; omega
    have b2 : wrap64 ((i : Int) - 2) = ((i - 2 : Nat) : Int) := by rw [w64 _ (by omega)]; omega
    have b16 : wrap64 ((i : Int) - 16) = ((i - 16 : Nat) : Int) := by rw [w64 _ (by omega)]; omega
    have b7 : wrap64 ((i : Int) - 7) = ((i - 7 : Nat) : Int) := by rw [w64 _ (by omega)]; omega
    have t := fun x n h2 h32 => turn_spec x n h2 h32
    have t7 := t (W m (i - 15)) 7 (by omega) (by omega)
    have t18 := t (W m (i - 15)) 18 (by omega) (by omega)
    have t17 := t (W m (i - 2)) 17 (by omega) (by omega)
    have t19 := t (W m (i - 2)) 19 (by omega) (by omega)
    rw [b15, b2, b16, b7, wl_at _ _ _ (by omega), wl_at _ _ _ (by omega), wl_at _ _ _ (by omega), wl_at _ _ _ (by omega), wl_len, w64 ((i : Int) + 1) (by omega)]
    rw [if_pos (by omega), if_pos (by omega), if_pos (by omega), if_pos (by omega), if_pos (by omega)]
    rw [show spec_l2Turn.f (U (W m (i - 15))) 7 = _ from t7, show spec_l2Turn.f (U (W m (i - 15))) 18 = _ from t18, show spec_l2Turn.f (U (W m (i - 2))) 17 = _ from t17, show spec_l2Turn.f (U (W m (i - 2))) 19 = _ from t19]
    simp only [Option.bind_some]
    rw [if_pos (by omega), if_pos (by omega), if_pos (by omega), if_pos (by omega), if_pos (by omega)]
    have s3 := shr_U (W m (i - 15)) 3
    have s10 := shr_U (W m (i - 2)) 10
    rw [show (2 : Int) ^ 3 = 8 by decide] at s3
    rw [show (2 : Int) ^ 10 = 1024 by decide] at s10
    rw [s3, s10, xor64, xor64, xor64, xor64]
    have z0 : U ((W m (i - 15)).rotateRight 7 ^^^ (W m (i - 15)).rotateRight 18 ^^^ W m (i - 15) >>> 3) = U (sg0 (W m (i - 15))) := rfl
    have z1 : U ((W m (i - 2)).rotateRight 17 ^^^ (W m (i - 2)).rotateRight 19 ^^^ W m (i - 2) >>> 10) = U (sg1 (W m (i - 2))) := rfl
    rw [z0, z1]
    rw [sum4, mask64 _ (sum4_in _ _ _ _).1 (sum4_in _ _ _ _).2, U_add4, ← W_high m i (by omega), ← wl_succ]
    rfl
theorem words_spec (c : List Int) (hc : c.length = 64) (hb : ∀ i, 0 ≤ c.getD i 0 ∧ c.getD i 0 ≤ 255) : Ev (fun k => spec_l2Words.f k c) (wl (wordAt c) 64) :=
  words_lo c hc hb _ (words_hi _ 48 16 rfl (by omega) (by omega)) 16 0 rfl (by omega)
end Go.Proofs.Ytlekeiokdmnboaa.Pu
