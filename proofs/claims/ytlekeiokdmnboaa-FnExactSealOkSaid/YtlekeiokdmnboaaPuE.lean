/- What the two programs' digests compute, continued: the rounds, the blocks, the digest. -/
import Derived.Test.YtlekeiokdmnboaaPuD
import Derived.Test.YtlekeiokdmnboaaPa2
import Derived.Test.YtlekeiokdmnboaaPa5
import Derived.Test.YtlekeiokdmnboaaPa4
import Derived.Test.YtlekeiokdmnboaaPa3
import Derived.Test.YtlekeiokdmnboaaPa6
import Derived.Test.YtlekeiokdmnboaaDigest
namespace Go.Proofs.Ytlekeiokdmnboaa.Pu
open Go Go.RowKit Go.Proofs.YtlekeiokdmnboaaW.PrintWords Go.Proofs.YtlekeiokdmnboaaW.PrintLast Go.Proofs.YtlekeiokdmnboaaW.PrintMore Go.Proofs.Ytlekeiokdmnboaa.Pa Go.Proofs.Ytlekeiokdmnboaa.Sha
set_option linter.unusedVariables false

def h8 (v : H8) : List Int := [U v.a, U v.b, U v.c, U v.d, U v.e, U v.f, U v.g, U v.h]
def kl : List Int := KL.map fun (n : Nat) => (n : Int)
theorem kl_at (n : Nat) (h : n < 64) : rd kl (n : Int) = U (K n) := by
  have key : ∀ n, n < 64 → kl.getD n 0 = U (K n) := by decide +kernel
  exact key n h
theorem kl_is : spec_l2K.f = some kl := by unfold spec_l2K.f; exact congrArg some (by decide +kernel)
theorem kl_len : kl.length = 64 := by decide +kernel
theorem sum5 (a b c d e : BitVec 32) : wrap64 (wrap64 (wrap64 (wrap64 (U a + U b) + U c) + U d) + U e) = U a + U b + U c + U d + U e := by
  have := U_lt a; have := U_lt b; have := U_lt c; have := U_lt d; have := U_lt e; have := U_nonneg a; have := U_nonneg b; have := U_nonneg c; have := U_nonneg d; have := U_nonneg e
  unfold wrap64
  omega
theorem sum2 (a b : BitVec 32) : wrap64 (U a + U b) = U a + U b := by
  have := U_lt a; have := U_lt b; have := U_nonneg a; have := U_nonneg b
  unfold wrap64
  omega
theorem sum7 (a b c d e f g : BitVec 32) : Go.bits .and .i64 (wrap64 ((U a + U b + U c + U d + U e) + (U f + U g))) 4294967295 = U (a + b + c + d + e + f + g) := by
  have := U_lt a; have := U_lt b; have := U_lt c; have := U_lt d; have := U_lt e; have := U_nonneg a; have := U_nonneg b; have := U_nonneg c; have := U_nonneg d; have := U_nonneg e
  have := U_lt f; have := U_lt g; have := U_nonneg f; have := U_nonneg g
  rw [w64 _ (by omega), mask64 _ (by omega) (by omega), ← U_add7]
  congr 1
  omega
theorem sum15 (x a b c d e : BitVec 32) : Go.bits .and .i64 (wrap64 (U x + (U a + U b + U c + U d + U e))) 4294967295 = U (x + (a + b + c + d + e)) := by
  have := U_lt a; have := U_lt b; have := U_lt c; have := U_lt d; have := U_lt e; have := U_nonneg a; have := U_nonneg b; have := U_nonneg c; have := U_nonneg d; have := U_nonneg e
  have := U_lt x; have := U_nonneg x
  rw [w64 _ (by omega), mask64 _ (by omega) (by omega), ← U_add1_5]
theorem rounds_spec (x0 : List Int) (m : Nat → BitVec 32) (v : H8) (r : List Int) (hE : Ev (fun k => spec_l2Block.l1 k x0 (h8 (steps K (W m) v 64)) 0) r) (j i : Nat) (hj : 64 - i = j) (hi : i ≤ 64) :
    Ev (fun k => spec_l2Block.l0 k x0 kl (wl m 64) (h8 (steps K (W m) v i)) (i : Int)) r := by
  induction j generalizing i with
  | zero =>
    obtain rfl : i = 64 := by omega
    refine Ev.step (fun k => ?_) hE
    show (if ((64 : Nat) : Int) < 64 then _ else _) = _
    rw [if_neg (by omega)]
  | succ j ih =>
    have e := ih (i + 1) (by omega) (by omega)
    refine Ev.step (fun k => ?_) e
    generalize hs : steps K (W m) v i = s
    have hs1 : steps K (W m) v (i + 1) = Sha.step (K i) (W m i) s := by rw [steps, hs]
    rw [hs1]
    have q : (h8 s).length = 8 := rfl
    show (if (i : Int) < 64 then _ else _) = _
    rw [if_pos (by omega), q, kl_len, wl_len, kl_at i (by omega), wl_at m 64 i (by omega), w64 ((i : Int) + 1) (by omega)]
    rw [show rd (h8 s) 0 = U s.a from rfl, show rd (h8 s) 1 = U s.b from rfl, show rd (h8 s) 2 = U s.c from rfl, show rd (h8 s) 3 = U s.d from rfl, show rd (h8 s) 4 = U s.e from rfl, show rd (h8 s) 5 = U s.f from rfl, show rd (h8 s) 6 = U s.g from rfl, show rd (h8 s) 7 = U s.h from rfl]
    rw [show spec_l2Turn.f (U s.e) 6 = _ from turn_spec s.e 6 (by omega) (by omega), show spec_l2Turn.f (U s.e) 11 = _ from turn_spec s.e 11 (by omega) (by omega), show spec_l2Turn.f (U s.e) 25 = _ from turn_spec s.e 25 (by omega) (by omega),
      show spec_l2Turn.f (U s.a) 2 = _ from turn_spec s.a 2 (by omega) (by omega), show spec_l2Turn.f (U s.a) 13 = _ from turn_spec s.a 13 (by omega) (by omega), show spec_l2Turn.f (U s.a) 22 = _ from turn_spec s.a 22 (by omega) (by omega)]
    simp only [Option.bind_some]
    rw [xor64, xor64, and64, not64, and64, xor64, xor64, xor64, and64, and64, and64, xor64, xor64,
      show U (s.e.rotateRight 6 ^^^ s.e.rotateRight 11 ^^^ s.e.rotateRight 25) = U (bs1 s.e) from rfl, show U (s.e &&& s.f ^^^ ~~~s.e &&& s.g) = U (ch s.e s.f s.g) from rfl,
      show U (s.a.rotateRight 2 ^^^ s.a.rotateRight 13 ^^^ s.a.rotateRight 22) = U (bs0 s.a) from rfl, show U (s.a &&& s.b ^^^ s.a &&& s.c ^^^ s.b &&& s.c) = U (maj s.a s.b s.c) from rfl,
      sum5, sum2, sum7, sum15]
    rw [if_pos (by omega), if_pos (by omega), if_pos (by omega), if_pos (by omega), if_pos (by omega), if_pos (by omega), if_pos (by omega), if_pos (by omega), if_pos (by omega), if_pos (by omega), if_pos (by omega)]
    rfl
theorem plus_one (a b : BitVec 32) : Go.bits .and .i64 (wrap64 (U a + U b)) 4294967295 = U (a + b) := by
  have := U_lt a; have := U_lt b; have := U_nonneg a; have := U_nonneg b
  rw [w64 _ (by omega), mask64 _ (by omega) (by omega), U_add]
theorem plus_step (k : Nat) (x0 x8 : List Int) (i : Nat) (hi : i < 8) (h0 : x0.length = 8) (h8 : x8.length = 8) : spec_l2Block.l1 (k + 1) x0 x8 (i : Int) = spec_l2Block.l1 k x0 (x8.set i (Go.bits .and .i64 (wrap64 (rd x8 (i : Int) + rd x0 (i : Int))) 4294967295)) ((i + 1 : Nat) : Int) := by
  show (if (i : Int) < 8 then _ else _) = _
  rw [if_pos (by omega), if_pos (by omega), if_pos (by omega), if_pos (by omega), w64 ((i : Int) + 1) (by omega)]
  rfl
theorem plus_spec (v h : H8) : Ev (fun k => spec_l2Block.l1 k (h8 h) (h8 v) 0) (h8 (plus v h)) := by
  refine Ev.step (fun k => plus_step k _ _ 0 (by omega) rfl rfl) ?_
  refine Ev.step (fun k => plus_step k _ _ 1 (by omega) rfl rfl) ?_
  refine Ev.step (fun k => plus_step k _ _ 2 (by omega) rfl rfl) ?_
  refine Ev.step (fun k => plus_step k _ _ 3 (by omega) rfl rfl) ?_
  refine Ev.step (fun k => plus_step k _ _ 4 (by omega) rfl rfl) ?_
  refine Ev.step (fun k => plus_step k _ _ 5 (by omega) rfl rfl) ?_
  refine Ev.step (fun k => plus_step k _ _ 6 (by omega) rfl rfl) ?_
  refine Ev.step (fun k => plus_step k _ _ 7 (by omega) rfl rfl) ?_
  refine Ev.step (f := fun _ => some (h8 (plus v h))) (fun k => ?_) (Ev.now _)
  show (if ((8 : Nat) : Int) < 8 then _ else _) = _
  rw [if_neg (by omega)]
  show some [Go.bits .and .i64 (wrap64 (U v.a + U h.a)) 4294967295, Go.bits .and .i64 (wrap64 (U v.b + U h.b)) 4294967295, Go.bits .and .i64 (wrap64 (U v.c + U h.c)) 4294967295, Go.bits .and .i64 (wrap64 (U v.d + U h.d)) 4294967295,
    Go.bits .and .i64 (wrap64 (U v.e + U h.e)) 4294967295, Go.bits .and .i64 (wrap64 (U v.f + U h.f)) 4294967295, Go.bits .and .i64 (wrap64 (U v.g + U h.g)) 4294967295, Go.bits .and .i64 (wrap64 (U v.h + U h.h)) 4294967295] = _
  rw [plus_one, plus_one, plus_one, plus_one, plus_one, plus_one, plus_one, plus_one]
  simp only [plus, h8, BitVec.add_comm]
theorem block_spec (h : H8) (c : List Int) (hc : c.length = 64) (hb : ∀ i, 0 ≤ c.getD i 0 ∧ c.getD i 0 ≤ 255) : Ev (fun k => spec_l2Block.f k (h8 h) c kl) (h8 (block h c)) := by
  refine Ev.bind (words_spec c hc hb) ?_
  refine Ev.congr (f := fun k => spec_l2Block.l0 k (h8 h) kl (wl (wordAt c) 64) (h8 h) 0) (fun k => ?_) (rounds_spec (h8 h) (wordAt c) h _ (plus_spec _ h) 64 0 rfl (by omega))
  show ((some ([] : List Int)).bind _) = _
  simp only [Option.bind_some, List.nil_append, List.length_nil]
  rw [if_pos (by show 0 + 8 < _; omega)]
theorem out_step (k : Nat) (v : H8) (n : Nat) (hn : n < 8) : spec_Digest.l1 (k + 1) (h8 v) (outUpTo v n) (n : Int) = spec_Digest.l1 k (h8 v) (outUpTo v (n + 1)) ((n + 1 : Nat) : Int) := by
  have hl : ∀ m, (outUpTo v m).length = 4 * m := by
    intro m
    induction m with
    | zero => rfl
    | succ m ih => unfold outUpTo at ih ⊢; rw [List.range_succ, List.flatMap_append, List.length_append, ih]; simp [bytes4]; omega
  have hs : outUpTo v (n + 1) = outUpTo v n ++ bytes4 (v.get n) := by unfold outUpTo; rw [List.range_succ, List.flatMap_append]; simp
  have hg : ∀ m : Nat, m < 8 → rd (h8 v) (m : Int) = U (v.get m) := by
    intro m hm
    rcases m with _ | _ | _ | _ | _ | _ | _ | _ | m
    all_goals first | rfl | omega
  show (if (n : Int) < 8 then _ else _) = _
  rw [if_pos (by omega), if_pos (by omega), if_pos (by show (n : Int) < ((8 : Nat) : Int); omega), w64 ((n : Int) + 1) (by omega), hg n hn]
  simp only [Option.bind_some]
  rw [if_pos (by rw [hl]; simp; omega), hs]
  rfl
theorem out_spec (v : H8) : Ev (fun k => spec_Digest.l1 k (h8 v) [] 0) (strOfNums (outUpTo v 8)) := by
  refine Ev.step (fun k => out_step k v 0 (by omega)) ?_
  refine Ev.step (fun k => out_step k v 1 (by omega)) ?_
  refine Ev.step (fun k => out_step k v 2 (by omega)) ?_
  refine Ev.step (fun k => out_step k v 3 (by omega)) ?_
  refine Ev.step (fun k => out_step k v 4 (by omega)) ?_
  refine Ev.step (fun k => out_step k v 5 (by omega)) ?_
  refine Ev.step (fun k => out_step k v 6 (by omega)) ?_
  refine Ev.step (fun k => out_step k v 7 (by omega)) ?_
  refine Ev.step (fun k => ?_) (Ev.now _)
  show (if ((8 : Nat) : Int) < 8 then _ else _) = _
  rw [if_neg (by omega)]
theorem blocks_spec (p : List Int) (hp : WholeB p) (j i : Nat) (hj : p.length / 64 - i = j) (hi : i ≤ p.length / 64) :
    Ev (fun k => spec_Digest.l0 k p (h8 ((List.range i).foldl (fun h j => block h (chunk p j)) first)) kl ((64 * i : Nat) : Int)) (strOfNums (outUpTo (digest8 p) 8)) := by
  obtain ⟨hm, h0, hlt, hbyte⟩ := hp
  induction j generalizing i with
  | zero =>
    obtain rfl : i = p.length / 64 := by omega
    refine Ev.step (fun k => ?_) (out_spec _)
    show (if ((64 * (p.length / 64) : Nat) : Int) < (p.length : Int) then _ else _) = _
    rw [if_neg (by omega)]
    rfl
  | succ j ih =>
    have e := ih (i + 1) (by omega) (by omega)
    rw [List.range_succ, List.foldl_append] at e
    have hcl : (chunk p i).length = 64 := by unfold chunk; rw [List.length_take, List.length_drop]; omega
    refine Ev.step (f := fun k => (spec_l2Block.f k (h8 ((List.range i).foldl (fun h j => block h (chunk p j)) first)) (chunk p i) kl).bind fun t => spec_Digest.l0 k p t kl ((64 * (i + 1) : Nat) : Int)) (fun k => ?_)
      (Ev.bind (block_spec _ (chunk p i) hcl (chunk_byte p hbyte i)) e)
    show (if ((64 * i : Nat) : Int) < (p.length : Int) then _ else _) = _
    have w : wrap64 (((64 * i : Nat) : Int) + 64) = ((64 * (i + 1) : Nat) : Int) := by rw [w64 _ (by omega)]; omega
    rw [w, if_pos (by omega), if_pos (by omega), if_pos (by omega), if_pos (by omega)]
    have c : (p.take ((64 * (i + 1) : Nat) : Int).toNat).drop ((64 * i : Nat) : Int).toNat = chunk p i := by
      unfold chunk
      rw [Int.toNat_natCast, Int.toNat_natCast, List.drop_take, show 64 * (i + 1) - 64 * i = 64 by omega]
    rw [c]
/-- WHAT BOTH DIGESTS TELL. -/
def sha (l : List Int) : ByteArray := strOfNums (outUpTo (digest8 (pad l)) 8)
theorem digest_spec (l : List Int) (hl : l.length < 140737488000000) (hb : ∀ x ∈ l, 0 ≤ x ∧ x ≤ 255) : Ev (fun k => spec_Digest.f k l) (sha l) := by
  refine Ev.bind (padded_spec l hl) ?_
  refine Ev.congr (f := fun k => spec_Digest.l0 k (pad l) (h8 first) kl ((64 * 0 : Nat) : Int)) (fun k => ?_) (blocks_spec (pad l) (pad_whole l hl hb) _ 0 rfl (by omega))
  rw [kl_is]
  rfl
theorem digest_impl (l : List Int) (hl : l.length < 140737488000000) (hb : ∀ x ∈ l, 0 ≤ x ∧ x ≤ 255) : Ev (fun k => impl_Digest.f k l) (sha l) := by
  refine Ev.bind (padded_impl l hl) (Ev.congr (fun k => ?_) (Ev.now _))
  rw [if_pos (pad_whole l hl hb)]
  rfl
end Go.Proofs.Ytlekeiokdmnboaa.Pu
