/- What the two programs' writers of numbers and texts put down: the same bytes; plain Lean over the printed functions. -/
import Derived.Test.YtlekeiokdmnboaaPa5
import Derived.Test.YtlekeiokdmnboaaPa8
import Derived.Test.YtlekeiokdmnboaaPa7
import Derived.Laws.BitsLemmas
namespace Go.Proofs.Ytlekeiokdmnboaa.Pu
open Go Go.RowKit Go.Proofs.YtlekeiokdmnboaaW.PrintWords Go.Proofs.YtlekeiokdmnboaaW.PrintLast Go.Proofs.YtlekeiokdmnboaaW.PrintMore Go.Proofs.Ytlekeiokdmnboaa.Pa
set_option linter.unusedVariables false

theorem n64 (n : Int) (h : -9223372036854775808 ≤ n ∧ n ≤ 9223372036854775807) : wrap64 n = n := by unfold wrap64; omega
/-- The number that is put down for a. -/
def clamp (a : Int) : Nat := (mx 0 (mn a 1000000000)).toNat
theorem clamp_le (a : Int) : clamp a ≤ 1000000000 := by unfold clamp mx mn; split <;> split <;> omega
/-- Seven bits a byte, the lowest first. -/
def numB (n : Nat) : List Int := if n > 127 then ((n % 128 + 128 : Nat) : Int) :: numB (n / 128) else [(n : Int)]
termination_by n
decreasing_by omega
theorem numB_big {n : Nat} (h : n > 127) : numB n = ((n % 128 + 128 : Nat) : Int) :: numB (n / 128) := by rw [numB, if_pos h]
theorem numB_small {n : Nat} (h : ¬ n > 127) : numB n = [(n : Int)] := by rw [numB, if_neg h]
def Byte (l : List Int) : Prop := ∀ x ∈ l, 0 ≤ x ∧ x ≤ 255
theorem Byte.app {a b : List Int} (ha : Byte a) (hb : Byte b) : Byte (a ++ b) := fun x hx => by
  rcases List.mem_append.1 hx with h | h
  · exact ha x h
  · exact hb x h
theorem numB_byte (n : Nat) : Byte (numB n) := by
  induction n using Nat.strongRecOn with
  | _ n ih =>
    intro x hx
    by_cases h : n > 127
    · rw [numB_big h] at hx
      rcases List.mem_cons.1 hx with rfl | hx
      · omega
      · exact ih (n / 128) (by omega) x hx
    · rw [numB_small h] at hx
      simp at hx
      omega
theorem numB_len (j n : Nat) (h : n < 128 ^ (j + 1)) : (numB n).length ≤ j + 1 := by
  induction j generalizing n with
  | zero => rw [numB_small (by omega)]; simp
  | succ j ih =>
    by_cases h2 : n > 127
    · rw [numB_big h2]
      have := ih (n / 128) (by rw [Nat.div_lt_iff_lt_mul (by decide)]; rw [Nat.pow_succ] at h; exact h)
      simp; omega
    · rw [numB_small h2]; simp
theorem clamp_len (a : Int) : (numB (clamp a)).length ≤ 5 := numB_len 4 _ (by have := clamp_le a; omega)
theorem or128 (x : Int) (h0 : 0 ≤ x) (h1 : x < 4611686018427387904) : (Go.bits .or .i64 128 (Go.bits .and .i64 x 127)) % 256 = x % 128 + 128 ∧ (Go.bits .or .i64 (Go.bits .and .i64 x 127) 128) % 256 = x % 128 + 128 := by
  have hm : Go.bits .and .i64 x 127 = x % 128 := bits_mask .i64 62 (by decide) (fun n a b => by rw [IntKind.wrap_i64]; omega) 7 (by decide) x h0 h1
  rw [hm]
  obtain ⟨n, hn⟩ := Int.eq_ofNat_of_zero_le (show 0 ≤ x % 128 by omega)
  have hn2 : n < 128 := by omega
  have e128 : (128 : Int) = ((128 : Nat) : Int) := rfl
  have hb := fun a b h1 h2 => (bits_nat .i64 62 (by decide) (fun n a b => by rw [IntKind.wrap_i64]; omega) a b h1 h2).2
  have ho : (128 : Nat) ||| n = 128 + n := (Nat.two_pow_add_eq_or_of_lt (i := 7) hn2 1).symm
  rw [hn]
  constructor
  · rw [show Go.bits .or .i64 128 (n : Int) = ((128 ||| n : Nat) : Int) from hb 128 n (by decide) (by omega), ho]; omega
  · rw [show Go.bits .or .i64 (n : Int) 128 = ((n ||| 128 : Nat) : Int) from hb n 128 (by omega) (by decide), Nat.or_comm, ho]; omega
theorem put_impl (n : Nat) (hn : n ≤ 1000000000) (l : List Int) (hl : l.length + (numB n).length < 140737488355328) : Ev (fun k => impl_putNum.l0 k l (n : Int)) (l ++ numB n) := by
  induction n using Nat.strongRecOn generalizing l with
  | _ n ih =>
    by_cases h : n > 127
    · rw [numB_big h] at hl ⊢
      simp only [List.length_cons] at hl
      have e := ih (n / 128) (by omega) (by omega) (l ++ [((n % 128 + 128 : Nat) : Int)]) (by simp only [List.length_append, List.length_singleton]; omega)
      refine Ev.step (fun k => ?_) (by rw [List.append_assoc, List.singleton_append] at e; exact e)
      show (if (n : Int) > 127 then _ else _) = _
      rw [if_pos (by omega), if_pos (by omega), (or128 (n : Int) (by omega) (by omega)).1]
      congr 1
    · rw [numB_small h] at hl ⊢
      simp only [List.length_singleton] at hl
      refine Ev.step (fun k => ?_) (Ev.now _)
      show (if (n : Int) > 127 then _ else _) = _
      rw [if_neg (by omega), if_pos (by omega)]
      have : (n : Int) % 256 = n := by omega
      rw [this]
theorem put_spec (n : Nat) (hn : n ≤ 1000000000) (l : List Int) (hl : l.length + (numB n).length < 140737488355328) : Ev (fun k => spec_PutNum.l0 k (n : Int) l) (l ++ numB n) := by
  induction n using Nat.strongRecOn generalizing l with
  | _ n ih =>
    by_cases h : n > 127
    · rw [numB_big h] at hl ⊢
      simp only [List.length_cons] at hl
      have e := ih (n / 128) (by omega) (by omega) (l ++ [((n % 128 + 128 : Nat) : Int)]) (by simp only [List.length_append, List.length_singleton]; omega)
      refine Ev.step (fun k => ?_) (by rw [List.append_assoc, List.singleton_append] at e; exact e)
      show (if (n : Int) > 127 then _ else _) = _
      rw [if_pos (by omega), if_pos (by omega), (or128 (n : Int) (by omega) (by omega)).2]
      congr 1
    · rw [numB_small h] at hl ⊢
      simp only [List.length_singleton] at hl
      refine Ev.step (fun k => ?_) (Ev.now _)
      show (if (n : Int) > 127 then _ else _) = _
      rw [if_neg (by omega), if_pos (by omega)]
      have : (n : Int) % 256 = n := by omega
      rw [this]
theorem clamp_int (a : Int) : ((clamp a : Nat) : Int) = mx 0 (mn a 1000000000) := by unfold clamp mx mn; split <;> split <;> omega
theorem num_impl (l : List Int) (a : Int) (hl : l.length + 5 < 140737488355328) : Ev (fun k => impl_putNum.f k l a) (l ++ numB (clamp a)) := by
  have h := put_impl (clamp a) (clamp_le a) l (by have := clamp_len a; omega)
  rw [clamp_int] at h
  exact h
theorem num_spec (l : List Int) (a : Int) (hl : l.length + 5 < 140737488355328) : Ev (fun k => spec_PutNum.f k l a) (l ++ numB (clamp a)) := by
  have h := put_spec (clamp a) (clamp_le a) l (by have := clamp_len a; omega)
  have hc := clamp_int a
  have key : ∀ b : Int, (if b < 0 then 0 else b) = (clamp a : Int) → Ev (fun k => spec_PutNum.j0 k b l) (l ++ numB (clamp a)) := by
    intro b hb
    refine Ev.step (f := fun k => spec_PutNum.j1 k (clamp a : Int) l) (fun k => ?_) (Ev.step (fun k => ?_) h)
    · show (if b < 0 then _ else _) = _
      split at hb
      · rw [if_pos (by assumption), hb]
      · rw [if_neg (by assumption), hb]
    · rfl
  refine Ev.congr (f := fun k => if a > 1000000000 then spec_PutNum.j0 k 1000000000 l else spec_PutNum.j0 k a l) (fun k => ?_) ?_
  · show ((some ([] : List Int)).bind _) = _
    simp only [Option.bind_some, List.nil_append, List.length_nil, Nat.zero_add]
    rw [if_pos (by omega)]
  · by_cases h1 : a > 1000000000
    · simp only [if_pos h1]
      refine key _ ?_
      rw [hc]; unfold mx mn; (repeat' split) <;> omega
    · simp only [if_neg h1]
      refine key _ ?_
      rw [hc]; unfold mx mn; (repeat' split) <;> omega

/-- A text's bytes, its length ahead. -/
def txtB (s : ByteArray) : List Int := numB (clamp (s.size : Int)) ++ bytesOf s
theorem bytesOf_byte (s : ByteArray) : Byte (bytesOf s) := by
  intro x hx
  simp only [bytesOf, List.mem_map] at hx
  obtain ⟨b, _, rfl⟩ := hx
  have := b.toNat_lt
  omega
theorem txtB_byte (s : ByteArray) : Byte (txtB s) := (numB_byte _).app (bytesOf_byte s)
theorem txtB_len (s : ByteArray) : (txtB s).length ≤ 5 + s.size := by
  unfold txtB
  rw [List.length_append, bytesOf_length]
  have := clamp_len (s.size : Int)
  omega
theorem txt_impl (l : List Int) (s : ByteArray) (hl : l.length + 5 + s.size < 140737488355328) : Ev (fun k => impl_putText.f k l s) (l ++ txtB s) := by
  refine Ev.bind (num_impl l _ (by omega)) (Ev.congr (fun k => ?_) (Ev.now _))
  have := clamp_len (s.size : Int)
  rw [if_pos (by rw [List.length_append]; omega), List.append_assoc]
  rfl
theorem txt_spec (l : List Int) (s : ByteArray) (hl : l.length + 5 + s.size < 140737488355328) : Ev (fun k => spec_PutText.f k l s) (l ++ txtB s) := by
  refine Ev.bind (num_spec l _ (by omega)) (Ev.congr (fun k => ?_) (Ev.now _))
  have := clamp_len (s.size : Int)
  rw [if_pos (by rw [List.length_append]; omega), List.append_assoc]
  rfl
/-- The lengths of texts, one by one. -/
def total (l : List ByteArray) : Nat := (l.map fun s => s.size + 1).sum
theorem total_nil : total [] = 0 := rfl
theorem total_cons (s : ByteArray) (l : List ByteArray) : total (s :: l) = s.size + 1 + total l := by simp [total]
theorem total_len (l : List ByteArray) : l.length ≤ total l := by
  induction l with
  | nil => simp [total]
  | cons s l ih => rw [total_cons]; simp; omega
def textsB (l : List ByteArray) : List Int := numB (clamp (l.length : Int)) ++ l.flatMap txtB
theorem flat_byte (l : List ByteArray) : Byte (l.flatMap txtB) := by
  intro x hx
  obtain ⟨s, _, hs⟩ := List.mem_flatMap.1 hx
  exact txtB_byte s x hs
theorem textsB_byte (l : List ByteArray) : Byte (textsB l) := (numB_byte _).app (flat_byte l)
theorem flat_len (l : List ByteArray) : (l.flatMap txtB).length ≤ 5 * total l := by
  induction l with
  | nil => simp [total]
  | cons s l ih => rw [List.flatMap_cons, List.length_append, total_cons]; have := txtB_len s; omega
theorem textsB_len (l : List ByteArray) : (textsB l).length ≤ 5 + 5 * total l := by
  unfold textsB
  rw [List.length_append]
  have := clamp_len (l.length : Int)
  have := flat_len l
  omega
theorem rdOf_at {α : Type} {d x : α} {l : List α} {i : Nat} (h : l[i]? = some x) : rdOf d l (i : Int) = x := by
  simp [rdOf, List.getD_eq_getElem?_getD, h]
theorem drop_at {α : Type} {l : List α} {i : Nat} (h : i < l.length) : l.drop i = l[i] :: l.drop (i + 1) := by simp
theorem texts_impl (l : List Int) (xs : List ByteArray) (hl : l.length + 5 + 5 * total xs < 140737488355328) : Ev (fun k => impl_putTexts.f k l xs) (l ++ textsB xs) := by
  have hx := total_len xs
  have loop : ∀ (j : Nat) (i : Nat) (l : List Int), xs.length - i = j → i ≤ xs.length → l.length + 5 * total (xs.drop i) < 140737488355328 → Ev (fun k => impl_putTexts.l0 k l xs (xs.length : Int) (i : Int)) (l ++ (xs.drop i).flatMap txtB) := by
    intro j
    induction j with
    | zero =>
      intro i l hj hi hl
      have : xs.drop i = [] := List.drop_eq_nil_of_le (by omega)
      rw [this, List.flatMap_nil, List.append_nil]
      refine Ev.step (fun k => ?_) (Ev.now _)
      show (if (i : Int) < (xs.length : Int) then _ else _) = _
      rw [if_neg (by omega)]
    | succ j ih =>
      intro i l hj hi hl
      have hlt : i < xs.length := by omega
      rw [drop_at hlt] at hl ⊢
      rw [total_cons] at hl
      have ht := txtB_len xs[i]
      have e2 := ih (i + 1) (l ++ txtB xs[i]) (by omega) (by omega) (by rw [List.length_append]; omega)
      refine Ev.step (f := fun k => (impl_putText.f k l xs[i]).bind fun t => impl_putTexts.l0 k t xs (xs.length : Int) ((i + 1 : Nat) : Int)) (fun k => ?_) (Ev.bind (txt_impl l xs[i] (by omega)) ?_)
      · show (if (i : Int) < (xs.length : Int) then _ else _) = _
        rw [if_pos (by omega), if_pos (by omega), if_pos (by omega), rdOf_at (List.getElem?_eq_getElem hlt), n64 _ (by omega)]
        rfl
      · rw [List.flatMap_cons, ← List.append_assoc]
        exact e2
  refine Ev.bind (num_impl l _ (by omega)) ?_
  have := loop xs.length 0 (l ++ numB (clamp (xs.length : Int))) (by omega) (by omega) (by have := clamp_len (xs.length : Int); rw [List.length_append, List.drop_zero]; omega)
  rw [List.drop_zero, List.append_assoc] at this
  exact this
theorem texts_spec (l : List Int) (xs : List ByteArray) (hl : l.length + 5 + 5 * total xs < 140737488355328) : Ev (fun k => spec_PutTexts.f k l xs) (l ++ textsB xs) := by
  have hx := total_len xs
  have loop : ∀ (j : Nat) (i : Nat) (l : List Int), xs.length - i = j → i ≤ xs.length → l.length + 5 * total (xs.drop i) < 140737488355328 → Ev (fun k => spec_PutTexts.l0 k xs l (i : Int)) (l ++ (xs.drop i).flatMap txtB) := by
    intro j
    induction j with
    | zero =>
      intro i l hj hi hl
      have : xs.drop i = [] := List.drop_eq_nil_of_le (by omega)
      rw [this, List.flatMap_nil, List.append_nil]
      refine Ev.step (fun k => ?_) (Ev.now _)
      show (if (i : Int) < (xs.length : Int) then _ else _) = _
      rw [if_neg (by omega)]
    | succ j ih =>
      intro i l hj hi hl
      have hlt : i < xs.length := by omega
      rw [drop_at hlt] at hl ⊢
      rw [total_cons] at hl
      have ht := txtB_len xs[i]
      have e2 := ih (i + 1) (l ++ txtB xs[i]) (by omega) (by omega) (by rw [List.length_append]; omega)
      refine Ev.step (f := fun k => (spec_PutText.f k l xs[i]).bind fun t => spec_PutTexts.l0 k xs t ((i + 1 : Nat) : Int)) (fun k => ?_) (Ev.bind (txt_spec l xs[i] (by omega)) ?_)
      · show (if (i : Int) < (xs.length : Int) then _ else _) = _
        rw [if_pos (by omega), if_pos (by omega), rdOf_at (List.getElem?_eq_getElem hlt), n64 _ (by omega)]
        rfl
      · rw [List.flatMap_cons, ← List.append_assoc]
        exact e2
  refine Ev.bind (num_spec l _ (by omega)) ?_
  have := loop xs.length 0 (l ++ numB (clamp (xs.length : Int))) (by omega) (by omega) (by have := clamp_len (xs.length : Int); rw [List.length_append, List.drop_zero]; omega)
  rw [List.drop_zero, List.append_assoc] at this
  exact this
end Go.Proofs.Ytlekeiokdmnboaa.Pu
