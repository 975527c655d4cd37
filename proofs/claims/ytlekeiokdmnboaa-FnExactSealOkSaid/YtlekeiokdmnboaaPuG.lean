/- The guards of the laws, the copies that the laws make, the comparing of rows of texts; plain Lean over the printed functions. -/
import Derived.Test.YtlekeiokdmnboaaPuN
import Derived.Test.YtlekeiokdmnboaaPa1
namespace Go.Proofs.Ytlekeiokdmnboaa.Pu
open Go Go.RowKit Go.Proofs.YtlekeiokdmnboaaW.PrintWords Go.Proofs.YtlekeiokdmnboaaW.PrintLast Go.Proofs.YtlekeiokdmnboaaW.PrintMore Go.Proofs.Ytlekeiokdmnboaa.Pa
set_option linter.unusedVariables false

/-- What a law takes of rows of texts: lengths that Go has. -/
def Has (l : List ByteArray) : Prop := l.length ≤ 9223372036854775807 ∧ ∀ s ∈ l, s.size ≤ 9223372036854775807
def sumB (l : List ByteArray) : Nat := (l.map fun s => s.size).sum
theorem sumB_cons (s : ByteArray) (l : List ByteArray) : sumB (s :: l) = s.size + sumB l := by simp [sumB]
theorem total_sum (l : List ByteArray) : total l = sumB l + l.length := by
  induction l with
  | nil => rfl
  | cons s l ih => rw [total_cons, sumB_cons, ih, List.length_cons]; omega
theorem sz_texts (l : List ByteArray) (hl : Has l) (a : Int) (h0 : 0 ≤ a) (h1 : a ≤ 1099511627776) : Ev (fun k => laws_szStringS.f k l a) (if (total l : Int) ≤ a then a - total l else -1) := by
  have loop : ∀ (j i : Nat) (x : Int), l.length - i = j → i ≤ l.length → 0 ≤ x → x ≤ 1099511627776 → l.length ≤ 1099511627776 → Ev (fun k => laws_szStringS.l0 k l x (i : Int)) (if (sumB (l.drop i) : Int) ≤ x then x - sumB (l.drop i) else -1) := by
    intro j
    induction j with
    | zero =>
      intro i x hj hi h0 h1 hn
      have : l.drop i = [] := List.drop_eq_nil_of_le (by omega)
      rw [this, show sumB [] = 0 from rfl, if_pos (by omega)]
      refine Ev.step (fun k => ?_) (Ev.now _)
      show (if (i : Int) < (l.length : Int) then _ else _) = _
      rw [if_neg (by omega)]
      simp
    | succ j ih =>
      intro i x hj hi h0 h1 hn
      have hlt : i < l.length := by omega
      have hs := hl.2 l[i] (List.getElem_mem hlt)
      rw [drop_at hlt, sumB_cons]
      have hr : rdOf ByteArray.empty l (i : Int) = l[i] := rdOf_at (List.getElem?_eq_getElem hlt)
      have hw : wrap64 (x - (l[i].size : Int)) = x - (l[i].size : Int) := n64 _ (by omega)
      by_cases hneg : x - (l[i].size : Int) < 0
      · rw [if_neg (by omega)]
        refine Ev.step (fun k => ?_) (Ev.now _)
        show (if (i : Int) < (l.length : Int) then _ else _) = _
        rw [if_pos (by omega), if_pos (by omega), hr, hw, if_pos hneg]
      · have e := ih (i + 1) (x - (l[i].size : Int)) (by omega) (by omega) (by omega) (by omega) hn
        have : (if ((sumB (l.drop (i + 1)) : Nat) : Int) ≤ x - (l[i].size : Int) then x - (l[i].size : Int) - ((sumB (l.drop (i + 1)) : Nat) : Int) else -1) = (if ((l[i].size + sumB (l.drop (i + 1)) : Nat) : Int) ≤ x then x - ((l[i].size + sumB (l.drop (i + 1)) : Nat) : Int) else -1) := by
          split <;> split <;> omega
        rw [this] at e
        refine Ev.step (fun k => ?_) e
        show (if (i : Int) < (l.length : Int) then _ else _) = _
        rw [if_pos (by omega), if_pos (by omega), hr, hw, if_neg hneg, n64 ((i : Int) + 1) (by omega)]
        rfl
  have hn := hl.1
  have hw : wrap64 (a - (l.length : Int)) = a - (l.length : Int) := n64 _ (by omega)
  have ht := total_sum l
  by_cases hneg : a - (l.length : Int) < 0
  · rw [if_neg (by omega)]
    refine Ev.congr (fun k => ?_) (Ev.now _)
    show (if (wrap64 (a - (l.length : Int))) < 0 then _ else _) = _
    rw [hw, if_pos hneg]
  · have e := loop l.length 0 (a - (l.length : Int)) (by omega) (by omega) (by omega) (by omega) (by omega)
    rw [List.drop_zero] at e
    have : (if ((sumB l : Nat) : Int) ≤ a - (l.length : Int) then a - (l.length : Int) - ((sumB l : Nat) : Int) else -1) = (if ((total l : Nat) : Int) ≤ a then a - ((total l : Nat) : Int) else -1) := by
      split <;> split <;> omega
    rw [this] at e
    refine Ev.congr (fun k => ?_) e
    show (if (wrap64 (a - (l.length : Int))) < 0 then _ else _) = _
    rw [hw, if_neg hneg]
    rfl
theorem set_at {α : Type} (l : List α) (i : Nat) (z : α) (h : i < l.length) : (l.take i ++ List.replicate (l.length - i) z).set i l[i] = l.take (i + 1) ++ List.replicate (l.length - (i + 1)) z := by
  have h1 : (l.take i).length = i := by rw [List.length_take]; omega
  rw [List.set_append_right _ _ (by omega), h1, Nat.sub_self]
  obtain ⟨m, hm⟩ : ∃ m, l.length - i = m + 1 := ⟨l.length - i - 1, by omega⟩
  rw [hm, show l.length - (i + 1) = m by omega, List.replicate_succ, List.set_cons_zero, List.take_succ_eq_append_getElem h, List.append_assoc, List.singleton_append]
theorem to_texts (l : List ByteArray) (hl : l.length ≤ 17592186044416) : Ev (fun k => laws_toStringS.f k l) l := by
  have loop : ∀ (j i : Nat), l.length - i = j → i ≤ l.length → Ev (fun k => laws_toStringS.l0 k l (l.take i ++ List.replicate (l.length - i) (⟨#[]⟩ : ByteArray)) (i : Int)) l := by
    intro j
    induction j with
    | zero =>
      intro i hj hi
      obtain rfl : i = l.length := by omega
      rw [List.take_length, Nat.sub_self, List.replicate_zero, List.append_nil]
      refine Ev.step (fun k => ?_) (Ev.now _)
      show (if (l.length : Int) < (l.length : Int) then _ else _) = _
      rw [if_neg (by omega)]
    | succ j ih =>
      intro i hj hi
      have hlt : i < l.length := by omega
      have e := ih (i + 1) (by omega) (by omega)
      rw [← set_at l i _ hlt] at e
      refine Ev.step (fun k => ?_) e
      show (if (i : Int) < (l.length : Int) then _ else _) = _
      have hlen : (l.take i ++ List.replicate (l.length - i) (⟨#[]⟩ : ByteArray)).length = l.length := by simp; omega
      rw [hlen, if_pos (by omega), if_pos (by omega), if_pos (by omega), rdOf_at (List.getElem?_eq_getElem hlt), n64 ((i : Int) + 1) (by omega)]
      rfl
  have e := loop l.length 0 (by omega) (by omega)
  rw [List.take_zero, List.nil_append, Nat.sub_zero] at e
  refine Ev.congr (fun k => ?_) e
  show (if 0 ≤ (l.length : Int) then _ else _) = _
  rw [if_pos (by omega), if_pos (by omega)]
  rfl
theorem eq_texts (l : List ByteArray) (hl : l.length ≤ 9223372036854775800) : Ev (fun k => laws_eqStringS.f k l l) true := by
  have loop : ∀ (j i : Nat), l.length - i = j → i ≤ l.length → Ev (fun k => laws_eqStringS.l0 k l l (i : Int)) true := by
    intro j
    induction j with
    | zero =>
      intro i hj hi
      refine Ev.step (fun k => ?_) (Ev.now _)
      show (if (i : Int) < (l.length : Int) then _ else _) = _
      rw [if_neg (by omega)]
    | succ j ih =>
      intro i hj hi
      refine Ev.step (fun k => ?_) (ih (i + 1) (by omega) (by omega))
      show (if (i : Int) < (l.length : Int) then _ else _) = _
      rw [if_pos (by omega), if_pos (by omega), if_pos (by omega), if_pos rfl, n64 ((i : Int) + 1) (by omega)]
      rfl
  refine Ev.congr (fun k => ?_) (loop l.length 0 (by omega) (by omega))
  show (if (l.length : Int) = (l.length : Int) then _ else _) = _
  rw [if_pos rfl]
  rfl
end Go.Proofs.Ytlekeiokdmnboaa.Pu
