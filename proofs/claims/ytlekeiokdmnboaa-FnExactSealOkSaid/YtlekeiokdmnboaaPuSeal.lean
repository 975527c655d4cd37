/- The law of SealOk is true at every input; plain Lean over the printed functions. -/
import Derived.Test.YtlekeiokdmnboaaPuSuper
import Derived.Test.YtlekeiokdmnboaaPa13
import Derived.Test.YtlekeiokdmnboaaPa12
import Derived.Test.YtlekeiokdmnboaaPa11
import Derived.Test.YtlekeiokdmnboaaPa10
namespace Go.Proofs.Ytlekeiokdmnboaa.Pu
open Go Go.RowKit Go.Proofs.YtlekeiokdmnboaaW.PrintWords Go.Proofs.YtlekeiokdmnboaaW.PrintLast Go.Proofs.YtlekeiokdmnboaaW.PrintMore Go.Proofs.Ytlekeiokdmnboaa.Pa
set_option linter.unusedVariables false

theorem in_spec (a b c : Int) : spec_l1In.f a b c = some (decide (b ≤ a ∧ a ≤ c)) := by
  unfold spec_l1In.f
  by_cases h : a ≥ b
  · rw [if_pos h]; congr 1; simp only [decide_eq_decide]; omega
  · rw [if_neg h]; congr 1; symm; simp only [decide_eq_false_iff_not]; omega
theorem in_impl (a b c : Int) : impl_inRange.f a b c = some (decide (b ≤ a ∧ a ≤ c)) := by
  unfold impl_inRange.f
  by_cases h : a ≥ b
  · rw [if_pos h]; congr 1; simp only [decide_eq_decide]; omega
  · rw [if_neg h]; congr 1; symm; simp only [decide_eq_false_iff_not]; omega
/-- What both answer of a seal. -/
def sealB (q : Int) (p s : ByteArray) (rs : List ByteArray) : Bool :=
  decide ((1 ≤ q ∧ q ≤ 1000) ∧ p.size = 32 ∧ (1 ≤ rs.length ∧ rs.length ≤ 8) ∧ ∀ x ∈ rs, x.size = 32) && (s.toList == (sha (superB q p rs)).toList)
theorem sealB_of {q : Int} {p s : ByteArray} {rs : List ByteArray} (h1 : 1 ≤ q ∧ q ≤ 1000) (h2 : p.size = 32) (h3 : 1 ≤ rs.length ∧ rs.length ≤ 8) (h4 : ∀ x ∈ rs, x.size = 32) : sealB q p s rs = (s.toList == (sha (superB q p rs)).toList) := by
  unfold sealB
  rw [decide_eq_true ⟨h1, h2, h3, h4⟩, Bool.true_and]
theorem sealB_not {q : Int} {p s : ByteArray} {rs : List ByteArray} (h : ¬ ((1 ≤ q ∧ q ≤ 1000) ∧ p.size = 32 ∧ (1 ≤ rs.length ∧ rs.length ≤ 8) ∧ ∀ x ∈ rs, x.size = 32)) : sealB q p s rs = false := by
  unfold sealB
  rw [decide_eq_false h, Bool.false_and]
theorem small_total (rs : List ByteArray) (h4 : ∀ x ∈ rs, x.size = 32) : total rs = 33 * rs.length := by
  induction rs with
  | nil => rfl
  | cons s l ih => rw [total_cons, ih (fun x hx => h4 x (List.mem_cons_of_mem _ hx)), h4 s (by simp), List.length_cons]; omega
theorem seal_spec (q : Int) (p s : ByteArray) (rs : List ByteArray) : Ev (fun k => spec_SealOk.f k q p s rs) (sealB q p s rs) := by
  have jt : Ev (fun k => spec_SealOk.j0 k true q p s rs) false := by
    refine Ev.step (f := fun _ => some false) (fun k => ?_) (Ev.now _)
    show (if true = true then some false else spec_SealOk.l0 k 0 q p s rs) = _
    exact if_pos rfl
  by_cases h1 : 1 ≤ q ∧ q ≤ 1000
  · by_cases h2 : p.size = 32
    · by_cases h3 : 1 ≤ rs.length ∧ rs.length ≤ 8
      · have loop : ∀ (j i : Nat), rs.length - i = j → i ≤ rs.length → (∀ x ∈ rs.take i, x.size = 32) → Ev (fun k => spec_SealOk.l0 k (i : Int) q p s rs) (sealB q p s rs) := by
          intro j
          induction j with
          | zero =>
            intro i hj hi hall
            have h4 : ∀ x ∈ rs, x.size = 32 := fun x hx => hall x (by rw [List.take_of_length_le (by omega)]; exact hx)
            have ht := small_total rs h4
            refine Ev.step (f := fun k => (spec_SuperOf.f k q p rs).bind fun t => some (s.toList == t.toList)) (fun k => ?_) (Ev.bind (super_spec q p rs (by omega)) (by rw [sealB_of h1 h2 h3 h4]; exact Ev.now _))
            show (if (i : Int) < (rs.length : Int) then _ else _) = _
            rw [if_neg (by omega)]
          | succ j ih =>
            intro i hj hi hall
            have hlt : i < rs.length := by omega
            have hr : rdOf ByteArray.empty rs (i : Int) = rs[i] := rdOf_at (List.getElem?_eq_getElem hlt)
            by_cases h5 : rs[i].size = 32
            · refine Ev.step (fun k => ?_) (ih (i + 1) (by omega) (by omega) (fun x hx => ?_))
              · show (if (i : Int) < (rs.length : Int) then _ else _) = _
                rw [if_pos (by omega), if_pos (by omega), hr, if_pos (by omega), n64 ((i : Int) + 1) (by omega)]
                rfl
              · rw [List.take_succ_eq_append_getElem hlt] at hx
                rcases List.mem_append.1 hx with hx | hx
                · exact hall x hx
                · simp at hx; rw [hx]; exact h5
            · rw [sealB_not (fun h => h5 (h.2.2.2 _ (List.getElem_mem hlt)))]
              refine Ev.step (f := fun _ => some false) (fun k => ?_) (Ev.now _)
              show (if (i : Int) < (rs.length : Int) then _ else _) = _
              rw [if_pos (by omega), if_pos (by omega), hr, if_neg (by omega)]
        have e := loop rs.length 0 (by omega) (by omega) (by simp)
        refine Ev.congr (f := fun k => spec_SealOk.j0 k false q p s rs) (fun k => ?_) (Ev.step (fun k => ?_) e)
        · show ((spec_l1In.f q 1 1000).bind _) = _
          rw [in_spec, Option.bind_some, if_pos (by simpa using h1), if_pos (by omega), in_spec, Option.bind_some]
          rw [show decide ((1 : Int) ≤ (rs.length : Int) ∧ (rs.length : Int) ≤ 8) = true from decide_eq_true (by omega)]
          rfl
        · show (if false = true then some false else spec_SealOk.l0 k 0 q p s rs) = _
          rw [if_neg (by simp)]
          rfl
      · rw [sealB_not (fun h => h3 h.2.2.1)]
        refine Ev.congr (fun k => ?_) jt
        show ((spec_l1In.f q 1 1000).bind _) = _
        rw [in_spec, Option.bind_some, if_pos (by simpa using h1), if_pos (by omega), in_spec, Option.bind_some]
        rw [show decide ((1 : Int) ≤ (rs.length : Int) ∧ (rs.length : Int) ≤ 8) = false from decide_eq_false (by omega)]
        rfl
    · rw [sealB_not (fun h => h2 h.2.1)]
      refine Ev.congr (fun k => ?_) jt
      show ((spec_l1In.f q 1 1000).bind _) = _
      rw [in_spec, Option.bind_some, if_pos (by simpa using h1), if_neg (by omega)]
  · rw [sealB_not (fun h => h1 h.1)]
    refine Ev.congr (fun k => ?_) jt
    show ((spec_l1In.f q 1 1000).bind _) = _
    rw [in_spec, Option.bind_some, if_neg (by simpa using h1)]
theorem seal_impl (q : Int) (p s : ByteArray) (rs : List ByteArray) (hn : rs.length ≤ 9223372036854775800) : Ev (fun k => impl_SealOk.f k q p s rs) (sealB q p s rs) := by
  have loop : ∀ (j i : Nat), rs.length - i = j → i ≤ rs.length → (∀ x ∈ rs.take i, x.size = 32) → Ev (fun k => impl_SealOk.l0 k rs (rs.length : Int) (i : Int) q p s rs) (sealB q p s rs) := by
    intro j
    induction j with
    | zero =>
      intro i hj hi hall
      have h4 : ∀ x ∈ rs, x.size = 32 := fun x hx => hall x (by rw [List.take_of_length_le (by omega)]; exact hx)
      have ht := small_total rs h4
      by_cases h1 : 1 ≤ q ∧ q ≤ 1000
      · by_cases h2 : p.size = 32
        · by_cases h3 : 1 ≤ rs.length ∧ rs.length ≤ 8
          · refine Ev.step (f := fun k => (impl_SuperOf.f k q p rs).bind fun t => some (s.toList == t.toList)) (fun k => ?_) (Ev.bind (super_impl q p rs (by omega)) (by rw [sealB_of h1 h2 h3 h4]; exact Ev.now _))
            show (if (i : Int) < (rs.length : Int) then _ else _) = _
            rw [if_neg (by omega), in_impl, Option.bind_some, if_pos (by simpa using h1), if_pos (by omega), in_impl, Option.bind_some, if_pos (decide_eq_true (by omega))]
          · rw [sealB_not (fun h => h3 h.2.2.1)]
            refine Ev.step (f := fun _ => some false) (fun k => ?_) (Ev.now _)
            show (if (i : Int) < (rs.length : Int) then _ else _) = _
            rw [if_neg (by omega), in_impl, Option.bind_some, if_pos (by simpa using h1), if_pos (by omega), in_impl, Option.bind_some, if_neg (by rw [decide_eq_true_eq]; omega)]
        · rw [sealB_not (fun h => h2 h.2.1)]
          refine Ev.step (f := fun _ => some false) (fun k => ?_) (Ev.now _)
          show (if (i : Int) < (rs.length : Int) then _ else _) = _
          rw [if_neg (by omega), in_impl, Option.bind_some, if_pos (by simpa using h1), if_neg (by omega)]
      · rw [sealB_not (fun h => h1 h.1)]
        refine Ev.step (f := fun _ => some false) (fun k => ?_) (Ev.now _)
        show (if (i : Int) < (rs.length : Int) then _ else _) = _
        rw [if_neg (by omega), in_impl, Option.bind_some, if_neg (by simpa using h1)]
    | succ j ih =>
      intro i hj hi hall
      have hlt : i < rs.length := by omega
      have hr : rdOf ByteArray.empty rs (i : Int) = rs[i] := rdOf_at (List.getElem?_eq_getElem hlt)
      by_cases h5 : rs[i].size = 32
      · refine Ev.step (fun k => ?_) (ih (i + 1) (by omega) (by omega) (fun x hx => ?_))
        · show (if (i : Int) < (rs.length : Int) then _ else _) = _
          rw [if_pos (by omega), if_pos (by omega), if_pos (by omega), hr, if_pos (by omega), n64 ((i : Int) + 1) (by omega)]
          rfl
        · rw [List.take_succ_eq_append_getElem hlt] at hx
          rcases List.mem_append.1 hx with hx | hx
          · exact hall x hx
          · simp at hx; rw [hx]; exact h5
      · rw [sealB_not (fun h => h5 (h.2.2.2 _ (List.getElem_mem hlt)))]
        refine Ev.step (f := fun _ => some false) (fun k => ?_) (Ev.now _)
        show (if (i : Int) < (rs.length : Int) then _ else _) = _
        rw [if_pos (by omega), if_pos (by omega), if_pos (by omega), hr, if_neg (by omega)]
  exact loop rs.length 0 (by omega) (by omega) (by simp)
theorem to_seal (q : Int) (p s : ByteArray) (rs : List ByteArray) (hn : rs.length ≤ 17592186044416) : Ev (fun k => laws_toSeal.f k q p s rs) (q, p, s, rs) := Ev.bind (to_texts rs hn) (Ev.now _)
theorem eq_seal (q : Int) (p s : ByteArray) (rs : List ByteArray) (hn : rs.length ≤ 9223372036854775800) : Ev (fun k => laws_eqSeal.f k q p s rs q p s rs) true := by
  refine Ev.congr (f := fun k => (laws_eqStringS.f k rs rs).bind fun t => if t = true then some true else some false) (fun k => ?_) (Ev.bind (eq_texts rs hn) (Ev.congr (fun k => by rw [if_pos rfl]) (Ev.now _)))
  unfold laws_eqSeal.f
  rw [if_pos rfl, if_pos rfl, if_pos rfl]
theorem sz_seal (q : Int) (p s : ByteArray) (rs : List ByteArray) (hp : p.size ≤ 9223372036854775807) (hs : s.size ≤ 9223372036854775807) (hr : Has rs) (a : Int) (h0 : 0 ≤ a) (h1 : a ≤ 1099511627776) :
    Ev (fun k => laws_szSeal.f k q p s rs a) (if (p.size + s.size + total rs : Int) ≤ a then a - (p.size + s.size + total rs : Int) else -1) := by
  have w1 : wrap64 (a - (p.size : Int)) = a - (p.size : Int) := n64 _ (by omega)
  by_cases c1 : a - (p.size : Int) < 0
  · rw [if_neg (by omega)]
    refine Ev.congr (fun k => ?_) (Ev.now _)
    unfold laws_szSeal.f
    rw [w1, if_pos c1]
  · have w2 : wrap64 (a - (p.size : Int) - (s.size : Int)) = a - (p.size : Int) - (s.size : Int) := n64 _ (by omega)
    by_cases c2 : a - (p.size : Int) - (s.size : Int) < 0
    · rw [if_neg (by omega)]
      refine Ev.congr (fun k => ?_) (Ev.now _)
      unfold laws_szSeal.f
      rw [w1, if_neg c1, w2, if_pos c2]
    · refine Ev.congr (f := fun k => (laws_szStringS.f k rs (a - (p.size : Int) - (s.size : Int))).bind fun t => if t < 0 then some (-1) else some t) (fun k => ?_) (Ev.bind (sz_texts rs hr _ (by omega) (by omega)) (Ev.congr (fun k => ?_) (Ev.now _)))
      · unfold laws_szSeal.f
        rw [w1, if_neg c1, w2, if_neg c2]
      · by_cases c3 : (total rs : Int) ≤ a - (p.size : Int) - (s.size : Int)
        · have g : ¬ (a - (p.size : Int) - (s.size : Int) - (total rs : Int) < 0) := by omega
          have g2 : ((p.size : Int) + (s.size : Int) + (total rs : Int)) ≤ a := by omega
          rw [if_pos c3, if_neg g, if_pos g2]
          congr 1
          omega
        · have g2 : ¬ ((p.size : Int) + (s.size : Int) + (total rs : Int)) ≤ a := by omega
          rw [if_neg c3, if_neg g2, if_pos (show (-1 : Int) < 0 by decide)]
theorem law_seal (q : Int) (p s : ByteArray) (rs : List ByteArray) (hp : p.size ≤ 9223372036854775807) (hs : s.size ≤ 9223372036854775807) (hr : Has rs) : Ev (fun k => laws_FnExactSealOk.f k q p s rs) true := by
  obtain ⟨K1, e1⟩ := sz_seal q p s rs hp hs hr 1048576 (by omega) (by omega)
  dsimp only at e1
  by_cases c2 : (p.size + s.size + total rs : Int) ≤ 1048576
  · have hl := total_len rs
    obtain ⟨K2, e2⟩ := to_seal q p s rs (by omega)
    obtain ⟨K3, e3⟩ := seal_spec q p s rs
    obtain ⟨K4, e4⟩ := seal_impl q p s rs (by omega)
    obtain ⟨K5, e5⟩ := eq_seal q p s rs (by omega)
    dsimp only at e2 e3 e4 e5
    refine ⟨K1 + K2 + K3 + K4 + K5, fun k hk => ?_⟩
    show laws_FnExactSealOk.f k q p s rs = some true
    unfold laws_FnExactSealOk.f
    rw [e1 k (by omega)]
    simp only [Option.bind_some, if_pos c2]
    rw [if_neg (by omega)]
    simp only [e2 k (by omega), e3 k (by omega), e4 k (by omega), e5 k (by omega), Option.bind_some, if_true, bne_self_eq_false]
    rfl
  · refine ⟨K1, fun k hk => ?_⟩
    show laws_FnExactSealOk.f k q p s rs = some true
    unfold laws_FnExactSealOk.f
    rw [e1 k (by omega)]
    simp only [Option.bind_some, if_neg c2]
    rw [if_pos (by omega)]
end Go.Proofs.Ytlekeiokdmnboaa.Pu
