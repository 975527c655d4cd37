/- The law of SuperOf is true at every input; plain Lean over the printed functions. -/
import Derived.Test.YtlekeiokdmnboaaPuE
import Derived.Test.YtlekeiokdmnboaaPuG
import Derived.Test.YtlekeiokdmnboaaPa9
import Derived.Test.YtlekeiokdmnboaaPa8
namespace Go.Proofs.Ytlekeiokdmnboaa.Pu
open Go Go.RowKit Go.Proofs.YtlekeiokdmnboaaW.PrintWords Go.Proofs.YtlekeiokdmnboaaW.PrintLast Go.Proofs.YtlekeiokdmnboaaW.PrintMore Go.Proofs.Ytlekeiokdmnboaa.Pa
set_option linter.unusedVariables false

/-- What is turned into a digest. -/
def superB (q : Int) (p : ByteArray) (rs : List ByteArray) : List Int := [3] ++ numB (clamp q) ++ txtB p ++ textsB rs
theorem superB_byte (q : Int) (p : ByteArray) (rs : List ByteArray) : Byte (superB q p rs) :=
  Byte.app (Byte.app (Byte.app (fun x hx => by simp at hx; omega) (numB_byte _)) (txtB_byte p)) (textsB_byte rs)
theorem superB_len (q : Int) (p : ByteArray) (rs : List ByteArray) : (superB q p rs).length ≤ 16 + p.size + 5 * total rs := by
  unfold superB
  have := clamp_len q; have := txtB_len p; have := textsB_len rs
  simp only [List.length_append, List.length_singleton]
  omega
theorem super_spec (q : Int) (p : ByteArray) (rs : List ByteArray) (h : p.size + 5 * total rs < 140737480000000) : Ev (fun k => spec_SuperOf.f k q p rs) (sha (superB q p rs)) := by
  have h1 := clamp_len q; have h2 := txtB_len p; have h3 := superB_len q p rs
  refine Ev.bind (a := superB q p rs) ?_ (Ev.bind (digest_spec _ (by omega) (superB_byte q p rs)) (Ev.now _))
  refine Ev.bind (num_spec [3] q (by simp)) (Ev.bind (txt_spec _ p (by simp only [List.length_append, List.length_singleton]; omega)) (Ev.bind (texts_spec _ rs (by simp only [List.length_append, List.length_singleton]; omega)) (Ev.now _)))
theorem super_impl (q : Int) (p : ByteArray) (rs : List ByteArray) (h : p.size + 5 * total rs < 140737480000000) : Ev (fun k => impl_SuperOf.f k q p rs) (sha (superB q p rs)) := by
  have h1 := clamp_len q; have h2 := txtB_len p; have h3 := superB_len q p rs
  refine Ev.bind (num_impl [3] q (by simp)) (Ev.bind (txt_impl _ p (by simp only [List.length_append, List.length_singleton]; omega)) (Ev.bind (texts_impl _ rs (by simp only [List.length_append, List.length_singleton]; omega)) (Ev.bind (digest_impl _ (by exact Nat.lt_of_le_of_lt h3 (by omega)) (superB_byte q p rs)) (Ev.now _))))
theorem law_super (q : Int) (p : ByteArray) (rs : List ByteArray) (hr : Has rs) : Ev (fun k => laws_FnExactSuperOf.f k q p rs) true := by
  obtain ⟨K1, e1⟩ := sz_texts rs hr 1048576 (by omega) (by omega)
  dsimp only at e1
  by_cases c1 : (p.size : Int) > 1048576
  · refine ⟨0, fun k _ => ?_⟩
    show laws_FnExactSuperOf.f k q p rs = some true
    unfold laws_FnExactSuperOf.f
    rw [if_pos c1]
  · by_cases c2 : (total rs : Int) ≤ 1048576
    · have hl := total_len rs
      obtain ⟨K2, e2⟩ := to_texts rs (by omega)
      obtain ⟨K3, e3⟩ := super_spec q p rs (by omega)
      obtain ⟨K4, e4⟩ := super_impl q p rs (by omega)
      obtain ⟨K5, e5⟩ := eq_texts rs (by omega)
      dsimp only at e2 e3 e4 e5
      refine ⟨K1 + K2 + K3 + K4 + K5, fun k hk => ?_⟩
      show laws_FnExactSuperOf.f k q p rs = some true
      unfold laws_FnExactSuperOf.f
      rw [if_neg c1, e1 k (by omega)]
      simp only [Option.bind_some, if_pos c2]
      rw [if_neg (by omega)]
      simp only [e2 k (by omega), e3 k (by omega), e4 k (by omega), e5 k (by omega), Option.bind_some, if_true]
    · refine ⟨K1, fun k hk => ?_⟩
      show laws_FnExactSuperOf.f k q p rs = some true
      unfold laws_FnExactSuperOf.f
      rw [if_neg c1, e1 k (by omega)]
      simp only [Option.bind_some, if_neg c2]
      rw [if_pos (by omega)]
end Go.Proofs.Ytlekeiokdmnboaa.Pu
