/- The row of the law FnExactSealOk, out of its plain law and its walk. -/
import Derived.Test.YtlekeiokdmnboaaRows
import Derived.Test.YtlekeiokdmnboaaPa13
import Derived.Test.YtlekeiokdmnboaaPuSeal
import Derived.Test.YtlekeiokdmnboaaOpn
import Derived.WalkKit
import Derived.ProofKit
import Derived.OpenShut
import Derived.ShutString
import Derived.ChangeOld
import Derived.Below
import Derived.SizedLaws
import Derived.Carry
namespace Go.Proofs.Ytlekeiokdmnboaa.fnExactSealOk
open Go.ChangeShapes Go.WideShapes Go.ChangeAt Go.RowKit Go.Proofs.Ytlekeiokdmnboaa.Pa Go.Proofs.Ytlekeiokdmnboaa.Opn Go.Proofs.YtlekeiokdmnboaaW.PrintWords
open Go.ChangeMaps (open_string shut_string)
theorem own : ownKnob Try.prog.godebug = none := by kernel_rfl
theorem laidOut : laidOutB Try.prog = true := by kernel_rfl
set_option maxRecDepth 100000 in
theorem lifted (os : Os) (started : os.Started) (H : Type) (enc : TypeId × Value → H) :
    ReturnsInHanded {} Try.checked os 4 .any (Rows.fnExactSealOkSpec.pre6 enc Try.prog Try.f4 Rows.fnExactSealOkRow.domain false) (Rows.fnExactSealOkSpec.post enc Try.prog Try.f4 false true false false) := by
  refine returnsInHanded_of_change_sized (C := Try.checked) own started (by kernel_rfl) Try.func4
    (ChangeSpec.witness6 (enc := enc) (C := Try.checked) false ⟨#[], #[.agg #[.int .i64 0, .string ByteArray.empty, .string ByteArray.empty, .slice none 0 0]], []⟩ 8 (by kernel_rfl) (by kernel_rfl) (by kernel_rfl) (by kernel_rfl)) ?_
  intro W base args ds gs before hval0 hW hcnd hsz0 _
  have hval : ∀ (j : Nat) t v, Try.f4.params[j]? = some t → args[j]? = some v → Value.okWide Try.prog W .any base t v := hval0
  have hW' := hW
  obtain ⟨p, q, hA0, hV, rfl, hfz, hnd⟩ := hW
  have hA : DataW.TrodAll enc Try.prog W 0 (fun _ => true) true Try.f4.params.toList args.toList ds p := hA0
  rw [Try.params4] at hA hval
  obtain ⟨v0, vs0, d0, ds0, p0, q0, hargs, rfl, rfl, h0, r0⟩ := trodAll_cons hA
  obtain ⟨rfl, rfl, rfl⟩ := trodAll_nil r0
  obtain rfl : args = #[v0] := by cases args; simp_all
  obtain ⟨rfl, rfl⟩ := trodVars_none hV
  obtain ⟨cs0, rfl, _⟩ := okWide_struct Try.underlying29 (hval 0 29 v0 rfl rfl)
  have k0 := h0
  have lt0 : ∀ x ∈ p0, x.block < W.heap.size := by obtain ⟨m, hm⟩ := k0; exact DataW.trod_lt m _ _ _ hm
  obtain ⟨fu0, hf0⟩ := h0
  obtain ⟨x0, ko0, g0⟩ := ((opn_struct Try.underlying29 (by kernel_rfl) (opnF_cons rfl (opn_int Try.underlying3 (by kernel_rfl)) (opnF_cons rfl (opn_string Try.underlying9 (by kernel_rfl)) (opnF_cons rfl (opn_string Try.underlying9 (by kernel_rfl)) (opnF_one rfl (opn_slice 9 Try.underlying22 (by kernel_rfl) (opn_string Try.underlying9 (by kernel_rfl))))))) (fun x : S29 => (x.f0, x.f1, x.f2, x.f3)) (fun a => ⟨a.1, a.2.1, a.2.2.1, a.2.2.2⟩) (fun _ => rfl)) : Opn Try.prog 29 k29 _).2 hf0
  obtain ⟨A0_3, c0_3, ex0, l0_3, g0_3⟩ := k29_open ko0
  obtain rfl := Array.toList_inj.1 (show cs0.toList = (List.toArray _).toList from ex0)
  obtain ⟨k, hk⟩ := Ev.rounds (Pu.law_seal x0.f0 x0.f1 x0.f2 x0.f3 g0.2.1 g0.2.2.1 ⟨g0.2.2.2.1, g0.2.2.2.2⟩)
  refine (laws_FnExactSealOk.calls k x0.f0 x0.f1 x0.f2 _ _ x0.f3 true W g0_3 l0_3 hk).mono fun e W' ⟨he, bel⟩ => ?_
  subst he
  exact ⟨_, rfl, _, _, _, [], _, [], hW', trodAll_mk1 (shut_bool Try.underlying4 _), (trodAll_cons_mk (Below.trod laidOut (by kernel_rfl) (of_decide_eq_true (by kernel_rfl)) k0 bel lt0) trodAll_mk0), rfl, bel.frame _, fun h => by cases h⟩
theorem over : Rows.fnExactSealOkRow.holds Try.pinned (OpenSpec.ofChange Rows.fnExactSealOkSpec) :=
  OpenClaim.holds_of_wide 4 Try.f4 rfl rfl rfl rfl rfl rfl rfl ⟨rfl, rfl, rfl, rfl, rfl⟩ rfl rfl rfl rfl rfl (by kernel_rfl) Try.func4 (by kernel_rfl)
    (of_decide_eq_true (by kernel_rfl)) (by unfold Func.isWrapper; first | (rw [if_pos (by decide +kernel)]; kernel_rfl) | (rw [if_neg (by decide +kernel)]; exact ⟨rfl, rfl⟩))
    (fun os started H enc _ => lifted os started H enc)
end Go.Proofs.Ytlekeiokdmnboaa.fnExactSealOk
namespace Go.Proofs.Ytlekeiokdmnboaa
/-- The row, for the claim. -/
theorem fnExactSealOk_holds : Rows.FnExactSealOkSaid := fnExactSealOk.over
#print axioms fnExactSealOk_holds
end Go.Proofs.Ytlekeiokdmnboaa
