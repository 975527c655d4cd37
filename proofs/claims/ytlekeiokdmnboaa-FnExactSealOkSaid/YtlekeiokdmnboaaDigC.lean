/- The iterator over the blocks of 64 bytes: slices.Chunk at 64, for whatever body keeps its two variables. -/
import Derived.Test.YtlekeiokdmnboaaProg
import Derived.Test.YtlekeiokdmnboaaWMore
import Derived.Test.YtlekeiokdmnboaaSha
import Derived.RangeFuncFrom
import Derived.RangeFuncNested
import Derived.RangeFuncBound
import Derived.RangeFuncCalls
import Derived.RangeFuncLeaves
import Derived.Shelf.Abstract
import Derived.Shelf.RegionOpen
import Derived.WalkKit
import Derived.OwnWalkIn
import Derived.TacticsInMore
import Derived.LoopNIn
import Derived.LoopIn
import Derived.Outline
import Derived.BigRegionIn
import Derived.BigQuiet
namespace Go.Proofs.Ytlekeiokdmnboaa.Dig
open Go.RowKit Go.Shelf Go.Proofs.YtlekeiokdmnboaaW.PrintWords Go.Proofs.YtlekeiokdmnboaaW.PrintLast Go.Proofs.YtlekeiokdmnboaaW.PrintMore Go.Proofs.Ytlekeiokdmnboaa.Sha
attribute [local go_sem] Oper.semAt_some
set_option linter.unusedVariables false
set_option linter.unusedSimpArgs false

/-- The two variables of the iterator stay. -/
def Keeps2 (sb nb : Nat) (W W' : World) : Prop := W'.heap[sb]? = W.heap[sb]? ∧ W'.heap[nb]? = W.heap[nb]?
theorem keeps2_t {sb nb : Nat} {A B C : World} (h : Keeps2 sb nb A B) (k : Keeps2 sb nb B C) : Keeps2 sb nb A C := ⟨k.1.trans h.1, k.2.trans h.2⟩
def upF (m k : Nat) : List (Fin m) := (List.finRange m).take k
theorem upF_succ {m k : Nat} (h : k < m) : upF m k ++ [⟨k, h⟩] = upF m (k + 1) := by
  unfold upF
  rw [List.take_succ_eq_append_getElem (by simpa using h)]
  simp
theorem upF_length {m k : Nat} (h : k ≤ m) : (upF m k).length = k := by unfold upF; simp [h]

set_option maxRecDepth 100000 in
set_option maxHeartbeats 2000000 in
theorem chunk1_in (F : Fence) (n : Nat) (h7 : F.fn 88) (hro : F.round = none) (hn : 1 ≤ n) (l sb nb pb m cap : Nat) (hm : 64 * m ≤ 140737488355328) (hcap : 64 * m ≤ cap) (J Jx : List (Fin m) → World → Prop)
    (W : World) (hJ : AbidesFrom W.heap.size J)
    (hY : ∀ pre x W, J pre W → pre.length < m → YieldAt F (n - 1) Try.prog l #[.slice (some ⟨pb, 64 * x.1, none⟩) 64 64] W fun e W' =>
      (e = .returned (.bool true) ∧ J (pre ++ [x]) W' ∧ Keeps2 sb nb W W') ∨ (e = .returned (.bool false) ∧ Jx (pre ++ [x]) W'))
    (L : Nat) (hL : L = 64 * m) (hs : W.cell? ⟨sb, 0, none⟩ = some (.slice (some ⟨pb, 0, none⟩) L cap)) (hc : W.cell? ⟨nb, 0, none⟩ = some (.int .i64 64)) (h0 : J [] W) :
    CallsIn F n Try.prog 88 #[.func (.yield l) #[] #[], .pointer (some ⟨sb, 0, none⟩), .pointer (some ⟨nb, 0, none⟩)] W fun e W' => (∃ v, e = .returned v) ∧
      ((∃ ys, ys = List.finRange m ∧ J ys W') ∨ (∃ pre, Jx pre W')) := by
  have HL := Aside0.mk hL
  have hLm : L ≤ 140737488355328 := by omega
  have hLc : L ≤ cap := by omega
  clear hL
  refine callsIn_of_wp Try.func88 rfl h7 ?_ hro
  simp only [Try.ntmps88, List.size_toArray, List.length_cons, List.length_nil, Nat.reduceAdd, Nat.reduceSub, Array.replicate_succ, Array.replicate_zero, List.push_toArray, List.append_toArray, List.nil_append, List.cons_append]
  gi_wp2
  gi_loopw [4] (fun i wr => ∃ k : Nat, k ≤ m ∧ i = .int .i64 ((64 * k : Nat) : Int) ∧ Aside0 (J (upF m k) wr) ∧ Aside0 (Keeps2 sb nb W wr) ) (fun i _ => L - (intOf i).toNat)
  case atStart => exact ⟨0, Nat.zero_le _, by simp, ⟨h0⟩, ⟨⟨rfl, rfl⟩⟩⟩
  case round =>
    obtain ⟨k, hk, rfl, HJ, HK⟩ := hrel
    have cs : wr.cell? ⟨sb, 0, none⟩ = _ := (World.cell?_of_block (a := ⟨sb, 0, none⟩) HK.out.1).trans hs
    have cn : wr.cell? ⟨nb, 0, none⟩ = _ := (World.cell?_of_block (a := ⟨nb, 0, none⟩) HK.out.2).trans hc
    by_cases hlt : k < m
    · have hLL := HL.out
      have q1 : (64 * k : Nat) < L := by omega
      have q2 : (0 : Int) ≤ ((64 * k : Nat) : Int) := by omega
      have q3 : ((64 * k : Nat) : Int) ≤ (L : Int) := by omega
      have q4 : ¬ cap = 64 * k := by omega
      have q5 : ((((L - 64 * k : Nat) : Int) < 64) = False) := eq_false (by omega)
      have q6 : 64 * k + 64 ≤ cap := by omega
      have q7 : 64 * k + 64 ≤ 140737488355328 := by omega
      clear hLL
      generalize hK : (64 * k : Nat) = K at q1 q2 q3 q4 q5 q6 q7 ⊢
      have HKK := Aside0.mk hK
      clear hK
      gi_wp2
      gi_region
      all_goals
        have HJ2 : J (upF m k) wr.drew := hJ _ wr wr.drew none HJ.out ⟨rfl, rfl, rfl, Nat.le_refl _, fun _ _ _ => rfl⟩ (fun r e => by cases e)
        have cs2 : wr.drew.cell? ⟨sb, 0, none⟩ = _ := cs
        have cn2 : wr.drew.cell? ⟨nb, 0, none⟩ = _ := cn
        obtain ⟨fn, tmps, assign, body, hy, hR⟩ := hY _ ⟨k, hlt⟩ wr.drew HJ2 (by rw [upF_length hk]; exact hlt)
        dsimp only at hy
        rw [HKK.out] at hy
        gi_wp2
        refine hR.mono ?_
        rintro e W3 (⟨rfl, hJ3, hk3⟩ | ⟨rfl, hJx3⟩)
        · have cn3 : W3.cell? ⟨nb, 0, none⟩ = _ := (World.cell?_of_block (a := ⟨nb, 0, none⟩) hk3.2).trans cn2
          have HJ3 := Aside0.mk hJ3
          have HK3 := Aside0.mk hk3
          clear hJ3 hk3 hR hy
          gi_wp2
          go_roundw
          case rel => exact ⟨k + 1, by omega, by have := HKK.out; rw [show 64 * (k + 1) = K + 64 by omega]; simp, ⟨by rw [← upF_succ hlt]; exact HJ3.out⟩, ⟨keeps2_t HK.out (show Keeps2 sb nb wr W3 from HK3.out)⟩⟩
          case measure => simp [intOf]; omega
        · gi_wp2
          refine bodyPost_ret (results_none rfl _ _ _) rfl ?_
          exact ⟨⟨_, rfl⟩, .inr ⟨_, hJx3⟩⟩
    · obtain rfl : k = m := by omega
      have e : (64 * k : Nat) = L := HL.out.symm
      rw [e]
      gi_wp2
      go_end0
      exact ⟨⟨_, rfl⟩, .inl ⟨_, rfl, by have := HJ.out; unfold upF at this; rwa [List.take_of_length_le (by simp)] at this⟩⟩
end Go.Proofs.Ytlekeiokdmnboaa.Dig
