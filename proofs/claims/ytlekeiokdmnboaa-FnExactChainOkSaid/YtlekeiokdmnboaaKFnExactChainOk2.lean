/- The law FnExactChainOk of the given program: it answers true at every input that its statement speaks of. Part 3 of 4: words, walks of the functions (printed by programs of this session), the plain law, the row. -/
import Derived.Test.YtlekeiokdmnboaaProg
import Derived.Test.YtlekeiokdmnboaaKFnExactChainOk0
import Derived.Test.YtlekeiokdmnboaaKFnExactChainOk1
import Derived.RangeFuncFrom
import Derived.RangeFuncNested
import Derived.RangeFuncBound
import Derived.RangeFuncCalls
import Derived.RangeFuncLeaves
import Derived.Shelf.Abstract
import Derived.Shelf.RegionOpen
import Derived.WalkKit
import Derived.OwnWalkIn
import Derived.TacticsInMore
import Derived.LoopNIn
import Derived.LoopIn
import Derived.Outline
import Derived.BigRegionIn
import Derived.BigQuiet
import Derived.Laws.BitsLemmas
section
/- The iterator over the blocks of 64 bytes: slices.Chunk at 64, for whatever body keeps its two variables. -/
namespace Go.Proofs.Ytlekeiokdmnboaa.Dig
open Go.RowKit Go.Shelf Go.Proofs.YtlekeiokdmnboaaW.PrintWords Go.Proofs.YtlekeiokdmnboaaW.PrintLast Go.Proofs.YtlekeiokdmnboaaW.PrintMore Go.Proofs.Ytlekeiokdmnboaa.Sha
attribute [local go_sem] Oper.semAt_some
set_option linter.unusedVariables false
set_option linter.unusedSimpArgs false

/-- The two variables of the iterator stay. -/
def Keeps2 (sb nb : Nat) (W W' : World) : Prop := W'.heap[sb]? = W.heap[sb]? ∧ W'.heap[nb]? = W.heap[nb]?
theorem keeps2_t {sb nb : Nat} {A B C : World} (h : Keeps2 sb nb A B) (k : Keeps2 sb nb B C) : Keeps2 sb nb A C := ⟨k.1.trans h.1, k.2.trans h.2⟩
def upF (m k : Nat) : List (Fin m) := (List.finRange m).take k
theorem upF_succ {m k : Nat} (h : k < m) : upF m k ++ [⟨k, h⟩] = upF m (k + 1) := by
  unfold upF
  rw [List.take_succ_eq_append_getElem (by simpa using h)]
  simp
theorem upF_length {m k : Nat} (h : k ≤ m) : (upF m k).length = k := by unfold upF; simp [h]

set_option maxRecDepth 100000 in
set_option maxHeartbeats 2000000 in
theorem chunk1_in (F : Fence) (n : Nat) (h7 : F.fn 88) (hro : F.round = none) (hn : 1 ≤ n) (l sb nb pb m cap : Nat) (hm : 64 * m ≤ 140737488355328) (hcap : 64 * m ≤ cap) (J Jx : List (Fin m) → World → Prop)
    (W : World) (hJ : AbidesFrom W.heap.size J)
    (hY : ∀ pre x W, J pre W → pre.length < m → YieldAt F (n - 1) Try.prog l #[.slice (some ⟨pb, 64 * x.1, none⟩) 64 64] W fun e W' =>
      (e = .returned (.bool true) ∧ J (pre ++ [x]) W' ∧ Keeps2 sb nb W W') ∨ (e = .returned (.bool false) ∧ Jx (pre ++ [x]) W'))
    (L : Nat) (hL : L = 64 * m) (hs : W.cell? ⟨sb, 0, none⟩ = some (.slice (some ⟨pb, 0, none⟩) L cap)) (hc : W.cell? ⟨nb, 0, none⟩ = some (.int .i64 64)) (h0 : J [] W) :
    CallsIn F n Try.prog 88 #[.func (.yield l) #[] #[], .pointer (some ⟨sb, 0, none⟩), .pointer (some ⟨nb, 0, none⟩)] W fun e W' => (∃ v, e = .returned v) ∧
      ((∃ ys, ys = List.finRange m ∧ J ys W') ∨ (∃ pre, Jx pre W')) := by
  have HL := Aside0.mk hL
  have hLm : L ≤ 140737488355328 := by omega
  have hLc : L ≤ cap := by omega
  clear hL
  refine callsIn_of_wp Try.func88 rfl h7 ?_ hro
  simp only [Try.ntmps88, List.size_toArray, List.length_cons, List.length_nil, Nat.reduceAdd, Nat.reduceSub, Array.replicate_succ, Array.replicate_zero, List.push_toArray, List.append_toArray, List.nil_append, List.cons_append]
  gi_wp2
  gi_loopw [4] (fun i wr => ∃ k : Nat, k ≤ m ∧ i = .int .i64 ((64 * k : Nat) : Int) ∧ Aside0 (J (upF m k) wr) ∧ Aside0 (Keeps2 sb nb W wr) ) (fun i _ => L - (intOf i).toNat)
  case atStart => exact ⟨0, Nat.zero_le _, by simp, ⟨h0⟩, ⟨⟨rfl, rfl⟩⟩⟩
  case round =>
    obtain ⟨k, hk, rfl, HJ, HK⟩ := hrel
    have cs : wr.cell? ⟨sb, 0, none⟩ = _ := (World.cell?_of_block (a := ⟨sb, 0, none⟩) HK.out.1).trans hs
    have cn : wr.cell? ⟨nb, 0, none⟩ = _ := (World.cell?_of_block (a := ⟨nb, 0, none⟩) HK.out.2).trans hc
    by_cases hlt : k < m
    · have hLL := HL.out
      have q1 : (64 * k : Nat) < L := by omega
      have q2 : (0 : Int) ≤ ((64 * k : Nat) : Int) := by omega
      have q3 : ((64 * k : Nat) : Int) ≤ (L : Int) := by omega
      have q4 : ¬ cap = 64 * k := by omega
      have q5 : ((((L - 64 * k : Nat) : Int) < 64) = False) := eq_false (by omega)
      have q6 : 64 * k + 64 ≤ cap := by omega
      have q7 : 64 * k + 64 ≤ 140737488355328 := by omega
      clear hLL
      generalize hK : (64 * k : Nat) = K at q1 q2 q3 q4 q5 q6 q7 ⊢
      have HKK := Aside0.mk hK
      clear hK
      gi_wp2
      gi_region
      all_goals
        have HJ2 : J (upF m k) wr.drew := hJ _ wr wr.drew none HJ.out ⟨rfl, rfl, rfl, Nat.le_refl _, fun _ _ _ => rfl⟩ (fun r e => by cases e)
        have cs2 : wr.drew.cell? ⟨sb, 0, none⟩ = _ := cs
        have cn2 : wr.drew.cell? ⟨nb, 0, none⟩ = _ := cn
        obtain ⟨fn, tmps, assign, body, hy, hR⟩ := hY _ ⟨k, hlt⟩ wr.drew HJ2 (by rw [upF_length hk]; exact hlt)
        dsimp only at hy
        rw [HKK.out] at hy
        gi_wp2
        refine hR.mono ?_
        rintro e W3 (⟨rfl, hJ3, hk3⟩ | ⟨rfl, hJx3⟩)
        · have cn3 : W3.cell? ⟨nb, 0, none⟩ = _ := (World.cell?_of_block (a := ⟨nb, 0, none⟩) hk3.2).trans cn2
          have HJ3 := Aside0.mk hJ3
          have HK3 := Aside0.mk hk3
          clear hJ3 hk3 hR hy
          gi_wp2
          go_roundw
          case rel => exact ⟨k + 1, by omega, by have := HKK.out; rw [show 64 * (k + 1) = K + 64 by omega]; simp, ⟨by rw [← upF_succ hlt]; exact HJ3.out⟩, ⟨keeps2_t HK.out (show Keeps2 sb nb wr W3 from HK3.out)⟩⟩
          case measure => simp [intOf]; omega
        · gi_wp2
          refine bodyPost_ret (results_none rfl _ _ _) rfl ?_
          exact ⟨⟨_, rfl⟩, .inr ⟨_, hJx3⟩⟩
    · obtain rfl : k = m := by omega
      have e : (64 * k : Nat) = L := HL.out.symm
      rw [e]
      gi_wp2
      go_end0
      exact ⟨⟨_, rfl⟩, .inl ⟨_, rfl, by have := HJ.out; unfold upF at this; rwa [List.take_of_length_le (by simp)] at this⟩⟩
end Go.Proofs.Ytlekeiokdmnboaa.Dig
end

section
/- slices.Chunk itself, and what stays of a block of cells. -/
namespace Go.Proofs.Ytlekeiokdmnboaa.Dig
open Go.RowKit Go.Shelf Go.Proofs.YtlekeiokdmnboaaW.PrintWords Go.Proofs.YtlekeiokdmnboaaW.PrintLast Go.Proofs.YtlekeiokdmnboaaW.PrintMore Go.Proofs.Ytlekeiokdmnboaa.Sha
set_option linter.unusedVariables false
set_option linter.unusedSimpArgs false
theorem chunk_calls (A : Option Addr) (n c : Nat) (w : World) :
    Calls Try.prog 66 #[.slice A n c, .int .i64 64] w fun e w' => e = .returned (.func (.func 88) #[] #[.pointer (some ⟨w.heap.size, 0, none⟩), .pointer (some ⟨w.heap.size + 1, 0, none⟩)]) ∧
      (w.alloc (.cells #[.slice A n c] 36)).alloc (.cells #[.int .i64 64] 3) = w' := by
  have hmf : ∀ (fn : Fn) (first cap : Array Value) (w : World), (Instr.makeFunc fn first cap).run Try.prog w = .ok (.func fn first cap) w := fun _ _ _ _ => rfl
  go_enter Try.func66, Try.ntmps66
  go_wp2
  go_ret
  exact ⟨rfl, rfl⟩
/-- A block of cells abides what the loop keeps book in. -/
theorem blk_own {W W' : World} {b : Nat} {c : Array Value} {t : TypeId} {fr : Nat × Nat} {row : Option Nat} (h : W.heap[b]? = some (.cells c t fr)) (hg : W.grownBy W' row) (hr : ∀ r, row = some r → ∃ o : Obj, W.heap[r]? = some o ∧ o.isCells = false) : W'.heap[b]? = some (.cells c t fr) := by
  refine (hg.block b (Array.getElem?_eq_some_iff.1 h).1 (fun e => ?_)).trans h
  obtain ⟨o, ho, hc⟩ := hr b e.symm
  rw [h] at ho
  cases ho
  cases hc
theorem keeps2_b {sb nb : Nat} {w : World} (h1 : sb < w.heap.size) (h2 : nb < w.heap.size) (W : World) (l : Nat) (o o' : Obj) (hl : w.heap.size ≤ l) (h : W.heap[l]? = some o) (_ : o.isCells = false) (_ : o.isWalk = false) : Keeps2 sb nb W (W.putObj l o') :=
  ⟨World.putObj_heap_other (by omega), World.putObj_heap_other (by omega)⟩
theorem chunk_stops (n sb nb pb m L cap : Nat) (hn : 1 ≤ n) (hm : 64 * m ≤ 140737488355328) (hcap : 64 * m ≤ cap) (hL : L = 64 * m) (w : World) (h1 : sb < w.heap.size) (h2 : nb < w.heap.size)
    (hs : w.heap[sb]? = some (.cells #[.slice (some ⟨pb, 0, none⟩) L cap] 36 (0, 0))) (hc : w.heap[nb]? = some (.cells #[.int .i64 64] 3 (0, 0))) :
    SeqStopsK Fence.wide n Try.prog 88 #[.pointer (some ⟨sb, 0, none⟩), .pointer (some ⟨nb, 0, none⟩)] (fun x : Fin m => #[.slice (some ⟨pb, 64 * x.1, none⟩) 64 64]) (Keeps2 sb nb) (fun ys => ys = List.finRange m) (fun _ => True) m w := fun l J Jx W hW hJ hJx hY h0 => by
  have hs' : W.cell? ⟨sb, 0, none⟩ = some (.slice (some ⟨pb, 0, none⟩) L cap) := by simp [World.cell?, hW.block sb h1, hs]
  have hc' : W.cell? ⟨nb, 0, none⟩ = some (.int .i64 64) := by simp [World.cell?, hW.block nb h2, hc]
  refine (chunk1_in Fence.wide n trivial rfl hn l sb nb pb m cap hm hcap J Jx W hJ (fun pre x W1 hj hp => hY pre x W1 hj hp) L hL hs' hc' h0).mono ?_
  rintro e W' ⟨hv, ⟨ys, rfl, hj⟩ | ⟨pre, hj⟩⟩
  · exact ⟨hv, .inl ⟨_, rfl, hj⟩⟩
  · exact ⟨hv, .inr ⟨pre, trivial, hj⟩⟩
theorem byte_row {w : World} {base e : Nat} {ok : Nat → Prop} {v : Value} {p : List Int} (ho : Kd.R (Kd.int .u8) e w base ok v p) (h0 : 0 < p.length) :
    ∃ g cap cur, v = .slice (some ⟨g, 0, none⟩) p.length cap ∧ p.length ≤ cap ∧ base ≤ g ∧ w.heap[g]? = some (.cells cur e (0, 0)) ∧ ∀ j, j < p.length → cur[j]? = some (.int .u8 (p.getD j 0)) := by
  obtain ⟨inner, hown⟩ := Kd.R_own ho
  obtain ⟨A, c, rfl, hlc, hC⟩ := Kd.R_reads ho
  rcases hown.2 with ⟨_, hn⟩ | ⟨g, cap, cur, hv, hb, hh, hnc, _⟩
  · omega
  · injection hv with hA _ hcap
    subst hA hcap
    refine ⟨g, c, cur, rfl, hlc, hb, hh, fun j hj => ?_⟩
    obtain ⟨ad, e1, hc⟩ := hC.2.2 h0
    injection e1 with e1
    subst e1
    obtain ⟨cs, _, hk, hcell⟩ := hc j _ (List.getElem?_eq_getElem hj)
    have hk' : cs = [Value.int .u8 p[j]] := hk
    have h1 := hcell 0 (.int .u8 p[j]) (by rw [hk']; rfl)
    rw [add_plain] at h1
    have h2 : w.cell? ⟨g, j * 1 + 0, none⟩ = some (.int .u8 p[j]) := h1
    rw [Nat.mul_one, Nat.add_zero] at h2
    simp only [World.cell?, hh] at h2
    rw [List.getD_eq_getElem?_getD, List.getElem?_eq_getElem hj]
    simpa using h2
theorem fold_range (m : Nat) (f : Sha.H8 → Nat → Sha.H8) (s : Sha.H8) : (List.finRange m).foldl (fun h (x : Fin m) => f h x.1) s = (List.range m).foldl f s := by
  have h : List.range m = (List.finRange m).map (fun x => x.1) := by
    apply List.ext_getElem
    · simp
    · intro i h1 h2; simp
  rw [h, List.foldl_map]
end Go.Proofs.Ytlekeiokdmnboaa.Dig
end

section
/- The program's digest of bytes: what it returns, in plain words. -/
-- FOREIGN loop.example/g00244/impl.Digest making=1 rounds=1
namespace Go.Proofs.Ytlekeiokdmnboaa.Pa
open Go.RowKit Go.Proofs.YtlekeiokdmnboaaW.PrintWords Go.Proofs.YtlekeiokdmnboaaW.PrintLast Go.Proofs.YtlekeiokdmnboaaW.PrintMore
attribute [local go_sem] max2_int min2_int max_two min_two max_three min_three max_four min_four   -- for this text's walks alone
def impl_Digest.f (k : Nat) (l0 : List Int) : Option ByteArray := (impl_Padded.f k l0).bind fun p => if Sha.WholeB p then some (strOfNums (Sha.outUpTo (Sha.digest8 p) 8)) else none
theorem impl_Digest.mono : ∀ a0 k, LeO (impl_Digest.f k a0) (impl_Digest.f (k + 1) a0) := fun a0 k => LeO.bind (impl_Padded.mono a0 k) (fun _ => LeO.refl _)
open Go.Shelf
attribute [local go_sem] Oper.semAt_some
set_option maxHeartbeats 2000000 in
set_option maxRecDepth 100000 in
theorem impl_Digest.calls (k : Nat) (A0 : Option Addr) (c0 : Nat) (l0 : List Int) (r : ByteArray) (w : World) (hr0 : Kd.C (Kd.int .u8) w A0 l0.length l0) (hc0 : l0.length ≤ c0) (h : impl_Digest.f k l0 = some r) :
    Calls Try.prog 37 #[.slice A0 l0.length c0] w fun e w' => e = .returned (.string r) ∧ Below w.heap.size w w' := by
  obtain ⟨p, hp, h⟩ := Option.bind_eq_some_iff.1 h
  by_cases hw : Sha.WholeB p
  · rw [if_pos hw] at h
    obtain rfl := Option.some.inj h
    clear h
    have HP := Aside0.mk hp
    have HR := Aside0.mk hr0
    have HW := Aside0.mk hw
    have HC := Aside0.mk hc0
    clear hp hr0 hw hc0
    refine (callsIn_wide (n := 6)).1 ?_
    have t1 : Fence.wide.fn 65 := trivial
    have t2 : Fence.wide.fn 67 := trivial
    have t3 : Fence.wide.fn 66 := trivial
    have t4 : Fence.wide.fn 68 := trivial
    have t5 : Fence.wide.fn 88 := trivial
    refine callsIn_of_wp_marks Try.func37 rfl trivial ?_ rfl
    simp only [Try.ntmps37, List.size_toArray, List.length_cons, List.length_nil, Nat.reduceAdd, Nat.reduceSub, Array.replicate_succ, Array.replicate_zero, List.push_toArray, List.append_toArray, List.nil_append, List.cons_append]
    gi_wp2_with (gi_at_call 65; refine (callsIn_wide.2 (Dig.rounds_calls _)).mono ?_; rintro e w1 ⟨rfl, hk1, hb1⟩; have HK1 := Aside0.mk hk1; have HB1 := Aside0.mk hb1; clear hk1 hb1)
    -- what lies behind the constants
    have hW0 := heap_alloc_new w (.cells #[.int .u32 1779033703, .int .u32 3144134277, .int .u32 1013904242, .int .u32 2773480762, .int .u32 1359893119, .int .u32 2600822924, .int .u32 528734635, .int .u32 1541459225] 92)
    have hs0 : (w.alloc (.cells #[.int .u32 1779033703, .int .u32 3144134277, .int .u32 1013904242, .int .u32 2773480762, .int .u32 1359893119, .int .u32 2600822924, .int .u32 528734635, .int .u32 1541459225] 92)).heap.size = w.heap.size + 1 := by simp
    have hB1 := HB1.out
    rw [hs0] at hB1
    have hk1 := HK1.out
    rw [hs0] at hk1
    have ha := below_alloc (Below.refl w1.heap.size w1) (.cells #[.pointer (some ⟨w.heap.size + 1, 0, none⟩)] 93)
    have hsz1 : w.heap.size + 1 < w1.heap.size := hk1.lt
    have HH2 := Aside0.mk (show Dig.Arr8 (w1.alloc (.cells #[.pointer (some ⟨w.heap.size + 1, 0, none⟩)] 93)) w.heap.size Sha.first from (ha.block _ (by omega)).trans ((hB1.block _ (by omega)).trans hW0))
    have HK2 := Aside0.mk (hk1.below ha)
    have HV2 := Aside0.mk (heap_alloc_new w1 (.cells #[.pointer (some ⟨w.heap.size + 1, 0, none⟩)] 93))
    have HB2 := Aside0.mk (show Below w.heap.size w (w1.alloc (.cells #[.pointer (some ⟨w.heap.size + 1, 0, none⟩)] 93)) from (((Below.refl w.heap.size w).alloc (Nat.le_refl _) _).trans (hB1.mono (by omega))).trans (ha.mono (by omega)))
    have HZ2 : Aside0 (w1.heap.size < (w1.alloc (.cells #[.pointer (some ⟨w.heap.size + 1, 0, none⟩)] 93)).heap.size) := ⟨by simp⟩
    have HL1 := Aside0.mk hsz1
    clear hW0 hs0 hB1 hk1 ha hsz1 HK1 HB1
    generalize hkv : w1.heap.size = kv at HV2 HZ2 HL1 ⊢
    clear hkv
    generalize w1.alloc (.cells #[.pointer (some ⟨w.heap.size + 1, 0, none⟩)] 93) = W2 at HH2 HK2 HV2 HB2 HZ2 ⊢
    refine (callsIn_wide.2 (impl_Padded.calls k A0 c0 l0 p W2 (Kd.C_below HR.out HB2.out) HC.out HP.out)).mono ?_
    rintro e w3 ⟨v, rfl, ho, hb3⟩
    obtain ⟨g, cap, cur, rfl, hlc, hg, hgr, hcur⟩ := Dig.byte_row ho HW.out.2.1
    have HG3 := Aside0.mk hgr
    have HH3 := Aside0.mk (show Dig.Arr8 w3 w.heap.size Sha.first from (hb3.block _ HH2.out.lt).trans HH2.out)
    have HK3 := Aside0.mk (HK2.out.below hb3)
    have HV3 := Aside0.mk ((hb3.block kv HZ2.out).trans HV2.out)
    have HB3 := Aside0.mk (HB2.out.trans (hb3.mono HB2.out.size))
    have HZ3 : Aside0 (kv < w3.heap.size ∧ g < w3.heap.size ∧ kv < g) := ⟨Nat.lt_of_lt_of_le HZ2.out hb3.size, (Array.getElem?_eq_some_iff.1 hgr).1, Nat.lt_of_lt_of_le HZ2.out hg⟩
    have HCU := Aside0.mk hcur
    have HLC := Aside0.mk hlc
    clear ho hlc hg hgr hcur hb3 HH2 HK2 HV2 HB2 HZ2
    dsimp only
    gi_wp2_with (gi_at_call 66; refine (callsIn_wide.2 (Dig.chunk_calls _ _ _ _)).mono ?_; rintro e w' ⟨rfl, rfl⟩)
    have e1 := below_alloc (Below.refl w3.heap.size w3) (.cells #[.slice (some ⟨g, 0, none⟩) p.length cap] 36)
    have e2 := below_alloc e1 (.cells #[.int .i64 64] 3)
    have hs1 : (w3.alloc (.cells #[.slice (some ⟨g, 0, none⟩) p.length cap] 36)).heap.size = w3.heap.size + 1 := by simp
    have HS4 := Aside0.mk ((Below.heap_alloc _ (.cells #[.int .i64 64] 3) w3.heap.size (by rw [hs1]; omega)).trans (heap_alloc_new w3 (.cells #[.slice (some ⟨g, 0, none⟩) p.length cap] 36)))
    have hn4 := heap_alloc_new (w3.alloc (.cells #[.slice (some ⟨g, 0, none⟩) p.length cap] 36)) (.cells #[.int .i64 64] 3)
    rw [hs1] at hn4
    have HN4 := Aside0.mk hn4
    have HH4 := Aside0.mk (show Dig.Arr8 _ w.heap.size Sha.first from (e2.block _ HH3.out.lt).trans HH3.out)
    have HK4 := Aside0.mk (HK3.out.below e2)
    have HV4 := Aside0.mk ((e2.block kv HZ3.out.1).trans HV3.out)
    have HG4 := Aside0.mk ((e2.block g HZ3.out.2.1).trans HG3.out)
    have HB4 := Aside0.mk (HB3.out.trans (e2.mono HB3.out.size))
    have HZ4 := Aside0.mk (show w3.heap.size + 1 < ((w3.alloc (.cells #[.slice (some ⟨g, 0, none⟩) p.length cap] 36)).alloc (.cells #[.int .i64 64] 3)).heap.size by simp)
    have HO4 := Aside0.mk (show w.heap.size + 1 < w3.heap.size by have := HZ3.out.1; have := HL1.out; omega)
    clear e1 e2 hs1 hn4 HH3 HK3 HV3 HG3 HB3
    generalize hsb : w3.heap.size = sb at HS4 HN4 HZ4 HO4 HZ3 ⊢
    generalize (w3.alloc (.cells #[.slice (some ⟨g, 0, none⟩) p.length cap] 36)).alloc (.cells #[.int .i64 64] 3) = W4 at HS4 HN4 HH4 HK4 HV4 HG4 HB4 HZ4 ⊢
    clear hsb
    have HM : Aside0 (p.length = 64 * (p.length / 64)) := ⟨by have := HW.out.1; omega⟩
    have hmle : 64 * (p.length / 64) ≤ 140737488355328 := by have := HW.out.2.2.1; omega
    have hcap : 64 * (p.length / 64) ≤ cap := by have := HLC.out; omega
    refine wpIn_rangeFunc_ownF (F := Fence.wide) rfl (by omega) (gf := 88) (lb := #[.pointer (some ⟨sb, 0, none⟩), .pointer (some ⟨sb + 1, 0, none⟩)]) rfl trivial (enters_of Try.func88 (by kernel_rfl) rfl)
      (Dig.chunk_stops 5 sb (sb + 1) g (p.length / 64) p.length cap (by omega) hmle hcap HM.out W4 (Nat.lt_of_succ_lt HZ4.out) HZ4.out HS4.out HN4.out) (fun h k => Dig.keeps2_t h k) (Dig.keeps2_b (Nat.lt_of_succ_lt HZ4.out) HZ4.out) (Below.refl _ _) (fun _ => rfl)
      (fun pre W => (Dig.Arr8 W w.heap.size (pre.foldl (fun h (x : Fin (p.length / 64)) => Sha.block h (Sha.chunk p x.1)) Sha.first) ∧ Dig.Arr W (w.heap.size + 1) 120 64 (fun j => Sha.U (Sha.K j)) ∧ W.heap[kv]? = some (.cells #[.pointer (some ⟨w.heap.size + 1, 0, none⟩)] 93 (0, 0)) ∧ W.heap[g]? = some (.cells cur 5 (0, 0)) ∧
        W.heap[sb]? = some (.cells #[.slice (some ⟨g, 0, none⟩) p.length cap] 36 (0, 0)) ∧ W.heap[sb + 1]? = some (.cells #[.int .i64 64] 3 (0, 0))) ∧ Below w.heap.size w W)
      (fun _ _ _ => False)
      (OwnFrom.and (Own.from (fun s A B row hs hg hr => ⟨Dig.blk_own hs.1 hg hr, Dig.blk_own hs.2.1 hg hr, Dig.blk_own hs.2.2.1 hg hr, Dig.blk_own hs.2.2.2.1 hg hr, Dig.blk_own hs.2.2.2.2.1 hg hr, Dig.blk_own hs.2.2.2.2.2 hg hr⟩) _) (ownFrom_below (Nat.le_refl _) HB4.out.size))
      (fun _ _ _ _ _ hs _ _ => hs)
      ⟨⟨HH4.out, HK4.out, HV4.out, HG4.out, HS4.out, HN4.out⟩, HB4.out⟩
      (fun x => { tmps := #[.slice A0 l0.length c0, undef, .string ⟨#[]⟩, .pointer (some ⟨w.heap.size, 0, none⟩), .pointer (some ⟨kv, 0, none⟩), .slice (some ⟨g, 64 * x.1, none⟩) 64 64, undef, undef, undef,
        .agg #[.int .u32 1779033703, .int .u32 3144134277, .int .u32 1013904242, .int .u32 2773480762, .int .u32 1359893119, .int .u32 2600822924, .int .u32 528734635, .int .u32 1541459225], .pointer (some ⟨w.heap.size + 1, 0, none⟩), .slice A0 l0.length c0, .slice (some ⟨g, 0, none⟩) p.length cap,
        .func (.func 88) #[] #[.pointer (some ⟨sb, 0, none⟩), .pointer (some ⟨sb + 1, 0, none⟩)], .slice (some ⟨g, 64 * x.1, none⟩) 64 64, undef, undef, undef, undef, undef, undef, undef, undef, undef, undef, undef, undef, undef, undef, undef, undef, undef, undef, undef, undef, undef, undef, undef, undef], defers := [] }) ?assign ?body ?done ?stop
    case assign =>
      intro l x W K hK
      gi_wp2
      exact hK
    case body =>
      rintro l pre x W ⟨⟨h1, h2, h3, h4, h5, h6⟩, hB⟩ _
      have hkc : W.cell? ⟨kv, 0, none⟩ = some (.pointer (some ⟨w.heap.size + 1, 0, none⟩)) := by simp [World.cell?, h3]
      have hcell : ∀ j, j < 64 → W.cell? ⟨g, 64 * x.1 + j, none⟩ = some (.int .u8 ((Sha.chunk p x.1).getD j 0)) := fun j hj => by
        rw [Sha.chunk_getD _ _ _ hj]
        simp only [World.cell?, h4]
        exact HCU.out _ (by have := x.2; omega)
      have hT := Dig.turn_calls w.heap.size (w.heap.size + 1) g (64 * x.1) 64 _ (Sha.chunk p x.1) W h1 h2 hcell (fun j => Sha.chunk_byte p HW.out.2.2.2 x.1 j)
      have HT := Aside0.mk hT
      have G1 := Aside0.mk h1
      have G2 := Aside0.mk h2
      have G3 := Aside0.mk h3
      have G4 := Aside0.mk h4
      have G5 := Aside0.mk h5
      have G6 := Aside0.mk h6
      have GB := Aside0.mk hB
      clear h1 h2 h3 h4 h5 h6 hB hT hcell
      gi_wp2_with (gi_at_call 68; refine (CallsIn.inRound l (callsIn_wide.2 HT.out)).mono ?_; rintro e w' ⟨rfl, hA, hgr⟩; have GA := Aside0.mk hA; have GG := Aside0.mk hgr; clear hA hgr)
      have hgr := GG.out
      refine ⟨KeepsOthers.of_grownBy hgr (fun j o e ho => by cases e; have := G1.out; unfold Dig.Arr8 at this; rw [this] at ho; cases ho; rfl), ⟨hgr.block _ (Array.getElem?_eq_some_iff.1 G5.out).1 (fun e => by have := HO4.out; cases e; omega), hgr.block _ (Array.getElem?_eq_some_iff.1 G6.out).1 (fun e => by have := HO4.out; injection e; omega)⟩, ⟨?_, ?_, ?_, ?_, ?_, ?_⟩, ?_⟩
      · rw [List.foldl_append]; exact GA.out
      · exact (hgr.block _ G2.out.lt (fun e => by injection e; omega)).trans G2.out
      · exact (hgr.block _ (Array.getElem?_eq_some_iff.1 G3.out).1 (fun e => by have := HL1.out; cases e; omega)).trans G3.out
      · exact (hgr.block _ (Array.getElem?_eq_some_iff.1 G4.out).1 (fun e => by have := HL1.out; have := HZ3.out.2.2; cases e; omega)).trans G4.out
      · exact (hgr.block _ (Array.getElem?_eq_some_iff.1 G5.out).1 (fun e => by have := HO4.out; cases e; omega)).trans G5.out
      · exact (hgr.block _ (Array.getElem?_eq_some_iff.1 G6.out).1 (fun e => by have := HO4.out; injection e; omega)).trans G6.out
      · exact GB.out.grown hgr GB.out.size (fun k e => by cases e; exact Nat.le_refl _)
    case done =>
      rintro D ys W hD rfl ⟨⟨h1, _, _, _, _, _⟩, hB⟩ hK
      rw [Dig.fold_range (p.length / 64) (fun h j => Sha.block h (Sha.chunk p j)) Sha.first] at h1
      have h1' : Dig.Arr8 W w.heap.size (Sha.digest8 p) := h1
      generalize hSS : Sha.digest8 p = S at h1' ⊢
      have HSS := Aside0.mk hSS
      clear hSS
      obtain ⟨d0, d1, d2, d3, d4, d5, d6, d7⟩ := h1'.cells
      have hinfo : (Try.prog.info? 5).map (fun i => (i.zero, i.size, i.bytes)) = some (some (.int .u8 0), 1, 1) := by kernel_rfl
      obtain ⟨i0, hi0, hzz⟩ := Option.map_eq_some_iff.1 hinfo
      simp only [Prod.mk.injEq] at hzz
      obtain ⟨hz0, hz1, hz2⟩ := hzz
      have HI := Aside0.mk hi0
      have HZ0 := Aside0.mk hz0
      have HZ1 := Aside0.mk hz1
      have HZ2 := Aside0.mk hz2
      clear hinfo hi0 hz0 hz1 hz2
      have HKD := Aside0.mk hK
      have HB5 := Aside0.mk hB
      have HLD : Aside0 (D < W.heap.size) := ⟨(Array.getElem?_eq_some_iff.1 hK).1⟩
      have HD5 : Aside0 (w.heap.size ≤ D) := ⟨Nat.le_trans HB4.out.size hD⟩
      clear h1 h1' hB hK hD
      gi_wp2
      gi_loopw [6, 19] (fun v i wr => ∃ q : Nat, q ≤ 8 ∧ i = .int .i64 q ∧ Aside0 (wr.ownsRow W.heap.size 5 1 v (4 * q) (nums .u8 (Sha.outUpTo S q))) ∧ Aside0 (Below w.heap.size w wr) ∧ Aside0 (W.heap.size ≤ wr.heap.size) ∧ Aside0 (wr.heap[D]? = some (.deferred (some [])))) (fun _ i _ => 8 - (intOf i).toNat)
      case atStart => exact ⟨0, by omega, rfl, ⟨World.ownsRow_nil _ _ _ _⟩, HB5, ⟨Nat.le_refl _⟩, HKD⟩
      case round =>
        obtain ⟨q, hk, rfl, HO, HB, HS, HK⟩ := hrel
        by_cases hlt : q < 8
        · have hidx : ∀ wx : World, (Instr.index 92 (.agg #[.int .u32 (Sha.U S.a), .int .u32 (Sha.U S.b), .int .u32 (Sha.U S.c), .int .u32 (Sha.U S.d), .int .u32 (Sha.U S.e), .int .u32 (Sha.U S.f), .int .u32 (Sha.U S.g), .int .u32 (Sha.U S.h)]) (.int .i64 (q : Int))).run Try.prog wx = .ok (.int .u32 (Sha.U (S.get q))) wx := by
            intro wx
            rcases q with _ | _ | _ | _ | _ | _ | _ | _ | q
            · kernel_rfl
            · kernel_rfl
            · kernel_rfl
            · kernel_rfl
            · kernel_rfl
            · kernel_rfl
            · kernel_rfl
            · kernel_rfl
            · omega
          generalize hX : S.get q = X at hidx
          have HX := Aside0.mk hX
          clear hX
          gi_wp2_with (gi_at_builtin; refine wpListIn_append_own _ rfl (.tmp 22) (.tmp 34) 36 rfl W.heap.size 5 i0 (.int .u8 0) 1 1 Try.underlying36 HI.out HZ0.out HZ1.out HZ2.out rfl (by decide) _ (4 * q) _ rfl (HO.out.alloc _) ⟨wr.heap.size, 0, none⟩ 4 4 [.int .u8 (Sha.U X / 16777216 % 256), .int .u8 (Sha.U X / 65536 % 256), .int .u8 (Sha.U X / 256 % 256), .int .u8 (Sha.U X % 256)] rfl rfl ?c1 ?c2 ?c3 ?c4 ?c5 ?_; (case c1 => exact World.news_of_block (cs := #[.int .u8 (Sha.U X / 16777216 % 256), .int .u8 (Sha.U X / 65536 % 256), .int .u8 (Sha.U X / 256 % 256), .int .u8 (Sha.U X % 256)]) (t := 5) (fr := (0, 0)) (heap_alloc_new wr _)); (case c2 => simp [Value.oneCell']); (case c3 => simp only [maxLen]; omega); (case c4 => omega); (case c5 => have := HS.out; simp; omega); intro v' w1 hown' hg _; have HO1 := Aside0.mk hown'; have HG1 := Aside0.mk hg; clear hown' hg)
          have hg := HG1.out
          have hS1 : W.heap.size ≤ (wr.alloc (.cells #[.int .u8 (Sha.U X / 16777216 % 256), .int .u8 (Sha.U X / 65536 % 256), .int .u8 (Sha.U X / 256 % 256), .int .u8 (Sha.U X % 256)] 5)).heap.size := by have := HS.out; simp; omega
          go_roundw
          case rel =>
            refine ⟨q + 1, by omega, by go_num, ⟨?_⟩, ⟨?_⟩, ⟨?_⟩, ⟨?_⟩⟩
            · have e : nums .u8 (Sha.outUpTo S (q + 1)) = nums .u8 (Sha.outUpTo S q) ++ [.int .u8 (Sha.U X / 16777216 % 256), .int .u8 (Sha.U X / 65536 % 256), .int .u8 (Sha.U X / 256 % 256), .int .u8 (Sha.U X % 256)] := by
                unfold Sha.outUpTo
                rw [List.range_succ, List.flatMap_append, nums_append]
                congr 1
                simp [Sha.bytes4, nums, HX.out]
              rw [e]
              exact HO1.out
            · exact (HB.out.alloc HB.out.size _).grown hg (by have := HB5.out.size; omega) (fun j ej => Nat.le_trans HB5.out.size (own_base HO.out j ej))
            · exact Nat.le_trans hS1 hg.size
            · refine (hg.block D (Nat.lt_of_lt_of_le HLD.out hS1) (fun ej => ?_)).trans ((Below.heap_alloc wr _ D (Nat.lt_of_lt_of_le HLD.out HS.out)).trans HK.out)
              have := own_base HO.out D ej.symm
              have := HLD.out
              omega
          case measure => simp [intOf]; omega
        · obtain rfl : q = 8 := by omega
          have hcv := own_string (P := Try.prog) (w := wr) (src := 36) (dst := 9) (e := 5) Try.underlying36 Try.underlying5 Try.underlying9 HO.out
          gi_wp2
          refine ⟨by simp, .inl ⟨_, _, rfl, run_takeDeferred HK.out, ?_⟩⟩
          refine ⟨_, results_tmp rfl _ _ _, by rw [HSS.out]; rfl, ?_⟩
          exact HB.out.grown (grownBy_putObj' _ D (.deferred none)) HB.out.size (fun j ej => by cases ej; exact HD5.out)
    case stop =>
      rintro D c pre W _ _ h _
      exact h.elim
  · rw [if_neg hw] at h
    cases h
end Go.Proofs.Ytlekeiokdmnboaa.Pa
end

section
namespace Go.Proofs.Ytlekeiokdmnboaa.Pa
open Go.RowKit Go.Proofs.YtlekeiokdmnboaaW.PrintWords Go.Proofs.YtlekeiokdmnboaaW.PrintLast Go.Proofs.YtlekeiokdmnboaaW.PrintMore Go.Proofs.Ytlekeiokdmnboaa.M
attribute [local go_sem] max2_int min2_int max_two min_two max_three min_three max_four min_four   -- for this text's walks alone
set_option linter.unusedVariables false
set_option maxHeartbeats 8000000
set_option maxRecDepth 100000
set_option linter.unusedSimpArgs false

/-! ### spec_PutTexts: function 62 -/
def spec_PutTexts.l0 : Nat → List ByteArray → List Int → Int → Option (List Int)
  | 0, _, _, _ => none
  | k + 1, x1, x5, x6 => if x6 < (x1.length : Int) then (if 0 ≤ x6 then ((spec_PutText.f k x5 (rdOf ByteArray.empty x1 x6)).bind fun t229 => (spec_PutTexts.l0 k x1 t229 (wrap64 (x6 + 1)))) else (none)) else (some x5)
def spec_PutTexts.f (k : Nat) (l0 : List Int) (l1 : List ByteArray) : Option (List Int) := (spec_PutNum.f k l0 (l1.length : Int)).bind fun t225 => (spec_PutTexts.l0 k l1 t225 0)
theorem spec_PutTexts.mono_l : ∀ k, (∀ y0 y1 y2, LeO (spec_PutTexts.l0 k y0 y1 y2) (spec_PutTexts.l0 (k + 1) y0 y1 y2))
  | 0 => fun _ _ _ r h => by simp [spec_PutTexts.l0] at h
  | k + 1 => by
    have ih0 := spec_PutTexts.mono_l k
    · intro y0 y1 y2
      unfold spec_PutTexts.l0
      have m0 := @spec_PutNum.mono
      have m1 := @spec_PutText.mono
      exact me
theorem spec_PutTexts.mono : ∀ a0 a1 k, LeO (spec_PutTexts.f k a0 a1) (spec_PutTexts.f (k + 1) a0 a1) := by
  intro a0 a1 k
  have ih0 := spec_PutTexts.mono_l k
  unfold spec_PutTexts.f
  have m0 := @spec_PutNum.mono
  have m1 := @spec_PutText.mono
  exact me
theorem spec_PutTexts.calls (k : Nat) (A0 : Option Addr) (c0 : Nat) (l0 : List Int) (A1 : Option Addr) (c1 : Nat) (l1 : List ByteArray) (r : List Int) (w : World) (hr0 : Kd.C (Kd.int .u8) w A0 l0.length l0) (hc0 : l0.length ≤ c0) (hr1 : Kd.C Kd.string w A1 l1.length l1) (hc1 : l1.length ≤ c1) (h : spec_PutTexts.f k l0 l1 = some r) :
    Calls Try.prog 62 #[.slice A0 l0.length c0, .slice A1 l1.length c1] w fun e w' => ∃ v0_ : Value, e = .returned (v0_) ∧ Kd.R (Kd.int .u8) 5 w' w.heap.size (fun _ => True) v0_ r ∧ Below w.heap.size w w' := by
 have HR0 := mk0 hr0
 have HC0 := mk0 hc0
 clear hr0 hc0
 have HR1 := mk0 hr1
 have HC1 := mk0 hc1
 clear hr1 hc1
 have HB := mk0 (Below.refl w.heap.size w)
 have H : ((spec_PutNum.f k l0 (l1.length : Int)).bind fun t225 => (spec_PutTexts.l0 k l1 t225 0)) = some r := h
 clear h
 replace H := bd H; obtain ⟨t225, A3, H⟩ := H
 have H' := mk0 H
 clear H
 go_enter Try.func62, Try.ntmps62
 go_wp2_with (first | ((with_reducible refine gC 64 (some 10) rfl rfl ?_); refine gR (some 10) Try.func64 #[.slice A0 l0.length c0, .int .i64 (l1.length : Int)] (spec_PutNum.calls k _ _ l0 (l1.length : Int) t225 _ (cc HR0.out) HC0.out A3.out) ?_; intro v226 w4 ho0 hb; have HO227 := mk0 (Kd.R_lower ho0 bs); replace HB := mk0 (below_step bw hb); clear hb ho0))
 go_loopg [5, 6] k (fun kq v5 v6 w' => ∃ (x5_1 : List Int) (x6_1 : Int), v6 = .int .i64 x6_1 ∧ Aside0 (spec_PutTexts.l0 kq l1 x5_1 x6_1 = some r) ∧ Aside0 (kq ≤ k) ∧ Aside0 (Kd.R (Kd.int .u8) 5 w' w.heap.size (fun _ => True) v5 x5_1) ∧ Aside0 (Below w.heap.size w w'))
 case atStart => exact ⟨(t225), (0), sv, H', nl, ⟨rr HO227.out⟩, ⟨bw⟩⟩
 case round =>
  clear H'
  obtain ⟨x5_1, x6_1, rfl, HA, HK1, HO_5, HB⟩ := hrel
  rcases gk with _ | k1
  · exact absurd HA.out (by simp [spec_PutTexts.l0])
  have H := HA.out
  clear HA
  simp only [spec_PutTexts.l0] at H
  replace H := idd H; rcases H with ⟨c5b0, H⟩ | ⟨c5b0, H⟩
  · replace H := gd H; obtain ⟨c6b0, H⟩ := H
    replace H := bd H; obtain ⟨t229, A7, H⟩ := H
    have H' := mk0 H
    clear H
    have p228 : 0 ≤ (x6_1 : Int) := oa
    have q228 : x6_1 < (l1.length : Int) := oa
    obtain ⟨ad228, e228, hx228_0⟩ := Kd.at_string HR1.out x6_1 p228 q228
    cases e228
    replace hx228_0 := hc HB hx228_0
    replace p228 := eq_true p228
    replace q228 := eq_true q228
    obtain ⟨Ao8, co8, eo8⟩ := Kd.R_slice HO_5.out
    subst eo8
    go_wp2_with (first | ((with_reducible refine gC 63 (some 22) rfl rfl ?_); refine gR (some 22) Try.func63 #[.slice Ao8 x5_1.length co8, .string (rdOf ByteArray.empty l1 x6_1)] (spec_PutText.calls k1 _ _ x5_1 (rdOf ByteArray.empty l1 x6_1) t229 _ (cc ((Kd.R_reads' HO_5.out).2.2)) ((Kd.R_reads' HO_5.out).2.1) A7.out) ?_; intro v230 w9 ho0 hb; have HO231 := mk0 (Kd.R_lower (Kd.R_new' ho0 (Kd.R_lt (rr HO_5.out))) bs); replace HO_5 := mk0 (Kd.R_elder' (rr HO_5.out) (Kd.R_base ho0) hb); replace HB := mk0 (below_step bw hb); clear hb ho0))
    go_roundg k1
    case measure => have := HK1.out; omega
    case rel => exact ⟨(t229), (wrap64 (x6_1 + 1)), sv, H', hk1, ⟨by (with_reducible repeat (first | apply Kd.R_alloc | apply Kd.R_drewN | apply Kd.R_drew)); exact Kd.R_mono HO231.out (fun _ hk => trivial)⟩, ⟨bw⟩⟩
  · obtain rfl := Option.some.inj H
    go_wp2
    go_ret
    exact ⟨_, sw, rr HO_5.out, bw⟩
/-! ### spec_l15Super: function 36 -/
def spec_l15Super.f (k : Nat) (a0 : Int) (a1 : ByteArray) (l2 : List ByteArray) : Option (List Int) := (spec_PutNum.f k (([3] : List Int)) a0).bind fun t235 => ((spec_PutText.f k t235 a1).bind fun t238 => ((spec_PutTexts.f k t238 l2).bind fun t241 => (some t241)))
theorem spec_l15Super.mono : ∀ a0 a1 a2 k, LeO (spec_l15Super.f k a0 a1 a2) (spec_l15Super.f (k + 1) a0 a1 a2) := by
  intro a0 a1 a2 k
  unfold spec_l15Super.f
  have m0 := @spec_PutNum.mono
  have m1 := @spec_PutText.mono
  have m2 := @spec_PutTexts.mono
  exact me
theorem spec_l15Super.calls (k : Nat) (a0 : Int) (a1 : ByteArray) (A2 : Option Addr) (c2 : Nat) (l2 : List ByteArray) (r : List Int) (w : World) (hr2 : Kd.C Kd.string w A2 l2.length l2) (hc2 : l2.length ≤ c2) (h : spec_l15Super.f k a0 a1 l2 = some r) :
    Calls Try.prog 36 #[.int .i64 a0, .string a1, .slice A2 l2.length c2] w fun e w' => ∃ v0_ : Value, e = .returned (v0_) ∧ Kd.R (Kd.int .u8) 5 w' w.heap.size (fun _ => True) v0_ r ∧ Below w.heap.size w w' := by
 have HR2 := mk0 hr2
 have HC2 := mk0 hc2
 clear hr2 hc2
 have HB := mk0 (Below.refl w.heap.size w)
 have H : ((spec_PutNum.f k (([3] : List Int)) a0).bind fun t235 => ((spec_PutText.f k t235 a1).bind fun t238 => ((spec_PutTexts.f k t238 l2).bind fun t241 => (some t241)))) = some r := h
 clear h
 obtain ⟨y232, Ny232⟩ := nm (([3] : List Int))
 rw [← Ny232.out] at H
 replace H := bd H; obtain ⟨t235, A4, H⟩ := H
 replace H := bd H; obtain ⟨t238, A5, H⟩ := H
 replace H := bd H; obtain ⟨t241, A6, H⟩ := H
 obtain rfl := Option.some.inj H
 go_enter Try.func36, Try.ntmps36
 go_wp2_with (first | ((with_reducible refine gD 7 rfl ?_); refine lt (Kd.int .u8) 5 7 ([3] : List Int) [.int .u8 3] ?_; intro v233 w7 ho8 hb hg_ hnew_; clear hg_ hnew_; (first | rw [← Ny232.out] at ho8 | (simp only [Int.reduceToNat] at ho8; rw [← Ny232.out] at ho8)); have HO234 := mk0 (Kd.R_lower ho8 bs); replace HB := mk0 (below_step bw hb); clear hb ho8; obtain ⟨Ao9, co9, eo9⟩ := Kd.R_slice HO234.out; subst eo9) | ((with_reducible refine gC 64 (some 9) rfl rfl ?_); refine gR (some 9) Try.func64 #[.slice Ao9 y232.length co9, .int .i64 a0] (spec_PutNum.calls k _ _ y232 a0 t235 _ (cc ((Kd.R_reads' HO234.out).2.2)) ((Kd.R_reads' HO234.out).2.1) A4.out) ?_; intro v236 w10 ho0 hb; have HO237 := mk0 (Kd.R_lower (Kd.R_new' ho0 (Kd.R_lt (rr HO234.out))) bs); replace HO234 := mk0 (Kd.R_elder' (rr HO234.out) (Kd.R_base ho0) hb); replace HB := mk0 (below_step bw hb); clear hb ho0; obtain ⟨Ao11, co11, eo11⟩ := Kd.R_slice HO237.out; subst eo11) | ((with_reducible refine gC 63 (some 11) rfl rfl ?_); refine gR (some 11) Try.func63 #[.slice Ao11 t235.length co11, .string a1] (spec_PutText.calls k _ _ t235 a1 t238 _ (cc ((Kd.R_reads' HO237.out).2.2)) ((Kd.R_reads' HO237.out).2.1) A5.out) ?_; intro v239 w12 ho0 hb; have HO240 := mk0 (Kd.R_lower (Kd.R_new' (Kd.R_new' ho0 (Kd.R_lt (rr HO234.out))) (Kd.R_lt (rr HO237.out))) bs); replace HO234 := mk0 (Kd.R_elder' (rr HO234.out) (Kd.R_base ho0) hb); replace HO237 := mk0 (Kd.R_elder' (rr HO237.out) (Kd.R_base ho0) hb); replace HB := mk0 (below_step bw hb); clear hb ho0; obtain ⟨Ao13, co13, eo13⟩ := Kd.R_slice HO240.out; subst eo13) | ((with_reducible refine gC 62 (some 13) rfl rfl ?_); refine gR (some 13) Try.func62 #[.slice Ao13 t238.length co13, .slice A2 l2.length c2] (spec_PutTexts.calls k _ _ t238 _ _ l2 t241 _ (cc ((Kd.R_reads' HO240.out).2.2)) ((Kd.R_reads' HO240.out).2.1) (cc (Kd.C_below HR2.out HB.out)) HC2.out A6.out) ?_; intro v242 w14 ho0 hb; have HO243 := mk0 (Kd.R_lower (Kd.R_new' (Kd.R_new' (Kd.R_new' ho0 (Kd.R_lt (rr HO234.out))) (Kd.R_lt (rr HO237.out))) (Kd.R_lt (rr HO240.out))) bs); replace HO234 := mk0 (Kd.R_elder' (rr HO234.out) (Kd.R_base ho0) hb); replace HO237 := mk0 (Kd.R_elder' (rr HO237.out) (Kd.R_base ho0) hb); replace HO240 := mk0 (Kd.R_elder' (rr HO240.out) (Kd.R_base ho0) hb); replace HB := mk0 (below_step bw hb); clear hb ho0))
 go_ret
 exact ⟨_, sw, by (with_reducible repeat (first | apply Kd.R_alloc | apply Kd.R_drewN | apply Kd.R_drew)); exact Kd.R_mono HO243.out (fun _ hk => trivial), bw⟩
/-! ### spec_SuperOf: function 9 -/
def spec_SuperOf.f (k : Nat) (a0 : Int) (a1 : ByteArray) (l2 : List ByteArray) : Option (ByteArray) := (spec_l15Super.f k a0 a1 l2).bind fun t244 => ((spec_Digest.f k t244).bind fun t247 => (some t247))
theorem spec_SuperOf.mono : ∀ a0 a1 a2 k, LeO (spec_SuperOf.f k a0 a1 a2) (spec_SuperOf.f (k + 1) a0 a1 a2) := by
  intro a0 a1 a2 k
  unfold spec_SuperOf.f
  have m0 := @spec_Digest.mono
  have m1 := @spec_l15Super.mono
  exact me
theorem spec_SuperOf.calls (k : Nat) (a0 : Int) (a1 : ByteArray) (A2 : Option Addr) (c2 : Nat) (l2 : List ByteArray) (r : ByteArray) (w : World) (hr2 : Kd.C Kd.string w A2 l2.length l2) (hc2 : l2.length ≤ c2) (h : spec_SuperOf.f k a0 a1 l2 = some r) :
    Calls Try.prog 9 #[.int .i64 a0, .string a1, .slice A2 l2.length c2] w fun e w' => e = .returned (.string r) ∧ Below w.heap.size w w' := by
 have HR2 := mk0 hr2
 have HC2 := mk0 hc2
 clear hr2 hc2
 have HB := mk0 (Below.refl w.heap.size w)
 have H : ((spec_l15Super.f k a0 a1 l2).bind fun t244 => ((spec_Digest.f k t244).bind fun t247 => (some t247))) = some r := h
 clear h
 replace H := bd H; obtain ⟨t244, A4, H⟩ := H
 replace H := bd H; obtain ⟨t247, A5, H⟩ := H
 obtain rfl := Option.some.inj H
 go_enter Try.func9, Try.ntmps9
 go_wp2_with (first | ((with_reducible refine gC 36 (some 10) rfl rfl ?_); refine gR (some 10) Try.func36 #[.int .i64 a0, .string a1, .slice A2 l2.length c2] (spec_l15Super.calls k a0 a1 _ _ l2 t244 _ (cc HR2.out) HC2.out A4.out) ?_; intro v245 w6 ho0 hb; have HO246 := mk0 (Kd.R_lower ho0 bs); replace HB := mk0 (below_step bw hb); clear hb ho0; obtain ⟨Ao7, co7, eo7⟩ := Kd.R_slice HO246.out; subst eo7) | ((with_reducible refine gC 35 (some 11) rfl rfl ?_); refine gB (some 11) Try.func35 #[.slice Ao7 t244.length co7] (spec_Digest.calls k _ _ t244 t247 _ (cc ((Kd.R_reads' HO246.out).2.2)) ((Kd.R_reads' HO246.out).2.1) A5.out) ?_; intro w8 hb; replace HO246 := mk0 (Kd.R_below (rr HO246.out) hb); replace HB := mk0 (below_step bw hb); clear hb))
 go_ret
 exact ⟨sw, bw⟩
/-! ### impl_putTexts: function 38 -/
def impl_putTexts.l0 : Nat → List Int → List ByteArray → Int → Int → Option (List Int)
  | 0, _, _, _, _ => none
  | k + 1, x0, x11, x12, x13 => if x13 < x12 then (if 0 ≤ x13 then (if x13 < (x11.length : Int) then ((impl_putText.f k x0 (rdOf ByteArray.empty x11 x13)).bind fun t281 => (impl_putTexts.l0 k t281 x11 x12 (wrap64 (x13 + 1)))) else (none)) else (none)) else (some x0)
def impl_putTexts.f (k : Nat) (l0 : List Int) (l1 : List ByteArray) : Option (List Int) := (impl_putNum.f k l0 (l1.length : Int)).bind fun t277 => (impl_putTexts.l0 k t277 l1 (l1.length : Int) 0)
theorem impl_putTexts.mono_l : ∀ k, (∀ y0 y1 y2 y3, LeO (impl_putTexts.l0 k y0 y1 y2 y3) (impl_putTexts.l0 (k + 1) y0 y1 y2 y3))
  | 0 => fun _ _ _ _ r h => by simp [impl_putTexts.l0] at h
  | k + 1 => by
    have ih0 := impl_putTexts.mono_l k
    · intro y0 y1 y2 y3
      unfold impl_putTexts.l0
      have m0 := @impl_putNum.mono
      have m1 := @impl_putText.mono
      exact me
theorem impl_putTexts.mono : ∀ a0 a1 k, LeO (impl_putTexts.f k a0 a1) (impl_putTexts.f (k + 1) a0 a1) := by
  intro a0 a1 k
  have ih0 := impl_putTexts.mono_l k
  unfold impl_putTexts.f
  have m0 := @impl_putNum.mono
  have m1 := @impl_putText.mono
  exact me
theorem impl_putTexts.calls (k : Nat) (P0_ : Nat → Prop) (u9000_ : Value) (l0 : List Int) (A1 : Option Addr) (c1 : Nat) (l1 : List ByteArray) (r : List Int) (w0 w : World) (hB : Below w0.heap.size w0 w) (ho0 : Kd.R (Kd.int .u8) 5 w w0.heap.size P0_ u9000_ l0) (hr1 : ∀ W_, Kept w W_ (fun k_ => P0_ k_) → Kd.C Kd.string W_ A1 l1.length l1) (hc1 : l1.length ≤ c1) (h : impl_putTexts.f k l0 l1 = some r) :
    Calls Try.prog 38 #[u9000_, .slice A1 l1.length c1] w fun e w' => ∃ v0_ : Value, e = .returned (v0_) ∧ Kd.R (Kd.int .u8) 5 w' w0.heap.size (fun k_ => (P0_ k_ ∨ w.heap.size ≤ k_)) v0_ r ∧ Below w0.heap.size w0 w' ∧ Kept w w' (fun k_ => P0_ k_) := by
 have HO0 := mk0 (show Kd.R (Kd.int .u8) 5 w w0.heap.size (fun k_ => (P0_ k_ ∨ w.heap.size ≤ k_)) u9000_ l0 from Kd.R_mono ho0 (fun k_ hk => (.inl hk)))
 have HR1 := mk0 hr1
 have HC1 := mk0 hc1
 clear hr1 hc1
 have HK := mk0 (Kept.refl w (fun k_ => P0_ k_))
 have HW0 := mk0 hB.size
 have HB := mk0 hB
 clear hB
 have H : ((impl_putNum.f k l0 (l1.length : Int)).bind fun t277 => (impl_putTexts.l0 k t277 l1 (l1.length : Int) 0)) = some r := h
 clear h
 replace H := bd H; obtain ⟨t277, A3, H⟩ := H
 have H' := mk0 H
 clear H
 obtain ⟨Ao4, co4, eo4⟩ := Kd.R_slice HO0.out
 subst eo4
 go_enter Try.func38, Try.ntmps38
 go_wp2_with (first | ((with_reducible refine gC 40 (some 10) rfl rfl ?_); refine gK (some 10) Try.func40 #[.slice Ao4 l0.length co4, .int .i64 (l1.length : Int)] (impl_putNum.calls k (fun k_ => some k_ = (.slice Ao4 l0.length co4 : Value).ownBlock) (.slice Ao4 l0.length co4) l0 (l1.length : Int) t277 w0 _ bw (Kd.R_tight rfl HO0.out) A3.out) ?_; intro v278 w5 ho0 hb hkp; have HO279 := mk0 (Kd.R_mono (ok' := fun k_ => (P0_ k_ ∨ w.heap.size ≤ k_)) ho0 (fun k_ hk_ => Or.elim hk_ (fun hs_ => (HO0.out.1 k_ (hs_).symm)) (fun hn_ => (.inr (Nat.le_trans (by first | exact HK.out.1 | exact (show Kept w _ (fun k_ => P0_ k_) from kw).1) hn_))))); replace HK := mk0 (Kept.then_ (S := (fun k_ => P0_ k_)) kw hkp (fun k_ hs_ => (fun e_ => (HO0.out.1 k_ e_.symm)) hs_)); replace HB := mk0 (hb); clear HO0; clear hb hkp ho0))
 go_loopg [0, 13] k (fun kq v0 v13 w' => ∃ (x0_1 : List Int) (x13_1 : Int), v13 = .int .i64 x13_1 ∧ Aside0 (impl_putTexts.l0 kq x0_1 l1 (l1.length : Int) x13_1 = some r) ∧ Aside0 (kq ≤ k) ∧ Aside0 (Kd.R (Kd.int .u8) 5 w' w0.heap.size (fun k_ => (P0_ k_ ∨ w.heap.size ≤ k_)) v0 x0_1) ∧ Aside0 (Kept w w' (fun k_ => P0_ k_)) ∧ Aside0 (Below w0.heap.size w0 w'))
 case atStart => exact ⟨(t277), (0), sv, H', nl, ⟨rr HO279.out⟩, ⟨kw⟩, ⟨bw⟩⟩
 case round =>
  clear H'
  obtain ⟨x0_1, x13_1, rfl, HA, HK1, HO_0, HK, HB⟩ := hrel
  rcases gk with _ | k1
  · exact absurd HA.out (by simp [impl_putTexts.l0])
  have H := HA.out
  clear HA
  simp only [impl_putTexts.l0] at H
  replace H := idd H; rcases H with ⟨c6b0, H⟩ | ⟨c6b0, H⟩
  · replace H := gd H; obtain ⟨c7b0, H⟩ := H
    replace H := gd H; obtain ⟨c8b0, H⟩ := H
    replace H := bd H; obtain ⟨t281, A9, H⟩ := H
    have H' := mk0 H
    clear H
    have p280 : 0 ≤ (x13_1 : Int) := oa
    have q280 : x13_1 < (l1.length : Int) := oa
    obtain ⟨ad280, e280, hx280_0⟩ := Kd.at_string (Kd.C_kept_now HR1.out HK.out) x13_1 p280 q280
    cases e280
    replace p280 := eq_true p280
    replace q280 := eq_true q280
    obtain ⟨Ao10, co10, eo10⟩ := Kd.R_slice HO_0.out
    subst eo10
    go_wp2_with (first | ((with_reducible refine gC 39 (some 19) rfl rfl ?_); refine gK (some 19) Try.func39 #[.slice Ao10 x0_1.length co10, .string (rdOf ByteArray.empty l1 x13_1)] (impl_putText.calls k1 (fun k_ => some k_ = (.slice Ao10 x0_1.length co10 : Value).ownBlock) (.slice Ao10 x0_1.length co10) x0_1 (rdOf ByteArray.empty l1 x13_1) t281 w0 _ bw (Kd.R_tight rfl HO_0.out) A9.out) ?_; intro v282 w11 ho0 hb hkp; have HO283 := mk0 (Kd.R_mono (ok' := fun k_ => (P0_ k_ ∨ w.heap.size ≤ k_)) ho0 (fun k_ hk_ => Or.elim hk_ (fun hs_ => (HO_0.out.1 k_ (hs_).symm)) (fun hn_ => (.inr (Nat.le_trans (by first | exact HK.out.1 | exact (show Kept w _ (fun k_ => P0_ k_) from kw).1) hn_))))); replace HK := mk0 (Kept.then_ (S := (fun k_ => P0_ k_)) kw hkp (fun k_ hs_ => (fun e_ => (HO_0.out.1 k_ e_.symm)) hs_)); replace HB := mk0 (hb); clear HO_0; clear hb hkp ho0))
    go_roundg k1
    case measure => have := HK1.out; omega
    case rel => exact ⟨(t281), (wrap64 (x13_1 + 1)), sv, H', hk1, ⟨rr HO283.out⟩, ⟨kw⟩, ⟨bw⟩⟩
  · obtain rfl := Option.some.inj H
    go_wp2
    go_ret
    exact ⟨_, sw, rr HO_0.out, bw, kw⟩
/-! ### impl_SuperOf: function 11 -/
def impl_SuperOf.f (k : Nat) (a0 : Int) (a1 : ByteArray) (l2 : List ByteArray) : Option (ByteArray) := (impl_putNum.f k (([3] : List Int)) a0).bind fun t287 => ((impl_putText.f k t287 a1).bind fun t290 => ((impl_putTexts.f k t290 l2).bind fun t293 => ((impl_Digest.f k t293).bind fun t296 => (some t296))))
theorem impl_SuperOf.mono : ∀ a0 a1 a2 k, LeO (impl_SuperOf.f k a0 a1 a2) (impl_SuperOf.f (k + 1) a0 a1 a2) := by
  intro a0 a1 a2 k
  unfold impl_SuperOf.f
  have m0 := @impl_Digest.mono
  have m1 := @impl_putNum.mono
  have m2 := @impl_putText.mono
  have m3 := @impl_putTexts.mono
  exact me
theorem impl_SuperOf.calls (k : Nat) (a0 : Int) (a1 : ByteArray) (A2 : Option Addr) (c2 : Nat) (l2 : List ByteArray) (r : ByteArray) (w : World) (hr2 : Kd.C Kd.string w A2 l2.length l2) (hc2 : l2.length ≤ c2) (h : impl_SuperOf.f k a0 a1 l2 = some r) :
    Calls Try.prog 11 #[.int .i64 a0, .string a1, .slice A2 l2.length c2] w fun e w' => e = .returned (.string r) ∧ Below w.heap.size w w' := by
 have HR2 := mk0 hr2
 have HC2 := mk0 hc2
 clear hr2 hc2
 have HB := mk0 (Below.refl w.heap.size w)
 have H : ((impl_putNum.f k (([3] : List Int)) a0).bind fun t287 => ((impl_putText.f k t287 a1).bind fun t290 => ((impl_putTexts.f k t290 l2).bind fun t293 => ((impl_Digest.f k t293).bind fun t296 => (some t296))))) = some r := h
 clear h
 obtain ⟨y284, Ny284⟩ := nm (([3] : List Int))
 rw [← Ny284.out] at H
 replace H := bd H; obtain ⟨t287, A4, H⟩ := H
 replace H := bd H; obtain ⟨t290, A5, H⟩ := H
 replace H := bd H; obtain ⟨t293, A6, H⟩ := H
 replace H := bd H; obtain ⟨t296, A7, H⟩ := H
 obtain rfl := Option.some.inj H
 go_enter Try.func11, Try.ntmps11
 go_wp2_with (first | ((with_reducible refine gD 7 rfl ?_); refine lt (Kd.int .u8) 5 7 ([3] : List Int) [.int .u8 3] ?_; intro v285 w8 ho9 hb hg_ hnew_; clear hg_ hnew_; (first | rw [← Ny284.out] at ho9 | (simp only [Int.reduceToNat] at ho9; rw [← Ny284.out] at ho9)); have HO286 := mk0 (Kd.R_lower ho9 bs); replace HB := mk0 (below_step bw hb); clear hb ho9; obtain ⟨Ao10, co10, eo10⟩ := Kd.R_slice HO286.out; subst eo10) | ((with_reducible refine gC 40 (some 9) rfl rfl ?_); refine gK (some 9) Try.func40 #[.slice Ao10 y284.length co10, .int .i64 a0] (impl_putNum.calls k (fun k_ => some k_ = (.slice Ao10 y284.length co10 : Value).ownBlock) (.slice Ao10 y284.length co10) y284 a0 t287 w _ bw (Kd.R_tight rfl HO286.out) A4.out) ?_; intro v288 w11 ho0 hb hkp; have HO289 := mk0 (Kd.R_mono (ok' := fun k_ => True) ho0 (fun k_ hk_ => trivial)); replace HB := mk0 (hb); clear HO286; clear hb hkp ho0; obtain ⟨Ao12, co12, eo12⟩ := Kd.R_slice HO289.out; subst eo12) | ((with_reducible refine gC 39 (some 11) rfl rfl ?_); refine gK (some 11) Try.func39 #[.slice Ao12 t287.length co12, .string a1] (impl_putText.calls k (fun k_ => some k_ = (.slice Ao12 t287.length co12 : Value).ownBlock) (.slice Ao12 t287.length co12) t287 a1 t290 w _ bw (Kd.R_tight rfl HO289.out) A5.out) ?_; intro v291 w13 ho0 hb hkp; have HO292 := mk0 (Kd.R_mono (ok' := fun k_ => True) ho0 (fun k_ hk_ => trivial)); replace HB := mk0 (hb); clear HO289; clear hb hkp ho0; obtain ⟨Ao14, co14, eo14⟩ := Kd.R_slice HO292.out; subst eo14) | ((with_reducible refine gC 38 (some 13) rfl rfl ?_); refine gK (some 13) Try.func38 #[.slice Ao14 t290.length co14, .slice A2 l2.length c2] (impl_putTexts.calls k (fun k_ => some k_ = (.slice Ao14 t290.length co14 : Value).ownBlock) (.slice Ao14 t290.length co14) t290 _ _ l2 t293 w _ bw (Kd.R_tight rfl HO292.out) (Kd.C_kept_came Kd.heap_string HR2.out bw (fun k_ hs_ => (fun e_ => Kd.R_base HO292.out k_ e_.symm) hs_)) HC2.out A6.out) ?_; intro v294 w15 ho0 hb hkp; have HO295 := mk0 (Kd.R_mono (ok' := fun k_ => True) ho0 (fun k_ hk_ => trivial)); replace HB := mk0 (hb); clear HO292; clear hb hkp ho0; obtain ⟨Ao16, co16, eo16⟩ := Kd.R_slice HO295.out; subst eo16) | ((with_reducible refine gC 37 (some 14) rfl rfl ?_); refine gB (some 14) Try.func37 #[.slice Ao16 t293.length co16] (impl_Digest.calls k _ _ t293 t296 _ (cc ((Kd.R_reads' HO295.out).2.2)) ((Kd.R_reads' HO295.out).2.1) A7.out) ?_; intro w17 hb; replace HO295 := mk0 (Kd.R_below (rr HO295.out) hb); replace HB := mk0 (below_step bw hb); clear hb))
 go_ret
 exact ⟨sw, bw⟩
end Go.Proofs.Ytlekeiokdmnboaa.Pa
end

section
namespace Go.Proofs.Ytlekeiokdmnboaa.Pa
open Go.RowKit Go.Proofs.YtlekeiokdmnboaaW.PrintWords Go.Proofs.YtlekeiokdmnboaaW.PrintLast Go.Proofs.YtlekeiokdmnboaaW.PrintMore Go.Proofs.Ytlekeiokdmnboaa.M
attribute [local go_sem] max2_int min2_int max_two min_two max_three min_three max_four min_four   -- for this text's walks alone
set_option linter.unusedVariables false
set_option maxHeartbeats 8000000
set_option maxRecDepth 100000
set_option linter.unusedSimpArgs false

/-! ### spec_l1In: function 41 -/
def spec_l1In.f (a0 : Int) (a1 : Int) (a2 : Int) : Option (Bool) := if a0 ≥ a1 then (some (decide (a0 ≤ a2))) else (some false)
theorem spec_l1In.calls (a0 : Int) (a1 : Int) (a2 : Int) (r : Bool) (w : World) (h : spec_l1In.f a0 a1 a2 = some r) :
    Calls Try.prog 41 #[.int .i64 a0, .int .i64 a1, .int .i64 a2] w fun e w' => e = .returned (.bool r) ∧ Drawn0 w w' := by
 have H : (if a0 ≥ a1 then (some (decide (a0 ≤ a2))) else (some false)) = some r := h
 clear h
 replace H := ip H; rcases H with ⟨c4, H⟩ | ⟨c4, H⟩
 · have c4b0 : decide (a1 ≤ a0) = true := decide_eq_true c4
   clear c4
   obtain rfl := Option.some.inj H
   go_enter Try.func41, Try.ntmps41
   go_wp2
   go_ret
   exact ⟨sv, by repeat (first | exact Drawn0.refl _ | apply Drawn0.step)⟩
 · have c4b0 : decide (a1 ≤ a0) = false := decide_eq_false c4
   clear c4
   obtain rfl := Option.some.inj H
   go_enter Try.func41, Try.ntmps41
   go_wp2
   go_ret
   exact ⟨sv, by repeat (first | exact Drawn0.refl _ | apply Drawn0.step)⟩
/-! ### impl_inRange: function 42 -/
def impl_inRange.f (a0 : Int) (a1 : Int) (a2 : Int) : Option (Bool) := if a0 ≥ a1 then (some (decide (a0 ≤ a2))) else (some false)
theorem impl_inRange.calls (a0 : Int) (a1 : Int) (a2 : Int) (r : Bool) (w : World) (h : impl_inRange.f a0 a1 a2 = some r) :
    Calls Try.prog 42 #[.int .i64 a0, .int .i64 a1, .int .i64 a2] w fun e w' => e = .returned (.bool r) ∧ Drawn0 w w' := by
 have H : (if a0 ≥ a1 then (some (decide (a0 ≤ a2))) else (some false)) = some r := h
 clear h
 replace H := ip H; rcases H with ⟨c4, H⟩ | ⟨c4, H⟩
 · have c4b0 : decide (a1 ≤ a0) = true := decide_eq_true c4
   clear c4
   obtain rfl := Option.some.inj H
   go_enter Try.func42, Try.ntmps42
   go_wp2
   go_ret
   exact ⟨sv, by repeat (first | exact Drawn0.refl _ | apply Drawn0.step)⟩
 · have c4b0 : decide (a1 ≤ a0) = false := decide_eq_false c4
   clear c4
   obtain rfl := Option.some.inj H
   go_enter Try.func42, Try.ntmps42
   go_wp2
   go_ret
   exact ⟨sv, by repeat (first | exact Drawn0.refl _ | apply Drawn0.step)⟩
end Go.Proofs.Ytlekeiokdmnboaa.Pa
end

section
namespace Go.Proofs.Ytlekeiokdmnboaa.Pa
open Go.RowKit Go.Proofs.YtlekeiokdmnboaaW.PrintWords Go.Proofs.YtlekeiokdmnboaaW.PrintLast Go.Proofs.YtlekeiokdmnboaaW.PrintMore Go.Proofs.Ytlekeiokdmnboaa.M
attribute [local go_sem] max2_int min2_int max_two min_two max_three min_three max_four min_four   -- for this text's walks alone
set_option linter.unusedVariables false
set_option maxHeartbeats 8000000
set_option maxRecDepth 100000
set_option linter.unusedSimpArgs false

/-! ### spec_SealOk: function 14 -/
mutual
def spec_SealOk.j0 : Nat → Bool → Int → ByteArray → ByteArray → List ByteArray → Option (Bool)
  | 0, _, _, _, _, _ => none
  | k + 1, x20, x315000, x315001, x315002, x315003 => if x20 = true then (some false) else (spec_SealOk.l0 k 0 x315000 x315001 x315002 x315003)
def spec_SealOk.l0 : Nat → Int → Int → ByteArray → ByteArray → List ByteArray → Option (Bool)
  | 0, _, _, _, _, _ => none
  | k + 1, x3, x315000, x315001, x315002, x315003 => if x3 < (x315003.length : Int) then (if 0 ≤ x3 then (if ((rdOf ByteArray.empty x315003 x3).size : Int) = 32 then (spec_SealOk.l0 k (wrap64 (x3 + 1)) x315000 x315001 x315002 x315003) else (some false)) else (none)) else ((spec_SuperOf.f k x315000 x315001 x315003).bind fun t318 => (some (x315002.toList == t318.toList)))
end
def spec_SealOk.f (k : Nat) (a0_0 : Int) (a0_1 : ByteArray) (a0_2 : ByteArray) (l0_3 : List ByteArray) : Option (Bool) := (spec_l1In.f a0_0 1 1000).bind fun t315 => (if t315 = true then (if (a0_1.size : Int) = 32 then ((spec_l1In.f (l0_3.length : Int) 1 8).bind fun t316 => (spec_SealOk.j0 k (!t316) a0_0 a0_1 a0_2 l0_3)) else (spec_SealOk.j0 k true a0_0 a0_1 a0_2 l0_3)) else (spec_SealOk.j0 k true a0_0 a0_1 a0_2 l0_3))
theorem spec_SealOk.mono_l : ∀ k, (∀ y0 y1 y2 y3 y4, LeO (spec_SealOk.j0 k y0 y1 y2 y3 y4) (spec_SealOk.j0 (k + 1) y0 y1 y2 y3 y4)) ∧ (∀ y0 y1 y2 y3 y4, LeO (spec_SealOk.l0 k y0 y1 y2 y3 y4) (spec_SealOk.l0 (k + 1) y0 y1 y2 y3 y4))
  | 0 => ⟨fun _ _ _ _ _ r h => by simp [spec_SealOk.j0] at h, fun _ _ _ _ _ r h => by simp [spec_SealOk.l0] at h⟩
  | k + 1 => by
    obtain ⟨ih0, ih1⟩ := spec_SealOk.mono_l k
    refine ⟨?_, ?_⟩
    · intro y0 y1 y2 y3 y4
      unfold spec_SealOk.j0
      have m0 := @spec_SuperOf.mono
      exact me
    · intro y0 y1 y2 y3 y4
      unfold spec_SealOk.l0
      have m0 := @spec_SuperOf.mono
      exact me
theorem spec_SealOk.mono : ∀ a0 a1 a2 a3 k, LeO (spec_SealOk.f k a0 a1 a2 a3) (spec_SealOk.f (k + 1) a0 a1 a2 a3) := by
  intro a0 a1 a2 a3 k
  obtain ⟨ih0, ih1⟩ := spec_SealOk.mono_l k
  unfold spec_SealOk.f
  have m0 := @spec_SuperOf.mono
  exact me
def spec_SealOk.T8 : Bool × List (List Nat × List Nat) := (true, [([], []), ([0], [0]), ([], []), ([2], [2]), ([], []), ([4], [4]), ([], []), ([6], [6]), ([3, 5, 7], [3, 5, 7]), ([1, 8], [1, 8]), ([9, 8, 0, 1, 2, 3, 4, 5, 6, 7, 8, 9], [9])])
def spec_SealOk.B8 : List Nat := [0, 1, 0, 4, 0, 16, 0, 64, 252, 511, 1023]
theorem spec_SealOk.tab8 : rtab .any (opsOf Try.f14 8) = spec_SealOk.T8 := by kernel_rfl
theorem spec_SealOk.bits8 : waitsOk spec_SealOk.T8.2 spec_SealOk.B8 = true := by kernel_rfl
theorem spec_SealOk.calls (k : Nat) (a0_0 : Int) (a0_1 : ByteArray) (a0_2 : ByteArray) (A0_3 : Option Addr) (c0_3 : Nat) (l0_3 : List ByteArray) (r : Bool) (w : World) (hr0_3 : Kd.C Kd.string w A0_3 l0_3.length l0_3) (hc0_3 : l0_3.length ≤ c0_3) (h : spec_SealOk.f k a0_0 a0_1 a0_2 l0_3 = some r) :
    Calls Try.prog 14 #[.agg #[.int .i64 a0_0, .string a0_1, .string a0_2, .slice A0_3 l0_3.length c0_3]] w fun e w' => e = .returned (.bool r) ∧ Below w.heap.size w w' := by
 have hu32 := Try.underlying32
 have HR0_3 := mk0 hr0_3
 have HC0_3 := mk0 hc0_3
 clear hr0_3 hc0_3
 have HB := mk0 (Below.refl w.heap.size w)
 have H : ((spec_l1In.f a0_0 1 1000).bind fun t315 => (if t315 = true then (if (a0_1.size : Int) = 32 then ((spec_l1In.f (l0_3.length : Int) 1 8).bind fun t316 => (spec_SealOk.j0 k (!t316) a0_0 a0_1 a0_2 l0_3)) else (spec_SealOk.j0 k true a0_0 a0_1 a0_2 l0_3)) else (spec_SealOk.j0 k true a0_0 a0_1 a0_2 l0_3))) = some r := h
 clear h
 have HC2 := mk0 H; clear H
 go_enter Try.func14, Try.ntmps14
 go_upto_region 1 with (first | ((with_reducible refine gD 1 rfl ?_); (try (refine gate_guard (by rfl) ?_; dsimp only)); refine bx 1 #[.int .i64 a0_0, .string a0_1, .string a0_2, .slice A0_3 l0_3.length c0_3] 32 bw ?_; clear HB; intro gb314 w3 BK314 GW314 HB))
 (try simp only [Act.put, List.setIfInBounds_toArray, List.set_cons_zero, List.set_cons_succ])
 go_cut [20] (fun v20 wc => ∃ (kq : Nat) (x20_1 : Bool), v20 = .bool x20_1 ∧ Aside0 (spec_SealOk.j0 kq x20_1 a0_0 a0_1 a0_2 l0_3 = some r) ∧ Aside0 (kq ≤ k) ∧ Aside0 (wc.heap[gb314]? = some (.cells #[.int .i64 a0_0, .string a0_1, .string a0_2, (.slice A0_3 l0_3.length c0_3)] 32 (0, 0))) ∧ Aside0 (Below w.heap.size w wc))
 case first =>
  have H := HC2.out
  clear HC2
  replace H := bd H; obtain ⟨t315, A4, H⟩ := H
  rcases ib t315 with rfl | rfl
  · replace H := jt H
    replace H := iq H; rcases H with ⟨c6b0, c6b1, H⟩ | ⟨c6, c6b0, c6b1, H⟩
    · (first | rw [c6b0] | (simp only [i64_w, i32_w]; rw [c6b0]) | skip)
      replace H := bd H; obtain ⟨t316, A7, H⟩ := H
      have H' := mk0 H
      clear H
      obtain ⟨hcz8_0, hcz8_1, hcz8_2, hcz8_3, hfz8_0, hfz8_1, hfz8_2, hfz8_3⟩ := z4 BK314
      go_wp2_with (first | ((with_reducible refine gC 41 (some 6) rfl rfl ?_); refine gQ (some 6) Try.func41 #[.int .i64 a0_0, .int .i64 1, .int .i64 1000] (spec_l1In.calls a0_0 1 1000 true _ A4.out) ?_; intro nd) | (go_at_call 41; (with_reducible refine (spec_l1In.calls (l0_3.length : Int) 1 8 t316 _ A7.out).mono ?_); rintro e w' ⟨rfl, ⟨nd, rfl⟩⟩))
      go_meet
      case rel => exact ⟨_, (!t316), sv, H', ⟨ol⟩, ⟨kb BK314.out⟩, ⟨(bg GW314)⟩⟩
    · (first | rw [c6b0] | (simp only [i64_w, i32_w]; rw [c6b0]) | skip)
      have H' := mk0 H
      clear H
      obtain ⟨hcz9_0, hcz9_1, hcz9_2, hcz9_3, hfz9_0, hfz9_1, hfz9_2, hfz9_3⟩ := z4 BK314
      go_wp2_with (first | ((with_reducible refine gC 41 (some 6) rfl rfl ?_); refine gQ (some 6) Try.func41 #[.int .i64 a0_0, .int .i64 1, .int .i64 1000] (spec_l1In.calls a0_0 1 1000 true _ A4.out) ?_; intro nd))
      go_meet
      case rel => exact ⟨_, (true), sv, H', ⟨ol⟩, ⟨kb BK314.out⟩, ⟨(bg GW314)⟩⟩
  · replace H := jf H
    have H' := mk0 H
    clear H
    obtain ⟨hcz10_0, hcz10_1, hcz10_2, hcz10_3, hfz10_0, hfz10_1, hfz10_2, hfz10_3⟩ := z4 BK314
    go_wp2_with (first | ((with_reducible refine gC 41 (some 6) rfl rfl ?_); refine gQ (some 6) Try.func41 #[.int .i64 a0_0, .int .i64 1, .int .i64 1000] (spec_l1In.calls a0_0 1 1000 false _ A4.out) ?_; intro nd))
    go_meet
    case rel => exact ⟨_, (true), sv, H', ⟨ol⟩, ⟨kb BK314.out⟩, ⟨(bg GW314)⟩⟩
 case rest =>
  clear HC2
  (try clear c6); (try clear c6b0); (try clear c6b1); (try clear hcz10_0); (try clear hcz10_1); (try clear hcz10_2); (try clear hcz10_3); (try clear hcz8_0); (try clear hcz8_1); (try clear hcz8_2); (try clear hcz8_3); (try clear hcz9_0); (try clear hcz9_1); (try clear hcz9_2); (try clear hcz9_3); (try clear hfz10_0); (try clear hfz10_1); (try clear hfz10_2); (try clear hfz10_3); (try clear hfz8_0); (try clear hfz8_1); (try clear hfz8_2); (try clear hfz8_3); (try clear hfz9_0); (try clear hfz9_1); (try clear hfz9_2); (try clear hfz9_3)
  obtain ⟨kq, x20_1, rfl, HA, HJ1, BK314, HB⟩ := hcut
  rcases kq with _ | kj1
  · exact absurd HA.out (by simp [spec_SealOk.j0])
  have H := HA.out
  clear HA
  simp only [spec_SealOk.j0] at H
  rcases ib x20_1 with rfl | rfl
  · replace H := jt H
    obtain rfl := Option.some.inj H
    go_wp2
    go_ret
    exact ⟨sw, (bg GW314)⟩
  · replace H := jf H
    have H' := mk0 H
    clear H
    go_wp2
    go_loopg [3] kj1 (fun kq v3 w' => ∃ (x3_2 : Int), v3 = .int .i64 x3_2 ∧ Aside0 (spec_SealOk.l0 kq x3_2 a0_0 a0_1 a0_2 l0_3 = some r) ∧ Aside0 (kq ≤ kj1) ∧ Aside0 (w'.heap[gb314]? = some (.cells #[.int .i64 a0_0, .string a0_1, .string a0_2, (.slice A0_3 l0_3.length c0_3)] 32 (0, 0))) ∧ Aside0 (Below w.heap.size w w'))
    case atStart => exact ⟨(0), sv, H', nl, ⟨kb BK314.out⟩, ⟨(bg GW314)⟩⟩
    case round =>
     clear H'
     (try clear c6); (try clear c6b0); (try clear c6b1); (try clear hcz10_0); (try clear hcz10_1); (try clear hcz10_2); (try clear hcz10_3); (try clear hcz8_0); (try clear hcz8_1); (try clear hcz8_2); (try clear hcz8_3); (try clear hcz9_0); (try clear hcz9_1); (try clear hcz9_2); (try clear hcz9_3); (try clear hfz10_0); (try clear hfz10_1); (try clear hfz10_2); (try clear hfz10_3); (try clear hfz8_0); (try clear hfz8_1); (try clear hfz8_2); (try clear hfz8_3); (try clear hfz9_0); (try clear hfz9_1); (try clear hfz9_2); (try clear hfz9_3)
     obtain ⟨x3_2, rfl, HA, HK2, BK314, HB⟩ := hrel
     rcases gk with _ | k2
     · exact absurd HA.out (by simp [spec_SealOk.l0])
     have H := HA.out
     clear HA
     simp only [spec_SealOk.l0] at H
     replace H := idd H; rcases H with ⟨c12b0, H⟩ | ⟨c12b0, H⟩
     · replace H := gd H; obtain ⟨c13b0, H⟩ := H
       replace H := iq H; rcases H with ⟨c14b0, c14b1, H⟩ | ⟨c14, c14b0, c14b1, H⟩
       · have H' := mk0 H
         clear H
         obtain ⟨hcz15_0, hcz15_1, hcz15_2, hcz15_3, hfz15_0, hfz15_1, hfz15_2, hfz15_3⟩ := z4 BK314
         have p317 : 0 ≤ (x3_2 : Int) := oa
         have q317 : x3_2 < (l0_3.length : Int) := oa
         obtain ⟨ad317, e317, hx317_0⟩ := Kd.at_string HR0_3.out x3_2 p317 q317
         cases e317
         replace hx317_0 := hc HB hx317_0
         replace p317 := eq_true p317
         replace q317 := eq_true q317
         go_wp2
         go_roundg k2
         case measure => have := HJ1.out; have := HK2.out; omega
         case rel => exact ⟨(wrap64 (x3_2 + 1)), sv, H', ⟨by have := HJ1.out; have := HK2.out; omega⟩, ⟨kb BK314.out⟩, ⟨(bg GW314)⟩⟩
       · obtain rfl := Option.some.inj H
         obtain ⟨hcz16_0, hcz16_1, hcz16_2, hcz16_3, hfz16_0, hfz16_1, hfz16_2, hfz16_3⟩ := z4 BK314
         have p317 : 0 ≤ (x3_2 : Int) := oa
         have q317 : x3_2 < (l0_3.length : Int) := oa
         obtain ⟨ad317, e317, hx317_0⟩ := Kd.at_string HR0_3.out x3_2 p317 q317
         cases e317
         replace hx317_0 := hc HB hx317_0
         replace p317 := eq_true p317
         replace q317 := eq_true q317
         go_wp2
         go_ret
         exact ⟨sw, (bg GW314)⟩
     · replace H := bd H; obtain ⟨t318, A17, H⟩ := H
       obtain rfl := Option.some.inj H
       obtain ⟨hcz18_0, hcz18_1, hcz18_2, hcz18_3, hfz18_0, hfz18_1, hfz18_2, hfz18_3⟩ := z4 BK314
       try go_wp2
       replace BK314 := mk0 (blk_drew BK314.out)
       replace HB := mk0 (below_drew1 HB.out)
       refine st 11 spec_SealOk.tab8 spec_SealOk.bits8 (b4 BK314 n_) (fun hHeld HT_ HW_ => ?_)
       generalize wr.drew = w19 at BK314 HB hHeld ⊢
       refine pu 0 (some 35) HT_ ?_
       refine pu 2 (some 37) HT_ ?_
       refine pu 4 (some 39) HT_ ?_
       refine pu 6 (some 41) HT_ ?_
       refine tk 1 (some 36) HT_ HW_ hHeld ?_
       refine tk 3 (some 38) HT_ HW_ hHeld ?_
       refine tk 5 (some 40) HT_ HW_ hHeld ?_
       refine tk 7 (some 42) HT_ HW_ hHeld ?_
       refine on 8 (some 43) HT_ (fun K hK => ?_)
       refine oB Try.func9 #[.int .i64 a0_0, .string a0_1, .slice A0_3 l0_3.length c0_3] (spec_SuperOf.calls k2 a0_0 a0_1 _ _ l0_3 t318 _ (cc (Kd.C_below HR0_3.out HB.out)) HC0_3.out A17.out) ?_
       intro w20 hb
       replace BK314 := mk0 (blk_below (kb BK314.out) hb)
       replace HB := mk0 (below_step (bg GW314) hb)
       (try clear hb)
       refine hK.out _ _ ah (fun hHeld => ?_)
       clear hK K
       refine nr ?_
       refine pu 9 (some 44) HT_ ?_
       refine pu 10 (some 2) HT_ ?_
       refine dn HT_ ?_
       try go_wp2
       go_ret
       exact ⟨sw, (bg GW314)⟩
/-! ### impl_SealOk: function 16 -/
def impl_SealOk.l0 : Nat → List ByteArray → Int → Int → Int → ByteArray → ByteArray → List ByteArray → Option (Bool)
  | 0, _, _, _, _, _, _, _ => none
  | k + 1, x6, x7, x8, x326000, x326001, x326002, x326003 => if x8 < x7 then (if 0 ≤ x8 then (if x8 < (x6.length : Int) then (if ((rdOf ByteArray.empty x6 x8).size : Int) = 32 then (impl_SealOk.l0 k x6 x7 (wrap64 (x8 + 1)) x326000 x326001 x326002 x326003) else (some false)) else (none)) else (none)) else ((impl_inRange.f x326000 1 1000).bind fun t327 => (if t327 = true then (if (x326001.size : Int) = 32 then ((impl_inRange.f (x326003.length : Int) 1 8).bind fun t328 => (if t328 = true then ((impl_SuperOf.f k x326000 x326001 x326003).bind fun t329 => (some (x326002.toList == t329.toList))) else (some false))) else (some false)) else (some false)))
def impl_SealOk.f (k : Nat) (a0_0 : Int) (a0_1 : ByteArray) (a0_2 : ByteArray) (l0_3 : List ByteArray) : Option (Bool) := impl_SealOk.l0 k l0_3 (l0_3.length : Int) 0 a0_0 a0_1 a0_2 l0_3
theorem impl_SealOk.mono_l : ∀ k, (∀ y0 y1 y2 y3 y4 y5 y6, LeO (impl_SealOk.l0 k y0 y1 y2 y3 y4 y5 y6) (impl_SealOk.l0 (k + 1) y0 y1 y2 y3 y4 y5 y6))
  | 0 => fun _ _ _ _ _ _ _ r h => by simp [impl_SealOk.l0] at h
  | k + 1 => by
    have ih0 := impl_SealOk.mono_l k
    · intro y0 y1 y2 y3 y4 y5 y6
      unfold impl_SealOk.l0
      have m0 := @impl_SuperOf.mono
      exact me
theorem impl_SealOk.mono : ∀ a0 a1 a2 a3 k, LeO (impl_SealOk.f k a0 a1 a2 a3) (impl_SealOk.f (k + 1) a0 a1 a2 a3) := by
  intro a0 a1 a2 a3 k
  have ih0 := impl_SealOk.mono_l k
  unfold impl_SealOk.f
  have m0 := @impl_SuperOf.mono
  exact me
def impl_SealOk.T9 : Bool × List (List Nat × List Nat) := (true, [([], []), ([0], [0]), ([], []), ([2], [2]), ([], []), ([4], [4]), ([], []), ([6], [6]), ([3, 5, 7], [3, 5, 7]), ([1, 8], [1, 8]), ([9, 8, 0, 1, 2, 3, 4, 5, 6, 7, 8, 9], [9])])
def impl_SealOk.B9 : List Nat := [0, 1, 0, 4, 0, 16, 0, 64, 252, 511, 1023]
theorem impl_SealOk.tab9 : rtab .any (opsOf Try.f16 9) = impl_SealOk.T9 := by kernel_rfl
theorem impl_SealOk.bits9 : waitsOk impl_SealOk.T9.2 impl_SealOk.B9 = true := by kernel_rfl
theorem impl_SealOk.calls (k : Nat) (a0_0 : Int) (a0_1 : ByteArray) (a0_2 : ByteArray) (A0_3 : Option Addr) (c0_3 : Nat) (l0_3 : List ByteArray) (r : Bool) (w : World) (hr0_3 : Kd.C Kd.string w A0_3 l0_3.length l0_3) (hc0_3 : l0_3.length ≤ c0_3) (h : impl_SealOk.f k a0_0 a0_1 a0_2 l0_3 = some r) :
    Calls Try.prog 16 #[.agg #[.int .i64 a0_0, .string a0_1, .string a0_2, .slice A0_3 l0_3.length c0_3]] w fun e w' => e = .returned (.bool r) ∧ Below w.heap.size w w' := by
 have hu32 := Try.underlying32
 have HR0_3 := mk0 hr0_3
 have HC0_3 := mk0 hc0_3
 clear hr0_3 hc0_3
 have HB := mk0 (Below.refl w.heap.size w)
 have H : (impl_SealOk.l0 k l0_3 (l0_3.length : Int) 0 a0_0 a0_1 a0_2 l0_3) = some r := h
 clear h
 have H' := mk0 H
 clear H
 go_enter Try.func16, Try.ntmps16
 go_wp2_with (first | ((with_reducible refine gD 1 rfl ?_); (try (refine gate_guard (by rfl) ?_; dsimp only)); refine bx 1 #[.int .i64 a0_0, .string a0_1, .string a0_2, .slice A0_3 l0_3.length c0_3] 32 bw ?_; clear HB; intro gb325 w2 BK325 GW325 HB; obtain ⟨hcz3_0, hcz3_1, hcz3_2, hcz3_3, hfz3_0, hfz3_1, hfz3_2, hfz3_3⟩ := z4 BK325))
 go_loopg [8] k (fun kq v8 w' => ∃ (x8_1 : Int), v8 = .int .i64 x8_1 ∧ Aside0 (impl_SealOk.l0 kq l0_3 (l0_3.length : Int) x8_1 a0_0 a0_1 a0_2 l0_3 = some r) ∧ Aside0 (kq ≤ k) ∧ Aside0 (w'.heap[gb325]? = some (.cells #[.int .i64 a0_0, .string a0_1, .string a0_2, (.slice A0_3 l0_3.length c0_3)] 32 (0, 0))) ∧ Aside0 (Below w.heap.size w w'))
 case atStart => exact ⟨(0), sv, H', nl, ⟨kb BK325.out⟩, ⟨(bg GW325)⟩⟩
 case round =>
  clear H'
  (try clear hcz3_0); (try clear hcz3_1); (try clear hcz3_2); (try clear hcz3_3); (try clear hfz3_0); (try clear hfz3_1); (try clear hfz3_2); (try clear hfz3_3)
  obtain ⟨x8_1, rfl, HA, HK1, BK325, HB⟩ := hrel
  rcases gk with _ | k1
  · exact absurd HA.out (by simp [impl_SealOk.l0])
  have H := HA.out
  clear HA
  simp only [impl_SealOk.l0] at H
  replace H := idd H; rcases H with ⟨c4b0, H⟩ | ⟨c4b0, H⟩
  · replace H := gd H; obtain ⟨c5b0, H⟩ := H
    replace H := gd H; obtain ⟨c6b0, H⟩ := H
    replace H := iq H; rcases H with ⟨c7b0, c7b1, H⟩ | ⟨c7, c7b0, c7b1, H⟩
    · have H' := mk0 H
      clear H
      have p326 : 0 ≤ (x8_1 : Int) := oa
      have q326 : x8_1 < (l0_3.length : Int) := oa
      obtain ⟨ad326, e326, hx326_0⟩ := Kd.at_string HR0_3.out x8_1 p326 q326
      cases e326
      replace hx326_0 := hc HB hx326_0
      replace p326 := eq_true p326
      replace q326 := eq_true q326
      go_wp2
      go_roundg k1
      case measure => have := HK1.out; omega
      case rel => exact ⟨(wrap64 (x8_1 + 1)), sv, H', hk1, ⟨kb BK325.out⟩, ⟨(bg GW325)⟩⟩
    · obtain rfl := Option.some.inj H
      have p326 : 0 ≤ (x8_1 : Int) := oa
      have q326 : x8_1 < (l0_3.length : Int) := oa
      obtain ⟨ad326, e326, hx326_0⟩ := Kd.at_string HR0_3.out x8_1 p326 q326
      cases e326
      replace hx326_0 := hc HB hx326_0
      replace p326 := eq_true p326
      replace q326 := eq_true q326
      go_wp2
      go_ret
      exact ⟨sw, (bg GW325)⟩
  · replace H := bd H; obtain ⟨t327, A8, H⟩ := H
    rcases ib t327 with rfl | rfl
    · replace H := jt H
      replace H := iq H; rcases H with ⟨c10b0, c10b1, H⟩ | ⟨c10, c10b0, c10b1, H⟩
      · replace H := bd H; obtain ⟨t328, A11, H⟩ := H
        rcases ib t328 with rfl | rfl
        · replace H := jt H
          replace H := bd H; obtain ⟨t329, A13, H⟩ := H
          obtain rfl := Option.some.inj H
          obtain ⟨hcz14_0, hcz14_1, hcz14_2, hcz14_3, hfz14_0, hfz14_1, hfz14_2, hfz14_3⟩ := z4 BK325
          try go_wp2_with (first | ((with_reducible refine gC 42 (some 18) rfl rfl ?_); refine gQ (some 18) Try.func42 #[.int .i64 a0_0, .int .i64 1, .int .i64 1000] (impl_inRange.calls a0_0 1 1000 true _ A8.out) ?_; intro nd) | (go_at_call 42; (with_reducible refine (impl_inRange.calls (l0_3.length : Int) 1 8 true _ A11.out).mono ?_); rintro e w' ⟨rfl, ⟨nd, rfl⟩⟩))
          (try (rw [drewN_self wr]; generalize hq_ : World.drewN wr _ = wr; have n0_ : Aside0 (wr.heap[gb325]? = some (.cells #[.int .i64 a0_0, .string a0_1, .string a0_2, .slice A0_3 l0_3.length c0_3] 32 (0, 0))) := ⟨by rw [← hq_]; exact (kb BK325.out)⟩; have n1_ : Aside0 (Below w.heap.size w wr) := ⟨by rw [← hq_]; exact (bg GW325)⟩; clear BK325 HB hq_; have BK325 := n0_; have HB := n1_; clear n0_ n1_))
          replace BK325 := mk0 (blk_drew BK325.out)
          replace HB := mk0 (below_drew1 HB.out)
          refine st 11 impl_SealOk.tab9 impl_SealOk.bits9 (b4 BK325 n_) (fun hHeld HT_ HW_ => ?_)
          generalize wr.drew = w15 at BK325 HB hHeld ⊢
          refine pu 0 (some 33) HT_ ?_
          refine pu 2 (some 35) HT_ ?_
          refine pu 4 (some 37) HT_ ?_
          refine pu 6 (some 39) HT_ ?_
          refine tk 1 (some 34) HT_ HW_ hHeld ?_
          refine tk 3 (some 36) HT_ HW_ hHeld ?_
          refine tk 5 (some 38) HT_ HW_ hHeld ?_
          refine tk 7 (some 40) HT_ HW_ hHeld ?_
          refine on 8 (some 41) HT_ (fun K hK => ?_)
          refine oB Try.func11 #[.int .i64 a0_0, .string a0_1, .slice A0_3 l0_3.length c0_3] (impl_SuperOf.calls k1 a0_0 a0_1 _ _ l0_3 t329 _ (cc (Kd.C_below HR0_3.out HB.out)) HC0_3.out A13.out) ?_
          intro w16 hb
          replace BK325 := mk0 (blk_below (kb BK325.out) hb)
          replace HB := mk0 (below_step (bg GW325) hb)
          (try clear hb)
          refine hK.out _ _ ah (fun hHeld => ?_)
          clear hK K
          refine nr ?_
          refine pu 9 (some 42) HT_ ?_
          refine pu 10 (some 2) HT_ ?_
          refine dn HT_ ?_
          try go_wp2
          go_ret
          exact ⟨sw, (bg GW325)⟩
        · replace H := jf H
          obtain rfl := Option.some.inj H
          obtain ⟨hcz17_0, hcz17_1, hcz17_2, hcz17_3, hfz17_0, hfz17_1, hfz17_2, hfz17_3⟩ := z4 BK325
          go_wp2_with (first | ((with_reducible refine gC 42 (some 18) rfl rfl ?_); refine gQ (some 18) Try.func42 #[.int .i64 a0_0, .int .i64 1, .int .i64 1000] (impl_inRange.calls a0_0 1 1000 true _ A8.out) ?_; intro nd) | (go_at_call 42; (with_reducible refine (impl_inRange.calls (l0_3.length : Int) 1 8 false _ A11.out).mono ?_); rintro e w' ⟨rfl, ⟨nd, rfl⟩⟩))
          go_ret
          exact ⟨sw, (bg GW325)⟩
      · obtain rfl := Option.some.inj H
        obtain ⟨hcz18_0, hcz18_1, hcz18_2, hcz18_3, hfz18_0, hfz18_1, hfz18_2, hfz18_3⟩ := z4 BK325
        go_wp2_with (first | ((with_reducible refine gC 42 (some 18) rfl rfl ?_); refine gQ (some 18) Try.func42 #[.int .i64 a0_0, .int .i64 1, .int .i64 1000] (impl_inRange.calls a0_0 1 1000 true _ A8.out) ?_; intro nd))
        go_ret
        exact ⟨sw, (bg GW325)⟩
    · replace H := jf H
      obtain rfl := Option.some.inj H
      obtain ⟨hcz19_0, hcz19_1, hcz19_2, hcz19_3, hfz19_0, hfz19_1, hfz19_2, hfz19_3⟩ := z4 BK325
      go_wp2_with (first | ((with_reducible refine gC 42 (some 18) rfl rfl ?_); refine gQ (some 18) Try.func42 #[.int .i64 a0_0, .int .i64 1, .int .i64 1000] (impl_inRange.calls a0_0 1 1000 false _ A8.out) ?_; intro nd))
      go_ret
      exact ⟨sw, (bg GW325)⟩
end Go.Proofs.Ytlekeiokdmnboaa.Pa
end

section
namespace Go.Proofs.Ytlekeiokdmnboaa.Pa
open Go.RowKit Go.Proofs.YtlekeiokdmnboaaW.PrintWords Go.Proofs.YtlekeiokdmnboaaW.PrintLast Go.Proofs.YtlekeiokdmnboaaW.PrintMore Go.Proofs.Ytlekeiokdmnboaa.M
attribute [local go_sem] max2_int min2_int max_two min_two max_three min_three max_four min_four   -- for this text's walks alone
set_option linter.unusedVariables false
set_option maxHeartbeats 8000000
set_option maxRecDepth 100000
set_option linter.unusedSimpArgs false

/-! ### spec_l15Prev: function 46 -/
def spec_l15Prev.f (k : Nat) (l0 : List (S32)) : Option (ByteArray) := if (l0.length : Int) = 0 then ((spec_Digest.f k (([] : List Int))).bind fun t363 => (some t363)) else (if 0 ≤ (wrap64 ((l0.length : Int) - 1)) then (if (wrap64 ((l0.length : Int) - 1)) < (l0.length : Int) then (some ((rd_T32 l0 (wrap64 ((l0.length : Int) - 1))).f2)) else (none)) else (none))
theorem spec_l15Prev.mono : ∀ a0 k, LeO (spec_l15Prev.f k a0) (spec_l15Prev.f (k + 1) a0) := by
  intro a0 k
  unfold spec_l15Prev.f
  have m0 := @spec_Digest.mono
  exact me
theorem spec_l15Prev.calls (k : Nat) (A0 : Option Addr) (c0 : Nat) (l0 : List (S32)) (r : ByteArray) (w : World) (hr0 : Kd.C k32 w A0 l0.length l0) (hc0 : l0.length ≤ c0) (h : spec_l15Prev.f k l0 = some r) :
    Calls Try.prog 46 #[.slice A0 l0.length c0] w fun e w' => e = .returned (.string r) ∧ Below w.heap.size w w' := by
 have HR0 := mk0 hr0
 have HC0 := mk0 hc0
 clear hr0 hc0
 have HB := mk0 (Below.refl w.heap.size w)
 have H : (if (l0.length : Int) = 0 then ((spec_Digest.f k (([] : List Int))).bind fun t363 => (some t363)) else (if 0 ≤ (wrap64 ((l0.length : Int) - 1)) then (if (wrap64 ((l0.length : Int) - 1)) < (l0.length : Int) then (some ((rd_T32 l0 (wrap64 ((l0.length : Int) - 1))).f2)) else (none)) else (none))) = some r := h
 clear h
 replace H := iq H; rcases H with ⟨c2b0, c2b1, H⟩ | ⟨c2, c2b0, c2b1, H⟩
 · obtain ⟨y360, hy360⟩ : ∃ y_ : List Int, y_ = (([] : List Int)) := ⟨_, rfl⟩
   replace H : ((spec_Digest.f k y360).bind fun t363 => (some t363)) = some r := by first | (rw [hy360]; with_reducible exact H) | (have H2_ := (Option.bind_some _ _).symm.trans H; rw [hy360]; with_reducible exact H2_) | (have H2_ := (Option.bind_some _ _).symm.trans H; with_reducible exact H2_) | with_reducible exact H | (rw [hy360]; exact H) | exact H
   have Ny360 := mk0 hy360
   clear hy360
   replace H := bd H; obtain ⟨t363, A3, H⟩ := H
   obtain rfl := Option.some.inj H
   go_enter Try.func46, Try.ntmps46
   go_wp2_with (first | ((with_reducible refine gD 6 rfl ?_); refine lt (Kd.int .u8) 5 6 ([] : List Int) [] ?_; intro v361 w4 ho5 hb hg_ hnew_; clear hg_ hnew_; (first | rw [← Ny360.out] at ho5 | (simp only [Int.reduceToNat] at ho5; rw [← Ny360.out] at ho5)); have HO362 := mk0 (Kd.R_lower ho5 bs); replace HB := mk0 (below_step bw hb); clear hb ho5; obtain ⟨Ao6, co6, eo6⟩ := Kd.R_slice HO362.out; subst eo6) | ((with_reducible refine gC 35 (some 7) rfl rfl ?_); refine gB (some 7) Try.func35 #[.slice Ao6 y360.length co6] (spec_Digest.calls k _ _ y360 t363 _ (cc ((Kd.R_reads' HO362.out).2.2)) ((Kd.R_reads' HO362.out).2.1) A3.out) ?_; intro w7 hb; replace HO362 := mk0 (Kd.R_below (rr HO362.out) hb); replace HB := mk0 (below_step bw hb); clear hb))
   go_ret
   exact ⟨sw, bw⟩
 · have c2b2 : ¬ (l0 = []) := fun h_ => c2 (by rw [h_]; rfl)
   obtain ⟨ji8, hji8⟩ : ∃ j_ : Int, (wrap64 ((l0.length : Int) - 1)) = j_ := ⟨_, rfl⟩
   replace H : (if 0 ≤ (ji8) then (if (ji8) < (l0.length : Int) then (some ((rd_T32 l0 (ji8)).f2)) else (none)) else (none)) = some r := by first | (rw [hji8] at H; exact H) | (simp only [hji8] at H ⊢; exact H)
   have hji8w : (IntKind.i64.wrap ((l0.length : Int) - 1)) = ji8 := (i64_w _).trans hji8
   replace H := gd H; obtain ⟨c9b0, H⟩ := H
   replace H := gd H; obtain ⟨c10b0, H⟩ := H
   obtain rfl := Option.some.inj H
   have p364 : 0 ≤ ((ji8) : Int) := oa
   have q364 : (ji8) < (l0.length : Int) := oa
   obtain ⟨ad364, A364_3, c364_3, e364, hx364_0, hx364_1, hx364_2, hx364_3, hl364_3, hi364_3⟩ := at_T32 HR0.out (ji8) p364 q364
   cases e364
   have HR364_3 := mk0 hi364_3
   have HC364_3 := mk0 hl364_3
   clear hi364_3 hl364_3
   replace p364 := eq_true p364
   replace q364 := eq_true q364
   go_enter Try.func46, Try.ntmps46
   go_wp2
   go_ret
   exact ⟨by first | rfl | (simp [errW_none, errW_some] <;> rfl) | (simp only [← hji8]; first | rfl | (simp [errW_none, errW_some] <;> rfl)) | (simp [*, errW_none, errW_some] <;> rfl), bw⟩
/-! ### impl_prevOf: function 45 -/
def impl_prevOf.f (k : Nat) (l0 : List (S32)) : Option (ByteArray) := if (l0.length : Int) = 0 then ((impl_Digest.f k ([] : List Int)).bind fun t511 => (some t511)) else (if 0 ≤ (wrap64 ((l0.length : Int) - 1)) then (if (wrap64 ((l0.length : Int) - 1)) < (l0.length : Int) then (some ((rd_T32 l0 (wrap64 ((l0.length : Int) - 1))).f2)) else (none)) else (none))
theorem impl_prevOf.mono : ∀ a0 k, LeO (impl_prevOf.f k a0) (impl_prevOf.f (k + 1) a0) := by
  intro a0 k
  unfold impl_prevOf.f
  have m0 := @impl_Digest.mono
  exact me
theorem impl_prevOf.calls (k : Nat) (A0 : Option Addr) (c0 : Nat) (l0 : List (S32)) (r : ByteArray) (w : World) (hr0 : Kd.C k32 w A0 l0.length l0) (hc0 : l0.length ≤ c0) (h : impl_prevOf.f k l0 = some r) :
    Calls Try.prog 45 #[.slice A0 l0.length c0] w fun e w' => e = .returned (.string r) ∧ Below w.heap.size w w' := by
 have HR0 := mk0 hr0
 have HC0 := mk0 hc0
 clear hr0 hc0
 have HB := mk0 (Below.refl w.heap.size w)
 have H : (if (l0.length : Int) = 0 then ((impl_Digest.f k ([] : List Int)).bind fun t511 => (some t511)) else (if 0 ≤ (wrap64 ((l0.length : Int) - 1)) then (if (wrap64 ((l0.length : Int) - 1)) < (l0.length : Int) then (some ((rd_T32 l0 (wrap64 ((l0.length : Int) - 1))).f2)) else (none)) else (none))) = some r := h
 clear h
 replace H := iq H; rcases H with ⟨c2b0, c2b1, H⟩ | ⟨c2, c2b0, c2b1, H⟩
 · replace H := bd H; obtain ⟨t511, A3, H⟩ := H
   obtain rfl := Option.some.inj H
   go_enter Try.func45, Try.ntmps45
   go_wp2_with (first | ((with_reducible refine gC 37 (some 6) rfl rfl ?_); refine gB (some 6) Try.func37 #[.slice none 0 0] (impl_Digest.calls k _ _ ([] : List Int) t511 _ (Kd.C_nil _ _) (Nat.le_refl _) A3.out) ?_; intro w4 hb; replace HB := mk0 (below_step bw hb); clear hb))
   go_ret
   exact ⟨sw, bw⟩
 · have c2b2 : ¬ (l0 = []) := fun h_ => c2 (by rw [h_]; rfl)
   obtain ⟨ji5, hji5⟩ : ∃ j_ : Int, (wrap64 ((l0.length : Int) - 1)) = j_ := ⟨_, rfl⟩
   replace H : (if 0 ≤ (ji5) then (if (ji5) < (l0.length : Int) then (some ((rd_T32 l0 (ji5)).f2)) else (none)) else (none)) = some r := by first | (rw [hji5] at H; exact H) | (simp only [hji5] at H ⊢; exact H)
   have hji5w : (IntKind.i64.wrap ((l0.length : Int) - 1)) = ji5 := (i64_w _).trans hji5
   replace H := gd H; obtain ⟨c6b0, H⟩ := H
   replace H := gd H; obtain ⟨c7b0, H⟩ := H
   obtain rfl := Option.some.inj H
   have p512 : 0 ≤ ((ji5) : Int) := oa
   have q512 : (ji5) < (l0.length : Int) := oa
   obtain ⟨ad512, A512_3, c512_3, e512, hx512_0, hx512_1, hx512_2, hx512_3, hl512_3, hi512_3⟩ := at_T32 HR0.out (ji5) p512 q512
   cases e512
   have HR512_3 := mk0 hi512_3
   have HC512_3 := mk0 hl512_3
   clear hi512_3 hl512_3
   replace p512 := eq_true p512
   replace q512 := eq_true q512
   go_enter Try.func45, Try.ntmps45
   go_wp2
   go_ret
   exact ⟨by first | rfl | (simp [errW_none, errW_some] <;> rfl) | (simp only [← hji5]; first | rfl | (simp [errW_none, errW_some] <;> rfl)) | (simp [*, errW_none, errW_some] <;> rfl), bw⟩
end Go.Proofs.Ytlekeiokdmnboaa.Pa
end

section
namespace Go.Proofs.Ytlekeiokdmnboaa.Pa
open Go.RowKit Go.Proofs.YtlekeiokdmnboaaW.PrintWords Go.Proofs.YtlekeiokdmnboaaW.PrintLast Go.Proofs.YtlekeiokdmnboaaW.PrintMore Go.Proofs.Ytlekeiokdmnboaa.M
attribute [local go_sem] max2_int min2_int max_two min_two max_three min_three max_four min_four   -- for this text's walks alone
set_option linter.unusedVariables false
set_option maxHeartbeats 8000000
set_option maxRecDepth 100000
set_option linter.unusedSimpArgs false

/-! ### impl_ChainOk: function 20 -/
def impl_ChainOk.l0 : Nat → List (S32) → List (S32) → Int → Int → Option (Bool)
  | 0, _, _, _, _ => none
  | k + 1, x0, x5, x6, x7 => if x7 < x6 then (if 0 ≤ x7 then (if x7 < (x5.length : Int) then ((impl_SealOk.f k ((rd_T32 x5 x7).f0) ((rd_T32 x5 x7).f1) ((rd_T32 x5 x7).f2) ((rd_T32 x5 x7).f3)).bind fun t515 => (if t515 = true then (if ((rd_T32 x5 x7).f0) = (wrap64 (x7 + 1)) then (if x7 ≤ (x0.length : Int) then ((impl_prevOf.f k (x0.take (x7 : Int).toNat)).bind fun t520 => (if ((rd_T32 x5 x7).f1).toList = t520.toList then (impl_ChainOk.l0 k x0 x5 x6 (wrap64 (x7 + 1))) else (some false))) else (none)) else (some false)) else (some false))) else (none)) else (none)) else (some (decide ((x0.length : Int) ≤ 1000)))
def impl_ChainOk.f (k : Nat) (l0 : List (S32)) : Option (Bool) := impl_ChainOk.l0 k l0 l0 (l0.length : Int) 0
theorem impl_ChainOk.mono_l : ∀ k, (∀ y0 y1 y2 y3, LeO (impl_ChainOk.l0 k y0 y1 y2 y3) (impl_ChainOk.l0 (k + 1) y0 y1 y2 y3))
  | 0 => fun _ _ _ _ r h => by simp [impl_ChainOk.l0] at h
  | k + 1 => by
    have ih0 := impl_ChainOk.mono_l k
    · intro y0 y1 y2 y3
      unfold impl_ChainOk.l0
      have m0 := @impl_SealOk.mono
      have m1 := @impl_prevOf.mono
      exact me
theorem impl_ChainOk.mono : ∀ a0 k, LeO (impl_ChainOk.f k a0) (impl_ChainOk.f (k + 1) a0) := by
  intro a0 k
  have ih0 := impl_ChainOk.mono_l k
  unfold impl_ChainOk.f
  have m0 := @impl_SealOk.mono
  have m1 := @impl_prevOf.mono
  exact me
def impl_ChainOk.T4 : Bool × List (List Nat × List Nat) := (true, [([], []), ([0], [0]), ([1], [1]), ([2, 1], [2]), ([3], [3]), ([4, 3], [3, 4]), ([3], [3]), ([6, 3], [3, 6]), ([5, 7, 3], [3, 5, 7]), ([3, 8], [3, 8]), ([9, 3], [9]), ([10], [10]), ([11, 10], [10, 11]), ([10], [10]), ([10], [10]), ([13, 14, 10], [10, 13, 14]), ([15, 10, 10], [10, 15]), ([12, 16, 10], [10, 12, 16]), ([10, 17], [10, 17])])
def impl_ChainOk.B4 : List Nat := [0, 1, 3, 7, 15, 31, 15, 79, 255, 511, 1023, 2047, 4095, 2047, 2047, 26623, 59391, 131071, 262143]
theorem impl_ChainOk.tab4 : rtab .any (opsOf Try.f20 4) = impl_ChainOk.T4 := by kernel_rfl
theorem impl_ChainOk.bits4 : waitsOk impl_ChainOk.T4.2 impl_ChainOk.B4 = true := by kernel_rfl
theorem impl_ChainOk.calls (k : Nat) (A0 : Option Addr) (c0 : Nat) (l0 : List (S32)) (r : Bool) (w : World) (hr0 : Kd.C k32 w A0 l0.length l0) (hc0 : l0.length ≤ c0) (h : impl_ChainOk.f k l0 = some r) :
    Calls Try.prog 20 #[.slice A0 l0.length c0] w fun e w' => e = .returned (.bool r) ∧ Below w.heap.size w w' := by
 have hu32 := Try.underlying32
 have HR0 := mk0 hr0
 have HC0 := mk0 hc0
 clear hr0 hc0
 have HB := mk0 (Below.refl w.heap.size w)
 have H : (impl_ChainOk.l0 k l0 l0 (l0.length : Int) 0) = some r := h
 clear h
 have H' := mk0 H
 clear H
 go_enter Try.func20, Try.ntmps20
 go_wp2
 go_loopg [7] k (fun kq v7 w' => ∃ (x7_1 : Int), v7 = .int .i64 x7_1 ∧ Aside0 (impl_ChainOk.l0 kq l0 l0 (l0.length : Int) x7_1 = some r) ∧ Aside0 (kq ≤ k) ∧ Aside0 (Below w.heap.size w w'))
 case atStart => exact ⟨(0), sv, H', nl, ⟨bw⟩⟩
 case round =>
  clear H'
  obtain ⟨x7_1, rfl, HA, HK1, HB⟩ := hrel
  rcases gk with _ | k1
  · exact absurd HA.out (by simp [impl_ChainOk.l0])
  have H := HA.out
  clear HA
  simp only [impl_ChainOk.l0] at H
  replace H := idd H; rcases H with ⟨c2b0, H⟩ | ⟨c2b0, H⟩
  · replace H := gd H; obtain ⟨c3b0, H⟩ := H
    replace H := gd H; obtain ⟨c4b0, H⟩ := H
    replace H := bd H; obtain ⟨t515, A5, H⟩ := H
    rcases ib t515 with rfl | rfl
    · replace H := jt H
      replace H := iq H; rcases H with ⟨c7b0, c7b1, H⟩ | ⟨c7, c7b0, c7b1, H⟩
      · have c8b0 := eq_true (oa : 0 ≤ x7_1)
        replace H := ge H; obtain ⟨c9b0, c9b1, H⟩ := H
        obtain ⟨y516, Ny516⟩ := nm (l0.take (x7_1 : Int).toNat)
        rw [← Ny516.out] at H
        replace H := bd H; obtain ⟨t520, A10, H⟩ := H
        replace H := it H; rcases H with ⟨c11b0, c11b1, H⟩ | ⟨c11, c11b0, c11b1, H⟩
        · have H' := mk0 H
          clear H
          have p513 : 0 ≤ (x7_1 : Int) := oa
          have q513 : x7_1 < (l0.length : Int) := oa
          obtain ⟨ad513, A513_3, c513_3, e513, hx513_0, hx513_1, hx513_2, hx513_3, hl513_3, hi513_3⟩ := at_T32 HR0.out x7_1 p513 q513
          cases e513
          replace hx513_0 := hc HB hx513_0
          replace hx513_1 := hc HB hx513_1
          replace hx513_2 := hc HB hx513_2
          replace hx513_3 := hc HB hx513_3
          have HR513_3 := mk0 hi513_3
          have HC513_3 := mk0 hl513_3
          clear hi513_3 hl513_3
          replace p513 := eq_true p513
          replace q513 := eq_true q513
          try go_wp2_with (first | ((with_reducible refine gD 4 rfl ?_); refine bx 4 #[.int .i64 0, .string (⟨#[]⟩ : ByteArray), .string (⟨#[]⟩ : ByteArray), .slice none 0 0] 32 bw ?_; clear HB; intro gb514 w12 BK514 GW514 HB; obtain ⟨hcz13_0, hcz13_1, hcz13_2, hcz13_3, hfz13_0, hfz13_1, hfz13_2, hfz13_3⟩ := z4 BK514))
          refine cp4 BK514 GW514 HB ?_; clear BK514 HB; intro w14 BK514 HB
          replace BK514 := mk0 (blk_drew BK514.out)
          replace HB := mk0 (below_drew1 HB.out)
          refine st 19 impl_ChainOk.tab4 impl_ChainOk.bits4 (b4 BK514 n_) (fun hHeld HT_ HW_ => ?_)
          generalize w14.drew = w15 at BK514 HB hHeld ⊢
          refine tk 0 (some 12) HT_ HW_ hHeld ?_
          refine on 1 (some 13) HT_ (fun K hK => ?_)
          refine oB Try.func16 #[.agg #[.int .i64 ((rd_T32 l0 x7_1).f0), .string ((rd_T32 l0 x7_1).f1), .string ((rd_T32 l0 x7_1).f2), .slice A513_3 ((rd_T32 l0 x7_1).f3).length c513_3]] (impl_SealOk.calls k1 ((rd_T32 l0 x7_1).f0) ((rd_T32 l0 x7_1).f1) ((rd_T32 l0 x7_1).f2) _ _ ((rd_T32 l0 x7_1).f3) true _ (cc (Kd.C_below HR513_3.out HB.out)) HC513_3.out A5.out) ?_
          intro w16 hb
          replace BK514 := mk0 (blk_below (kb BK514.out) hb)
          replace HB := mk0 (below_step (bg GW514) hb)
          (try clear hb)
          have q17 : (x7_1 : Int) ≤ ((l0.length : Int) : Int) := oa
          obtain ⟨i017, hi017, _, hsz17, _⟩ := info_parts info32
          have hroom17 : l0.length ≤ c0 := HC0.out
          have hC17 : Kd.C k32 _ (some ad513) l0.length l0 := HR0.out
          have hcut17 := cut_to (P := Try.prog) 38 32 .i64 Try.underlying38 hi017 (some ad513) l0.length c0 x7_1 oa q17 hroom17
          have hr17 := Kd.C_take (m := (x7_1 : Int).toNat) hC17 (by omega)
          have hy17 : y516.length = (x7_1 : Int).toNat := (by rw [Ny516.out, List.length_take]; omega)
          rw [← Ny516.out] at hr17
          rw [← hy17] at hcut17
          have HR519 := mk0 hr17
          have HC519 := mk0 (show y516.length ≤ c0 from by omega)
          clear hr17 hC17 hroom17 hi017 hsz17
          have KY17 := mk0 hy17
          clear hy17
          replace q17 := eq_true q17
          refine hK.out _ _ ah (fun hHeld => ?_)
          clear hK K
          refine nr ?_
          refine pu 2 (some 14) HT_ ?_
          refine pu 3 (some 15) HT_ ?_
          refine pu 4 (some 16) HT_ ?_
          refine pu 6 (some 18) HT_ ?_
          refine pu 7 (some 19) HT_ ?_
          refine tk 5 (some 17) HT_ HW_ hHeld ?_
          refine pu 8 (some 20) HT_ ?_
          refine pu 9 (some 21) HT_ ?_
          refine pu 10 (some 22) HT_ ?_
          refine pu 11 (some 23) HT_ ?_
          refine pu 13 (some 25) HT_ ?_
          refine pu 14 (some 26) HT_ ?_
          refine pu 15 (some 27) HT_ ?_
          refine tk 12 (some 24) HT_ HW_ hHeld ?_
          refine on 16 (some 28) HT_ (fun K hK => ?_)
          refine oB Try.func45 #[.slice (some ad513) y516.length c0] (impl_prevOf.calls k1 _ _ y516 t520 _ (cc (Kd.C_below HR519.out HB.out)) HC519.out A10.out) ?_
          intro w18 hb
          replace BK514 := mk0 (blk_below (kb BK514.out) hb)
          replace HB := mk0 (below_step (bg GW514) hb)
          (try clear hb)
          refine hK.out _ _ ah (fun hHeld => ?_)
          clear hK K
          refine nr ?_
          refine pu 17 (some 29) HT_ ?_
          refine pu 18 (some 30) HT_ ?_
          refine dn HT_ ?_
          try go_wp2
          go_roundg k1
          case measure => have := HK1.out; omega
          case rel => exact ⟨(wrap64 (x7_1 + 1)), sv, H', hk1, ⟨(bg GW514)⟩⟩
        · obtain rfl := Option.some.inj H
          have p513 : 0 ≤ (x7_1 : Int) := oa
          have q513 : x7_1 < (l0.length : Int) := oa
          obtain ⟨ad513, A513_3, c513_3, e513, hx513_0, hx513_1, hx513_2, hx513_3, hl513_3, hi513_3⟩ := at_T32 HR0.out x7_1 p513 q513
          cases e513
          replace hx513_0 := hc HB hx513_0
          replace hx513_1 := hc HB hx513_1
          replace hx513_2 := hc HB hx513_2
          replace hx513_3 := hc HB hx513_3
          have HR513_3 := mk0 hi513_3
          have HC513_3 := mk0 hl513_3
          clear hi513_3 hl513_3
          replace p513 := eq_true p513
          replace q513 := eq_true q513
          try go_wp2_with (first | ((with_reducible refine gD 4 rfl ?_); refine bx 4 #[.int .i64 0, .string (⟨#[]⟩ : ByteArray), .string (⟨#[]⟩ : ByteArray), .slice none 0 0] 32 bw ?_; clear HB; intro gb514 w19 BK514 GW514 HB; obtain ⟨hcz20_0, hcz20_1, hcz20_2, hcz20_3, hfz20_0, hfz20_1, hfz20_2, hfz20_3⟩ := z4 BK514))
          refine cp4 BK514 GW514 HB ?_; clear BK514 HB; intro w21 BK514 HB
          replace BK514 := mk0 (blk_drew BK514.out)
          replace HB := mk0 (below_drew1 HB.out)
          refine st 19 impl_ChainOk.tab4 impl_ChainOk.bits4 (b4 BK514 n_) (fun hHeld HT_ HW_ => ?_)
          generalize w21.drew = w22 at BK514 HB hHeld ⊢
          refine tk 0 (some 12) HT_ HW_ hHeld ?_
          refine on 1 (some 13) HT_ (fun K hK => ?_)
          refine oB Try.func16 #[.agg #[.int .i64 ((rd_T32 l0 x7_1).f0), .string ((rd_T32 l0 x7_1).f1), .string ((rd_T32 l0 x7_1).f2), .slice A513_3 ((rd_T32 l0 x7_1).f3).length c513_3]] (impl_SealOk.calls k1 ((rd_T32 l0 x7_1).f0) ((rd_T32 l0 x7_1).f1) ((rd_T32 l0 x7_1).f2) _ _ ((rd_T32 l0 x7_1).f3) true _ (cc (Kd.C_below HR513_3.out HB.out)) HC513_3.out A5.out) ?_
          intro w23 hb
          replace BK514 := mk0 (blk_below (kb BK514.out) hb)
          replace HB := mk0 (below_step (bg GW514) hb)
          (try clear hb)
          have q24 : (x7_1 : Int) ≤ ((l0.length : Int) : Int) := oa
          obtain ⟨i024, hi024, _, hsz24, _⟩ := info_parts info32
          have hroom24 : l0.length ≤ c0 := HC0.out
          have hC24 : Kd.C k32 _ (some ad513) l0.length l0 := HR0.out
          have hcut24 := cut_to (P := Try.prog) 38 32 .i64 Try.underlying38 hi024 (some ad513) l0.length c0 x7_1 oa q24 hroom24
          have hr24 := Kd.C_take (m := (x7_1 : Int).toNat) hC24 (by omega)
          have hy24 : y516.length = (x7_1 : Int).toNat := (by rw [Ny516.out, List.length_take]; omega)
          rw [← Ny516.out] at hr24
          rw [← hy24] at hcut24
          have HR519 := mk0 hr24
          have HC519 := mk0 (show y516.length ≤ c0 from by omega)
          clear hr24 hC24 hroom24 hi024 hsz24
          have KY24 := mk0 hy24
          clear hy24
          replace q24 := eq_true q24
          refine hK.out _ _ ah (fun hHeld => ?_)
          clear hK K
          refine nr ?_
          refine pu 2 (some 14) HT_ ?_
          refine pu 3 (some 15) HT_ ?_
          refine pu 4 (some 16) HT_ ?_
          refine pu 6 (some 18) HT_ ?_
          refine pu 7 (some 19) HT_ ?_
          refine tk 5 (some 17) HT_ HW_ hHeld ?_
          refine pu 8 (some 20) HT_ ?_
          refine pu 9 (some 21) HT_ ?_
          refine pu 10 (some 22) HT_ ?_
          refine pu 11 (some 23) HT_ ?_
          refine pu 13 (some 25) HT_ ?_
          refine pu 14 (some 26) HT_ ?_
          refine pu 15 (some 27) HT_ ?_
          refine tk 12 (some 24) HT_ HW_ hHeld ?_
          refine on 16 (some 28) HT_ (fun K hK => ?_)
          refine oB Try.func45 #[.slice (some ad513) y516.length c0] (impl_prevOf.calls k1 _ _ y516 t520 _ (cc (Kd.C_below HR519.out HB.out)) HC519.out A10.out) ?_
          intro w25 hb
          replace BK514 := mk0 (blk_below (kb BK514.out) hb)
          replace HB := mk0 (below_step (bg GW514) hb)
          (try clear hb)
          refine hK.out _ _ ah (fun hHeld => ?_)
          clear hK K
          refine nr ?_
          refine pu 17 (some 29) HT_ ?_
          refine pu 18 (some 30) HT_ ?_
          refine dn HT_ ?_
          try go_wp2
          go_ret
          exact ⟨sw, (bg GW514)⟩
      · obtain rfl := Option.some.inj H
        have p513 : 0 ≤ (x7_1 : Int) := oa
        have q513 : x7_1 < (l0.length : Int) := oa
        obtain ⟨ad513, A513_3, c513_3, e513, hx513_0, hx513_1, hx513_2, hx513_3, hl513_3, hi513_3⟩ := at_T32 HR0.out x7_1 p513 q513
        cases e513
        replace hx513_0 := hc HB hx513_0
        replace hx513_1 := hc HB hx513_1
        replace hx513_2 := hc HB hx513_2
        replace hx513_3 := hc HB hx513_3
        have HR513_3 := mk0 hi513_3
        have HC513_3 := mk0 hl513_3
        clear hi513_3 hl513_3
        replace p513 := eq_true p513
        replace q513 := eq_true q513
        try go_wp2_with (first | ((with_reducible refine gD 4 rfl ?_); refine bx 4 #[.int .i64 0, .string (⟨#[]⟩ : ByteArray), .string (⟨#[]⟩ : ByteArray), .slice none 0 0] 32 bw ?_; clear HB; intro gb514 w26 BK514 GW514 HB; obtain ⟨hcz27_0, hcz27_1, hcz27_2, hcz27_3, hfz27_0, hfz27_1, hfz27_2, hfz27_3⟩ := z4 BK514))
        refine cp4 BK514 GW514 HB ?_; clear BK514 HB; intro w28 BK514 HB
        replace BK514 := mk0 (blk_drew BK514.out)
        replace HB := mk0 (below_drew1 HB.out)
        refine st 19 impl_ChainOk.tab4 impl_ChainOk.bits4 (b4 BK514 n_) (fun hHeld HT_ HW_ => ?_)
        generalize w28.drew = w29 at BK514 HB hHeld ⊢
        refine tk 0 (some 12) HT_ HW_ hHeld ?_
        refine on 1 (some 13) HT_ (fun K hK => ?_)
        refine oB Try.func16 #[.agg #[.int .i64 ((rd_T32 l0 x7_1).f0), .string ((rd_T32 l0 x7_1).f1), .string ((rd_T32 l0 x7_1).f2), .slice A513_3 ((rd_T32 l0 x7_1).f3).length c513_3]] (impl_SealOk.calls k1 ((rd_T32 l0 x7_1).f0) ((rd_T32 l0 x7_1).f1) ((rd_T32 l0 x7_1).f2) _ _ ((rd_T32 l0 x7_1).f3) true _ (cc (Kd.C_below HR513_3.out HB.out)) HC513_3.out A5.out) ?_
        intro w30 hb
        replace BK514 := mk0 (blk_below (kb BK514.out) hb)
        replace HB := mk0 (below_step (bg GW514) hb)
        (try clear hb)
        refine hK.out _ _ ah (fun hHeld => ?_)
        clear hK K
        refine nr ?_
        refine pu 2 (some 14) HT_ ?_
        refine pu 3 (some 15) HT_ ?_
        refine pu 4 (some 16) HT_ ?_
        refine pu 6 (some 18) HT_ ?_
        refine pu 7 (some 19) HT_ ?_
        refine tk 5 (some 17) HT_ HW_ hHeld ?_
        refine pu 8 (some 20) HT_ ?_
        refine pu 9 (some 21) HT_ ?_
        refine pu 10 (some 22) HT_ ?_
        refine un 11 (some 23) HT_ ?_
        refine un 12 (some 24) HT_ ?_
        refine un 13 (some 25) HT_ ?_
        refine un 14 (some 26) HT_ ?_
        refine un 15 (some 27) HT_ ?_
        refine un 16 (some 28) HT_ ?_
        refine un 17 (some 29) HT_ ?_
        refine pu 18 (some 30) HT_ ?_
        refine dn HT_ ?_
        try go_wp2
        go_ret
        exact ⟨sw, (bg GW514)⟩
    · replace H := jf H
      obtain rfl := Option.some.inj H
      have p513 : 0 ≤ (x7_1 : Int) := oa
      have q513 : x7_1 < (l0.length : Int) := oa
      obtain ⟨ad513, A513_3, c513_3, e513, hx513_0, hx513_1, hx513_2, hx513_3, hl513_3, hi513_3⟩ := at_T32 HR0.out x7_1 p513 q513
      cases e513
      replace hx513_0 := hc HB hx513_0
      replace hx513_1 := hc HB hx513_1
      replace hx513_2 := hc HB hx513_2
      replace hx513_3 := hc HB hx513_3
      have HR513_3 := mk0 hi513_3
      have HC513_3 := mk0 hl513_3
      clear hi513_3 hl513_3
      replace p513 := eq_true p513
      replace q513 := eq_true q513
      try go_wp2_with (first | ((with_reducible refine gD 4 rfl ?_); refine bx 4 #[.int .i64 0, .string (⟨#[]⟩ : ByteArray), .string (⟨#[]⟩ : ByteArray), .slice none 0 0] 32 bw ?_; clear HB; intro gb514 w31 BK514 GW514 HB; obtain ⟨hcz32_0, hcz32_1, hcz32_2, hcz32_3, hfz32_0, hfz32_1, hfz32_2, hfz32_3⟩ := z4 BK514))
      refine cp4 BK514 GW514 HB ?_; clear BK514 HB; intro w33 BK514 HB
      replace BK514 := mk0 (blk_drew BK514.out)
      replace HB := mk0 (below_drew1 HB.out)
      refine st 19 impl_ChainOk.tab4 impl_ChainOk.bits4 (b4 BK514 n_) (fun hHeld HT_ HW_ => ?_)
      generalize w33.drew = w34 at BK514 HB hHeld ⊢
      refine tk 0 (some 12) HT_ HW_ hHeld ?_
      refine on 1 (some 13) HT_ (fun K hK => ?_)
      refine oB Try.func16 #[.agg #[.int .i64 ((rd_T32 l0 x7_1).f0), .string ((rd_T32 l0 x7_1).f1), .string ((rd_T32 l0 x7_1).f2), .slice A513_3 ((rd_T32 l0 x7_1).f3).length c513_3]] (impl_SealOk.calls k1 ((rd_T32 l0 x7_1).f0) ((rd_T32 l0 x7_1).f1) ((rd_T32 l0 x7_1).f2) _ _ ((rd_T32 l0 x7_1).f3) false _ (cc (Kd.C_below HR513_3.out HB.out)) HC513_3.out A5.out) ?_
      intro w35 hb
      replace BK514 := mk0 (blk_below (kb BK514.out) hb)
      replace HB := mk0 (below_step (bg GW514) hb)
      (try clear hb)
      refine hK.out _ _ ah (fun hHeld => ?_)
      clear hK K
      refine nr ?_
      refine pu 2 (some 14) HT_ ?_
      refine pu 3 (some 15) HT_ ?_
      refine un 4 (some 16) HT_ ?_
      refine un 5 (some 17) HT_ ?_
      refine un 6 (some 18) HT_ ?_
      refine un 7 (some 19) HT_ ?_
      refine un 8 (some 20) HT_ ?_
      refine pu 9 (some 21) HT_ ?_
      refine pu 10 (some 22) HT_ ?_
      refine un 11 (some 23) HT_ ?_
      refine un 12 (some 24) HT_ ?_
      refine un 13 (some 25) HT_ ?_
      refine un 14 (some 26) HT_ ?_
      refine un 15 (some 27) HT_ ?_
      refine un 16 (some 28) HT_ ?_
      refine un 17 (some 29) HT_ ?_
      refine pu 18 (some 30) HT_ ?_
      refine dn HT_ ?_
      try go_wp2
      go_ret
      exact ⟨sw, (bg GW514)⟩
  · obtain rfl := Option.some.inj H
    go_wp2
    go_ret
    exact ⟨sw, bw⟩
end Go.Proofs.Ytlekeiokdmnboaa.Pa
end

section
namespace Go.Proofs.Ytlekeiokdmnboaa.Pa
open Go.RowKit Go.Proofs.YtlekeiokdmnboaaW.PrintWords Go.Proofs.YtlekeiokdmnboaaW.PrintLast Go.Proofs.YtlekeiokdmnboaaW.PrintMore Go.Proofs.Ytlekeiokdmnboaa.M
attribute [local go_sem] max2_int min2_int max_two min_two max_three min_three max_four min_four   -- for this text's walks alone
set_option linter.unusedVariables false
set_option maxHeartbeats 8000000
set_option maxRecDepth 100000
set_option linter.unusedSimpArgs false

/-! ### spec_ChainOk: function 21 -/
def spec_ChainOk.l0 : Nat → List (S32) → Int → Option (Bool)
  | 0, _, _ => none
  | k + 1, x0, x3 => if x3 < (x0.length : Int) then (if 0 ≤ x3 then ((spec_SealOk.f k ((rd_T32 x0 x3).f0) ((rd_T32 x0 x3).f1) ((rd_T32 x0 x3).f2) ((rd_T32 x0 x3).f3)).bind fun t522 => (if t522 = true then (if ((rd_T32 x0 x3).f0) = (wrap64 (x3 + 1)) then (if x3 ≤ (x0.length : Int) then ((spec_l15Prev.f k (x0.take (x3 : Int).toNat)).bind fun t529 => (if ((rd_T32 x0 x3).f1).toList = t529.toList then (spec_ChainOk.l0 k x0 (wrap64 (x3 + 1))) else (some false))) else (none)) else (some false)) else (some false))) else (none)) else (some (decide ((x0.length : Int) ≤ 1000)))
def spec_ChainOk.f (k : Nat) (l0 : List (S32)) : Option (Bool) := spec_ChainOk.l0 k l0 0
theorem spec_ChainOk.mono_l : ∀ k, (∀ y0 y1, LeO (spec_ChainOk.l0 k y0 y1) (spec_ChainOk.l0 (k + 1) y0 y1))
  | 0 => fun _ _ r h => by simp [spec_ChainOk.l0] at h
  | k + 1 => by
    have ih0 := spec_ChainOk.mono_l k
    · intro y0 y1
      unfold spec_ChainOk.l0
      have m0 := @spec_SealOk.mono
      have m1 := @spec_l15Prev.mono
      exact me
theorem spec_ChainOk.mono : ∀ a0 k, LeO (spec_ChainOk.f k a0) (spec_ChainOk.f (k + 1) a0) := by
  intro a0 k
  have ih0 := spec_ChainOk.mono_l k
  unfold spec_ChainOk.f
  have m0 := @spec_SealOk.mono
  have m1 := @spec_l15Prev.mono
  exact me
def spec_ChainOk.T4 : Bool × List (List Nat × List Nat) := (true, [([], []), ([], []), ([0, 1], [0, 1]), ([2], [2]), ([3], [3]), ([4], [4]), ([5, 4], [5]), ([6], [6]), ([6], [6]), ([7, 8, 6], [6, 7, 8]), ([9, 6], [6, 9]), ([10, 6], [6, 10]), ([6], [6]), ([12, 6], [6, 12]), ([11, 13, 6], [6, 11, 13]), ([6, 14], [6, 14]), ([15, 6], [15]), ([16], [16]), ([16], [16]), ([17, 18, 16], [16, 17, 18]), ([19, 16], [16, 19]), ([20, 16], [16, 20]), ([16], [16]), ([16], [16]), ([22, 23, 16], [16, 22, 23]), ([24, 16, 16], [16, 24]), ([21, 25, 16], [16, 21, 25]), ([16, 26], [16, 26])])
def spec_ChainOk.B4 : List Nat := [0, 0, 3, 7, 15, 31, 63, 127, 127, 511, 1023, 2047, 127, 4223, 16383, 32767, 65535, 131071, 131071, 524287, 1048575, 2097151, 131071, 131071, 12713983, 29491199, 67108863, 134217727]
theorem spec_ChainOk.tab4 : rtab .any (opsOf Try.f21 4) = spec_ChainOk.T4 := by kernel_rfl
theorem spec_ChainOk.bits4 : waitsOk spec_ChainOk.T4.2 spec_ChainOk.B4 = true := by kernel_rfl
theorem spec_ChainOk.calls (k : Nat) (A0 : Option Addr) (c0 : Nat) (l0 : List (S32)) (r : Bool) (w : World) (hr0 : Kd.C k32 w A0 l0.length l0) (hc0 : l0.length ≤ c0) (h : spec_ChainOk.f k l0 = some r) :
    Calls Try.prog 21 #[.slice A0 l0.length c0] w fun e w' => e = .returned (.bool r) ∧ Below w.heap.size w w' := by
 have hu32 := Try.underlying32
 have HR0 := mk0 hr0
 have HC0 := mk0 hc0
 clear hr0 hc0
 have HB := mk0 (Below.refl w.heap.size w)
 have H : (spec_ChainOk.l0 k l0 0) = some r := h
 clear h
 have H' := mk0 H
 clear H
 go_enter Try.func21, Try.ntmps21
 go_wp2
 go_loopg [3] k (fun kq v3 w' => ∃ (x3_1 : Int), v3 = .int .i64 x3_1 ∧ Aside0 (spec_ChainOk.l0 kq l0 x3_1 = some r) ∧ Aside0 (kq ≤ k) ∧ Aside0 (Below w.heap.size w w'))
 case atStart => exact ⟨(0), sv, H', nl, ⟨bw⟩⟩
 case round =>
  clear H'
  obtain ⟨x3_1, rfl, HA, HK1, HB⟩ := hrel
  rcases gk with _ | k1
  · exact absurd HA.out (by simp [spec_ChainOk.l0])
  have H := HA.out
  clear HA
  simp only [spec_ChainOk.l0] at H
  replace H := idd H; rcases H with ⟨c2b0, H⟩ | ⟨c2b0, H⟩
  · replace H := gd H; obtain ⟨c3b0, H⟩ := H
    replace H := bd H; obtain ⟨t522, A4, H⟩ := H
    rcases ib t522 with rfl | rfl
    · replace H := jt H
      replace H := iq H; rcases H with ⟨c6b0, c6b1, H⟩ | ⟨c6, c6b0, c6b1, H⟩
      · have c7b0 := eq_true (oa : 0 ≤ x3_1)
        replace H := ge H; obtain ⟨c8b0, c8b1, H⟩ := H
        obtain ⟨y525, Ny525⟩ := nm (l0.take (x3_1 : Int).toNat)
        rw [← Ny525.out] at H
        replace H := bd H; obtain ⟨t529, A9, H⟩ := H
        replace H := it H; rcases H with ⟨c10b0, c10b1, H⟩ | ⟨c10, c10b0, c10b1, H⟩
        · have H' := mk0 H
          clear H
          try go_wp2
          replace HB := mk0 (below_drew1 HB.out)
          have p521 : 0 ≤ (x3_1 : Int) := oa
          have q521 : x3_1 < (l0.length : Int) := oa
          obtain ⟨ad521, A521_3, c521_3, e521, hx521_0, hx521_1, hx521_2, hx521_3, hl521_3, hi521_3⟩ := at_T32 HR0.out x3_1 p521 q521
          have hw521_3 := hx521_3
          have hw521_2 := hx521_2
          have hw521_1 := hx521_1
          have hw521_0 := hx521_0
          cases e521
          replace hx521_0 := hc HB hx521_0
          replace hx521_1 := hc HB hx521_1
          replace hx521_2 := hc HB hx521_2
          replace hx521_3 := hc HB hx521_3
          have HR521_3 := mk0 hi521_3
          have HC521_3 := mk0 hl521_3
          clear hi521_3 hl521_3
          replace p521 := eq_true p521
          replace q521 := eq_true q521
          have p523 : 0 ≤ (x3_1 : Int) := oa
          have q523 : x3_1 < (l0.length : Int) := oa
          obtain ⟨ad523, A523_3, c523_3, e523, hx523_0, hx523_1, hx523_2, hx523_3, hl523_3, hi523_3⟩ := at_T32 HR0.out x3_1 p523 q523
          have hw523_3 := hx523_3
          have hw523_2 := hx523_2
          have hw523_1 := hx523_1
          have hw523_0 := hx523_0
          obtain rfl : ad521 = ad523 := (by injection e523)
          replace hx523_0 := hc HB hx523_0
          replace hx523_1 := hc HB hx523_1
          replace hx523_2 := hc HB hx523_2
          replace hx523_3 := hc HB hx523_3
          have HR523_3 := mk0 hi523_3
          have HC523_3 := mk0 hl523_3
          clear hi523_3 hl523_3
          replace p523 := eq_true p523
          replace q523 := eq_true q523
          have p524 : 0 ≤ (x3_1 : Int) := oa
          have q524 : x3_1 < (l0.length : Int) := oa
          obtain ⟨ad524, A524_3, c524_3, e524, hx524_0, hx524_1, hx524_2, hx524_3, hl524_3, hi524_3⟩ := at_T32 HR0.out x3_1 p524 q524
          have hw524_3 := hx524_3
          have hw524_2 := hx524_2
          have hw524_1 := hx524_1
          have hw524_0 := hx524_0
          obtain rfl : ad521 = ad524 := (by injection e524)
          replace hx524_0 := hc HB hx524_0
          replace hx524_1 := hc HB hx524_1
          replace hx524_2 := hc HB hx524_2
          replace hx524_3 := hc HB hx524_3
          have HR524_3 := mk0 hi524_3
          have HC524_3 := mk0 hl524_3
          clear hi524_3 hl524_3
          replace p524 := eq_true p524
          replace q524 := eq_true q524
          have ea_ := Option.some.inj (hx523_3.symm.trans hx524_3)
          injection ea_ with ea_ en_ ec_
          subst ea_
          subst ec_
          clear en_
          refine st 28 spec_ChainOk.tab4 spec_ChainOk.bits4 (c_ (hc HB hw521_0) (c_ (hc HB hw521_1) (c_ (hc HB hw521_2) (c_ (hc HB hw521_3) (c_ (hc HB hw523_0) (c_ (hc HB hw523_1) (c_ (hc HB hw523_2) (c_ (hc HB hw523_3) (c_ (hc HB hw524_0) (c_ (hc HB hw524_1) (c_ (hc HB hw524_2) (c_ (hc HB hw524_3) n_)))))))))))) (fun hHeld HT_ HW_ => ?_)
          generalize wr.drew = w11 at HB HR521_3 HR523_3 HR524_3 hx521_0 hx521_1 hx521_2 hx521_3 hx523_0 hx523_1 hx523_2 hx523_3 hx524_0 hx524_1 hx524_2 hx524_3 hHeld ⊢
          refine pu 0 (some 10) HT_ ?_
          refine pu 1 (some 11) HT_ ?_
          refine pu 2 (some 12) HT_ ?_
          refine tk 3 (some 13) HT_ HW_ hHeld ?_
          refine on 4 (some 14) HT_ (fun K hK => ?_)
          refine oB Try.func14 #[.agg #[.int .i64 ((rd_T32 l0 x3_1).f0), .string ((rd_T32 l0 x3_1).f1), .string ((rd_T32 l0 x3_1).f2), .slice A521_3 ((rd_T32 l0 x3_1).f3).length c521_3]] (spec_SealOk.calls k1 ((rd_T32 l0 x3_1).f0) ((rd_T32 l0 x3_1).f1) ((rd_T32 l0 x3_1).f2) _ _ ((rd_T32 l0 x3_1).f3) true _ (cc (Kd.C_below HR521_3.out HB.out)) HC521_3.out A4.out) ?_
          intro w12 hb
          replace HB := mk0 (below_step bw hb)
          (try clear hb)
          have q13 : (x3_1 : Int) ≤ ((l0.length : Int) : Int) := oa
          obtain ⟨i013, hi013, _, hsz13, _⟩ := info_parts info32
          have hroom13 : l0.length ≤ c0 := HC0.out
          have hC13 : Kd.C k32 _ (some ad521) l0.length l0 := HR0.out
          have hcut13 := cut_to (P := Try.prog) 38 32 .i64 Try.underlying38 hi013 (some ad521) l0.length c0 x3_1 oa q13 hroom13
          have hr13 := Kd.C_take (m := (x3_1 : Int).toNat) hC13 (by omega)
          have hy13 : y525.length = (x3_1 : Int).toNat := (by rw [Ny525.out, List.length_take]; omega)
          rw [← Ny525.out] at hr13
          rw [← hy13] at hcut13
          have HR528 := mk0 hr13
          have HC528 := mk0 (show y525.length ≤ c0 from by omega)
          clear hr13 hC13 hroom13 hi013 hsz13
          have KY13 := mk0 hy13
          clear hy13
          replace q13 := eq_true q13
          refine hK.out _ _ ah (fun hHeld => ?_)
          clear hK K
          refine nr ?_
          refine pu 5 (some 15) HT_ ?_
          refine pu 6 (some 16) HT_ ?_
          refine pu 7 (some 17) HT_ ?_
          refine pu 8 (some 18) HT_ ?_
          refine pu 9 (some 19) HT_ ?_
          refine pu 10 (some 20) HT_ ?_
          refine pu 12 (some 22) HT_ ?_
          refine pu 13 (some 23) HT_ ?_
          refine tk 11 (some 21) HT_ HW_ hHeld ?_
          refine pu 14 (some 24) HT_ ?_
          refine pu 15 (some 25) HT_ ?_
          refine pu 16 (some 26) HT_ ?_
          refine pu 17 (some 27) HT_ ?_
          refine pu 18 (some 28) HT_ ?_
          refine pu 19 (some 29) HT_ ?_
          refine pu 20 (some 30) HT_ ?_
          refine pu 22 (some 32) HT_ ?_
          refine pu 23 (some 33) HT_ ?_
          refine pu 24 (some 34) HT_ ?_
          refine tk 21 (some 31) HT_ HW_ hHeld ?_
          refine on 25 (some 35) HT_ (fun K hK => ?_)
          refine oB Try.func46 #[.slice (some ad521) y525.length c0] (spec_l15Prev.calls k1 _ _ y525 t529 _ (cc (Kd.C_below HR528.out HB.out)) HC528.out A9.out) ?_
          intro w14 hb
          replace HB := mk0 (below_step bw hb)
          (try clear hb)
          refine hK.out _ _ ah (fun hHeld => ?_)
          clear hK K
          refine nr ?_
          refine pu 26 (some 36) HT_ ?_
          refine pu 27 (some 37) HT_ ?_
          refine dn HT_ ?_
          try go_wp2
          go_roundg k1
          case measure => have := HK1.out; omega
          case rel => exact ⟨(wrap64 (x3_1 + 1)), sv, H', hk1, ⟨bw⟩⟩
        · obtain rfl := Option.some.inj H
          try go_wp2
          replace HB := mk0 (below_drew1 HB.out)
          have p521 : 0 ≤ (x3_1 : Int) := oa
          have q521 : x3_1 < (l0.length : Int) := oa
          obtain ⟨ad521, A521_3, c521_3, e521, hx521_0, hx521_1, hx521_2, hx521_3, hl521_3, hi521_3⟩ := at_T32 HR0.out x3_1 p521 q521
          have hw521_3 := hx521_3
          have hw521_2 := hx521_2
          have hw521_1 := hx521_1
          have hw521_0 := hx521_0
          cases e521
          replace hx521_0 := hc HB hx521_0
          replace hx521_1 := hc HB hx521_1
          replace hx521_2 := hc HB hx521_2
          replace hx521_3 := hc HB hx521_3
          have HR521_3 := mk0 hi521_3
          have HC521_3 := mk0 hl521_3
          clear hi521_3 hl521_3
          replace p521 := eq_true p521
          replace q521 := eq_true q521
          have p523 : 0 ≤ (x3_1 : Int) := oa
          have q523 : x3_1 < (l0.length : Int) := oa
          obtain ⟨ad523, A523_3, c523_3, e523, hx523_0, hx523_1, hx523_2, hx523_3, hl523_3, hi523_3⟩ := at_T32 HR0.out x3_1 p523 q523
          have hw523_3 := hx523_3
          have hw523_2 := hx523_2
          have hw523_1 := hx523_1
          have hw523_0 := hx523_0
          obtain rfl : ad521 = ad523 := (by injection e523)
          replace hx523_0 := hc HB hx523_0
          replace hx523_1 := hc HB hx523_1
          replace hx523_2 := hc HB hx523_2
          replace hx523_3 := hc HB hx523_3
          have HR523_3 := mk0 hi523_3
          have HC523_3 := mk0 hl523_3
          clear hi523_3 hl523_3
          replace p523 := eq_true p523
          replace q523 := eq_true q523
          have p524 : 0 ≤ (x3_1 : Int) := oa
          have q524 : x3_1 < (l0.length : Int) := oa
          obtain ⟨ad524, A524_3, c524_3, e524, hx524_0, hx524_1, hx524_2, hx524_3, hl524_3, hi524_3⟩ := at_T32 HR0.out x3_1 p524 q524
          have hw524_3 := hx524_3
          have hw524_2 := hx524_2
          have hw524_1 := hx524_1
          have hw524_0 := hx524_0
          obtain rfl : ad521 = ad524 := (by injection e524)
          replace hx524_0 := hc HB hx524_0
          replace hx524_1 := hc HB hx524_1
          replace hx524_2 := hc HB hx524_2
          replace hx524_3 := hc HB hx524_3
          have HR524_3 := mk0 hi524_3
          have HC524_3 := mk0 hl524_3
          clear hi524_3 hl524_3
          replace p524 := eq_true p524
          replace q524 := eq_true q524
          have ea_ := Option.some.inj (hx523_3.symm.trans hx524_3)
          injection ea_ with ea_ en_ ec_
          subst ea_
          subst ec_
          clear en_
          refine st 28 spec_ChainOk.tab4 spec_ChainOk.bits4 (c_ (hc HB hw521_0) (c_ (hc HB hw521_1) (c_ (hc HB hw521_2) (c_ (hc HB hw521_3) (c_ (hc HB hw523_0) (c_ (hc HB hw523_1) (c_ (hc HB hw523_2) (c_ (hc HB hw523_3) (c_ (hc HB hw524_0) (c_ (hc HB hw524_1) (c_ (hc HB hw524_2) (c_ (hc HB hw524_3) n_)))))))))))) (fun hHeld HT_ HW_ => ?_)
          generalize wr.drew = w15 at HB HR521_3 HR523_3 HR524_3 hx521_0 hx521_1 hx521_2 hx521_3 hx523_0 hx523_1 hx523_2 hx523_3 hx524_0 hx524_1 hx524_2 hx524_3 hHeld ⊢
          refine pu 0 (some 10) HT_ ?_
          refine pu 1 (some 11) HT_ ?_
          refine pu 2 (some 12) HT_ ?_
          refine tk 3 (some 13) HT_ HW_ hHeld ?_
          refine on 4 (some 14) HT_ (fun K hK => ?_)
          refine oB Try.func14 #[.agg #[.int .i64 ((rd_T32 l0 x3_1).f0), .string ((rd_T32 l0 x3_1).f1), .string ((rd_T32 l0 x3_1).f2), .slice A521_3 ((rd_T32 l0 x3_1).f3).length c521_3]] (spec_SealOk.calls k1 ((rd_T32 l0 x3_1).f0) ((rd_T32 l0 x3_1).f1) ((rd_T32 l0 x3_1).f2) _ _ ((rd_T32 l0 x3_1).f3) true _ (cc (Kd.C_below HR521_3.out HB.out)) HC521_3.out A4.out) ?_
          intro w16 hb
          replace HB := mk0 (below_step bw hb)
          (try clear hb)
          have q17 : (x3_1 : Int) ≤ ((l0.length : Int) : Int) := oa
          obtain ⟨i017, hi017, _, hsz17, _⟩ := info_parts info32
          have hroom17 : l0.length ≤ c0 := HC0.out
          have hC17 : Kd.C k32 _ (some ad521) l0.length l0 := HR0.out
          have hcut17 := cut_to (P := Try.prog) 38 32 .i64 Try.underlying38 hi017 (some ad521) l0.length c0 x3_1 oa q17 hroom17
          have hr17 := Kd.C_take (m := (x3_1 : Int).toNat) hC17 (by omega)
          have hy17 : y525.length = (x3_1 : Int).toNat := (by rw [Ny525.out, List.length_take]; omega)
          rw [← Ny525.out] at hr17
          rw [← hy17] at hcut17
          have HR528 := mk0 hr17
          have HC528 := mk0 (show y525.length ≤ c0 from by omega)
          clear hr17 hC17 hroom17 hi017 hsz17
          have KY17 := mk0 hy17
          clear hy17
          replace q17 := eq_true q17
          refine hK.out _ _ ah (fun hHeld => ?_)
          clear hK K
          refine nr ?_
          refine pu 5 (some 15) HT_ ?_
          refine pu 6 (some 16) HT_ ?_
          refine pu 7 (some 17) HT_ ?_
          refine pu 8 (some 18) HT_ ?_
          refine pu 9 (some 19) HT_ ?_
          refine pu 10 (some 20) HT_ ?_
          refine pu 12 (some 22) HT_ ?_
          refine pu 13 (some 23) HT_ ?_
          refine tk 11 (some 21) HT_ HW_ hHeld ?_
          refine pu 14 (some 24) HT_ ?_
          refine pu 15 (some 25) HT_ ?_
          refine pu 16 (some 26) HT_ ?_
          refine pu 17 (some 27) HT_ ?_
          refine pu 18 (some 28) HT_ ?_
          refine pu 19 (some 29) HT_ ?_
          refine pu 20 (some 30) HT_ ?_
          refine pu 22 (some 32) HT_ ?_
          refine pu 23 (some 33) HT_ ?_
          refine pu 24 (some 34) HT_ ?_
          refine tk 21 (some 31) HT_ HW_ hHeld ?_
          refine on 25 (some 35) HT_ (fun K hK => ?_)
          refine oB Try.func46 #[.slice (some ad521) y525.length c0] (spec_l15Prev.calls k1 _ _ y525 t529 _ (cc (Kd.C_below HR528.out HB.out)) HC528.out A9.out) ?_
          intro w18 hb
          replace HB := mk0 (below_step bw hb)
          (try clear hb)
          refine hK.out _ _ ah (fun hHeld => ?_)
          clear hK K
          refine nr ?_
          refine pu 26 (some 36) HT_ ?_
          refine pu 27 (some 37) HT_ ?_
          refine dn HT_ ?_
          try go_wp2
          go_ret
          exact ⟨sw, bw⟩
      · obtain rfl := Option.some.inj H
        try go_wp2
        replace HB := mk0 (below_drew1 HB.out)
        have p521 : 0 ≤ (x3_1 : Int) := oa
        have q521 : x3_1 < (l0.length : Int) := oa
        obtain ⟨ad521, A521_3, c521_3, e521, hx521_0, hx521_1, hx521_2, hx521_3, hl521_3, hi521_3⟩ := at_T32 HR0.out x3_1 p521 q521
        have hw521_3 := hx521_3
        have hw521_2 := hx521_2
        have hw521_1 := hx521_1
        have hw521_0 := hx521_0
        cases e521
        replace hx521_0 := hc HB hx521_0
        replace hx521_1 := hc HB hx521_1
        replace hx521_2 := hc HB hx521_2
        replace hx521_3 := hc HB hx521_3
        have HR521_3 := mk0 hi521_3
        have HC521_3 := mk0 hl521_3
        clear hi521_3 hl521_3
        replace p521 := eq_true p521
        replace q521 := eq_true q521
        have p523 : 0 ≤ (x3_1 : Int) := oa
        have q523 : x3_1 < (l0.length : Int) := oa
        obtain ⟨ad523, A523_3, c523_3, e523, hx523_0, hx523_1, hx523_2, hx523_3, hl523_3, hi523_3⟩ := at_T32 HR0.out x3_1 p523 q523
        have hw523_3 := hx523_3
        have hw523_2 := hx523_2
        have hw523_1 := hx523_1
        have hw523_0 := hx523_0
        obtain rfl : ad521 = ad523 := (by injection e523)
        replace hx523_0 := hc HB hx523_0
        replace hx523_1 := hc HB hx523_1
        replace hx523_2 := hc HB hx523_2
        replace hx523_3 := hc HB hx523_3
        have HR523_3 := mk0 hi523_3
        have HC523_3 := mk0 hl523_3
        clear hi523_3 hl523_3
        replace p523 := eq_true p523
        replace q523 := eq_true q523
        refine st 28 spec_ChainOk.tab4 spec_ChainOk.bits4 (c_ (hc HB hw521_0) (c_ (hc HB hw521_1) (c_ (hc HB hw521_2) (c_ (hc HB hw521_3) (c_ (hc HB hw523_0) (c_ (hc HB hw523_1) (c_ (hc HB hw523_2) (c_ (hc HB hw523_3) n_)))))))) (fun hHeld HT_ HW_ => ?_)
        generalize wr.drew = w19 at HB HR521_3 HR523_3 hx521_0 hx521_1 hx521_2 hx521_3 hx523_0 hx523_1 hx523_2 hx523_3 hHeld ⊢
        refine pu 0 (some 10) HT_ ?_
        refine pu 1 (some 11) HT_ ?_
        refine pu 2 (some 12) HT_ ?_
        refine tk 3 (some 13) HT_ HW_ hHeld ?_
        refine on 4 (some 14) HT_ (fun K hK => ?_)
        refine oB Try.func14 #[.agg #[.int .i64 ((rd_T32 l0 x3_1).f0), .string ((rd_T32 l0 x3_1).f1), .string ((rd_T32 l0 x3_1).f2), .slice A521_3 ((rd_T32 l0 x3_1).f3).length c521_3]] (spec_SealOk.calls k1 ((rd_T32 l0 x3_1).f0) ((rd_T32 l0 x3_1).f1) ((rd_T32 l0 x3_1).f2) _ _ ((rd_T32 l0 x3_1).f3) true _ (cc (Kd.C_below HR521_3.out HB.out)) HC521_3.out A4.out) ?_
        intro w20 hb
        replace HB := mk0 (below_step bw hb)
        (try clear hb)
        refine hK.out _ _ ah (fun hHeld => ?_)
        clear hK K
        refine nr ?_
        refine pu 5 (some 15) HT_ ?_
        refine pu 6 (some 16) HT_ ?_
        refine pu 7 (some 17) HT_ ?_
        refine pu 8 (some 18) HT_ ?_
        refine pu 9 (some 19) HT_ ?_
        refine pu 10 (some 20) HT_ ?_
        refine pu 12 (some 22) HT_ ?_
        refine pu 13 (some 23) HT_ ?_
        refine tk 11 (some 21) HT_ HW_ hHeld ?_
        refine pu 14 (some 24) HT_ ?_
        refine pu 15 (some 25) HT_ ?_
        refine pu 16 (some 26) HT_ ?_
        refine un 17 (some 27) HT_ ?_
        refine un 18 (some 28) HT_ ?_
        refine un 19 (some 29) HT_ ?_
        refine un 20 (some 30) HT_ ?_
        refine un 21 (some 31) HT_ ?_
        refine un 22 (some 32) HT_ ?_
        refine un 23 (some 33) HT_ ?_
        refine un 24 (some 34) HT_ ?_
        refine un 25 (some 35) HT_ ?_
        refine un 26 (some 36) HT_ ?_
        refine pu 27 (some 37) HT_ ?_
        refine dn HT_ ?_
        try go_wp2
        go_ret
        exact ⟨sw, bw⟩
    · replace H := jf H
      obtain rfl := Option.some.inj H
      try go_wp2
      replace HB := mk0 (below_drew1 HB.out)
      have p521 : 0 ≤ (x3_1 : Int) := oa
      have q521 : x3_1 < (l0.length : Int) := oa
      obtain ⟨ad521, A521_3, c521_3, e521, hx521_0, hx521_1, hx521_2, hx521_3, hl521_3, hi521_3⟩ := at_T32 HR0.out x3_1 p521 q521
      have hw521_3 := hx521_3
      have hw521_2 := hx521_2
      have hw521_1 := hx521_1
      have hw521_0 := hx521_0
      cases e521
      replace hx521_0 := hc HB hx521_0
      replace hx521_1 := hc HB hx521_1
      replace hx521_2 := hc HB hx521_2
      replace hx521_3 := hc HB hx521_3
      have HR521_3 := mk0 hi521_3
      have HC521_3 := mk0 hl521_3
      clear hi521_3 hl521_3
      replace p521 := eq_true p521
      replace q521 := eq_true q521
      refine st 28 spec_ChainOk.tab4 spec_ChainOk.bits4 (c_ (hc HB hw521_0) (c_ (hc HB hw521_1) (c_ (hc HB hw521_2) (c_ (hc HB hw521_3) n_)))) (fun hHeld HT_ HW_ => ?_)
      generalize wr.drew = w21 at HB HR521_3 hx521_0 hx521_1 hx521_2 hx521_3 hHeld ⊢
      refine pu 0 (some 10) HT_ ?_
      refine pu 1 (some 11) HT_ ?_
      refine pu 2 (some 12) HT_ ?_
      refine tk 3 (some 13) HT_ HW_ hHeld ?_
      refine on 4 (some 14) HT_ (fun K hK => ?_)
      refine oB Try.func14 #[.agg #[.int .i64 ((rd_T32 l0 x3_1).f0), .string ((rd_T32 l0 x3_1).f1), .string ((rd_T32 l0 x3_1).f2), .slice A521_3 ((rd_T32 l0 x3_1).f3).length c521_3]] (spec_SealOk.calls k1 ((rd_T32 l0 x3_1).f0) ((rd_T32 l0 x3_1).f1) ((rd_T32 l0 x3_1).f2) _ _ ((rd_T32 l0 x3_1).f3) false _ (cc (Kd.C_below HR521_3.out HB.out)) HC521_3.out A4.out) ?_
      intro w22 hb
      replace HB := mk0 (below_step bw hb)
      (try clear hb)
      refine hK.out _ _ ah (fun hHeld => ?_)
      clear hK K
      refine nr ?_
      refine pu 5 (some 15) HT_ ?_
      refine pu 6 (some 16) HT_ ?_
      refine un 7 (some 17) HT_ ?_
      refine un 8 (some 18) HT_ ?_
      refine un 9 (some 19) HT_ ?_
      refine un 10 (some 20) HT_ ?_
      refine un 11 (some 21) HT_ ?_
      refine un 12 (some 22) HT_ ?_
      refine un 13 (some 23) HT_ ?_
      refine un 14 (some 24) HT_ ?_
      refine pu 15 (some 25) HT_ ?_
      refine pu 16 (some 26) HT_ ?_
      refine un 17 (some 27) HT_ ?_
      refine un 18 (some 28) HT_ ?_
      refine un 19 (some 29) HT_ ?_
      refine un 20 (some 30) HT_ ?_
      refine un 21 (some 31) HT_ ?_
      refine un 22 (some 32) HT_ ?_
      refine un 23 (some 33) HT_ ?_
      refine un 24 (some 34) HT_ ?_
      refine un 25 (some 35) HT_ ?_
      refine un 26 (some 36) HT_ ?_
      refine pu 27 (some 37) HT_ ?_
      refine dn HT_ ?_
      try go_wp2
      go_ret
      exact ⟨sw, bw⟩
  · obtain rfl := Option.some.inj H
    go_wp2
    go_ret
    exact ⟨sw, bw⟩
end Go.Proofs.Ytlekeiokdmnboaa.Pa
end

section
namespace Go.Proofs.Ytlekeiokdmnboaa.Pa
open Go.RowKit Go.Proofs.YtlekeiokdmnboaaW.PrintWords Go.Proofs.YtlekeiokdmnboaaW.PrintLast Go.Proofs.YtlekeiokdmnboaaW.PrintMore Go.Proofs.Ytlekeiokdmnboaa.M
attribute [local go_sem] max2_int min2_int max_two min_two max_three min_three max_four min_four   -- for this text's walks alone
set_option linter.unusedVariables false
set_option maxHeartbeats 8000000
set_option maxRecDepth 100000
set_option linter.unusedSimpArgs false

/-! ### laws_szSealS: function 22 -/
def laws_szSealS.l0 : Nat → List (S29) → Int → Int → Option (Int)
  | 0, _, _, _ => none
  | k + 1, x0, x1, x5 => if x5 < (x0.length : Int) then (if 0 ≤ x5 then ((laws_szSeal.f k ((rd_T29 x0 x5).f0) ((rd_T29 x0 x5).f1) ((rd_T29 x0 x5).f2) ((rd_T29 x0 x5).f3) x1).bind fun t552 => (if t552 < 0 then (some (-1)) else (laws_szSealS.l0 k x0 t552 (wrap64 (x5 + 1))))) else (none)) else (some x1)
def laws_szSealS.f (k : Nat) (l0 : List (S29)) (a1 : Int) : Option (Int) := if (wrap64 (a1 - (l0.length : Int))) < 0 then (some (-1)) else (laws_szSealS.l0 k l0 (wrap64 (a1 - (l0.length : Int))) 0)
theorem laws_szSealS.mono_l : ∀ k, (∀ y0 y1 y2, LeO (laws_szSealS.l0 k y0 y1 y2) (laws_szSealS.l0 (k + 1) y0 y1 y2))
  | 0 => fun _ _ _ r h => by simp [laws_szSealS.l0] at h
  | k + 1 => by
    have ih0 := laws_szSealS.mono_l k
    · intro y0 y1 y2
      unfold laws_szSealS.l0
      have m0 := @laws_szSeal.mono
      exact me
theorem laws_szSealS.mono : ∀ a0 a1 k, LeO (laws_szSealS.f k a0 a1) (laws_szSealS.f (k + 1) a0 a1) := by
  intro a0 a1 k
  have ih0 := laws_szSealS.mono_l k
  unfold laws_szSealS.f
  have m0 := @laws_szSeal.mono
  exact me
theorem laws_szSealS.calls (k : Nat) (A0 : Option Addr) (c0 : Nat) (l0 : List (S29)) (a1 : Int) (r : Int) (w : World) (hr0 : Kd.C k29 w A0 l0.length l0) (hc0 : l0.length ≤ c0) (h : laws_szSealS.f k l0 a1 = some r) :
    Calls Try.prog 22 #[.slice A0 l0.length c0, .int .i64 a1] w fun e w' => e = .returned (.int .i64 r) ∧ Below w.heap.size w w' := by
 have hu29 := Try.underlying29
 have HR0 := mk0 hr0
 have HC0 := mk0 hc0
 clear hr0 hc0
 have HB := mk0 (Below.refl w.heap.size w)
 have H : (if (wrap64 (a1 - (l0.length : Int))) < 0 then (some (-1)) else (laws_szSealS.l0 k l0 (wrap64 (a1 - (l0.length : Int))) 0)) = some r := h
 clear h
 replace H := idd H; rcases H with ⟨c3b0, H⟩ | ⟨c3b0, H⟩
 · obtain rfl := Option.some.inj H
   go_enter Try.func22, Try.ntmps22
   go_wp2
   go_ret
   exact ⟨sw, bw⟩
 · have H' := mk0 H
   clear H
   go_enter Try.func22, Try.ntmps22
   go_wp2
   go_loopg [1, 5] k (fun kq v1 v5 w' => ∃ (x1_1 : Int) (x5_1 : Int), v1 = .int .i64 x1_1 ∧ v5 = .int .i64 x5_1 ∧ Aside0 (laws_szSealS.l0 kq l0 x1_1 x5_1 = some r) ∧ Aside0 (kq ≤ k) ∧ Aside0 (Below w.heap.size w w'))
   case atStart => exact ⟨(wrap64 (a1 - (l0.length : Int))), (0), sv, sv, H', nl, ⟨bw⟩⟩
   case round =>
    clear H'
    (try clear c3b0)
    obtain ⟨x1_1, x5_1, rfl, rfl, HA, HK1, HB⟩ := hrel
    rcases gk with _ | k1
    · exact absurd HA.out (by simp [laws_szSealS.l0])
    have H := HA.out
    clear HA
    simp only [laws_szSealS.l0] at H
    replace H := idd H; rcases H with ⟨c4b0, H⟩ | ⟨c4b0, H⟩
    · replace H := gd H; obtain ⟨c5b0, H⟩ := H
      replace H := bd H; obtain ⟨t552, A6, H⟩ := H
      replace H := idd H; rcases H with ⟨c7b0, H⟩ | ⟨c7b0, H⟩
      · obtain rfl := Option.some.inj H
        have p551 : 0 ≤ (x5_1 : Int) := oa
        have q551 : x5_1 < (l0.length : Int) := oa
        obtain ⟨ad551, A551_3, c551_3, e551, hx551_0, hx551_1, hx551_2, hx551_3, hl551_3, hi551_3⟩ := at_T29 HR0.out x5_1 p551 q551
        cases e551
        replace hx551_0 := hc HB hx551_0
        replace hx551_1 := hc HB hx551_1
        replace hx551_2 := hc HB hx551_2
        replace hx551_3 := hc HB hx551_3
        have HR551_3 := mk0 hi551_3
        have HC551_3 := mk0 hl551_3
        clear hi551_3 hl551_3
        replace p551 := eq_true p551
        replace q551 := eq_true q551
        go_wp2_with (first | ((with_reducible refine gC 13 (some 23) rfl rfl ?_); refine gB (some 23) Try.func13 #[.agg #[.int .i64 ((rd_T29 l0 x5_1).f0), .string ((rd_T29 l0 x5_1).f1), .string ((rd_T29 l0 x5_1).f2), .slice A551_3 ((rd_T29 l0 x5_1).f3).length c551_3], .int .i64 x1_1] (laws_szSeal.calls k1 ((rd_T29 l0 x5_1).f0) ((rd_T29 l0 x5_1).f1) ((rd_T29 l0 x5_1).f2) _ _ ((rd_T29 l0 x5_1).f3) x1_1 t552 _ (cc (Kd.C_below HR551_3.out HB.out)) HC551_3.out A6.out) ?_; intro w8 hb; replace HB := mk0 (below_step bw hb); clear hb))
        go_ret
        exact ⟨sw, bw⟩
      · have H' := mk0 H
        clear H
        have p551 : 0 ≤ (x5_1 : Int) := oa
        have q551 : x5_1 < (l0.length : Int) := oa
        obtain ⟨ad551, A551_3, c551_3, e551, hx551_0, hx551_1, hx551_2, hx551_3, hl551_3, hi551_3⟩ := at_T29 HR0.out x5_1 p551 q551
        cases e551
        replace hx551_0 := hc HB hx551_0
        replace hx551_1 := hc HB hx551_1
        replace hx551_2 := hc HB hx551_2
        replace hx551_3 := hc HB hx551_3
        have HR551_3 := mk0 hi551_3
        have HC551_3 := mk0 hl551_3
        clear hi551_3 hl551_3
        replace p551 := eq_true p551
        replace q551 := eq_true q551
        go_wp2_with (first | ((with_reducible refine gC 13 (some 23) rfl rfl ?_); refine gB (some 23) Try.func13 #[.agg #[.int .i64 ((rd_T29 l0 x5_1).f0), .string ((rd_T29 l0 x5_1).f1), .string ((rd_T29 l0 x5_1).f2), .slice A551_3 ((rd_T29 l0 x5_1).f3).length c551_3], .int .i64 x1_1] (laws_szSeal.calls k1 ((rd_T29 l0 x5_1).f0) ((rd_T29 l0 x5_1).f1) ((rd_T29 l0 x5_1).f2) _ _ ((rd_T29 l0 x5_1).f3) x1_1 t552 _ (cc (Kd.C_below HR551_3.out HB.out)) HC551_3.out A6.out) ?_; intro w9 hb; replace HB := mk0 (below_step bw hb); clear hb))
        go_roundg k1
        case measure => have := HK1.out; omega
        case rel => exact ⟨(t552), (wrap64 (x5_1 + 1)), sv, sv, H', hk1, ⟨bw⟩⟩
    · obtain rfl := Option.some.inj H
      go_wp2
      go_ret
      exact ⟨sw, bw⟩
/-! ### laws_toSealS: function 23 -/
def laws_toSealS.l0 : Nat → List (S29) → List (S32) → Int → Option ((List (S32)))
  | 0, _, _, _ => none
  | k + 1, x0, x3, x4 => if x4 < (x0.length : Int) then (if 0 ≤ x4 then ((laws_toSeal.f k ((rd_T29 x0 x4).f0) ((rd_T29 x0 x4).f1) ((rd_T29 x0 x4).f2) ((rd_T29 x0 x4).f3)).bind fun bt557 => (if x4 < (x3.length : Int) then (laws_toSealS.l0 k x0 (x3.set (x4 : Int).toNat (⟨bt557.1, bt557.2.1, bt557.2.2.1, bt557.2.2.2⟩ : S32)) (wrap64 (x4 + 1))) else (none))) else (none)) else (some x3)
def laws_toSealS.f (k : Nat) (l0 : List (S29)) : Option ((List (S32))) := if 0 ≤ (l0.length : Int) then (if ((l0.length : Int) : Int).toNat ≤ 4398046511104 then (laws_toSealS.l0 k l0 (List.replicate ((l0.length : Int) : Int).toNat z32) 0) else (none)) else (none)
theorem laws_toSealS.mono_l : ∀ k, (∀ y0 y1 y2, LeO (laws_toSealS.l0 k y0 y1 y2) (laws_toSealS.l0 (k + 1) y0 y1 y2))
  | 0 => fun _ _ _ r h => by simp [laws_toSealS.l0] at h
  | k + 1 => by
    have ih0 := laws_toSealS.mono_l k
    · intro y0 y1 y2
      unfold laws_toSealS.l0
      have m0 := @laws_toSeal.mono
      exact me
theorem laws_toSealS.mono : ∀ a0 k, LeO (laws_toSealS.f k a0) (laws_toSealS.f (k + 1) a0) := by
  intro a0 k
  have ih0 := laws_toSealS.mono_l k
  unfold laws_toSealS.f
  have m0 := @laws_toSeal.mono
  exact me
theorem laws_toSealS.calls (k : Nat) (A0 : Option Addr) (c0 : Nat) (l0 : List (S29)) (r : List (S32)) (w : World) (hr0 : Kd.C k29 w A0 l0.length l0) (hc0 : l0.length ≤ c0) (h : laws_toSealS.f k l0 = some r) :
    Calls Try.prog 23 #[.slice A0 l0.length c0] w fun e w' => ∃ v0_ : Value, e = .returned (v0_) ∧ Kd.S k32 32 w' w.heap.size (fun _ => True) v0_ r ∧ Below w.heap.size w w' := by
 have hu29 := Try.underlying29
 have hu32 := Try.underlying32
 have HR0 := mk0 hr0
 have HC0 := mk0 hc0
 clear hr0 hc0
 have HB := mk0 (Below.refl w.heap.size w)
 have H : (if 0 ≤ (l0.length : Int) then (if ((l0.length : Int) : Int).toNat ≤ 4398046511104 then (laws_toSealS.l0 k l0 (List.replicate ((l0.length : Int) : Int).toNat z32) 0) else (none)) else (none)) = some r := h
 clear h
 replace H := ge H; obtain ⟨c2b0, c2b1, H⟩ := H
 replace H := ge H; obtain ⟨c3b0, c3b1, H⟩ := H
 obtain ⟨y553, Ny553⟩ := nm (List.replicate ((l0.length : Int) : Int).toNat z32)
 rw [← Ny553.out] at H
 have H' := mk0 H
 clear H
 go_enter Try.func23, Try.ntmps23
 go_wp2_with (first | ((with_reducible refine gD 7 rfl ?_); refine Kd.S_make k32 _ 32 rfl (N := 7) rfl 38 _ _ rfl (l0.length : Int) rfl rfl Try.underlying38 (.agg #[(.int .i64 0), (.string ⟨#[]⟩), (.string ⟨#[]⟩), (.slice none 0 0)]) 64 info32 rfl (by decide) (by omega) z32 (ok := fun _ => True) (okp := fun _ => True) (k32_mkM _ _ _ z32 (Kd.R_nil _ _ _ _ _)) (fun _ hk => hk) trivial oa (Nat.le_trans (Nat.mul_le_mul_right _ (oa : (l0.length : Int).toNat ≤ 4398046511104)) (by omega)) (Below.refl _ _) (Nat.le_refl _) ?_; intro v554 w4 ho5 hb hg_ hnew_; clear hg_ hnew_; (first | rw [← Ny553.out] at ho5 | (simp only [Int.reduceToNat] at ho5; rw [← Ny553.out] at ho5)); have HO555 := mk0 (Kd.S_lower ho5 bs); replace HB := mk0 (below_step bw hb); clear hb ho5))
 go_loopg [4] k (fun kq v4 w' => ∃ (x3_1 : List (S32)) (x4_1 : Int), v4 = .int .i64 x4_1 ∧ Aside0 (laws_toSealS.l0 kq l0 x3_1 x4_1 = some r) ∧ Aside0 (kq ≤ k) ∧ Aside0 (Kd.S k32 32 w' w.heap.size (fun _ => True) v554 x3_1) ∧ Aside0 (Below w.heap.size w w'))
 case atStart => exact ⟨(y553), (0), sv, H', nl, ⟨rS HO555.out⟩, ⟨bw⟩⟩
 case round =>
  clear H'
  (try clear c2b0); (try clear c2b1); (try clear c3b0); (try clear c3b1)
  obtain ⟨x3_1, x4_1, rfl, HA, HK1, HO_3, HB⟩ := hrel
  rcases gk with _ | k1
  · exact absurd HA.out (by simp [laws_toSealS.l0])
  have H := HA.out
  clear HA
  simp only [laws_toSealS.l0] at H
  replace H := idd H; rcases H with ⟨c6b0, H⟩ | ⟨c6b0, H⟩
  · replace H := gd H; obtain ⟨c7b0, H⟩ := H
    replace H := bd H; obtain ⟨⟨t557, t558, t559, t560⟩, A8, H⟩ := H
    (try dsimp only at H)
    replace H := gd H; obtain ⟨c9b0, H⟩ := H
    obtain ⟨y563, Ny563⟩ := nm (x3_1.set (x4_1 : Int).toNat (⟨t557, t558, t559, t560⟩ : S32))
    rw [← Ny563.out] at H
    have H' := mk0 H
    clear H
    have p556 : 0 ≤ (x4_1 : Int) := oa
    have q556 : x4_1 < (l0.length : Int) := oa
    obtain ⟨ad556, A556_3, c556_3, e556, hx556_0, hx556_1, hx556_2, hx556_3, hl556_3, hi556_3⟩ := at_T29 HR0.out x4_1 p556 q556
    cases e556
    replace hx556_0 := hc HB hx556_0
    replace hx556_1 := hc HB hx556_1
    replace hx556_2 := hc HB hx556_2
    replace hx556_3 := hc HB hx556_3
    have HR556_3 := mk0 hi556_3
    have HC556_3 := mk0 hl556_3
    clear hi556_3 hl556_3
    replace p556 := eq_true p556
    replace q556 := eq_true q556
    go_wp2_with (first | ((with_reducible refine gC 15 (some 20) rfl rfl ?_); refine gR (some 20) Try.func15 #[.agg #[.int .i64 ((rd_T29 l0 x4_1).f0), .string ((rd_T29 l0 x4_1).f1), .string ((rd_T29 l0 x4_1).f2), .slice A556_3 ((rd_T29 l0 x4_1).f3).length c556_3]] (laws_toSeal.calls k1 ((rd_T29 l0 x4_1).f0) ((rd_T29 l0 x4_1).f1) ((rd_T29 l0 x4_1).f2) _ _ ((rd_T29 l0 x4_1).f3) t557 t558 t559 t560 _ (cc (Kd.C_below HR556_3.out HB.out)) HC556_3.out A8.out) ?_; intro v561 w11 ho0 hb; replace HO_3 := mk0 (Kd.S_elder' (rS HO_3.out) (Kd.R_base ho0) hb); have HO562 := mk0 (Kd.R_lower ho0 bs); replace HB := mk0 (below_step bw hb); clear hb ho0; have p10 : 0 ≤ (x4_1 : Int) := oa; have q10 : (x4_1 : Int) < ((x3_1.length : Int) : Int) := oa; obtain ⟨go10, co10, eo10, gb10, gl10, cl10, HG10⟩ := Kd.S_form HO_3.out (by omega); (first | cases eo10 | (injection eo10 with ea_ en_ ec_; (first | subst ea_ | (injection ea_ with ea_; subst ea_)); subst ec_; clear en_)); have GB10 := mk0 gb10; have GG10 := mk0 HG10; clear gb10 gl10 HG10; obtain ⟨_, ce10, hcl10, hM10, hcc10, hfr10, _, _⟩ := Kd.S_elem HO_3.out z32 (x4_1 : Int) p10 q10; obtain ⟨ve10_3, rfl, ge10_3⟩ := k32_openM hM10; have hx10_0 : w11.cell? ⟨go10, (x4_1 : Int).toNat * 4, none⟩ = some (.int .i64 ((rd_T32 x3_1 x4_1).f0)) := hcc10 0 _ rfl; have hx10_1 : w11.cell? ⟨go10, (x4_1 : Int).toNat * 4 + 1, none⟩ = some (.string ((rd_T32 x3_1 x4_1).f1)) := hcc10 1 _ rfl; have hx10_2 : w11.cell? ⟨go10, (x4_1 : Int).toNat * 4 + 2, none⟩ = some (.string ((rd_T32 x3_1 x4_1).f2)) := hcc10 2 _ rfl; have hx10_3 : w11.cell? ⟨go10, (x4_1 : Int).toNat * 4 + 3, none⟩ = some (ve10_3) := hcc10 3 _ rfl; have hf10_0 : w11.frozen? ⟨go10, (x4_1 : Int).toNat * 4, none⟩ = false := hfr10 0; have hf10_1 : w11.frozen? ⟨go10, (x4_1 : Int).toNat * 4 + 1, none⟩ = false := hfr10 1; have hf10_2 : w11.frozen? ⟨go10, (x4_1 : Int).toNat * 4 + 2, none⟩ = false := hfr10 2; have hf10_3 : w11.frozen? ⟨go10, (x4_1 : Int).toNat * 4 + 3, none⟩ = false := hfr10 3; clear hcl10 hcc10 hfr10 hM10; replace p10 := eq_true p10; replace q10 := eq_true q10; have n_ := mk0 (Kd.S_mono (ok' := (fun k_ => some k_ ≠ (v561 : Value).ownBlock)) HO_3.out (fun k_ hk => hk.2)); clear HO_3; have HO_3 := n_; clear n_; have HX12 := mk0 (show Kd.S k32 32 w11 w.heap.size (fun k_ => ((fun _ => True)) k_ ∧ ¬ ((fun k_ => some k_ = (v561 : Value).ownBlock)) k_) (.slice (some ⟨go10, 0, none⟩) x3_1.length co10) x3_1 from (by (with_reducible repeat (first | apply Kd.S_alloc | apply Kd.S_drewN | apply Kd.S_drew)); exact Kd.S_mono HO_3.out (fun k_ hk => ⟨trivial, fun e_ => hk e_⟩))); obtain ⟨oki12, ce12, hcl12, hM12, hcc12, hfr12, hoki12, hH12⟩ := Kd.S_elem HX12.out z32 (x4_1 : Int) oa (by have h_ : (x4_1 : Int) < ((x3_1.length : Int) : Int) := oa; first | exact h_ | (have e_ := (Kd.S_reads' HO_3.out).1; omega) | simpa using h_); obtain ⟨ve12_3, rfl, ge12_3⟩ := k32_openM hM12; have HP12 := Kd.S_seg hH12 oa (by have h_ : (x4_1 : Int) < ((x3_1.length : Int) : Int) := oa; first | exact h_ | (have e_ := (Kd.S_reads' HO_3.out).1; omega) | simpa using h_) (seg := [.int .i64 t557, .string t558, .string t559, v561]) (j := 0) (show 4 ≤ 4 from by decide) (x' := (⟨t557, t558, t559, t560⟩ : S32)) (k32_mkM _ _ _ (⟨t557, t558, t559, t560⟩ : S32) (Kd.R_mono (Kd.R_tight rfl (Kd.R_mono (ok' := fun k_ => ((fun _ => True)) k_ ∧ k_ ≠ go10) (Kd.R_apart' (HO562.out) (Kd.S_typed HO_3.out) (by decide)) (fun k_ hk => ⟨trivial, fun e_ => (hk.2) (by rw [e_]; rfl)⟩))) (fun _ h_ => Or.inr (h_)))) (fun _ hk => hk) (fun k_ hk_ => ((Kd.R_mono (ok' := fun k_ => ((fun _ => True)) k_ ∧ k_ ≠ go10) (Kd.R_apart' (HO562.out) (Kd.S_typed HO_3.out) (by decide)) (fun k_ hk => ⟨trivial, fun e_ => (hk.2) (by rw [e_]; rfl)⟩))).1 k_ hk_.symm); have hx12_0 := hcc12 0 _ rfl; (try simp only [show (k32).sz = 4 from rfl, Nat.mul_one, Nat.add_zero] at hx12_0); have hf12_0 := hfr12 0; (try simp only [show (k32).sz = 4 from rfl, Nat.mul_one, Nat.add_zero] at hf12_0); have hx12_1 := hcc12 1 _ rfl; (try simp only [show (k32).sz = 4 from rfl, Nat.mul_one, Nat.add_zero] at hx12_1); have hf12_1 := hfr12 1; (try simp only [show (k32).sz = 4 from rfl, Nat.mul_one, Nat.add_zero] at hf12_1); have hx12_2 := hcc12 2 _ rfl; (try simp only [show (k32).sz = 4 from rfl, Nat.mul_one, Nat.add_zero] at hx12_2); have hf12_2 := hfr12 2; (try simp only [show (k32).sz = 4 from rfl, Nat.mul_one, Nat.add_zero] at hf12_2); have hx12_3 := hcc12 3 _ rfl; (try simp only [show (k32).sz = 4 from rfl, Nat.mul_one, Nat.add_zero] at hx12_3); have hf12_3 := hfr12 3; (try simp only [show (k32).sz = 4 from rfl, Nat.mul_one, Nat.add_zero] at hf12_3); clear hcl12 hcc12 hfr12 hM12 hoki12 hH12) | ((with_reducible refine gate_store (t := 32) (p := 21) rfl ?_); refine store_event (t := 32) (p := 21) (v := ?vo_w13) (w1 := ((((w11.setCell ⟨go10, (x4_1 : Int).toNat * 4, none⟩ (.int .i64 t557)).setCell ⟨go10, (x4_1 : Int).toNat * 4 + 1, none⟩ (.string t558)).setCell ⟨go10, (x4_1 : Int).toNat * 4 + 2, none⟩ (.string t559)).setCell ⟨go10, (x4_1 : Int).toNat * 4 + 3, none⟩ (v561))) ?hg ?ho ?hn ?hr ?_; (case ho => rfl); (case hg => rfl); (case hn => rfl); (case hr => first | (go_simp; done) | (go_simp; rfl) | (obtain ⟨Av561_, cv561_, ev561_⟩ := Kd.R_slice HO562.out; subst ev561_; go_simp; done) | (obtain ⟨Av561_, cv561_, ev561_⟩ := Kd.R_slice HO562.out; subst ev561_; go_simp; rfl)); intro w13 hw; have hg : w11.grownBy w13 (some go10) := (by rw [hw]; exact HP12.2); have hp_ : Kd.S k32 32 w13 w.heap.size (fun _ => True) (.slice (some ⟨go10, 0, none⟩) x3_1.length co10) y563 := (by rw [hw, Ny563.out]; exact HP12.1); clear HP12; replace HO_3 := mk0 (hp_); replace HB := mk0 ((by rw [hw]; exact below_set (below_set (below_set (below_set (HB.out) GB10.out) GB10.out) GB10.out) GB10.out : Below w.heap.size w w13)); clear HO562; clear hg hw hp_))
    go_roundg k1
    case measure => have := HK1.out; omega
    case rel => exact ⟨(y563), (wrap64 (x4_1 + 1)), sv, H', hk1, ⟨rS HO_3.out⟩, ⟨bw⟩⟩
  · obtain rfl := Option.some.inj H
    go_wp2
    go_ret
    exact ⟨_, sw, rS HO_3.out, bw⟩
/-! ### laws_eqSealS: function 24 -/
def laws_eqSealS.l0 : Nat → List (S32) → List (S32) → Int → Option (Bool)
  | 0, _, _, _ => none
  | k + 1, x0, x1, x5 => if x5 < (x0.length : Int) then (if 0 ≤ x5 then (if x5 < (x1.length : Int) then ((laws_eqSeal.f k ((rd_T32 x0 x5).f0) ((rd_T32 x0 x5).f1) ((rd_T32 x0 x5).f2) ((rd_T32 x0 x5).f3) ((rd_T32 x1 x5).f0) ((rd_T32 x1 x5).f1) ((rd_T32 x1 x5).f2) ((rd_T32 x1 x5).f3)).bind fun t566 => (if t566 = true then (laws_eqSealS.l0 k x0 x1 (wrap64 (x5 + 1))) else (some false))) else (none)) else (none)) else (some true)
def laws_eqSealS.f (k : Nat) (l0 : List (S32)) (l1 : List (S32)) : Option (Bool) := if (l0.length : Int) = (l1.length : Int) then (laws_eqSealS.l0 k l0 l1 0) else (some false)
theorem laws_eqSealS.mono_l : ∀ k, (∀ y0 y1 y2, LeO (laws_eqSealS.l0 k y0 y1 y2) (laws_eqSealS.l0 (k + 1) y0 y1 y2))
  | 0 => fun _ _ _ r h => by simp [laws_eqSealS.l0] at h
  | k + 1 => by
    have ih0 := laws_eqSealS.mono_l k
    · intro y0 y1 y2
      unfold laws_eqSealS.l0
      have m0 := @laws_eqSeal.mono
      exact me
theorem laws_eqSealS.mono : ∀ a0 a1 k, LeO (laws_eqSealS.f k a0 a1) (laws_eqSealS.f (k + 1) a0 a1) := by
  intro a0 a1 k
  have ih0 := laws_eqSealS.mono_l k
  unfold laws_eqSealS.f
  have m0 := @laws_eqSeal.mono
  exact me
def laws_eqSealS.T6 : Bool × List (List Nat × List Nat) := (true, [([], []), ([], []), ([0, 1], [0, 1]), ([2], [2]), ([], []), ([], []), ([4, 5], [4, 5]), ([6], [6]), ([3, 7], [3, 7]), ([8], [8])])
def laws_eqSealS.B6 : List Nat := [0, 0, 3, 7, 0, 0, 48, 112, 255, 511]
theorem laws_eqSealS.tab6 : rtab .any (opsOf Try.f24 6) = laws_eqSealS.T6 := by kernel_rfl
theorem laws_eqSealS.bits6 : waitsOk laws_eqSealS.T6.2 laws_eqSealS.B6 = true := by kernel_rfl
theorem laws_eqSealS.calls (k : Nat) (A0 : Option Addr) (c0 : Nat) (l0 : List (S32)) (A1 : Option Addr) (c1 : Nat) (l1 : List (S32)) (r : Bool) (w : World) (hr0 : Kd.C k32 w A0 l0.length l0) (hc0 : l0.length ≤ c0) (hr1 : Kd.C k32 w A1 l1.length l1) (hc1 : l1.length ≤ c1) (h : laws_eqSealS.f k l0 l1 = some r) :
    Calls Try.prog 24 #[.slice A0 l0.length c0, .slice A1 l1.length c1] w fun e w' => e = .returned (.bool r) ∧ Below w.heap.size w w' := by
 have hu32 := Try.underlying32
 have HR0 := mk0 hr0
 have HC0 := mk0 hc0
 clear hr0 hc0
 have HR1 := mk0 hr1
 have HC1 := mk0 hc1
 clear hr1 hc1
 have HB := mk0 (Below.refl w.heap.size w)
 have H : (if (l0.length : Int) = (l1.length : Int) then (laws_eqSealS.l0 k l0 l1 0) else (some false)) = some r := h
 clear h
 replace H := ip H; rcases H with ⟨c3, H⟩ | ⟨c3, H⟩
 · have c3b0 : ((l0.length : Int) == (l1.length : Int)) = true := beq_iff_eq.mpr c3
   have c3b1 : ((l0.length : Int) != (l1.length : Int)) = false := bne_eq_false_iff_eq.mpr c3
   have c3b2 : (l0.length == l1.length) = true := by first | simpa using c3 | (simp at c3 ⊢; omega)
   clear c3
   have H' := mk0 H
   clear H
   go_enter Try.func24, Try.ntmps24
   go_wp2
   go_loopg [5] k (fun kq v5 w' => ∃ (x5_1 : Int), v5 = .int .i64 x5_1 ∧ Aside0 (laws_eqSealS.l0 kq l0 l1 x5_1 = some r) ∧ Aside0 (kq ≤ k) ∧ Aside0 (Below w.heap.size w w'))
   case atStart => exact ⟨(0), sv, H', nl, ⟨bw⟩⟩
   case round =>
    clear H'
    (try clear c3); (try clear c3b0); (try clear c3b1); (try clear c3b2)
    obtain ⟨x5_1, rfl, HA, HK1, HB⟩ := hrel
    rcases gk with _ | k1
    · exact absurd HA.out (by simp [laws_eqSealS.l0])
    have H := HA.out
    clear HA
    simp only [laws_eqSealS.l0] at H
    replace H := idd H; rcases H with ⟨c4b0, H⟩ | ⟨c4b0, H⟩
    · replace H := gd H; obtain ⟨c5b0, H⟩ := H
      replace H := gd H; obtain ⟨c6b0, H⟩ := H
      replace H := bd H; obtain ⟨t566, A7, H⟩ := H
      rcases ib t566 with rfl | rfl
      · replace H := jt H
        have H' := mk0 H
        clear H
        try go_wp2
        replace HB := mk0 (below_drew1 HB.out)
        have p564 : 0 ≤ (x5_1 : Int) := oa
        have q564 : x5_1 < (l0.length : Int) := oa
        obtain ⟨ad564, A564_3, c564_3, e564, hx564_0, hx564_1, hx564_2, hx564_3, hl564_3, hi564_3⟩ := at_T32 HR0.out x5_1 p564 q564
        have hw564_3 := hx564_3
        have hw564_2 := hx564_2
        have hw564_1 := hx564_1
        have hw564_0 := hx564_0
        cases e564
        replace hx564_0 := hc HB hx564_0
        replace hx564_1 := hc HB hx564_1
        replace hx564_2 := hc HB hx564_2
        replace hx564_3 := hc HB hx564_3
        have HR564_3 := mk0 hi564_3
        have HC564_3 := mk0 hl564_3
        clear hi564_3 hl564_3
        replace p564 := eq_true p564
        replace q564 := eq_true q564
        have p565 : 0 ≤ (x5_1 : Int) := oa
        have q565 : x5_1 < (l1.length : Int) := oa
        obtain ⟨ad565, A565_3, c565_3, e565, hx565_0, hx565_1, hx565_2, hx565_3, hl565_3, hi565_3⟩ := at_T32 HR1.out x5_1 p565 q565
        have hw565_3 := hx565_3
        have hw565_2 := hx565_2
        have hw565_1 := hx565_1
        have hw565_0 := hx565_0
        cases e565
        replace hx565_0 := hc HB hx565_0
        replace hx565_1 := hc HB hx565_1
        replace hx565_2 := hc HB hx565_2
        replace hx565_3 := hc HB hx565_3
        have HR565_3 := mk0 hi565_3
        have HC565_3 := mk0 hl565_3
        clear hi565_3 hl565_3
        replace p565 := eq_true p565
        replace q565 := eq_true q565
        refine st 10 laws_eqSealS.tab6 laws_eqSealS.bits6 (c_ (hc HB hw564_0) (c_ (hc HB hw564_1) (c_ (hc HB hw564_2) (c_ (hc HB hw564_3) (c_ (hc HB hw565_0) (c_ (hc HB hw565_1) (c_ (hc HB hw565_2) (c_ (hc HB hw565_3) n_)))))))) (fun hHeld HT_ HW_ => ?_)
        generalize wr.drew = w9 at HB HR564_3 HR565_3 hx564_0 hx564_1 hx564_2 hx564_3 hx565_0 hx565_1 hx565_2 hx565_3 hHeld ⊢
        refine pu 0 (some 17) HT_ ?_
        refine pu 1 (some 18) HT_ ?_
        refine pu 2 (some 19) HT_ ?_
        refine pu 4 (some 21) HT_ ?_
        refine pu 5 (some 22) HT_ ?_
        refine pu 6 (some 23) HT_ ?_
        refine tk 3 (some 20) HT_ HW_ hHeld ?_
        refine tk 7 (some 24) HT_ HW_ hHeld ?_
        refine on 8 (some 25) HT_ (fun K hK => ?_)
        refine oB Try.func17 #[.agg #[.int .i64 ((rd_T32 l0 x5_1).f0), .string ((rd_T32 l0 x5_1).f1), .string ((rd_T32 l0 x5_1).f2), .slice A564_3 ((rd_T32 l0 x5_1).f3).length c564_3], .agg #[.int .i64 ((rd_T32 l1 x5_1).f0), .string ((rd_T32 l1 x5_1).f1), .string ((rd_T32 l1 x5_1).f2), .slice A565_3 ((rd_T32 l1 x5_1).f3).length c565_3]] (laws_eqSeal.calls k1 ((rd_T32 l0 x5_1).f0) ((rd_T32 l0 x5_1).f1) ((rd_T32 l0 x5_1).f2) _ _ ((rd_T32 l0 x5_1).f3) ((rd_T32 l1 x5_1).f0) ((rd_T32 l1 x5_1).f1) ((rd_T32 l1 x5_1).f2) _ _ ((rd_T32 l1 x5_1).f3) true _ (cc (Kd.C_below HR564_3.out HB.out)) HC564_3.out (cc (Kd.C_below HR565_3.out HB.out)) HC565_3.out A7.out) ?_
        intro w10 hb
        replace HB := mk0 (below_step bw hb)
        (try clear hb)
        refine hK.out _ _ ah (fun hHeld => ?_)
        clear hK K
        refine nr ?_
        refine pu 9 (some 26) HT_ ?_
        refine dn HT_ ?_
        try go_wp2
        go_roundg k1
        case measure => have := HK1.out; omega
        case rel => exact ⟨(wrap64 (x5_1 + 1)), sv, H', hk1, ⟨bw⟩⟩
      · replace H := jf H
        obtain rfl := Option.some.inj H
        try go_wp2
        replace HB := mk0 (below_drew1 HB.out)
        have p564 : 0 ≤ (x5_1 : Int) := oa
        have q564 : x5_1 < (l0.length : Int) := oa
        obtain ⟨ad564, A564_3, c564_3, e564, hx564_0, hx564_1, hx564_2, hx564_3, hl564_3, hi564_3⟩ := at_T32 HR0.out x5_1 p564 q564
        have hw564_3 := hx564_3
        have hw564_2 := hx564_2
        have hw564_1 := hx564_1
        have hw564_0 := hx564_0
        cases e564
        replace hx564_0 := hc HB hx564_0
        replace hx564_1 := hc HB hx564_1
        replace hx564_2 := hc HB hx564_2
        replace hx564_3 := hc HB hx564_3
        have HR564_3 := mk0 hi564_3
        have HC564_3 := mk0 hl564_3
        clear hi564_3 hl564_3
        replace p564 := eq_true p564
        replace q564 := eq_true q564
        have p565 : 0 ≤ (x5_1 : Int) := oa
        have q565 : x5_1 < (l1.length : Int) := oa
        obtain ⟨ad565, A565_3, c565_3, e565, hx565_0, hx565_1, hx565_2, hx565_3, hl565_3, hi565_3⟩ := at_T32 HR1.out x5_1 p565 q565
        have hw565_3 := hx565_3
        have hw565_2 := hx565_2
        have hw565_1 := hx565_1
        have hw565_0 := hx565_0
        cases e565
        replace hx565_0 := hc HB hx565_0
        replace hx565_1 := hc HB hx565_1
        replace hx565_2 := hc HB hx565_2
        replace hx565_3 := hc HB hx565_3
        have HR565_3 := mk0 hi565_3
        have HC565_3 := mk0 hl565_3
        clear hi565_3 hl565_3
        replace p565 := eq_true p565
        replace q565 := eq_true q565
        refine st 10 laws_eqSealS.tab6 laws_eqSealS.bits6 (c_ (hc HB hw564_0) (c_ (hc HB hw564_1) (c_ (hc HB hw564_2) (c_ (hc HB hw564_3) (c_ (hc HB hw565_0) (c_ (hc HB hw565_1) (c_ (hc HB hw565_2) (c_ (hc HB hw565_3) n_)))))))) (fun hHeld HT_ HW_ => ?_)
        generalize wr.drew = w11 at HB HR564_3 HR565_3 hx564_0 hx564_1 hx564_2 hx564_3 hx565_0 hx565_1 hx565_2 hx565_3 hHeld ⊢
        refine pu 0 (some 17) HT_ ?_
        refine pu 1 (some 18) HT_ ?_
        refine pu 2 (some 19) HT_ ?_
        refine pu 4 (some 21) HT_ ?_
        refine pu 5 (some 22) HT_ ?_
        refine pu 6 (some 23) HT_ ?_
        refine tk 3 (some 20) HT_ HW_ hHeld ?_
        refine tk 7 (some 24) HT_ HW_ hHeld ?_
        refine on 8 (some 25) HT_ (fun K hK => ?_)
        refine oB Try.func17 #[.agg #[.int .i64 ((rd_T32 l0 x5_1).f0), .string ((rd_T32 l0 x5_1).f1), .string ((rd_T32 l0 x5_1).f2), .slice A564_3 ((rd_T32 l0 x5_1).f3).length c564_3], .agg #[.int .i64 ((rd_T32 l1 x5_1).f0), .string ((rd_T32 l1 x5_1).f1), .string ((rd_T32 l1 x5_1).f2), .slice A565_3 ((rd_T32 l1 x5_1).f3).length c565_3]] (laws_eqSeal.calls k1 ((rd_T32 l0 x5_1).f0) ((rd_T32 l0 x5_1).f1) ((rd_T32 l0 x5_1).f2) _ _ ((rd_T32 l0 x5_1).f3) ((rd_T32 l1 x5_1).f0) ((rd_T32 l1 x5_1).f1) ((rd_T32 l1 x5_1).f2) _ _ ((rd_T32 l1 x5_1).f3) false _ (cc (Kd.C_below HR564_3.out HB.out)) HC564_3.out (cc (Kd.C_below HR565_3.out HB.out)) HC565_3.out A7.out) ?_
        intro w12 hb
        replace HB := mk0 (below_step bw hb)
        (try clear hb)
        refine hK.out _ _ ah (fun hHeld => ?_)
        clear hK K
        refine nr ?_
        refine pu 9 (some 26) HT_ ?_
        refine dn HT_ ?_
        try go_wp2
        go_ret
        exact ⟨sw, bw⟩
    · obtain rfl := Option.some.inj H
      go_wp2
      go_ret
      exact ⟨sw, bw⟩
 · have c3b0 : ((l0.length : Int) == (l1.length : Int)) = false := beq_eq_false_iff_ne.mpr c3
   have c3b1 : ((l0.length : Int) != (l1.length : Int)) = true := bne_iff_ne.mpr c3
   have c3b2 : (l0.length == l1.length) = false := by first | simpa using c3 | (simp at c3 ⊢; omega)
   obtain rfl := Option.some.inj H
   go_enter Try.func24, Try.ntmps24
   go_wp2
   go_ret
   exact ⟨sw, bw⟩
/-! ### laws_FnExactChainOk: function 6 -/
def laws_FnExactChainOk.f (k : Nat) (l0 : List (S29)) : Option (Bool) := (laws_szSealS.f k l0 1048576).bind fun t567 => (if t567 < 0 then (some true) else ((laws_toSealS.f k l0).bind fun t568 => ((spec_ChainOk.f k t568).bind fun t571 => ((laws_toSealS.f k l0).bind fun t572 => ((impl_ChainOk.f k t572).bind fun t575 => (if (t575 != t571) = true then (some false) else ((laws_toSealS.f k l0).bind fun t576 => ((laws_eqSealS.f k t572 t576).bind fun t579 => (if t579 = true then (some true) else (some false))))))))))
theorem laws_FnExactChainOk.mono : ∀ a0 k, LeO (laws_FnExactChainOk.f k a0) (laws_FnExactChainOk.f (k + 1) a0) := by
  intro a0 k
  unfold laws_FnExactChainOk.f
  have m0 := @impl_ChainOk.mono
  have m1 := @laws_eqSealS.mono
  have m2 := @laws_szSealS.mono
  have m3 := @laws_toSealS.mono
  have m4 := @spec_ChainOk.mono
  exact me
theorem laws_FnExactChainOk.calls (k : Nat) (A0 : Option Addr) (c0 : Nat) (l0 : List (S29)) (r : Bool) (w : World) (hr0 : Kd.C k29 w A0 l0.length l0) (hc0 : l0.length ≤ c0) (h : laws_FnExactChainOk.f k l0 = some r) :
    Calls Try.prog 6 #[.slice A0 l0.length c0] w fun e w' => e = .returned (.bool r) ∧ Below w.heap.size w w' := by
 have HR0 := mk0 hr0
 have HC0 := mk0 hc0
 clear hr0 hc0
 have HB := mk0 (Below.refl w.heap.size w)
 have H : ((laws_szSealS.f k l0 1048576).bind fun t567 => (if t567 < 0 then (some true) else ((laws_toSealS.f k l0).bind fun t568 => ((spec_ChainOk.f k t568).bind fun t571 => ((laws_toSealS.f k l0).bind fun t572 => ((impl_ChainOk.f k t572).bind fun t575 => (if (t575 != t571) = true then (some false) else ((laws_toSealS.f k l0).bind fun t576 => ((laws_eqSealS.f k t572 t576).bind fun t579 => (if t579 = true then (some true) else (some false))))))))))) = some r := h
 clear h
 replace H := bd H; obtain ⟨t567, A2, H⟩ := H
 replace H := idd H; rcases H with ⟨c3b0, H⟩ | ⟨c3b0, H⟩
 · obtain rfl := Option.some.inj H
   go_enter Try.func6, Try.ntmps6
   go_wp2_with (first | ((with_reducible refine gC 22 (some 9) rfl rfl ?_); refine gB (some 9) Try.func22 #[.slice A0 l0.length c0, .int .i64 1048576] (laws_szSealS.calls k _ _ l0 1048576 t567 _ (cc HR0.out) HC0.out A2.out) ?_; intro w4 hb; replace HB := mk0 (below_step bw hb); clear hb))
   go_ret
   exact ⟨sw, bw⟩
 · replace H := bd H; obtain ⟨t568, A5, H⟩ := H
   replace H := bd H; obtain ⟨t571, A6, H⟩ := H
   replace H := bd H; obtain ⟨t572, A7, H⟩ := H
   replace H := bd H; obtain ⟨t575, A8, H⟩ := H
   replace H := ip H; rcases H with ⟨c9, H⟩ | ⟨c9, H⟩
   · have c9b0 : (t575 != t571) = true := c9
     (try (have c9b1 : decide (t575 = t571) = false := by simpa using c9))
     (try (have c9b2 : (t575 == t571) = false := by simpa using c9))
     (try (have c9b3 : ¬ (t575 = t571) := by simpa using c9))
     clear c9
     obtain rfl := Option.some.inj H
     go_enter Try.func6, Try.ntmps6
     go_wp2_with (first | ((with_reducible refine gC 22 (some 9) rfl rfl ?_); refine gB (some 9) Try.func22 #[.slice A0 l0.length c0, .int .i64 1048576] (laws_szSealS.calls k _ _ l0 1048576 t567 _ (cc HR0.out) HC0.out A2.out) ?_; intro w10 hb; replace HB := mk0 (below_step bw hb); clear hb) | ((with_reducible refine gC 23 (some 13) rfl rfl ?_); refine gR (some 13) Try.func23 #[.slice A0 l0.length c0] (laws_toSealS.calls k _ _ l0 t568 _ (cc (Kd.C_below HR0.out HB.out)) HC0.out A5.out) ?_; intro v569 w11 ho0 hb; have HO570 := mk0 (Kd.S_lower ho0 bs); replace HB := mk0 (below_step bw hb); clear hb ho0; obtain ⟨Ao12, co12, eo12⟩ := Kd.S_slice HO570.out; subst eo12) | ((with_reducible refine gC 21 (some 14) rfl rfl ?_); refine gB (some 14) Try.func21 #[.slice Ao12 t568.length co12] (spec_ChainOk.calls k _ _ t568 t571 _ (cc ((Kd.S_reads' HO570.out).2.2)) ((Kd.S_reads' HO570.out).2.1) A6.out) ?_; intro w13 hb; replace HO570 := mk0 (Kd.S_below (rS HO570.out) hb); replace HB := mk0 (below_step bw hb); clear hb) | ((with_reducible refine gC 23 (some 16) rfl rfl ?_); refine gR (some 16) Try.func23 #[.slice A0 l0.length c0] (laws_toSealS.calls k _ _ l0 t572 _ (cc (Kd.C_below HR0.out HB.out)) HC0.out A7.out) ?_; intro v573 w14 ho0 hb; have HO574 := mk0 (Kd.S_lower (Kd.S_new' ho0 (Kd.S_lt (rS HO570.out))) bs); replace HO570 := mk0 (Kd.S_elder' (rS HO570.out) (Kd.S_base ho0) hb); replace HB := mk0 (below_step bw hb); clear hb ho0; obtain ⟨Ao15, co15, eo15⟩ := Kd.S_slice HO574.out; subst eo15) | ((with_reducible refine gC 20 (some 18) rfl rfl ?_); refine gB (some 18) Try.func20 #[.slice Ao15 t572.length co15] (impl_ChainOk.calls k _ _ t572 t575 _ (cc ((Kd.S_reads' HO574.out).2.2)) ((Kd.S_reads' HO574.out).2.1) A8.out) ?_; intro w16 hb; replace HO570 := mk0 (Kd.S_below (rS HO570.out) hb); replace HO574 := mk0 (Kd.S_below (rS HO574.out) hb); replace HB := mk0 (below_step bw hb); clear hb))
     go_ret
     exact ⟨sw, bw⟩
   · have c9b0 : (t575 != t571) = false := by simpa using c9
     (try (have c9b1 : decide (t575 = t571) = true := by simpa using c9))
     (try (have c9b2 : (t575 == t571) = true := by simpa using c9))
     clear c9
     replace H := bd H; obtain ⟨t576, A17, H⟩ := H
     replace H := bd H; obtain ⟨t579, A18, H⟩ := H
     rcases ib t579 with rfl | rfl
     · replace H := jt H
       obtain rfl := Option.some.inj H
       go_enter Try.func6, Try.ntmps6
       go_wp2_with (first | ((with_reducible refine gC 22 (some 9) rfl rfl ?_); refine gB (some 9) Try.func22 #[.slice A0 l0.length c0, .int .i64 1048576] (laws_szSealS.calls k _ _ l0 1048576 t567 _ (cc HR0.out) HC0.out A2.out) ?_; intro w20 hb; replace HB := mk0 (below_step bw hb); clear hb) | ((with_reducible refine gC 23 (some 13) rfl rfl ?_); refine gR (some 13) Try.func23 #[.slice A0 l0.length c0] (laws_toSealS.calls k _ _ l0 t568 _ (cc (Kd.C_below HR0.out HB.out)) HC0.out A5.out) ?_; intro v569 w21 ho0 hb; have HO570 := mk0 (Kd.S_lower ho0 bs); replace HB := mk0 (below_step bw hb); clear hb ho0; obtain ⟨Ao22, co22, eo22⟩ := Kd.S_slice HO570.out; subst eo22) | ((with_reducible refine gC 21 (some 14) rfl rfl ?_); refine gB (some 14) Try.func21 #[.slice Ao22 t568.length co22] (spec_ChainOk.calls k _ _ t568 t571 _ (cc ((Kd.S_reads' HO570.out).2.2)) ((Kd.S_reads' HO570.out).2.1) A6.out) ?_; intro w23 hb; replace HO570 := mk0 (Kd.S_below (rS HO570.out) hb); replace HB := mk0 (below_step bw hb); clear hb) | ((with_reducible refine gC 23 (some 16) rfl rfl ?_); refine gR (some 16) Try.func23 #[.slice A0 l0.length c0] (laws_toSealS.calls k _ _ l0 t572 _ (cc (Kd.C_below HR0.out HB.out)) HC0.out A7.out) ?_; intro v573 w24 ho0 hb; have HO574 := mk0 (Kd.S_lower (Kd.S_new' ho0 (Kd.S_lt (rS HO570.out))) bs); replace HO570 := mk0 (Kd.S_elder' (rS HO570.out) (Kd.S_base ho0) hb); replace HB := mk0 (below_step bw hb); clear hb ho0; obtain ⟨Ao25, co25, eo25⟩ := Kd.S_slice HO574.out; subst eo25) | ((with_reducible refine gC 20 (some 18) rfl rfl ?_); refine gB (some 18) Try.func20 #[.slice Ao25 t572.length co25] (impl_ChainOk.calls k _ _ t572 t575 _ (cc ((Kd.S_reads' HO574.out).2.2)) ((Kd.S_reads' HO574.out).2.1) A8.out) ?_; intro w26 hb; replace HO570 := mk0 (Kd.S_below (rS HO570.out) hb); replace HO574 := mk0 (Kd.S_below (rS HO574.out) hb); replace HB := mk0 (below_step bw hb); clear hb) | ((with_reducible refine gC 23 (some 24) rfl rfl ?_); refine gR (some 24) Try.func23 #[.slice A0 l0.length c0] (laws_toSealS.calls k _ _ l0 t576 _ (cc (Kd.C_below HR0.out HB.out)) HC0.out A17.out) ?_; intro v577 w27 ho0 hb; have HO578 := mk0 (Kd.S_lower (Kd.S_new' (Kd.S_new' ho0 (Kd.S_lt (rS HO570.out))) (Kd.S_lt (rS HO574.out))) bs); replace HO570 := mk0 (Kd.S_elder' (rS HO570.out) (Kd.S_base ho0) hb); replace HO574 := mk0 (Kd.S_elder' (rS HO574.out) (Kd.S_base ho0) hb); replace HB := mk0 (below_step bw hb); clear hb ho0; obtain ⟨Ao28, co28, eo28⟩ := Kd.S_slice HO578.out; subst eo28) | ((with_reducible refine gC 24 (some 25) rfl rfl ?_); refine gB (some 25) Try.func24 #[.slice Ao25 t572.length co25, .slice Ao28 t576.length co28] (laws_eqSealS.calls k _ _ t572 _ _ t576 true _ (cc ((Kd.S_reads' HO574.out).2.2)) ((Kd.S_reads' HO574.out).2.1) (cc ((Kd.S_reads' HO578.out).2.2)) ((Kd.S_reads' HO578.out).2.1) A18.out) ?_; intro w29 hb; replace HO570 := mk0 (Kd.S_below (rS HO570.out) hb); replace HO574 := mk0 (Kd.S_below (rS HO574.out) hb); replace HO578 := mk0 (Kd.S_below (rS HO578.out) hb); replace HB := mk0 (below_step bw hb); clear hb))
       go_ret
       exact ⟨sw, bw⟩
     · replace H := jf H
       obtain rfl := Option.some.inj H
       go_enter Try.func6, Try.ntmps6
       go_wp2_with (first | ((with_reducible refine gC 22 (some 9) rfl rfl ?_); refine gB (some 9) Try.func22 #[.slice A0 l0.length c0, .int .i64 1048576] (laws_szSealS.calls k _ _ l0 1048576 t567 _ (cc HR0.out) HC0.out A2.out) ?_; intro w30 hb; replace HB := mk0 (below_step bw hb); clear hb) | ((with_reducible refine gC 23 (some 13) rfl rfl ?_); refine gR (some 13) Try.func23 #[.slice A0 l0.length c0] (laws_toSealS.calls k _ _ l0 t568 _ (cc (Kd.C_below HR0.out HB.out)) HC0.out A5.out) ?_; intro v569 w31 ho0 hb; have HO570 := mk0 (Kd.S_lower ho0 bs); replace HB := mk0 (below_step bw hb); clear hb ho0; obtain ⟨Ao32, co32, eo32⟩ := Kd.S_slice HO570.out; subst eo32) | ((with_reducible refine gC 21 (some 14) rfl rfl ?_); refine gB (some 14) Try.func21 #[.slice Ao32 t568.length co32] (spec_ChainOk.calls k _ _ t568 t571 _ (cc ((Kd.S_reads' HO570.out).2.2)) ((Kd.S_reads' HO570.out).2.1) A6.out) ?_; intro w33 hb; replace HO570 := mk0 (Kd.S_below (rS HO570.out) hb); replace HB := mk0 (below_step bw hb); clear hb) | ((with_reducible refine gC 23 (some 16) rfl rfl ?_); refine gR (some 16) Try.func23 #[.slice A0 l0.length c0] (laws_toSealS.calls k _ _ l0 t572 _ (cc (Kd.C_below HR0.out HB.out)) HC0.out A7.out) ?_; intro v573 w34 ho0 hb; have HO574 := mk0 (Kd.S_lower (Kd.S_new' ho0 (Kd.S_lt (rS HO570.out))) bs); replace HO570 := mk0 (Kd.S_elder' (rS HO570.out) (Kd.S_base ho0) hb); replace HB := mk0 (below_step bw hb); clear hb ho0; obtain ⟨Ao35, co35, eo35⟩ := Kd.S_slice HO574.out; subst eo35) | ((with_reducible refine gC 20 (some 18) rfl rfl ?_); refine gB (some 18) Try.func20 #[.slice Ao35 t572.length co35] (impl_ChainOk.calls k _ _ t572 t575 _ (cc ((Kd.S_reads' HO574.out).2.2)) ((Kd.S_reads' HO574.out).2.1) A8.out) ?_; intro w36 hb; replace HO570 := mk0 (Kd.S_below (rS HO570.out) hb); replace HO574 := mk0 (Kd.S_below (rS HO574.out) hb); replace HB := mk0 (below_step bw hb); clear hb) | ((with_reducible refine gC 23 (some 24) rfl rfl ?_); refine gR (some 24) Try.func23 #[.slice A0 l0.length c0] (laws_toSealS.calls k _ _ l0 t576 _ (cc (Kd.C_below HR0.out HB.out)) HC0.out A17.out) ?_; intro v577 w37 ho0 hb; have HO578 := mk0 (Kd.S_lower (Kd.S_new' (Kd.S_new' ho0 (Kd.S_lt (rS HO570.out))) (Kd.S_lt (rS HO574.out))) bs); replace HO570 := mk0 (Kd.S_elder' (rS HO570.out) (Kd.S_base ho0) hb); replace HO574 := mk0 (Kd.S_elder' (rS HO574.out) (Kd.S_base ho0) hb); replace HB := mk0 (below_step bw hb); clear hb ho0; obtain ⟨Ao38, co38, eo38⟩ := Kd.S_slice HO578.out; subst eo38) | ((with_reducible refine gC 24 (some 25) rfl rfl ?_); refine gB (some 25) Try.func24 #[.slice Ao35 t572.length co35, .slice Ao38 t576.length co38] (laws_eqSealS.calls k _ _ t572 _ _ t576 false _ (cc ((Kd.S_reads' HO574.out).2.2)) ((Kd.S_reads' HO574.out).2.1) (cc ((Kd.S_reads' HO578.out).2.2)) ((Kd.S_reads' HO578.out).2.1) A18.out) ?_; intro w39 hb; replace HO570 := mk0 (Kd.S_below (rS HO570.out) hb); replace HO574 := mk0 (Kd.S_below (rS HO574.out) hb); replace HO578 := mk0 (Kd.S_below (rS HO578.out) hb); replace HB := mk0 (below_step bw hb); clear hb))
       go_ret
       exact ⟨sw, bw⟩
end Go.Proofs.Ytlekeiokdmnboaa.Pa
end

section
/- What the two programs' digests compute: SHA-256 of the same padded bytes; plain Lean over the printed functions. -/
namespace Go.Proofs.Ytlekeiokdmnboaa.Pu
open Go Go.RowKit Go.Proofs.YtlekeiokdmnboaaW.PrintWords Go.Proofs.YtlekeiokdmnboaaW.PrintLast Go.Proofs.YtlekeiokdmnboaaW.PrintMore Go.Proofs.Ytlekeiokdmnboaa.Pa Go.Proofs.Ytlekeiokdmnboaa.Sha
set_option linter.unusedVariables false

/-! ### The padding -/
def tail8 (v : Int) : Nat → List Int
  | 0 => []
  | j + 1 => (shr .i64 v (8 * (j : Int))) % 256 :: tail8 v j
theorem tail8_len (v : Int) (j : Nat) : (tail8 v j).length = j := by
  induction j with
  | zero => rfl
  | succ j ih => simp [tail8, ih]
theorem tail8_byte (v : Int) (j : Nat) : ∀ x ∈ tail8 v j, 0 ≤ x ∧ x ≤ 255 := by
  induction j with
  | zero => intro x hx; simp [tail8] at hx
  | succ j ih =>
    intro x hx
    rcases List.mem_cons.1 hx with rfl | hx
    · omega
    · exact ih x hx
theorem w64 (n : Int) (h : -9223372036854775808 ≤ n ∧ n ≤ 9223372036854775807) : wrap64 n = n := by unfold wrap64; omega
theorem u64_small (n : Int) (h0 : 0 ≤ n) (h1 : n < 18446744073709551616) : IntKind.u64.wrap n = n := by rw [IntKind.wrap_u64]; omega
theorem spec_tail (v : Int) (j : Nat) (hj : j ≤ 8) (l : List Int) (hl : l.length + j < 140737488355328) : Ev (fun k => spec_Padded.l1 k l v (8 * (j : Int) - 8)) (l ++ tail8 v j) := by
  induction j generalizing l with
  | zero =>
    refine Ev.step (fun k => ?_) (Ev.now _)
    show (if (8 * ((0 : Nat) : Int) - 8) ≥ 0 then _ else _) = _
    rw [if_neg (by omega)]; simp [tail8]
  | succ j ih =>
    have e := ih (by omega) (l ++ [(shr .i64 v (8 * (j : Int))) % 256]) (by simp only [List.length_append, List.length_singleton]; omega)
    rw [List.append_assoc, List.singleton_append] at e
    refine Ev.step (fun k => ?_) e
    show (if (8 * ((j + 1 : Nat) : Int) - 8) ≥ 0 then _ else _) = _
    have a1 : (8 * ((j + 1 : Nat) : Int) - 8) = 8 * (j : Int) := by omega
    rw [a1, if_pos (by omega), u64_small _ (by omega) (by omega), if_pos (by omega), if_pos (by omega), w64 _ (by omega)]
theorem impl_tail (v : Int) (j : Nat) (hj : j ≤ 8) (l : List Int) (hl : l.length + j < 140737488355328) : Ev (fun k => impl_Padded.l1 k l v ((j : Int) - 1)) (l ++ tail8 v j) := by
  induction j generalizing l with
  | zero =>
    refine Ev.step (fun k => ?_) (Ev.now _)
    show (if (((0 : Nat) : Int) - 1) ≥ 0 then _ else _) = _
    rw [if_neg (by omega)]; simp [tail8]
  | succ j ih =>
    have e := ih (by omega) (l ++ [(shr .i64 v (8 * (j : Int))) % 256]) (by simp only [List.length_append, List.length_singleton]; omega)
    rw [List.append_assoc, List.singleton_append] at e
    refine Ev.step (fun k => ?_) e
    show (if (((j + 1 : Nat) : Int) - 1) ≥ 0 then _ else _) = _
    have a1 : (((j + 1 : Nat) : Int) - 1) = (j : Int) := by omega
    rw [a1, if_pos (by omega), w64 _ (by omega), u64_small _ (by omega) (by omega), if_pos (by omega), if_pos (by omega), w64 _ (by omega)]
def pad (l : List Int) : List Int := (l ++ [128]) ++ (List.replicate ((119 - l.length % 64) % 64) 0 ++ tail8 ((l.length : Int) * 8) 8)
theorem spec_zeros (l0 : List Int) (h0 : l0.length < 140737488000000) (z : Nat) (l : List Int) (hz : z < 64) (hm : (l.length + z) % 64 = 56) (hl : l.length + z + 8 < 140737488355328) :
    Ev (fun k => spec_Padded.l0 k l0 l) (l ++ (List.replicate z 0 ++ tail8 ((l0.length : Int) * 8) 8)) := by
  induction z generalizing l with
  | zero =>
    refine Ev.step (fun k => ?_) (spec_tail _ 8 (by omega) l (by omega))
    show (if ((l.length : Int) % 64) = 56 then _ else _) = _
    rw [if_pos (by omega), w64 _ (by omega)]
    rfl
  | succ z ih =>
    have e := ih (l ++ [0]) (by omega) (by simp only [List.length_append, List.length_singleton]; omega) (by simp only [List.length_append, List.length_singleton]; omega)
    rw [List.append_assoc, List.singleton_append] at e
    refine Ev.step (fun k => ?_) e
    show (if ((l.length : Int) % 64) = 56 then _ else _) = _
    rw [if_neg (by omega), if_pos (by omega)]
theorem impl_zeros (l0 : List Int) (h0 : l0.length < 140737488000000) (z : Nat) (l : List Int) (hz : z < 64) (hm : (l.length + z) % 64 = 56) (hl : l.length + z + 8 < 140737488355328) :
    Ev (fun k => impl_Padded.l0 k l0 l) (l ++ (List.replicate z 0 ++ tail8 ((l0.length : Int) * 8) 8)) := by
  have tm : Int.tmod (wrap64 ((l.length : Int) + 8)) 64 = ((l.length : Int) + 8) % 64 := by
    rw [w64 _ (by omega), Int.tmod_eq_emod_of_nonneg (by omega)]
  induction z generalizing l with
  | zero =>
    refine Ev.step (fun k => ?_) (impl_tail _ 8 (by omega) l (by omega))
    show (if (Int.tmod (wrap64 ((l.length : Int) + 8)) 64) = 0 then _ else _) = _
    rw [tm, if_pos (by omega), w64 _ (by omega), Int.mul_comm]
    rfl
  | succ z ih =>
    have tm2 : Int.tmod (wrap64 (((l ++ [0]).length : Int) + 8)) 64 = (((l ++ [0]).length : Int) + 8) % 64 := by
      rw [w64 _ (by simp only [List.length_append, List.length_singleton]; omega), Int.tmod_eq_emod_of_nonneg (by omega)]
    have e := ih (l ++ [0]) (by omega) (by simp only [List.length_append, List.length_singleton]; omega) (by simp only [List.length_append, List.length_singleton]; omega) tm2
    rw [List.append_assoc, List.singleton_append] at e
    refine Ev.step (fun k => ?_) e
    show (if (Int.tmod (wrap64 ((l.length : Int) + 8)) 64) = 0 then _ else _) = _
    rw [tm, if_neg (by omega), if_pos (by omega)]
theorem padded_spec (l : List Int) (hl : l.length < 140737488000000) : Ev (fun k => spec_Padded.f k l) (pad l) := by
  refine Ev.congr (f := fun k => spec_Padded.l0 k l (l ++ [128])) (fun k => ?_) (spec_zeros l hl _ _ (by omega) (by simp only [List.length_append, List.length_singleton]; omega) (by simp only [List.length_append, List.length_singleton]; omega))
  show ((some ([] : List Int)).bind _) = _
  simp only [Option.bind_some, List.nil_append, List.length_nil, Nat.zero_add]
  rw [if_pos (by omega), if_pos (by omega)]
theorem padded_impl (l : List Int) (hl : l.length < 140737488000000) : Ev (fun k => impl_Padded.f k l) (pad l) := by
  refine Ev.congr (f := fun k => impl_Padded.l0 k l (l ++ [128])) (fun k => ?_) (impl_zeros l hl _ _ (by omega) (by simp only [List.length_append, List.length_singleton]; omega) (by simp only [List.length_append, List.length_singleton]; omega))
  show ((slices_Clone_byte_byte.f l).bind _) = _
  rw [show slices_Clone_byte_byte.f l = some l from if_pos (by omega)]
  simp only [Option.bind_some]
  rw [if_pos (by omega)]
theorem pad_len (l : List Int) : (pad l).length = l.length + 1 + (119 - l.length % 64) % 64 + 8 := by
  unfold pad
  simp only [List.length_append, List.length_singleton, List.length_replicate, tail8_len]
  omega
theorem pad_whole (l : List Int) (hl : l.length < 140737488000000) (hb : ∀ x ∈ l, 0 ≤ x ∧ x ≤ 255) : WholeB (pad l) := by
  refine ⟨by rw [pad_len]; omega, by rw [pad_len]; omega, by rw [pad_len]; omega, fun x hx => ?_⟩
  unfold pad at hx
  rcases List.mem_append.1 hx with hx | hx
  · rcases List.mem_append.1 hx with hx | hx
    · exact hb x hx
    · simp at hx; omega
  · rcases List.mem_append.1 hx with hx | hx
    · have := List.eq_of_mem_replicate hx; omega
    · exact tail8_byte _ _ x hx

/-! ### The reference's words -/
theorem or_plus (a b : Nat) (i : Nat) (hb : b < 2 ^ i) (ha : a % 2 ^ i = 0) : a ||| b = a + b := by
  have hq : a = 2 ^ i * (a / 2 ^ i) := by have := Nat.div_add_mod a (2 ^ i); omega
  rw [hq, ← Nat.two_pow_add_eq_or_of_lt hb]
theorem word64 (x0 x1 x2 x3 : Int) (h0 : 0 ≤ x0 ∧ x0 ≤ 255) (h1 : 0 ≤ x1 ∧ x1 ≤ 255) (h2 : 0 ≤ x2 ∧ x2 ≤ 255) (h3 : 0 ≤ x3 ∧ x3 ≤ 255) :
    Go.bits .or .i64 (Go.bits .or .i64 (Go.bits .or .i64 (wrap64 ((wrap64 x0) * 16777216)) (wrap64 ((wrap64 x1) * 65536))) (wrap64 ((wrap64 x2) * 256))) (wrap64 x3) = U (word x0 x1 x2 x3) := by
  obtain ⟨a, rfl⟩ := Int.eq_ofNat_of_zero_le h0.1
  obtain ⟨b, rfl⟩ := Int.eq_ofNat_of_zero_le h1.1
  obtain ⟨c, rfl⟩ := Int.eq_ofNat_of_zero_le h2.1
  obtain ⟨d, rfl⟩ := Int.eq_ofNat_of_zero_le h3.1
  have e0 : wrap64 ((wrap64 (a : Int)) * 16777216) = ((a * 16777216 : Nat) : Int) := by unfold wrap64; omega
  have e1 : wrap64 ((wrap64 (b : Int)) * 65536) = ((b * 65536 : Nat) : Int) := by unfold wrap64; omega
  have e2 : wrap64 ((wrap64 (c : Int)) * 256) = ((c * 256 : Nat) : Int) := by unfold wrap64; omega
  have e3 : wrap64 (d : Int) = ((d : Nat) : Int) := by unfold wrap64; omega
  have hk : ∀ n : Int, 0 ≤ n → n < 2 ^ 32 → IntKind.i64.wrap n = n := fun n x y => by rw [IntKind.wrap_i64]; omega
  rw [e0, e1, e2, e3, (bits_nat .i64 32 (by decide) hk _ _ (by omega) (by omega)).2, or_plus _ _ 24 (by omega) (by omega),
    (bits_nat .i64 32 (by decide) hk _ _ (by omega) (by omega)).2, or_plus _ _ 16 (by omega) (by omega),
    (bits_nat .i64 32 (by decide) hk _ _ (by omega) (by omega)).2, or_plus _ _ 8 (by omega) (by omega)]
  unfold U word
  have : ((a : Int) * 16777216 + (b : Int) * 65536 + (c : Int) * 256 + (d : Int)) = ((a * 16777216 + b * 65536 + c * 256 + d : Nat) : Int) := by omega
  rw [this, BitVec.ofInt_natCast, BitVec.toNat_ofNat]
  omega
theorem turn_spec (x : BitVec 32) (n : Nat) (h2 : 2 ≤ n) (h32 : n < 32) : spec_l2Turn.f (U x) (n : Int) = some (U (x.rotateRight n)) := by
  have hx := U_lt x
  have hx0 := U_nonneg x
  unfold spec_l2Turn.f
  rw [u64_small _ (by omega) (by omega), w64 (32 - (n : Int)) (by omega), u64_small (32 - (n : Int)) (by omega) (by omega), if_pos (by omega), if_pos (by omega)]
  have a1 : shr .i64 (U x) (n : Int) = U x / 2 ^ n := by
    show U x / 2 ^ min (n : Int).toNat 64 = _
    rw [show min (n : Int).toNat 64 = n by omega]
  have a2 : shl .i64 (U x) (32 - (n : Int)) = U x * 2 ^ (32 - n) := by
    show IntKind.i64.wrap (U x * 2 ^ min (32 - (n : Int)).toNat 64) = _
    rw [show min (32 - (n : Int)).toNat 64 = 32 - n by omega]
    have hp : (2 : Int) ^ (32 - n) ≤ 2 ^ 30 := by
      have := Nat.pow_le_pow_right (n := 2) (by decide) (show 32 - n ≤ 30 by omega)
      exact_mod_cast this
    have hp0 : (0 : Int) < 2 ^ (32 - n) := Int.pow_pos (by decide)
    have hle : U x * 2 ^ (32 - n) ≤ 4294967296 * 1073741824 := Int.mul_le_mul (by omega) (by simpa using hp) (by omega) (by omega)
    have hge : 0 ≤ U x * 2 ^ (32 - n) := Int.mul_nonneg hx0 (by omega)
    rw [IntKind.wrap_i64]; omega
  rw [a1, a2, turn64 x n h2 h32]
def wl (m : Nat → BitVec 32) (i : Nat) : List Int := (List.range i).map fun j => U (W m j)
theorem wl_len (m : Nat → BitVec 32) (i : Nat) : (wl m i).length = i := by simp [wl]
theorem wl_succ (m : Nat → BitVec 32) (i : Nat) : wl m (i + 1) = wl m i ++ [U (W m i)] := by simp [wl, List.range_succ]
theorem wl_at (m : Nat → BitVec 32) (i j : Nat) (h : j < i) : rd (wl m i) (j : Int) = U (W m j) := by simp [rd, wl, List.getD_eq_getElem?_getD, List.getElem?_map, List.getElem?_range h]
theorem words_lo (c : List Int) (hc : c.length = 64) (hb : ∀ i, 0 ≤ c.getD i 0 ∧ c.getD i 0 ≤ 255) (r : List Int) (h16 : Ev (fun k => spec_l2Words.l1 k (wl (wordAt c) 16) 16) r) (j i : Nat) (hj : 16 - i = j) (hi : i ≤ 16) :
    Ev (fun k => spec_l2Words.l0 k c (wl (wordAt c) i) (i : Int)) r := by
  induction j generalizing i with
  | zero =>
    obtain rfl : i = 16 := by omega
    refine Ev.step (fun k => ?_) h16
    show (if ((16 : Nat) : Int) < 16 then _ else _) = _
    rw [if_neg (by omega)]
  | succ j ih =>
    have e := ih (i + 1) (by omega) (by omega)
    refine Ev.step (fun k => ?_) e
    show (if (i : Int) < 16 then _ else _) = _
    rw [w64 (4 * (i : Int)) (by omega), w64 (4 * (i : Int) + 1) (by omega), w64 (4 * (i : Int) + 2) (by omega), w64 (4 * (i : Int) + 3) (by omega), w64 ((i : Int) + 1) (by omega), hc, wl_len]
    rw [if_pos (by omega), if_pos (by omega), if_pos (by omega), if_pos (by omega), if_pos (by omega), if_pos (by omega), if_pos (by omega), if_pos (by omega), if_pos (by omega), if_pos (by omega)]
    have g : ∀ (q : Nat) (z : Int), z = 4 * (i : Int) + q → rd c z = c.getD (4 * i + q) 0 := fun q z hz => by
      show c.getD z.toNat 0 = _
      congr 1
      omega
    rw [show rd c (4 * (i : Int)) = c.getD (4 * i) 0 from g 0 _ (by omega), show rd c (4 * (i : Int) + 1) = c.getD (4 * i + 1) 0 from g 1 _ (by omega), show rd c (4 * (i : Int) + 2) = c.getD (4 * i + 2) 0 from g 2 _ (by omega), show rd c (4 * (i : Int) + 3) = c.getD (4 * i + 3) 0 from g 3 _ (by omega),
      word64 _ _ _ _ (hb _) (hb _) (hb _) (hb _), wl_succ, W_low _ _ (by omega)]
    rfl
theorem sum4_in (a b c d : BitVec 32) : 0 ≤ U a + U b + U c + U d ∧ U a + U b + U c + U d < 4611686018427387904 := by
  have := U_lt a; have := U_lt b; have := U_lt c; have := U_lt d; have := U_nonneg a; have := U_nonneg b; have := U_nonneg c; have := U_nonneg d
  omega
theorem sum4 (a b c d : BitVec 32) : wrap64 (wrap64 (wrap64 (U a + U b) + U c) + U d) = U a + U b + U c + U d := by
  have := U_lt a; have := U_lt b; have := U_lt c; have := U_lt d; have := U_nonneg a; have := U_nonneg b; have := U_nonneg c; have := U_nonneg d
  unfold wrap64
  omega
theorem words_hi (m : Nat → BitVec 32) (j i : Nat) (hj : 64 - i = j) (h16 : 16 ≤ i) (hi : i ≤ 64) : Ev (fun k => spec_l2Words.l1 k (wl m i) (i : Int)) (wl m 64) := by
  induction j generalizing i with
  | zero =>
    obtain rfl : i = 64 := by omega
    refine Ev.step (fun k => ?_) (Ev.now _)
    show (if ((64 : Nat) : Int) < 64 then _ else _) = _
    rw [if_neg (by omega)]
  | succ j ih =>
    have e := ih (i + 1) (by omega) (by omega) (by omega)
    refine Ev.step (fun k => ?_) e
    show (if (i : Int) < 64 then _ else _) = _
    have b15 : wrap64 ((i : Int) - 15) = ((i - 15 : Nat) : Int) := by rw [w64 _ (by omega)]; omega
    have b2 : wrap64 ((i : Int) - 2) = ((i - 2 : Nat) : Int) := by rw [w64 _ (by omega)]; omega
    have b16 : wrap64 ((i : Int) - 16) = ((i - 16 : Nat) : Int) := by rw [w64 _ (by omega)]; omega
    have b7 : wrap64 ((i : Int) - 7) = ((i - 7 : Nat) : Int) := by rw [w64 _ (by omega)]; omega
    have t := fun x n h2 h32 => turn_spec x n h2 h32
    have t7 := t (W m (i - 15)) 7 (by omega) (by omega)
    have t18 := t (W m (i - 15)) 18 (by omega) (by omega)
    have t17 := t (W m (i - 2)) 17 (by omega) (by omega)
    have t19 := t (W m (i - 2)) 19 (by omega) (by omega)
    rw [b15, b2, b16, b7, wl_at _ _ _ (by omega), wl_at _ _ _ (by omega), wl_at _ _ _ (by omega), wl_at _ _ _ (by omega), wl_len, w64 ((i : Int) + 1) (by omega)]
    rw [if_pos (by omega), if_pos (by omega), if_pos (by omega), if_pos (by omega), if_pos (by omega)]
    rw [show spec_l2Turn.f (U (W m (i - 15))) 7 = _ from t7, show spec_l2Turn.f (U (W m (i - 15))) 18 = _ from t18, show spec_l2Turn.f (U (W m (i - 2))) 17 = _ from t17, show spec_l2Turn.f (U (W m (i - 2))) 19 = _ from t19]
    simp only [Option.bind_some]
    rw [if_pos (by omega), if_pos (by omega), if_pos (by omega), if_pos (by omega), if_pos (by omega)]
    have s3 := shr_U (W m (i - 15)) 3
    have s10 := shr_U (W m (i - 2)) 10
    rw [show (2 : Int) ^ 3 = 8 by decide] at s3
    rw [show (2 : Int) ^ 10 = 1024 by decide] at s10
    rw [s3, s10, xor64, xor64, xor64, xor64]
    have z0 : U ((W m (i - 15)).rotateRight 7 ^^^ (W m (i - 15)).rotateRight 18 ^^^ W m (i - 15) >>> 3) = U (sg0 (W m (i - 15))) := rfl
    have z1 : U ((W m (i - 2)).rotateRight 17 ^^^ (W m (i - 2)).rotateRight 19 ^^^ W m (i - 2) >>> 10) = U (sg1 (W m (i - 2))) := rfl
    rw [z0, z1]
    rw [sum4, mask64 _ (sum4_in _ _ _ _).1 (sum4_in _ _ _ _).2, U_add4, ← W_high m i (by omega), ← wl_succ]
    rfl
theorem words_spec (c : List Int) (hc : c.length = 64) (hb : ∀ i, 0 ≤ c.getD i 0 ∧ c.getD i 0 ≤ 255) : Ev (fun k => spec_l2Words.f k c) (wl (wordAt c) 64) :=
  words_lo c hc hb _ (words_hi _ 48 16 rfl (by omega) (by omega)) 16 0 rfl (by omega)
end Go.Proofs.Ytlekeiokdmnboaa.Pu
end

section
/- What the two programs' digests compute, continued: the rounds, the blocks, the digest. -/
namespace Go.Proofs.Ytlekeiokdmnboaa.Pu
open Go Go.RowKit Go.Proofs.YtlekeiokdmnboaaW.PrintWords Go.Proofs.YtlekeiokdmnboaaW.PrintLast Go.Proofs.YtlekeiokdmnboaaW.PrintMore Go.Proofs.Ytlekeiokdmnboaa.Pa Go.Proofs.Ytlekeiokdmnboaa.Sha
set_option linter.unusedVariables false

def h8 (v : H8) : List Int := [U v.a, U v.b, U v.c, U v.d, U v.e, U v.f, U v.g, U v.h]
def kl : List Int := KL.map fun (n : Nat) => (n : Int)
theorem kl_at (n : Nat) (h : n < 64) : rd kl (n : Int) = U (K n) := by
  have key : ∀ n, n < 64 → kl.getD n 0 = U (K n) := by decide +kernel
  exact key n h
theorem kl_is : spec_l2K.f = some kl := by unfold spec_l2K.f; exact congrArg some (by decide +kernel)
theorem kl_len : kl.length = 64 := by decide +kernel
theorem sum5 (a b c d e : BitVec 32) : wrap64 (wrap64 (wrap64 (wrap64 (U a + U b) + U c) + U d) + U e) = U a + U b + U c + U d + U e := by
  have := U_lt a; have := U_lt b; have := U_lt c; have := U_lt d; have := U_lt e; have := U_nonneg a; have := U_nonneg b; have := U_nonneg c; have := U_nonneg d; have := U_nonneg e
  unfold wrap64
  omega
theorem sum2 (a b : BitVec 32) : wrap64 (U a + U b) = U a + U b := by
  have := U_lt a; have := U_lt b; have := U_nonneg a; have := U_nonneg b
  unfold wrap64
  omega
theorem sum7 (a b c d e f g : BitVec 32) : Go.bits .and .i64 (wrap64 ((U a + U b + U c + U d + U e) + (U f + U g))) 4294967295 = U (a + b + c + d + e + f + g) := by
  have := U_lt a; have := U_lt b; have := U_lt c; have := U_lt d; have := U_lt e; have := U_nonneg a; have := U_nonneg b; have := U_nonneg c; have := U_nonneg d; have := U_nonneg e
  have := U_lt f; have := U_lt g; have := U_nonneg f; have := U_nonneg g
  rw [w64 _ (by omega), mask64 _ (by omega) (by omega), ← U_add7]
  congr 1
  omega
theorem sum15 (x a b c d e : BitVec 32) : Go.bits .and .i64 (wrap64 (U x + (U a + U b + U c + U d + U e))) 4294967295 = U (x + (a + b + c + d + e)) := by
  have := U_lt a; have := U_lt b; have := U_lt c; have := U_lt d; have := U_lt e; have := U_nonneg a; have := U_nonneg b; have := U_nonneg c; have := U_nonneg d; have := U_nonneg e
  have := U_lt x; have := U_nonneg x
  rw [w64 _ (by omega), mask64 _ (by omega) (by omega), ← U_add1_5]
theorem rounds_spec (x0 : List Int) (m : Nat → BitVec 32) (v : H8) (r : List Int) (hE : Ev (fun k => spec_l2Block.l1 k x0 (h8 (steps K (W m) v 64)) 0) r) (j i : Nat) (hj : 64 - i = j) (hi : i ≤ 64) :
    Ev (fun k => spec_l2Block.l0 k x0 kl (wl m 64) (h8 (steps K (W m) v i)) (i : Int)) r := by
  induction j generalizing i with
  | zero =>
    obtain rfl : i = 64 := by omega
    refine Ev.step (fun k => ?_) hE
    show (if ((64 : Nat) : Int) < 64 then _ else _) = _
    rw [if_neg (by omega)]
  | succ j ih =>
    have e := ih (i + 1) (by omega) (by omega)
    refine Ev.step (fun k => ?_) e
    generalize hs : steps K (W m) v i = s
    have hs1 : steps K (W m) v (i + 1) = Sha.step (K i) (W m i) s := by rw [steps, hs]
    rw [hs1]
    have q : (h8 s).length = 8 := rfl
    show (if (i : Int) < 64 then _ else _) = _
    rw [if_pos (by omega), q, kl_len, wl_len, kl_at i (by omega), wl_at m 64 i (by omega), w64 ((i : Int) + 1) (by omega)]
    rw [show rd (h8 s) 0 = U s.a from rfl, show rd (h8 s) 1 = U s.b from rfl, show rd (h8 s) 2 = U s.c from rfl, show rd (h8 s) 3 = U s.d from rfl, show rd (h8 s) 4 = U s.e from rfl, show rd (h8 s) 5 = U s.f from rfl, show rd (h8 s) 6 = U s.g from rfl, show rd (h8 s) 7 = U s.h from rfl]
    rw [show spec_l2Turn.f (U s.e) 6 = _ from turn_spec s.e 6 (by omega) (by omega), show spec_l2Turn.f (U s.e) 11 = _ from turn_spec s.e 11 (by omega) (by omega), show spec_l2Turn.f (U s.e) 25 = _ from turn_spec s.e 25 (by omega) (by omega),
      show spec_l2Turn.f (U s.a) 2 = _ from turn_spec s.a 2 (by omega) (by omega), show spec_l2Turn.f (U s.a) 13 = _ from turn_spec s.a 13 (by omega) (by omega), show spec_l2Turn.f (U s.a) 22 = _ from turn_spec s.a 22 (by omega) (by omega)]
    simp only [Option.bind_some]
    rw [xor64, xor64, and64, not64, and64, xor64, xor64, xor64, and64, and64, and64, xor64, xor64,
      show U (s.e.rotateRight 6 ^^^ s.e.rotateRight 11 ^^^ s.e.rotateRight 25) = U (bs1 s.e) from rfl, show U (s.e &&& s.f ^^^ ~~~s.e &&& s.g) = U (ch s.e s.f s.g) from rfl,
      show U (s.a.rotateRight 2 ^^^ s.a.rotateRight 13 ^^^ s.a.rotateRight 22) = U (bs0 s.a) from rfl, show U (s.a &&& s.b ^^^ s.a &&& s.c ^^^ s.b &&& s.c) = U (maj s.a s.b s.c) from rfl,
      sum5, sum2, sum7, sum15]
    rw [if_pos (by omega), if_pos (by omega), if_pos (by omega), if_pos (by omega), if_pos (by omega), if_pos (by omega), if_pos (by omega), if_pos (by omega), if_pos (by omega), if_pos (by omega), if_pos (by omega)]
    rfl
theorem plus_one (a b : BitVec 32) : Go.bits .and .i64 (wrap64 (U a + U b)) 4294967295 = U (a + b) := by
  have := U_lt a; have := U_lt b; have := U_nonneg a; have := U_nonneg b
  rw [w64 _ (by omega), mask64 _ (by omega) (by omega), U_add]
theorem plus_step (k : Nat) (x0 x8 : List Int) (i : Nat) (hi : i < 8) (h0 : x0.length = 8) (h8 : x8.length = 8) : spec_l2Block.l1 (k + 1) x0 x8 (i : Int) = spec_l2Block.l1 k x0 (x8.set i (Go.bits .and .i64 (wrap64 (rd x8 (i : Int) + rd x0 (i : Int))) 4294967295)) ((i + 1 : Nat) : Int) := by
  show (if (i : Int) < 8 then _ else _) = _
  rw [if_pos (by omega), if_pos (by omega), if_pos (by omega), if_pos (by omega), w64 ((i : Int) + 1) (by omega)]
  rfl
theorem plus_spec (v h : H8) : Ev (fun k => spec_l2Block.l1 k (h8 h) (h8 v) 0) (h8 (plus v h)) := by
  refine Ev.step (fun k => plus_step k _ _ 0 (by omega) rfl rfl) ?_
  refine Ev.step (fun k => plus_step k _ _ 1 (by omega) rfl rfl) ?_
  refine Ev.step (fun k => plus_step k _ _ 2 (by omega) rfl rfl) ?_
  refine Ev.step (fun k => plus_step k _ _ 3 (by omega) rfl rfl) ?_
  refine Ev.step (fun k => plus_step k _ _ 4 (by omega) rfl rfl) ?_
  refine Ev.step (fun k => plus_step k _ _ 5 (by omega) rfl rfl) ?_
  refine Ev.step (fun k => plus_step k _ _ 6 (by omega) rfl rfl) ?_
  refine Ev.step (fun k => plus_step k _ _ 7 (by omega) rfl rfl) ?_
  refine Ev.step (f := fun _ => some (h8 (plus v h))) (fun k => ?_) (Ev.now _)
  show (if ((8 : Nat) : Int) < 8 then _ else _) = _
  rw [if_neg (by omega)]
  show some [Go.bits .and .i64 (wrap64 (U v.a + U h.a)) 4294967295, Go.bits .and .i64 (wrap64 (U v.b + U h.b)) 4294967295, Go.bits .and .i64 (wrap64 (U v.c + U h.c)) 4294967295, Go.bits .and .i64 (wrap64 (U v.d + U h.d)) 4294967295,
    Go.bits .and .i64 (wrap64 (U v.e + U h.e)) 4294967295, Go.bits .and .i64 (wrap64 (U v.f + U h.f)) 4294967295, Go.bits .and .i64 (wrap64 (U v.g + U h.g)) 4294967295, Go.bits .and .i64 (wrap64 (U v.h + U h.h)) 4294967295] = _
  rw [plus_one, plus_one, plus_one, plus_one, plus_one, plus_one, plus_one, plus_one]
  simp only [plus, h8, BitVec.add_comm]
theorem block_spec (h : H8) (c : List Int) (hc : c.length = 64) (hb : ∀ i, 0 ≤ c.getD i 0 ∧ c.getD i 0 ≤ 255) : Ev (fun k => spec_l2Block.f k (h8 h) c kl) (h8 (block h c)) := by
  refine Ev.bind (words_spec c hc hb) ?_
  refine Ev.congr (f := fun k => spec_l2Block.l0 k (h8 h) kl (wl (wordAt c) 64) (h8 h) 0) (fun k => ?_) (rounds_spec (h8 h) (wordAt c) h _ (plus_spec _ h) 64 0 rfl (by omega))
  show ((some ([] : List Int)).bind _) = _
  simp only [Option.bind_some, List.nil_append, List.length_nil]
  rw [if_pos (by show 0 + 8 < _; omega)]
theorem out_step (k : Nat) (v : H8) (n : Nat) (hn : n < 8) : spec_Digest.l1 (k + 1) (h8 v) (outUpTo v n) (n : Int) = spec_Digest.l1 k (h8 v) (outUpTo v (n + 1)) ((n + 1 : Nat) : Int) := by
  have hl : ∀ m, (outUpTo v m).length = 4 * m := by
    intro m
    induction m with
    | zero => rfl
    | succ m ih => unfold outUpTo at ih ⊢; rw [List.range_succ, List.flatMap_append, List.length_append, ih]; simp [bytes4]; omega
  have hs : outUpTo v (n + 1) = outUpTo v n ++ bytes4 (v.get n) := by unfold outUpTo; rw [List.range_succ, List.flatMap_append]; simp
  have hg : ∀ m : Nat, m < 8 → rd (h8 v) (m : Int) = U (v.get m) := by
    intro m hm
    rcases m with _ | _ | _ | _ | _ | _ | _ | _ | m
    all_goals first | rfl | omega
  show (if (n : Int) < 8 then _ else _) = _
  rw [if_pos (by omega), if_pos (by omega), if_pos (by show (n : Int) < ((8 : Nat) : Int); omega), w64 ((n : Int) + 1) (by omega), hg n hn]
  simp only [Option.bind_some]
  rw [if_pos (by rw [hl]; simp; omega), hs]
  rfl
theorem out_spec (v : H8) : Ev (fun k => spec_Digest.l1 k (h8 v) [] 0) (strOfNums (outUpTo v 8)) := by
  refine Ev.step (fun k => out_step k v 0 (by omega)) ?_
  refine Ev.step (fun k => out_step k v 1 (by omega)) ?_
  refine Ev.step (fun k => out_step k v 2 (by omega)) ?_
  refine Ev.step (fun k => out_step k v 3 (by omega)) ?_
  refine Ev.step (fun k => out_step k v 4 (by omega)) ?_
  refine Ev.step (fun k => out_step k v 5 (by omega)) ?_
  refine Ev.step (fun k => out_step k v 6 (by omega)) ?_
  refine Ev.step (fun k => out_step k v 7 (by omega)) ?_
  refine Ev.step (fun k => ?_) (Ev.now _)
  show (if ((8 : Nat) : Int) < 8 then _ else _) = _
  rw [if_neg (by omega)]
theorem blocks_spec (p : List Int) (hp : WholeB p) (j i : Nat) (hj : p.length / 64 - i = j) (hi : i ≤ p.length / 64) :
    Ev (fun k => spec_Digest.l0 k p (h8 ((List.range i).foldl (fun h j => block h (chunk p j)) first)) kl ((64 * i : Nat) : Int)) (strOfNums (outUpTo (digest8 p) 8)) := by
  obtain ⟨hm, h0, hlt, hbyte⟩ := hp
  induction j generalizing i with
  | zero =>
    obtain rfl : i = p.length / 64 := by omega
    refine Ev.step (fun k => ?_) (out_spec _)
    show (if ((64 * (p.length / 64) : Nat) : Int) < (p.length : Int) then _ else _) = _
    rw [if_neg (by omega)]
    rfl
  | succ j ih =>
    have e := ih (i + 1) (by omega) (by omega)
    rw [List.range_succ, List.foldl_append] at e
    have hcl : (chunk p i).length = 64 := by unfold chunk; rw [List.length_take, List.length_drop]; omega
    refine Ev.step (f := fun k => (spec_l2Block.f k (h8 ((List.range i).foldl (fun h j => block h (chunk p j)) first)) (chunk p i) kl).bind fun t => spec_Digest.l0 k p t kl ((64 * (i + 1) : Nat) : Int)) (fun k => ?_)
      (Ev.bind (block_spec _ (chunk p i) hcl (chunk_byte p hbyte i)) e)
    show (if ((64 * i : Nat) : Int) < (p.length : Int) then _ else _) = _
    have w : wrap64 (((64 * i : Nat) : Int) + 64) = ((64 * (i + 1) : Nat) : Int) := by rw [w64 _ (by omega)]; omega
    rw [w, if_pos (by omega), if_pos (by omega), if_pos (by omega), if_pos (by omega)]
    have c : (p.take ((64 * (i + 1) : Nat) : Int).toNat).drop ((64 * i : Nat) : Int).toNat = chunk p i := by
      unfold chunk
      rw [Int.toNat_natCast, Int.toNat_natCast, List.drop_take, show 64 * (i + 1) - 64 * i = 64 by omega]
    rw [c]
/-- WHAT BOTH DIGESTS TELL. -/
def sha (l : List Int) : ByteArray := strOfNums (outUpTo (digest8 (pad l)) 8)
theorem digest_spec (l : List Int) (hl : l.length < 140737488000000) (hb : ∀ x ∈ l, 0 ≤ x ∧ x ≤ 255) : Ev (fun k => spec_Digest.f k l) (sha l) := by
  refine Ev.bind (padded_spec l hl) ?_
  refine Ev.congr (f := fun k => spec_Digest.l0 k (pad l) (h8 first) kl ((64 * 0 : Nat) : Int)) (fun k => ?_) (blocks_spec (pad l) (pad_whole l hl hb) _ 0 rfl (by omega))
  rw [kl_is]
  rfl
theorem digest_impl (l : List Int) (hl : l.length < 140737488000000) (hb : ∀ x ∈ l, 0 ≤ x ∧ x ≤ 255) : Ev (fun k => impl_Digest.f k l) (sha l) := by
  refine Ev.bind (padded_impl l hl) (Ev.congr (fun k => ?_) (Ev.now _))
  rw [if_pos (pad_whole l hl hb)]
  rfl
end Go.Proofs.Ytlekeiokdmnboaa.Pu
end

section
/- What the two programs' writers of numbers and texts put down: the same bytes; plain Lean over the printed functions. -/
namespace Go.Proofs.Ytlekeiokdmnboaa.Pu
open Go Go.RowKit Go.Proofs.YtlekeiokdmnboaaW.PrintWords Go.Proofs.YtlekeiokdmnboaaW.PrintLast Go.Proofs.YtlekeiokdmnboaaW.PrintMore Go.Proofs.Ytlekeiokdmnboaa.Pa
set_option linter.unusedVariables false

theorem n64 (n : Int) (h : -9223372036854775808 ≤ n ∧ n ≤ 9223372036854775807) : wrap64 n = n := by unfold wrap64; omega
/-- The number that is put down for a. -/
def clamp (a : Int) : Nat := (mx 0 (mn a 1000000000)).toNat
theorem clamp_le (a : Int) : clamp a ≤ 1000000000 := by unfold clamp mx mn; split <;> split <;> omega
/-- Seven bits a byte, the lowest first. -/
def numB (n : Nat) : List Int := if n > 127 then ((n % 128 + 128 : Nat) : Int) :: numB (n / 128) else [(n : Int)]
termination_by n
decreasing_by omega
theorem numB_big {n : Nat} (h : n > 127) : numB n = ((n % 128 + 128 : Nat) : Int) :: numB (n / 128) := by rw [numB, if_pos h]
theorem numB_small {n : Nat} (h : ¬ n > 127) : numB n = [(n : Int)] := by rw [numB, if_neg h]
def Byte (l : List Int) : Prop := ∀ x ∈ l, 0 ≤ x ∧ x ≤ 255
theorem Byte.app {a b : List Int} (ha : Byte a) (hb : Byte b) : Byte (a ++ b) := fun x hx => by
  rcases List.mem_append.1 hx with h | h
  · exact ha x h
  · exact hb x h
theorem numB_byte (n : Nat) : Byte (numB n) := by
  induction n using Nat.strongRecOn with
  | _ n ih =>
    intro x hx
    by_cases h : n > 127
    · rw [numB_big h] at hx
      rcases List.mem_cons.1 hx with rfl | hx
      · omega
      · exact ih (n / 128) (by omega) x hx
    · rw [numB_small h] at hx
      simp at hx
      omega
theorem numB_len (j n : Nat) (h : n < 128 ^ (j + 1)) : (numB n).length ≤ j + 1 := by
  induction j generalizing n with
  | zero => rw [numB_small (by omega)]; simp
  | succ j ih =>
    by_cases h2 : n > 127
    · rw [numB_big h2]
      have := ih (n / 128) (by rw [Nat.div_lt_iff_lt_mul (by decide)]; rw [Nat.pow_succ] at h; exact h)
      simp; omega
    · rw [numB_small h2]; simp
theorem clamp_len (a : Int) : (numB (clamp a)).length ≤ 5 := numB_len 4 _ (by have := clamp_le a; omega)
theorem or128 (x : Int) (h0 : 0 ≤ x) (h1 : x < 4611686018427387904) : (Go.bits .or .i64 128 (Go.bits .and .i64 x 127)) % 256 = x % 128 + 128 ∧ (Go.bits .or .i64 (Go.bits .and .i64 x 127) 128) % 256 = x % 128 + 128 := by
  have hm : Go.bits .and .i64 x 127 = x % 128 := bits_mask .i64 62 (by decide) (fun n a b => by rw [IntKind.wrap_i64]; omega) 7 (by decide) x h0 h1
  rw [hm]
  obtain ⟨n, hn⟩ := Int.eq_ofNat_of_zero_le (show 0 ≤ x % 128 by omega)
  have hn2 : n < 128 := by omega
  have e128 : (128 : Int) = ((128 : Nat) : Int) := rfl
  have hb := fun a b h1 h2 => (bits_nat .i64 62 (by decide) (fun n a b => by rw [IntKind.wrap_i64]; omega) a b h1 h2).2
  have ho : (128 : Nat) ||| n = 128 + n := (Nat.two_pow_add_eq_or_of_lt (i := 7) hn2 1).symm
  rw [hn]
  constructor
  · rw [show Go.bits .or .i64 128 (n : Int) = ((128 ||| n : Nat) : Int) from hb 128 n (by decide) (by omega), ho]; omega
  · rw [show Go.bits .or .i64 (n : Int) 128 = ((n ||| 128 : Nat) : Int) from hb n 128 (by omega) (by decide), Nat.or_comm, ho]; omega
theorem put_impl (n : Nat) (hn : n ≤ 1000000000) (l : List Int) (hl : l.length + (numB n).length < 140737488355328) : Ev (fun k => impl_putNum.l0 k l (n : Int)) (l ++ numB n) := by
  induction n using Nat.strongRecOn generalizing l with
  | _ n ih =>
    by_cases h : n > 127
    · rw [numB_big h] at hl ⊢
      simp only [List.length_cons] at hl
      have e := ih (n / 128) (by omega) (by omega) (l ++ [((n % 128 + 128 : Nat) : Int)]) (by simp only [List.length_append, List.length_singleton]; omega)
      refine Ev.step (fun k => ?_) (by rw [List.append_assoc, List.singleton_append] at e; exact e)
      show (if (n : Int) > 127 then _ else _) = _
      rw [if_pos (by omega), if_pos (by omega), (or128 (n : Int) (by omega) (by omega)).1]
      congr 1
    · rw [numB_small h] at hl ⊢
      simp only [List.length_singleton] at hl
      refine Ev.step (fun k => ?_) (Ev.now _)
      show (if (n : Int) > 127 then _ else _) = _
      rw [if_neg (by omega), if_pos (by omega)]
      have : (n : Int) % 256 = n := by omega
      rw [this]
theorem put_spec (n : Nat) (hn : n ≤ 1000000000) (l : List Int) (hl : l.length + (numB n).length < 140737488355328) : Ev (fun k => spec_PutNum.l0 k (n : Int) l) (l ++ numB n) := by
  induction n using Nat.strongRecOn generalizing l with
  | _ n ih =>
    by_cases h : n > 127
    · rw [numB_big h] at hl ⊢
      simp only [List.length_cons] at hl
      have e := ih (n / 128) (by omega) (by omega) (l ++ [((n % 128 + 128 : Nat) : Int)]) (by simp only [List.length_append, List.length_singleton]; omega)
      refine Ev.step (fun k => ?_) (by rw [List.append_assoc, List.singleton_append] at e; exact e)
      show (if (n : Int) > 127 then _ else _) = _
      rw [if_pos (by omega), if_pos (by omega), (or128 (n : Int) (by omega) (by omega)).2]
      congr 1
    · rw [numB_small h] at hl ⊢
      simp only [List.length_singleton] at hl
      refine Ev.step (fun k => ?_) (Ev.now _)
      show (if (n : Int) > 127 then _ else _) = _
      rw [if_neg (by omega), if_pos (by omega)]
      have : (n : Int) % 256 = n := by omega
      rw [this]
theorem clamp_int (a : Int) : ((clamp a : Nat) : Int) = mx 0 (mn a 1000000000) := by unfold clamp mx mn; split <;> split <;> omega
theorem num_impl (l : List Int) (a : Int) (hl : l.length + 5 < 140737488355328) : Ev (fun k => impl_putNum.f k l a) (l ++ numB (clamp a)) := by
  have h := put_impl (clamp a) (clamp_le a) l (by have := clamp_len a; omega)
  rw [clamp_int] at h
  exact h
theorem num_spec (l : List Int) (a : Int) (hl : l.length + 5 < 140737488355328) : Ev (fun k => spec_PutNum.f k l a) (l ++ numB (clamp a)) := by
  have h := put_spec (clamp a) (clamp_le a) l (by have := clamp_len a; omega)
  have hc := clamp_int a
  have key : ∀ b : Int, (if b < 0 then 0 else b) = (clamp a : Int) → Ev (fun k => spec_PutNum.j0 k b l) (l ++ numB (clamp a)) := by
    intro b hb
    refine Ev.step (f := fun k => spec_PutNum.j1 k (clamp a : Int) l) (fun k => ?_) (Ev.step (fun k => ?_) h)
    · show (if b < 0 then _ else _) = _
      split at hb
      · rw [if_pos (by assumption), hb]
      · rw [if_neg (by assumption), hb]
    · rfl
  refine Ev.congr (f := fun k => if a > 1000000000 then spec_PutNum.j0 k 1000000000 l else spec_PutNum.j0 k a l) (fun k => ?_) ?_
  · show ((some ([] : List Int)).bind _) = _
    simp only [Option.bind_some, List.nil_append, List.length_nil, Nat.zero_add]
    rw [if_pos (by omega)]
  · by_cases h1 : a > 1000000000
    · simp only [if_pos h1]
      refine key _ ?_
      rw [hc]; unfold mx mn; (repeat' split) <;> omega
    · simp only [if_neg h1]
      refine key _ ?_
      rw [hc]; unfold mx mn; (repeat' split) <;> omega

/-- A text's bytes, its length ahead. -/
def txtB (s : ByteArray) : List Int := numB (clamp (s.size : Int)) ++ bytesOf s
theorem bytesOf_byte (s : ByteArray) : Byte (bytesOf s) := by
  intro x hx
  simp only [bytesOf, List.mem_map] at hx
  obtain ⟨b, _, rfl⟩ := hx
  have := b.toNat_lt
  omega
theorem txtB_byte (s : ByteArray) : Byte (txtB s) := (numB_byte _).app (bytesOf_byte s)
theorem txtB_len (s : ByteArray) : (txtB s).length ≤ 5 + s.size := by
  unfold txtB
  rw [List.length_append, bytesOf_length]
  have := clamp_len (s.size : Int)
  omega
theorem txt_impl (l : List Int) (s : ByteArray) (hl : l.length + 5 + s.size < 140737488355328) : Ev (fun k => impl_putText.f k l s) (l ++ txtB s) := by
  refine Ev.bind (num_impl l _ (by omega)) (Ev.congr (fun k => ?_) (Ev.now _))
  have := clamp_len (s.size : Int)
  rw [if_pos (by rw [List.length_append]; omega), List.append_assoc]
  rfl
theorem txt_spec (l : List Int) (s : ByteArray) (hl : l.length + 5 + s.size < 140737488355328) : Ev (fun k => spec_PutText.f k l s) (l ++ txtB s) := by
  refine Ev.bind (num_spec l _ (by omega)) (Ev.congr (fun k => ?_) (Ev.now _))
  have := clamp_len (s.size : Int)
  rw [if_pos (by rw [List.length_append]; omega), List.append_assoc]
  rfl
/-- The lengths of texts, one by one. -/
def total (l : List ByteArray) : Nat := (l.map fun s => s.size + 1).sum
theorem total_nil : total [] = 0 := rfl
theorem total_cons (s : ByteArray) (l : List ByteArray) : total (s :: l) = s.size + 1 + total l := by simp [total]
theorem total_len (l : List ByteArray) : l.length ≤ total l := by
  induction l with
  | nil => simp [total]
  | cons s l ih => rw [total_cons]; simp; omega
def textsB (l : List ByteArray) : List Int := numB (clamp (l.length : Int)) ++ l.flatMap txtB
theorem flat_byte (l : List ByteArray) : Byte (l.flatMap txtB) := by
  intro x hx
  obtain ⟨s, _, hs⟩ := List.mem_flatMap.1 hx
  exact txtB_byte s x hs
theorem textsB_byte (l : List ByteArray) : Byte (textsB l) := (numB_byte _).app (flat_byte l)
theorem flat_len (l : List ByteArray) : (l.flatMap txtB).length ≤ 5 * total l := by
  induction l with
  | nil => simp [total]
  | cons s l ih => rw [List.flatMap_cons, List.length_append, total_cons]; have := txtB_len s; omega
theorem textsB_len (l : List ByteArray) : (textsB l).length ≤ 5 + 5 * total l := by
  unfold textsB
  rw [List.length_append]
  have := clamp_len (l.length : Int)
  have := flat_len l
  omega
theorem rdOf_at {α : Type} {d x : α} {l : List α} {i : Nat} (h : l[i]? = some x) : rdOf d l (i : Int) = x := by
  simp [rdOf, List.getD_eq_getElem?_getD, h]
theorem drop_at {α : Type} {l : List α} {i : Nat} (h : i < l.length) : l.drop i = l[i] :: l.drop (i + 1) := by simp
theorem texts_impl (l : List Int) (xs : List ByteArray) (hl : l.length + 5 + 5 * total xs < 140737488355328) : Ev (fun k => impl_putTexts.f k l xs) (l ++ textsB xs) := by
  have hx := total_len xs
  have loop : ∀ (j : Nat) (i : Nat) (l : List Int), xs.length - i = j → i ≤ xs.length → l.length + 5 * total (xs.drop i) < 140737488355328 → Ev (fun k => impl_putTexts.l0 k l xs (xs.length : Int) (i : Int)) (l ++ (xs.drop i).flatMap txtB) := by
    intro j
    induction j with
    | zero =>
      intro i l hj hi hl
      have : xs.drop i = [] := List.drop_eq_nil_of_le (by omega)
      rw [this, List.flatMap_nil, List.append_nil]
      refine Ev.step (fun k => ?_) (Ev.now _)
      show (if (i : Int) < (xs.length : Int) then _ else _) = _
      rw [if_neg (by omega)]
    | succ j ih =>
      intro i l hj hi hl
      have hlt : i < xs.length := by omega
      rw [drop_at hlt] at hl ⊢
      rw [total_cons] at hl
      have ht := txtB_len xs[i]
      have e2 := ih (i + 1) (l ++ txtB xs[i]) (by omega) (by omega) (by rw [List.length_append]; omega)
      refine Ev.step (f := fun k => (impl_putText.f k l xs[i]).bind fun t => impl_putTexts.l0 k t xs (xs.length : Int) ((i + 1 : Nat) : Int)) (fun k => ?_) (Ev.bind (txt_impl l xs[i] (by omega)) ?_)
      · show (if (i : Int) < (xs.length : Int) then _ else _) = _
        rw [if_pos (by omega), if_pos (by omega), if_pos (by omega), rdOf_at (List.getElem?_eq_getElem hlt), n64 _ (by omega)]
        rfl
      · rw [List.flatMap_cons, ← List.append_assoc]
        exact e2
  refine Ev.bind (num_impl l _ (by omega)) ?_
  have := loop xs.length 0 (l ++ numB (clamp (xs.length : Int))) (by omega) (by omega) (by have := clamp_len (xs.length : Int); rw [List.length_append, List.drop_zero]; omega)
  rw [List.drop_zero, List.append_assoc] at this
  exact this
theorem texts_spec (l : List Int) (xs : List ByteArray) (hl : l.length + 5 + 5 * total xs < 140737488355328) : Ev (fun k => spec_PutTexts.f k l xs) (l ++ textsB xs) := by
  have hx := total_len xs
  have loop : ∀ (j : Nat) (i : Nat) (l : List Int), xs.length - i = j → i ≤ xs.length → l.length + 5 * total (xs.drop i) < 140737488355328 → Ev (fun k => spec_PutTexts.l0 k xs l (i : Int)) (l ++ (xs.drop i).flatMap txtB) := by
    intro j
    induction j with
    | zero =>
      intro i l hj hi hl
      have : xs.drop i = [] := List.drop_eq_nil_of_le (by omega)
      rw [this, List.flatMap_nil, List.append_nil]
      refine Ev.step (fun k => ?_) (Ev.now _)
      show (if (i : Int) < (xs.length : Int) then _ else _) = _
      rw [if_neg (by omega)]
    | succ j ih =>
      intro i l hj hi hl
      have hlt : i < xs.length := by omega
      rw [drop_at hlt] at hl ⊢
      rw [total_cons] at hl
      have ht := txtB_len xs[i]
      have e2 := ih (i + 1) (l ++ txtB xs[i]) (by omega) (by omega) (by rw [List.length_append]; omega)
      refine Ev.step (f := fun k => (spec_PutText.f k l xs[i]).bind fun t => spec_PutTexts.l0 k xs t ((i + 1 : Nat) : Int)) (fun k => ?_) (Ev.bind (txt_spec l xs[i] (by omega)) ?_)
      · show (if (i : Int) < (xs.length : Int) then _ else _) = _
        rw [if_pos (by omega), if_pos (by omega), rdOf_at (List.getElem?_eq_getElem hlt), n64 _ (by omega)]
        rfl
      · rw [List.flatMap_cons, ← List.append_assoc]
        exact e2
  refine Ev.bind (num_spec l _ (by omega)) ?_
  have := loop xs.length 0 (l ++ numB (clamp (xs.length : Int))) (by omega) (by omega) (by have := clamp_len (xs.length : Int); rw [List.length_append, List.drop_zero]; omega)
  rw [List.drop_zero, List.append_assoc] at this
  exact this
end Go.Proofs.Ytlekeiokdmnboaa.Pu
end

section
/- The guards of the laws, the copies that the laws make, the comparing of rows of texts; plain Lean over the printed functions. -/
namespace Go.Proofs.Ytlekeiokdmnboaa.Pu
open Go Go.RowKit Go.Proofs.YtlekeiokdmnboaaW.PrintWords Go.Proofs.YtlekeiokdmnboaaW.PrintLast Go.Proofs.YtlekeiokdmnboaaW.PrintMore Go.Proofs.Ytlekeiokdmnboaa.Pa
set_option linter.unusedVariables false

/-- What a law takes of rows of texts: lengths that Go has. -/
def Has (l : List ByteArray) : Prop := l.length ≤ 9223372036854775807 ∧ ∀ s ∈ l, s.size ≤ 9223372036854775807
def sumB (l : List ByteArray) : Nat := (l.map fun s => s.size).sum
theorem sumB_cons (s : ByteArray) (l : List ByteArray) : sumB (s :: l) = s.size + sumB l := by simp [sumB]
theorem total_sum (l : List ByteArray) : total l = sumB l + l.length := by
  induction l with
  | nil => rfl
  | cons s l ih => rw [total_cons, sumB_cons, ih, List.length_cons]; omega
theorem sz_texts (l : List ByteArray) (hl : Has l) (a : Int) (h0 : 0 ≤ a) (h1 : a ≤ 1099511627776) : Ev (fun k => laws_szStringS.f k l a) (if (total l : Int) ≤ a then a - total l else -1) := by
  have loop : ∀ (j i : Nat) (x : Int), l.length - i = j → i ≤ l.length → 0 ≤ x → x ≤ 1099511627776 → l.length ≤ 1099511627776 → Ev (fun k => laws_szStringS.l0 k l x (i : Int)) (if (sumB (l.drop i) : Int) ≤ x then x - sumB (l.drop i) else -1) := by
    intro j
    induction j with
    | zero =>
      intro i x hj hi h0 h1 hn
      have : l.drop i = [] := List.drop_eq_nil_of_le (by omega)
      rw [this, show sumB [] = 0 from rfl, if_pos (by omega)]
      refine Ev.step (fun k => ?_) (Ev.now _)
      show (if (i : Int) < (l.length : Int) then _ else _) = _
      rw [if_neg (by omega)]
      simp
    | succ j ih =>
      intro i x hj hi h0 h1 hn
      have hlt : i < l.length := by omega
      have hs := hl.2 l[i] (List.getElem_mem hlt)
      rw [drop_at hlt, sumB_cons]
      have hr : rdOf ByteArray.empty l (i : Int) = l[i] := rdOf_at (List.getElem?_eq_getElem hlt)
      have hw : wrap64 (x - (l[i].size : Int)) = x - (l[i].size : Int) := n64 _ (by omega)
      by_cases hneg : x - (l[i].size : Int) < 0
      · rw [if_neg (by omega)]
        refine Ev.step (fun k => ?_) (Ev.now _)
        show (if (i : Int) < (l.length : Int) then _ else _) = _
        rw [if_pos (by omega), if_pos (by omega), hr, hw, if_pos hneg]
      · have e := ih (i + 1) (x - (l[i].size : Int)) (by omega) (by omega) (by omega) (by omega) hn
        have : (if ((sumB (l.drop (i + 1)) : Nat) : Int) ≤ x - (l[i].size : Int) then x - (l[i].size : Int) - ((sumB (l.drop (i + 1)) : Nat) : Int) else -1) = (if ((l[i].size + sumB (l.drop (i + 1)) : Nat) : Int) ≤ x then x - ((l[i].size + sumB (l.drop (i + 1)) : Nat) : Int) else -1) := by
          split <;> split <;> omega
        rw [this] at e
        refine Ev.step (fun k => ?_) e
        show (if (i : Int) < (l.length : Int) then _ else _) = _
        rw [if_pos (by omega), if_pos (by omega), hr, hw, if_neg hneg, n64 ((i : Int) + 1) (by omega)]
        rfl
  have hn := hl.1
  have hw : wrap64 (a - (l.length : Int)) = a - (l.length : Int) := n64 _ (by omega)
  have ht := total_sum l
  by_cases hneg : a - (l.length : Int) < 0
  · rw [if_neg (by omega)]
    refine Ev.congr (fun k => ?_) (Ev.now _)
    show (if (wrap64 (a - (l.length : Int))) < 0 then _ else _) = _
    rw [hw, if_pos hneg]
  · have e := loop l.length 0 (a - (l.length : Int)) (by omega) (by omega) (by omega) (by omega) (by omega)
    rw [List.drop_zero] at e
    have : (if ((sumB l : Nat) : Int) ≤ a - (l.length : Int) then a - (l.length : Int) - ((sumB l : Nat) : Int) else -1) = (if ((total l : Nat) : Int) ≤ a then a - ((total l : Nat) : Int) else -1) := by
      split <;> split <;> omega
    rw [this] at e
    refine Ev.congr (fun k => ?_) e
    show (if (wrap64 (a - (l.length : Int))) < 0 then _ else _) = _
    rw [hw, if_neg hneg]
    rfl
theorem set_at {α : Type} (l : List α) (i : Nat) (z : α) (h : i < l.length) : (l.take i ++ List.replicate (l.length - i) z).set i l[i] = l.take (i + 1) ++ List.replicate (l.length - (i + 1)) z := by
  have h1 : (l.take i).length = i := by rw [List.length_take]; omega
  rw [List.set_append_right _ _ (by omega), h1, Nat.sub_self]
  obtain ⟨m, hm⟩ : ∃ m, l.length - i = m + 1 := ⟨l.length - i - 1, by omega⟩
  rw [hm, show l.length - (i + 1) = m by omega, List.replicate_succ, List.set_cons_zero, List.take_succ_eq_append_getElem h, List.append_assoc, List.singleton_append]
theorem to_texts (l : List ByteArray) (hl : l.length ≤ 17592186044416) : Ev (fun k => laws_toStringS.f k l) l := by
  have loop : ∀ (j i : Nat), l.length - i = j → i ≤ l.length → Ev (fun k => laws_toStringS.l0 k l (l.take i ++ List.replicate (l.length - i) (⟨#[]⟩ : ByteArray)) (i : Int)) l := by
    intro j
    induction j with
    | zero =>
      intro i hj hi
      obtain rfl : i = l.length := by omega
      rw [List.take_length, Nat.sub_self, List.replicate_zero, List.append_nil]
      refine Ev.step (fun k => ?_) (Ev.now _)
      show (if (l.length : Int) < (l.length : Int) then _ else _) = _
      rw [if_neg (by omega)]
    | succ j ih =>
      intro i hj hi
      have hlt : i < l.length := by omega
      have e := ih (i + 1) (by omega) (by omega)
      rw [← set_at l i _ hlt] at e
      refine Ev.step (fun k => ?_) e
      show (if (i : Int) < (l.length : Int) then _ else _) = _
      have hlen : (l.take i ++ List.replicate (l.length - i) (⟨#[]⟩ : ByteArray)).length = l.length := by simp; omega
      rw [hlen, if_pos (by omega), if_pos (by omega), if_pos (by omega), rdOf_at (List.getElem?_eq_getElem hlt), n64 ((i : Int) + 1) (by omega)]
      rfl
  have e := loop l.length 0 (by omega) (by omega)
  rw [List.take_zero, List.nil_append, Nat.sub_zero] at e
  refine Ev.congr (fun k => ?_) e
  show (if 0 ≤ (l.length : Int) then _ else _) = _
  rw [if_pos (by omega), if_pos (by omega)]
  rfl
theorem eq_texts (l : List ByteArray) (hl : l.length ≤ 9223372036854775800) : Ev (fun k => laws_eqStringS.f k l l) true := by
  have loop : ∀ (j i : Nat), l.length - i = j → i ≤ l.length → Ev (fun k => laws_eqStringS.l0 k l l (i : Int)) true := by
    intro j
    induction j with
    | zero =>
      intro i hj hi
      refine Ev.step (fun k => ?_) (Ev.now _)
      show (if (i : Int) < (l.length : Int) then _ else _) = _
      rw [if_neg (by omega)]
    | succ j ih =>
      intro i hj hi
      refine Ev.step (fun k => ?_) (ih (i + 1) (by omega) (by omega))
      show (if (i : Int) < (l.length : Int) then _ else _) = _
      rw [if_pos (by omega), if_pos (by omega), if_pos (by omega), if_pos rfl, n64 ((i : Int) + 1) (by omega)]
      rfl
  refine Ev.congr (fun k => ?_) (loop l.length 0 (by omega) (by omega))
  show (if (l.length : Int) = (l.length : Int) then _ else _) = _
  rw [if_pos rfl]
  rfl
end Go.Proofs.Ytlekeiokdmnboaa.Pu
end

section
namespace Go.Proofs.Ytlekeiokdmnboaa.Pa
open Go.RowKit Go.Proofs.YtlekeiokdmnboaaW.PrintWords Go.Proofs.YtlekeiokdmnboaaW.PrintLast Go.Proofs.YtlekeiokdmnboaaW.PrintMore Go.Proofs.Ytlekeiokdmnboaa.M
attribute [local go_sem] max2_int min2_int max_two min_two max_three min_three max_four min_four   -- for this text's walks alone
set_option linter.unusedVariables false
set_option maxHeartbeats 8000000
set_option maxRecDepth 100000
set_option linter.unusedSimpArgs false

/-! ### laws_FnExactSuperOf: function 3 -/
def laws_FnExactSuperOf.f (k : Nat) (a0 : Int) (a1 : ByteArray) (l2 : List ByteArray) : Option (Bool) := if (a1.size : Int) > 1048576 then (some true) else ((laws_szStringS.f k l2 1048576).bind fun t299 => (if t299 < 0 then (some true) else ((laws_toStringS.f k l2).bind fun t300 => ((spec_SuperOf.f k a0 a1 t300).bind fun t303 => ((laws_toStringS.f k l2).bind fun t304 => ((impl_SuperOf.f k a0 a1 t304).bind fun t307 => (if t307.toList = t303.toList then ((laws_toStringS.f k l2).bind fun t308 => ((laws_eqStringS.f k t304 t308).bind fun t311 => (if t311 = true then (some true) else (some false)))) else (some false))))))))
theorem laws_FnExactSuperOf.mono : ∀ a0 a1 a2 k, LeO (laws_FnExactSuperOf.f k a0 a1 a2) (laws_FnExactSuperOf.f (k + 1) a0 a1 a2) := by
  intro a0 a1 a2 k
  unfold laws_FnExactSuperOf.f
  have m0 := @impl_SuperOf.mono
  have m1 := @laws_eqStringS.mono
  have m2 := @laws_szStringS.mono
  have m3 := @laws_toStringS.mono
  have m4 := @spec_SuperOf.mono
  exact me
theorem laws_FnExactSuperOf.calls (k : Nat) (a0 : Int) (a1 : ByteArray) (A2 : Option Addr) (c2 : Nat) (l2 : List ByteArray) (r : Bool) (w : World) (hr2 : Kd.C Kd.string w A2 l2.length l2) (hc2 : l2.length ≤ c2) (h : laws_FnExactSuperOf.f k a0 a1 l2 = some r) :
    Calls Try.prog 3 #[.int .i64 a0, .string a1, .slice A2 l2.length c2] w fun e w' => e = .returned (.bool r) ∧ Below w.heap.size w w' := by
 have HR2 := mk0 hr2
 have HC2 := mk0 hc2
 clear hr2 hc2
 have HB := mk0 (Below.refl w.heap.size w)
 have H : (if (a1.size : Int) > 1048576 then (some true) else ((laws_szStringS.f k l2 1048576).bind fun t299 => (if t299 < 0 then (some true) else ((laws_toStringS.f k l2).bind fun t300 => ((spec_SuperOf.f k a0 a1 t300).bind fun t303 => ((laws_toStringS.f k l2).bind fun t304 => ((impl_SuperOf.f k a0 a1 t304).bind fun t307 => (if t307.toList = t303.toList then ((laws_toStringS.f k l2).bind fun t308 => ((laws_eqStringS.f k t304 t308).bind fun t311 => (if t311 = true then (some true) else (some false)))) else (some false))))))))) = some r := h
 clear h
 replace H := ip H; rcases H with ⟨c4, H⟩ | ⟨c4, H⟩
 · have c4b0 : decide (1048576 < (a1.size : Int)) = true := decide_eq_true c4
   have c4b1 : decide (1048576 < a1.size) = true := decide_eq_true (by omega)
   clear c4
   obtain rfl := Option.some.inj H
   go_enter Try.func3, Try.ntmps3
   go_wp2
   go_ret
   exact ⟨sw, bw⟩
 · have c4b0 : decide (1048576 < (a1.size : Int)) = false := decide_eq_false c4
   have c4b1 : decide (1048576 < a1.size) = false := decide_eq_false (by omega)
   clear c4
   replace H := bd H; obtain ⟨t299, A5, H⟩ := H
   replace H := idd H; rcases H with ⟨c6b0, H⟩ | ⟨c6b0, H⟩
   · obtain rfl := Option.some.inj H
     go_enter Try.func3, Try.ntmps3
     go_wp2_with (first | ((with_reducible refine gC 8 (some 16) rfl rfl ?_); refine gQ (some 16) Try.func8 #[.slice A2 l2.length c2, .int .i64 1048576] (laws_szStringS.calls k _ _ l2 1048576 t299 _ (cc HR2.out) HC2.out A5.out) ?_; intro nd))
     go_ret
     exact ⟨sw, bw⟩
   · replace H := bd H; obtain ⟨t300, A7, H⟩ := H
     replace H := bd H; obtain ⟨t303, A8, H⟩ := H
     replace H := bd H; obtain ⟨t304, A9, H⟩ := H
     replace H := bd H; obtain ⟨t307, A10, H⟩ := H
     replace H := it H; rcases H with ⟨c11b0, c11b1, H⟩ | ⟨c11, c11b0, c11b1, H⟩
     · replace H := bd H; obtain ⟨t308, A12, H⟩ := H
       replace H := bd H; obtain ⟨t311, A13, H⟩ := H
       rcases ib t311 with rfl | rfl
       · replace H := jt H
         obtain rfl := Option.some.inj H
         go_enter Try.func3, Try.ntmps3
         go_wp2_with (first | ((with_reducible refine gC 8 (some 16) rfl rfl ?_); refine gQ (some 16) Try.func8 #[.slice A2 l2.length c2, .int .i64 1048576] (laws_szStringS.calls k _ _ l2 1048576 t299 _ (cc HR2.out) HC2.out A5.out) ?_; intro nd) | ((with_reducible refine gC 10 (some 22) rfl rfl ?_); refine gR (some 22) Try.func10 #[.slice A2 l2.length c2] (laws_toStringS.calls k _ _ l2 t300 _ (cc HR2.out) HC2.out A7.out) ?_; intro v301 w15 ho0 hb; have HO302 := mk0 (Kd.R_lower ho0 bs); replace HB := mk0 (below_step bw hb); clear hb ho0; obtain ⟨Ao16, co16, eo16⟩ := Kd.R_slice HO302.out; subst eo16) | ((with_reducible refine gC 9 (some 23) rfl rfl ?_); refine gB (some 23) Try.func9 #[.int .i64 a0, .string a1, .slice Ao16 t300.length co16] (spec_SuperOf.calls k a0 a1 _ _ t300 t303 _ (cc ((Kd.R_reads' HO302.out).2.2)) ((Kd.R_reads' HO302.out).2.1) A8.out) ?_; intro w17 hb; replace HO302 := mk0 (Kd.R_below (rr HO302.out) hb); replace HB := mk0 (below_step bw hb); clear hb) | ((with_reducible refine gC 10 (some 25) rfl rfl ?_); refine gR (some 25) Try.func10 #[.slice A2 l2.length c2] (laws_toStringS.calls k _ _ l2 t304 _ (cc (Kd.C_below HR2.out HB.out)) HC2.out A9.out) ?_; intro v305 w18 ho0 hb; have HO306 := mk0 (Kd.R_lower (Kd.R_new' ho0 (Kd.R_lt (rr HO302.out))) bs); replace HO302 := mk0 (Kd.R_elder' (rr HO302.out) (Kd.R_base ho0) hb); replace HB := mk0 (below_step bw hb); clear hb ho0; obtain ⟨Ao19, co19, eo19⟩ := Kd.R_slice HO306.out; subst eo19) | ((with_reducible refine gC 11 (some 29) rfl rfl ?_); refine gB (some 29) Try.func11 #[.int .i64 a0, .string a1, .slice Ao19 t304.length co19] (impl_SuperOf.calls k a0 a1 _ _ t304 t307 _ (cc ((Kd.R_reads' HO306.out).2.2)) ((Kd.R_reads' HO306.out).2.1) A10.out) ?_; intro w20 hb; replace HO302 := mk0 (Kd.R_below (rr HO302.out) hb); replace HO306 := mk0 (Kd.R_below (rr HO306.out) hb); replace HB := mk0 (below_step bw hb); clear hb) | ((with_reducible refine gC 10 (some 35) rfl rfl ?_); refine gR (some 35) Try.func10 #[.slice A2 l2.length c2] (laws_toStringS.calls k _ _ l2 t308 _ (cc (Kd.C_below HR2.out HB.out)) HC2.out A12.out) ?_; intro v309 w21 ho0 hb; have HO310 := mk0 (Kd.R_lower (Kd.R_new' (Kd.R_new' ho0 (Kd.R_lt (rr HO302.out))) (Kd.R_lt (rr HO306.out))) bs); replace HO302 := mk0 (Kd.R_elder' (rr HO302.out) (Kd.R_base ho0) hb); replace HO306 := mk0 (Kd.R_elder' (rr HO306.out) (Kd.R_base ho0) hb); replace HB := mk0 (below_step bw hb); clear hb ho0; obtain ⟨Ao22, co22, eo22⟩ := Kd.R_slice HO310.out; subst eo22) | ((with_reducible refine gC 12 (some 36) rfl rfl ?_); refine gQ (some 36) Try.func12 #[.slice Ao19 t304.length co19, .slice Ao22 t308.length co22] (laws_eqStringS.calls k _ _ t304 _ _ t308 true _ (cc ((Kd.R_reads' HO306.out).2.2)) ((Kd.R_reads' HO306.out).2.1) (cc ((Kd.R_reads' HO310.out).2.2)) ((Kd.R_reads' HO310.out).2.1) A13.out) ?_; intro nd))
         go_ret
         exact ⟨sw, bw⟩
       · replace H := jf H
         obtain rfl := Option.some.inj H
         go_enter Try.func3, Try.ntmps3
         go_wp2_with (first | ((with_reducible refine gC 8 (some 16) rfl rfl ?_); refine gQ (some 16) Try.func8 #[.slice A2 l2.length c2, .int .i64 1048576] (laws_szStringS.calls k _ _ l2 1048576 t299 _ (cc HR2.out) HC2.out A5.out) ?_; intro nd) | ((with_reducible refine gC 10 (some 22) rfl rfl ?_); refine gR (some 22) Try.func10 #[.slice A2 l2.length c2] (laws_toStringS.calls k _ _ l2 t300 _ (cc HR2.out) HC2.out A7.out) ?_; intro v301 w23 ho0 hb; have HO302 := mk0 (Kd.R_lower ho0 bs); replace HB := mk0 (below_step bw hb); clear hb ho0; obtain ⟨Ao24, co24, eo24⟩ := Kd.R_slice HO302.out; subst eo24) | ((with_reducible refine gC 9 (some 23) rfl rfl ?_); refine gB (some 23) Try.func9 #[.int .i64 a0, .string a1, .slice Ao24 t300.length co24] (spec_SuperOf.calls k a0 a1 _ _ t300 t303 _ (cc ((Kd.R_reads' HO302.out).2.2)) ((Kd.R_reads' HO302.out).2.1) A8.out) ?_; intro w25 hb; replace HO302 := mk0 (Kd.R_below (rr HO302.out) hb); replace HB := mk0 (below_step bw hb); clear hb) | ((with_reducible refine gC 10 (some 25) rfl rfl ?_); refine gR (some 25) Try.func10 #[.slice A2 l2.length c2] (laws_toStringS.calls k _ _ l2 t304 _ (cc (Kd.C_below HR2.out HB.out)) HC2.out A9.out) ?_; intro v305 w26 ho0 hb; have HO306 := mk0 (Kd.R_lower (Kd.R_new' ho0 (Kd.R_lt (rr HO302.out))) bs); replace HO302 := mk0 (Kd.R_elder' (rr HO302.out) (Kd.R_base ho0) hb); replace HB := mk0 (below_step bw hb); clear hb ho0; obtain ⟨Ao27, co27, eo27⟩ := Kd.R_slice HO306.out; subst eo27) | ((with_reducible refine gC 11 (some 29) rfl rfl ?_); refine gB (some 29) Try.func11 #[.int .i64 a0, .string a1, .slice Ao27 t304.length co27] (impl_SuperOf.calls k a0 a1 _ _ t304 t307 _ (cc ((Kd.R_reads' HO306.out).2.2)) ((Kd.R_reads' HO306.out).2.1) A10.out) ?_; intro w28 hb; replace HO302 := mk0 (Kd.R_below (rr HO302.out) hb); replace HO306 := mk0 (Kd.R_below (rr HO306.out) hb); replace HB := mk0 (below_step bw hb); clear hb) | ((with_reducible refine gC 10 (some 35) rfl rfl ?_); refine gR (some 35) Try.func10 #[.slice A2 l2.length c2] (laws_toStringS.calls k _ _ l2 t308 _ (cc (Kd.C_below HR2.out HB.out)) HC2.out A12.out) ?_; intro v309 w29 ho0 hb; have HO310 := mk0 (Kd.R_lower (Kd.R_new' (Kd.R_new' ho0 (Kd.R_lt (rr HO302.out))) (Kd.R_lt (rr HO306.out))) bs); replace HO302 := mk0 (Kd.R_elder' (rr HO302.out) (Kd.R_base ho0) hb); replace HO306 := mk0 (Kd.R_elder' (rr HO306.out) (Kd.R_base ho0) hb); replace HB := mk0 (below_step bw hb); clear hb ho0; obtain ⟨Ao30, co30, eo30⟩ := Kd.R_slice HO310.out; subst eo30) | ((with_reducible refine gC 12 (some 36) rfl rfl ?_); refine gQ (some 36) Try.func12 #[.slice Ao27 t304.length co27, .slice Ao30 t308.length co30] (laws_eqStringS.calls k _ _ t304 _ _ t308 false _ (cc ((Kd.R_reads' HO306.out).2.2)) ((Kd.R_reads' HO306.out).2.1) (cc ((Kd.R_reads' HO310.out).2.2)) ((Kd.R_reads' HO310.out).2.1) A13.out) ?_; intro nd))
         go_ret
         exact ⟨sw, bw⟩
     · obtain rfl := Option.some.inj H
       go_enter Try.func3, Try.ntmps3
       go_wp2_with (first | ((with_reducible refine gC 8 (some 16) rfl rfl ?_); refine gQ (some 16) Try.func8 #[.slice A2 l2.length c2, .int .i64 1048576] (laws_szStringS.calls k _ _ l2 1048576 t299 _ (cc HR2.out) HC2.out A5.out) ?_; intro nd) | ((with_reducible refine gC 10 (some 22) rfl rfl ?_); refine gR (some 22) Try.func10 #[.slice A2 l2.length c2] (laws_toStringS.calls k _ _ l2 t300 _ (cc HR2.out) HC2.out A7.out) ?_; intro v301 w31 ho0 hb; have HO302 := mk0 (Kd.R_lower ho0 bs); replace HB := mk0 (below_step bw hb); clear hb ho0; obtain ⟨Ao32, co32, eo32⟩ := Kd.R_slice HO302.out; subst eo32) | ((with_reducible refine gC 9 (some 23) rfl rfl ?_); refine gB (some 23) Try.func9 #[.int .i64 a0, .string a1, .slice Ao32 t300.length co32] (spec_SuperOf.calls k a0 a1 _ _ t300 t303 _ (cc ((Kd.R_reads' HO302.out).2.2)) ((Kd.R_reads' HO302.out).2.1) A8.out) ?_; intro w33 hb; replace HO302 := mk0 (Kd.R_below (rr HO302.out) hb); replace HB := mk0 (below_step bw hb); clear hb) | ((with_reducible refine gC 10 (some 25) rfl rfl ?_); refine gR (some 25) Try.func10 #[.slice A2 l2.length c2] (laws_toStringS.calls k _ _ l2 t304 _ (cc (Kd.C_below HR2.out HB.out)) HC2.out A9.out) ?_; intro v305 w34 ho0 hb; have HO306 := mk0 (Kd.R_lower (Kd.R_new' ho0 (Kd.R_lt (rr HO302.out))) bs); replace HO302 := mk0 (Kd.R_elder' (rr HO302.out) (Kd.R_base ho0) hb); replace HB := mk0 (below_step bw hb); clear hb ho0; obtain ⟨Ao35, co35, eo35⟩ := Kd.R_slice HO306.out; subst eo35) | ((with_reducible refine gC 11 (some 29) rfl rfl ?_); refine gB (some 29) Try.func11 #[.int .i64 a0, .string a1, .slice Ao35 t304.length co35] (impl_SuperOf.calls k a0 a1 _ _ t304 t307 _ (cc ((Kd.R_reads' HO306.out).2.2)) ((Kd.R_reads' HO306.out).2.1) A10.out) ?_; intro w36 hb; replace HO302 := mk0 (Kd.R_below (rr HO302.out) hb); replace HO306 := mk0 (Kd.R_below (rr HO306.out) hb); replace HB := mk0 (below_step bw hb); clear hb))
       go_ret
       exact ⟨sw, bw⟩
end Go.Proofs.Ytlekeiokdmnboaa.Pa
end

section
/- The law of SuperOf is true at every input; plain Lean over the printed functions. -/
namespace Go.Proofs.Ytlekeiokdmnboaa.Pu
open Go Go.RowKit Go.Proofs.YtlekeiokdmnboaaW.PrintWords Go.Proofs.YtlekeiokdmnboaaW.PrintLast Go.Proofs.YtlekeiokdmnboaaW.PrintMore Go.Proofs.Ytlekeiokdmnboaa.Pa
set_option linter.unusedVariables false

/-- What is turned into a digest. -/
def superB (q : Int) (p : ByteArray) (rs : List ByteArray) : List Int := [3] ++ numB (clamp q) ++ txtB p ++ textsB rs
theorem superB_byte (q : Int) (p : ByteArray) (rs : List ByteArray) : Byte (superB q p rs) :=
  Byte.app (Byte.app (Byte.app (fun x hx => by simp at hx; omega) (numB_byte _)) (txtB_byte p)) (textsB_byte rs)
theorem superB_len (q : Int) (p : ByteArray) (rs : List ByteArray) : (superB q p rs).length ≤ 16 + p.size + 5 * total rs := by
  unfold superB
  have := clamp_len q; have := txtB_len p; have := textsB_len rs
  simp only [List.length_append, List.length_singleton]
  omega
theorem super_spec (q : Int) (p : ByteArray) (rs : List ByteArray) (h : p.size + 5 * total rs < 140737480000000) : Ev (fun k => spec_SuperOf.f k q p rs) (sha (superB q p rs)) := by
  have h1 := clamp_len q; have h2 := txtB_len p; have h3 := superB_len q p rs
  refine Ev.bind (a := superB q p rs) ?_ (Ev.bind (digest_spec _ (by omega) (superB_byte q p rs)) (Ev.now _))
  refine Ev.bind (num_spec [3] q (by simp)) (Ev.bind (txt_spec _ p (by simp only [List.length_append, List.length_singleton]; omega)) (Ev.bind (texts_spec _ rs (by simp only [List.length_append, List.length_singleton]; omega)) (Ev.now _)))
theorem super_impl (q : Int) (p : ByteArray) (rs : List ByteArray) (h : p.size + 5 * total rs < 140737480000000) : Ev (fun k => impl_SuperOf.f k q p rs) (sha (superB q p rs)) := by
  have h1 := clamp_len q; have h2 := txtB_len p; have h3 := superB_len q p rs
  refine Ev.bind (num_impl [3] q (by simp)) (Ev.bind (txt_impl _ p (by simp only [List.length_append, List.length_singleton]; omega)) (Ev.bind (texts_impl _ rs (by simp only [List.length_append, List.length_singleton]; omega)) (Ev.bind (digest_impl _ (by exact Nat.lt_of_le_of_lt h3 (by omega)) (superB_byte q p rs)) (Ev.now _))))
theorem law_super (q : Int) (p : ByteArray) (rs : List ByteArray) (hr : Has rs) : Ev (fun k => laws_FnExactSuperOf.f k q p rs) true := by
  obtain ⟨K1, e1⟩ := sz_texts rs hr 1048576 (by omega) (by omega)
  dsimp only at e1
  by_cases c1 : (p.size : Int) > 1048576
  · refine ⟨0, fun k _ => ?_⟩
    show laws_FnExactSuperOf.f k q p rs = some true
    unfold laws_FnExactSuperOf.f
    rw [if_pos c1]
  · by_cases c2 : (total rs : Int) ≤ 1048576
    · have hl := total_len rs
      obtain ⟨K2, e2⟩ := to_texts rs (by omega)
      obtain ⟨K3, e3⟩ := super_spec q p rs (by omega)
      obtain ⟨K4, e4⟩ := super_impl q p rs (by omega)
      obtain ⟨K5, e5⟩ := eq_texts rs (by omega)
      dsimp only at e2 e3 e4 e5
      refine ⟨K1 + K2 + K3 + K4 + K5, fun k hk => ?_⟩
      show laws_FnExactSuperOf.f k q p rs = some true
      unfold laws_FnExactSuperOf.f
      rw [if_neg c1, e1 k (by omega)]
      simp only [Option.bind_some, if_pos c2]
      rw [if_neg (by omega)]
      simp only [e2 k (by omega), e3 k (by omega), e4 k (by omega), e5 k (by omega), Option.bind_some, if_true]
    · refine ⟨K1, fun k hk => ?_⟩
      show laws_FnExactSuperOf.f k q p rs = some true
      unfold laws_FnExactSuperOf.f
      rw [if_neg c1, e1 k (by omega)]
      simp only [Option.bind_some, if_neg c2]
      rw [if_pos (by omega)]
end Go.Proofs.Ytlekeiokdmnboaa.Pu
end
