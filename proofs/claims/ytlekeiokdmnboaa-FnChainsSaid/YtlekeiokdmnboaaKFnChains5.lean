/- The law FnChains of the given program: it answers true at every input that its statement speaks of. Part 6 of 7: words, walks of the functions (printed by programs of this session), the plain law, the row. -/
import Derived.Test.YtlekeiokdmnboaaKFnChains2
import Derived.Test.YtlekeiokdmnboaaKFnChains0
import Derived.Test.YtlekeiokdmnboaaKFnChains3
import Derived.Test.YtlekeiokdmnboaaKFnChains4
import Derived.Laws.BitsLemmas
section
namespace Go.Proofs.Ytlekeiokdmnboaa.Pa
open Go.RowKit Go.Proofs.YtlekeiokdmnboaaW.PrintWords Go.Proofs.YtlekeiokdmnboaaW.PrintLast Go.Proofs.YtlekeiokdmnboaaW.PrintMore Go.Proofs.Ytlekeiokdmnboaa.M
attribute [local go_sem] max2_int min2_int max_two min_two max_three min_three max_four min_four   -- for this text's walks alone
set_option linter.unusedVariables false
set_option maxHeartbeats 8000000
set_option maxRecDepth 100000
set_option linter.unusedSimpArgs false

/-! ### laws_FnChains: function 5 -/
def laws_FnChains.l0 : Nat → List (S32) → Bool → Int → Option (Bool)
  | 0, _, _, _ => none
  | k + 1, x3, x4, x5 => if x5 < (x3.length : Int) then (if 0 ≤ x5 then ((impl_SealOk.f k ((rd_T32 x3 x5).f0) ((rd_T32 x3 x5).f1) ((rd_T32 x3 x5).f2) ((rd_T32 x3 x5).f3)).bind fun t542 => ((spec_SealOk.f k ((rd_T32 x3 x5).f0) ((rd_T32 x3 x5).f1) ((rd_T32 x3 x5).f2) ((rd_T32 x3 x5).f3)).bind fun t543 => (if (t542 != t543) = true then (some false) else (if x4 = true then ((impl_SealOk.f k ((rd_T32 x3 x5).f0) ((rd_T32 x3 x5).f1) ((rd_T32 x3 x5).f2) ((rd_T32 x3 x5).f3)).bind fun t544 => (if t544 = true then ((impl_SuperOf.f k ((rd_T32 x3 x5).f0) ((rd_T32 x3 x5).f1) ((rd_T32 x3 x5).f3)).bind fun t545 => (if ((rd_T32 x3 x5).f2).toList = t545.toList then (if x5 ≤ (x3.length : Int) then ((impl_ChainOk.f k (x3.take (x5 : Int).toNat)).bind fun t550 => (if t550 = true then (laws_FnChains.l0 k x3 x4 (wrap64 (x5 + 1))) else (some false))) else (none)) else (some false))) else (some false))) else (laws_FnChains.l0 k x3 x4 (wrap64 (x5 + 1))))))) else (none)) else ((impl_ChainOk.f k (([] : List (S32)))).bind fun t539 => (some t539))
def laws_FnChains.f (k : Nat) (l0 : List Int) : Option (Bool) := (laws_big.f l0).bind fun t530 => (if t530 = true then (some true) else ((spec_DrawChainOk.f k l0).bind fun t531 => ((impl_ChainOk.f k t531).bind fun t534 => ((spec_ChainOk.f k t531).bind fun t535 => (if (t534 != t535) = true then (some false) else (laws_FnChains.l0 k t531 t534 0))))))
theorem laws_FnChains.mono_l : ∀ k, (∀ y0 y1 y2, LeO (laws_FnChains.l0 k y0 y1 y2) (laws_FnChains.l0 (k + 1) y0 y1 y2))
  | 0 => fun _ _ _ r h => by simp [laws_FnChains.l0] at h
  | k + 1 => by
    have ih0 := laws_FnChains.mono_l k
    · intro y0 y1 y2
      unfold laws_FnChains.l0
      have m0 := @impl_ChainOk.mono
      have m1 := @impl_SealOk.mono
      have m2 := @impl_SuperOf.mono
      have m3 := @spec_ChainOk.mono
      have m4 := @spec_DrawChainOk.mono
      have m5 := @spec_SealOk.mono
      exact me
theorem laws_FnChains.mono : ∀ a0 k, LeO (laws_FnChains.f k a0) (laws_FnChains.f (k + 1) a0) := by
  intro a0 k
  have ih0 := laws_FnChains.mono_l k
  unfold laws_FnChains.f
  have m0 := @impl_ChainOk.mono
  have m1 := @impl_SealOk.mono
  have m2 := @impl_SuperOf.mono
  have m3 := @spec_ChainOk.mono
  have m4 := @spec_DrawChainOk.mono
  have m5 := @spec_SealOk.mono
  exact me
def laws_FnChains.T11 : Bool × List (List Nat × List Nat) := (true, [([], []), ([0], [0]), ([], []), ([2, 1], [2]), ([1, 3], [1, 3]), ([4, 3], [4]), ([5], [5]), ([6, 5, 5], [5, 6]), ([7], [7]), ([8, 7, 7], [7, 8]), ([9, 7], [7, 9]), ([10, 9, 7], [7, 10]), ([11], [11]), ([12, 11], [11, 12]), ([11], [11]), ([14, 11], [11, 14]), ([11], [11]), ([16, 11], [11, 16]), ([11], [11]), ([18, 11], [11, 18]), ([15, 17, 19, 11, 11], [11, 15, 17, 19]), ([13, 20, 11], [11, 13, 20]), ([11, 21, 7], [7, 11, 21]), ([22, 20, 7], [7, 22]), ([23], [23]), ([23], [23]), ([24, 25, 23], [23, 24, 25]), ([26, 23, 23], [23, 26]), ([27, 23], [23, 27]), ([23, 28, 7], [7, 23, 28]), ([7, 29, 5], [5, 7, 29]), ([5, 30], [5, 30])])
def laws_FnChains.B11 : List Nat := [0, 1, 0, 7, 15, 31, 63, 127, 255, 511, 1023, 2047, 4095, 8191, 4095, 20479, 4095, 69631, 4095, 266239, 1036287, 2097151, 4194303, 8388607, 16777215, 16777215, 67108863, 134217727, 268435455, 536870911, 1073741823, 2147483647]
theorem laws_FnChains.tab11 : rtab .any (opsOf Try.f5 11) = laws_FnChains.T11 := by kernel_rfl
theorem laws_FnChains.bits11 : waitsOk laws_FnChains.T11.2 laws_FnChains.B11 = true := by kernel_rfl
theorem laws_FnChains.calls (k : Nat) (A0 : Option Addr) (c0 : Nat) (l0 : List Int) (r : Bool) (w : World) (hr0 : Kd.C (Kd.int .u8) w A0 l0.length l0) (hc0 : l0.length ≤ c0) (h : laws_FnChains.f k l0 = some r) :
    Calls Try.prog 5 #[.slice A0 l0.length c0] w fun e w' => e = .returned (.bool r) ∧ Below w.heap.size w w' := by
 have hu32 := Try.underlying32
 have HR0 := mk0 hr0
 have HC0 := mk0 hc0
 clear hr0 hc0
 have HB := mk0 (Below.refl w.heap.size w)
 have H : ((laws_big.f l0).bind fun t530 => (if t530 = true then (some true) else ((spec_DrawChainOk.f k l0).bind fun t531 => ((impl_ChainOk.f k t531).bind fun t534 => ((spec_ChainOk.f k t531).bind fun t535 => (if (t534 != t535) = true then (some false) else (laws_FnChains.l0 k t531 t534 0))))))) = some r := h
 clear h
 replace H := bd H; obtain ⟨t530, A2, H⟩ := H
 rcases ib t530 with rfl | rfl
 · replace H := jt H
   obtain rfl := Option.some.inj H
   go_enter Try.func5, Try.ntmps5
   go_wp2_with (first | ((with_reducible refine gC 18 (some 8) rfl rfl ?_); refine gQ (some 8) Try.func18 #[.slice A0 l0.length c0] (laws_big.calls _ _ l0 true _ (cc HR0.out) HC0.out A2.out) ?_; intro nd))
   go_ret
   exact ⟨sw, bw⟩
 · replace H := jf H
   replace H := bd H; obtain ⟨t531, A4, H⟩ := H
   replace H := bd H; obtain ⟨t534, A5, H⟩ := H
   replace H := bd H; obtain ⟨t535, A6, H⟩ := H
   replace H := ip H; rcases H with ⟨c7, H⟩ | ⟨c7, H⟩
   · have c7b0 : (t534 != t535) = true := c7
     (try (have c7b1 : decide (t534 = t535) = false := by simpa using c7))
     (try (have c7b2 : (t534 == t535) = false := by simpa using c7))
     (try (have c7b3 : ¬ (t534 = t535) := by simpa using c7))
     clear c7
     obtain rfl := Option.some.inj H
     go_enter Try.func5, Try.ntmps5
     go_wp2_with (first | ((with_reducible refine gC 18 (some 8) rfl rfl ?_); refine gQ (some 8) Try.func18 #[.slice A0 l0.length c0] (laws_big.calls _ _ l0 false _ (cc HR0.out) HC0.out A2.out) ?_; intro nd) | ((with_reducible refine gC 19 (some 10) rfl rfl ?_); refine gR (some 10) Try.func19 #[.slice A0 l0.length c0] (spec_DrawChainOk.calls k _ _ l0 t531 _ (cc HR0.out) HC0.out A4.out) ?_; intro v532 w8 ho0 hb; have HO533 := mk0 (Kd.S_lower ho0 bs); replace HB := mk0 (below_step bw hb); clear hb ho0; obtain ⟨Ao9, co9, eo9⟩ := Kd.S_slice HO533.out; subst eo9) | ((with_reducible refine gC 20 (some 12) rfl rfl ?_); refine gB (some 12) Try.func20 #[.slice Ao9 t531.length co9] (impl_ChainOk.calls k _ _ t531 t534 _ (cc ((Kd.S_reads' HO533.out).2.2)) ((Kd.S_reads' HO533.out).2.1) A5.out) ?_; intro w10 hb; replace HO533 := mk0 (Kd.S_below (rS HO533.out) hb); replace HB := mk0 (below_step bw hb); clear hb) | ((with_reducible refine gC 21 (some 15) rfl rfl ?_); refine gB (some 15) Try.func21 #[.slice Ao9 t531.length co9] (spec_ChainOk.calls k _ _ t531 t535 _ (cc ((Kd.S_reads' HO533.out).2.2)) ((Kd.S_reads' HO533.out).2.1) A6.out) ?_; intro w11 hb; replace HO533 := mk0 (Kd.S_below (rS HO533.out) hb); replace HB := mk0 (below_step bw hb); clear hb))
     go_ret
     exact ⟨sw, bw⟩
   · have c7b0 : (t534 != t535) = false := by simpa using c7
     (try (have c7b1 : decide (t534 = t535) = true := by simpa using c7))
     (try (have c7b2 : (t534 == t535) = true := by simpa using c7))
     clear c7
     have H' := mk0 H
     clear H
     go_enter Try.func5, Try.ntmps5
     go_wp2_with (first | ((with_reducible refine gC 18 (some 8) rfl rfl ?_); refine gQ (some 8) Try.func18 #[.slice A0 l0.length c0] (laws_big.calls _ _ l0 false _ (cc HR0.out) HC0.out A2.out) ?_; intro nd) | ((with_reducible refine gC 19 (some 10) rfl rfl ?_); refine gR (some 10) Try.func19 #[.slice A0 l0.length c0] (spec_DrawChainOk.calls k _ _ l0 t531 _ (cc HR0.out) HC0.out A4.out) ?_; intro v532 w12 ho0 hb; have HO533 := mk0 (Kd.S_lower ho0 bs); replace HB := mk0 (below_step bw hb); clear hb ho0; obtain ⟨Ao13, co13, eo13⟩ := Kd.S_slice HO533.out; subst eo13) | ((with_reducible refine gC 20 (some 12) rfl rfl ?_); refine gB (some 12) Try.func20 #[.slice Ao13 t531.length co13] (impl_ChainOk.calls k _ _ t531 t534 _ (cc ((Kd.S_reads' HO533.out).2.2)) ((Kd.S_reads' HO533.out).2.1) A5.out) ?_; intro w14 hb; replace HO533 := mk0 (Kd.S_below (rS HO533.out) hb); replace HB := mk0 (below_step bw hb); clear hb) | ((with_reducible refine gC 21 (some 15) rfl rfl ?_); refine gB (some 15) Try.func21 #[.slice Ao13 t531.length co13] (spec_ChainOk.calls k _ _ t531 t535 _ (cc ((Kd.S_reads' HO533.out).2.2)) ((Kd.S_reads' HO533.out).2.1) A6.out) ?_; intro w15 hb; replace HO533 := mk0 (Kd.S_below (rS HO533.out) hb); replace HB := mk0 (below_step bw hb); clear hb))
     go_loopg [5] k (fun kq v5 w' => ∃ (x5_1 : Int), v5 = .int .i64 x5_1 ∧ Aside0 (laws_FnChains.l0 kq t531 t534 x5_1 = some r) ∧ Aside0 (kq ≤ k) ∧ Aside0 (Kd.S k32 32 w' w.heap.size (fun _ => True) (.slice Ao13 t531.length co13) t531) ∧ Aside0 (Below w.heap.size w w'))
     case atStart => exact ⟨(0), sv, H', nl, ⟨rS HO533.out⟩, ⟨bw⟩⟩
     case round =>
      clear H'
      (try clear c7); (try clear c7b0); (try clear c7b1); (try clear c7b2)
      obtain ⟨x5_1, rfl, HA, HK1, HO_3, HB⟩ := hrel
      rcases gk with _ | k1
      · exact absurd HA.out (by simp [laws_FnChains.l0])
      have H := HA.out
      clear HA
      simp only [laws_FnChains.l0] at H
      replace H := idd H; rcases H with ⟨c16b0, H⟩ | ⟨c16b0, H⟩
      · replace H := gd H; obtain ⟨c17b0, H⟩ := H
        replace H := bd H; obtain ⟨t542, A18, H⟩ := H
        replace H := bd H; obtain ⟨t543, A19, H⟩ := H
        replace H := ip H; rcases H with ⟨c20, H⟩ | ⟨c20, H⟩
        · have c20b0 : (t542 != t543) = true := c20
          (try (have c20b1 : decide (t542 = t543) = false := by simpa using c20))
          (try (have c20b2 : (t542 == t543) = false := by simpa using c20))
          (try (have c20b3 : ¬ (t542 = t543) := by simpa using c20))
          clear c20
          obtain rfl := Option.some.inj H
          have p540 : 0 ≤ (x5_1 : Int) := oa
          have q540 : x5_1 < (t531.length : Int) := oa
          obtain ⟨ad540, A540_3, c540_3, e540, hx540_0, hx540_1, hx540_2, hx540_3, hl540_3, hi540_3⟩ := at_T32 (Kd.S_reads' HO_3.out).2.2 x5_1 p540 q540
          cases e540
          obtain ⟨ce540, hce540, hMe540, hcc540⟩ := Kd.S_get HO_3.out z32 x5_1 p540 (by first | exact q540 | exact oa | (have e_ := (Kd.S_reads' HO_3.out).1; omega))
          obtain ⟨ve540_3, rfl, ge540_3⟩ := k32_openM hMe540
          have hv540_3 := hcc540 3 _ rfl
          rw [add_field _ _ 3 (by omega)] at hv540_3
          replace hv540_3 := Option.some.inj (hv540_3.symm.trans hx540_3)
          rw [hv540_3] at ge540_3
          have HL540_3 := mk0 (show Kd.R Kd.string 9 _ _ _ _ ((rd_T32 t531 x5_1).f3) from ge540_3)
          clear hv540_3 ge540_3
          clear hcc540 hce540
          have HR540_3 := mk0 hi540_3
          have HC540_3 := mk0 hl540_3
          clear hi540_3 hl540_3
          replace p540 := eq_true p540
          replace q540 := eq_true q540
          try go_wp2_with (first | ((with_reducible refine gD 6 rfl ?_); refine bx0 6 #[.int .i64 0, .string (⟨#[]⟩ : ByteArray), .string (⟨#[]⟩ : ByteArray), .slice none 0 0] 32 ?_; intro gb541 hg w21 hbox hb; replace HO_3 := mk0 (Kd.S_below (Kd.S_elderB (rS HO_3.out) gb541 (Nat.le_of_eq hg.symm)) hb); replace HL540_3 := mk0 (Kd.R_below (rr HL540_3.out) hb); replace HR540_3 := mk0 (Kd.C_below (by repeat (first | (with_reducible exact HR540_3.out) | (with_reducible refine Kd.C_alloc ?_ _) | (with_reducible refine Kd.C_drewN ?_ _) | (with_reducible refine Kd.C_drew ?_) | exact HR540_3.out)) hb); have BK541 := mk0 (hbox); have GW541 := mk0 ((by rw [hg]; exact bs : w.heap.size ≤ gb541)); have GE541 := mk0 ((by rw [hg]; exact bs : w.heap.size ≤ gb541)); replace HB := mk0 (below_step bw hb); clear hb hbox hg; obtain ⟨hcz22_0, hcz22_1, hcz22_2, hcz22_3, hfz22_0, hfz22_1, hfz22_2, hfz22_3⟩ := z4 BK541))
          have n0_ : Aside0 (Kd.S k32 32 ((((w21.setCell ⟨gb541, 0, none⟩ (.int .i64 ((rd_T32 t531 x5_1).f0))).setCell ⟨gb541, 1, none⟩ (.string ((rd_T32 t531 x5_1).f1))).setCell ⟨gb541, 2, none⟩ (.string ((rd_T32 t531 x5_1).f2))).setCell ⟨gb541, 3, none⟩ (.slice A540_3 ((rd_T32 t531 x5_1).f3).length c540_3)) w.heap.size (fun k_ => k_ ≠ gb541) (.slice (some ad540) t531.length co13) t531) := ⟨by (with_reducible repeat (first | apply Kd.S_alloc | apply Kd.S_drewN | apply Kd.S_drew)); exact Kd.S_mono (Kd.S_far (p := ⟨gb541, 3, none⟩) (Kd.S_far (p := ⟨gb541, 2, none⟩) (Kd.S_far (p := ⟨gb541, 1, none⟩) (Kd.S_far (p := ⟨gb541, 0, none⟩) (Kd.S_mono HO_3.out (fun k_ hk => (⟨hk, hk.2⟩ : _ ∧ k_ ≠ gb541))) (fun _ hk => hk.2) (.int .i64 ((rd_T32 t531 x5_1).f0))) (fun _ hk => hk.2) (.string ((rd_T32 t531 x5_1).f1))) (fun _ hk => hk.2) (.string ((rd_T32 t531 x5_1).f2))) (fun _ hk => hk.2) (.slice A540_3 ((rd_T32 t531 x5_1).f3).length c540_3)) (fun _ hk => hk.1.2)⟩
          have n1_ : Aside0 (Kd.R Kd.string 9 ((((w21.setCell ⟨gb541, 0, none⟩ (.int .i64 ((rd_T32 t531 x5_1).f0))).setCell ⟨gb541, 1, none⟩ (.string ((rd_T32 t531 x5_1).f1))).setCell ⟨gb541, 2, none⟩ (.string ((rd_T32 t531 x5_1).f2))).setCell ⟨gb541, 3, none⟩ (.slice A540_3 ((rd_T32 t531 x5_1).f3).length c540_3)) w.heap.size (fun k_ => some k_ ≠ (.slice (some ad540) t531.length co13 : Value).ownBlock) (.slice A540_3 ((rd_T32 t531 x5_1).f3).length c540_3) ((rd_T32 t531 x5_1).f3)) := ⟨by (with_reducible repeat (first | apply Kd.R_alloc | apply Kd.R_drewN | apply Kd.R_drew)); exact Kd.R_mono (Kd.R_far (p := ⟨gb541, 3, none⟩) (Kd.R_far (p := ⟨gb541, 2, none⟩) (Kd.R_far (p := ⟨gb541, 1, none⟩) (Kd.R_far (p := ⟨gb541, 0, none⟩) (Kd.R_types HL540_3.out BK541.out (by decide)) (fun _ hk => hk.2) (.int .i64 ((rd_T32 t531 x5_1).f0))) (fun _ hk => hk.2) (.string ((rd_T32 t531 x5_1).f1))) (fun _ hk => hk.2) (.string ((rd_T32 t531 x5_1).f2))) (fun _ hk => hk.2) (.slice A540_3 ((rd_T32 t531 x5_1).f3).length c540_3)) (fun _ hk => hk.1.2)⟩
          have n2_ : Aside0 (((((w21.setCell ⟨gb541, 0, none⟩ (.int .i64 ((rd_T32 t531 x5_1).f0))).setCell ⟨gb541, 1, none⟩ (.string ((rd_T32 t531 x5_1).f1))).setCell ⟨gb541, 2, none⟩ (.string ((rd_T32 t531 x5_1).f2))).setCell ⟨gb541, 3, none⟩ (.slice A540_3 ((rd_T32 t531 x5_1).f3).length c540_3)).heap[gb541]? = some (.cells #[.int .i64 ((rd_T32 t531 x5_1).f0), .string ((rd_T32 t531 x5_1).f1), .string ((rd_T32 t531 x5_1).f2), .slice A540_3 ((rd_T32 t531 x5_1).f3).length c540_3] 32 (0, 0))) := ⟨by (with_reducible repeat (first | refine blk_drewN ?_ _ | refine blk_drew ?_ | refine blk_alloc ?_ _)); refine blk_put (cs := #[.int .i64 ((rd_T32 t531 x5_1).f0), .string ((rd_T32 t531 x5_1).f1), .string ((rd_T32 t531 x5_1).f2), .slice none 0 0]) ?_ 3 _ rfl; (with_reducible repeat (first | refine blk_drewN ?_ _ | refine blk_drew ?_ | refine blk_alloc ?_ _)); refine blk_put (cs := #[.int .i64 ((rd_T32 t531 x5_1).f0), .string ((rd_T32 t531 x5_1).f1), .string (⟨#[]⟩ : ByteArray), .slice none 0 0]) ?_ 2 _ rfl; (with_reducible repeat (first | refine blk_drewN ?_ _ | refine blk_drew ?_ | refine blk_alloc ?_ _)); refine blk_put (cs := #[.int .i64 ((rd_T32 t531 x5_1).f0), .string (⟨#[]⟩ : ByteArray), .string (⟨#[]⟩ : ByteArray), .slice none 0 0]) ?_ 1 _ rfl; (with_reducible repeat (first | refine blk_drewN ?_ _ | refine blk_drew ?_ | refine blk_alloc ?_ _)); refine blk_put (cs := #[.int .i64 0, .string (⟨#[]⟩ : ByteArray), .string (⟨#[]⟩ : ByteArray), .slice none 0 0]) ?_ 0 _ rfl; (with_reducible repeat (first | refine blk_drewN ?_ _ | refine blk_drew ?_ | refine blk_alloc ?_ _)); exact BK541.out⟩
          have n3_ : Aside0 (Below w.heap.size w ((((w21.setCell ⟨gb541, 0, none⟩ (.int .i64 ((rd_T32 t531 x5_1).f0))).setCell ⟨gb541, 1, none⟩ (.string ((rd_T32 t531 x5_1).f1))).setCell ⟨gb541, 2, none⟩ (.string ((rd_T32 t531 x5_1).f2))).setCell ⟨gb541, 3, none⟩ (.slice A540_3 ((rd_T32 t531 x5_1).f3).length c540_3))) := ⟨(bg GE541)⟩
          (try clear HO_3); (try clear HL540_3); (try clear BK541); (try clear HB)
          generalize ((((w21.setCell ⟨gb541, 0, none⟩ (.int .i64 ((rd_T32 t531 x5_1).f0))).setCell ⟨gb541, 1, none⟩ (.string ((rd_T32 t531 x5_1).f1))).setCell ⟨gb541, 2, none⟩ (.string ((rd_T32 t531 x5_1).f2))).setCell ⟨gb541, 3, none⟩ (.slice A540_3 ((rd_T32 t531 x5_1).f3).length c540_3)) = w23 at n0_ n1_ n2_ n3_ ⊢
          have HO_3 := n0_
          have HL540_3 := n1_
          have BK541 := n2_
          have HB := n3_
          clear n0_ n1_ n2_ n3_
          replace HO_3 := mk0 (Kd.S_drew HO_3.out)
          replace HL540_3 := mk0 (Kd.R_drew HL540_3.out)
          replace BK541 := mk0 (blk_drew BK541.out)
          replace HB := mk0 (below_drew1 HB.out)
          refine st 32 laws_FnChains.tab11 laws_FnChains.bits11 (b4 BK541 n_) (fun hHeld HT_ HW_ => ?_)
          generalize w23.drew = w24 at HO_3 HL540_3 BK541 HB hHeld ⊢
          refine tk 0 (some 27) HT_ HW_ hHeld ?_
          refine tk 2 (some 29) HT_ HW_ hHeld ?_
          refine on 1 (some 28) HT_ (fun K hK => ?_)
          refine oB Try.func16 #[.agg #[.int .i64 ((rd_T32 t531 x5_1).f0), .string ((rd_T32 t531 x5_1).f1), .string ((rd_T32 t531 x5_1).f2), .slice A540_3 ((rd_T32 t531 x5_1).f3).length c540_3]] (impl_SealOk.calls k1 ((rd_T32 t531 x5_1).f0) ((rd_T32 t531 x5_1).f1) ((rd_T32 t531 x5_1).f2) _ _ ((rd_T32 t531 x5_1).f3) t542 _ (cl HL540_3) HC540_3.out A18.out) ?_
          intro w25 hb
          replace HO_3 := mk0 (Kd.S_below (rS HO_3.out) hb)
          replace HL540_3 := mk0 (Kd.R_below (rr HL540_3.out) hb)
          replace BK541 := mk0 (blk_below (kb BK541.out) hb)
          replace HB := mk0 (below_step (bg GE541) hb)
          (try clear hb); (try clear hk)
          refine hK.out _ _ ah (fun hHeld => ?_)
          clear hK K
          refine nr (some 28) ?_
          refine on 3 (some 30) HT_ (fun K hK => ?_)
          refine oB Try.func14 #[.agg #[.int .i64 ((rd_T32 t531 x5_1).f0), .string ((rd_T32 t531 x5_1).f1), .string ((rd_T32 t531 x5_1).f2), .slice A540_3 ((rd_T32 t531 x5_1).f3).length c540_3]] (spec_SealOk.calls k1 ((rd_T32 t531 x5_1).f0) ((rd_T32 t531 x5_1).f1) ((rd_T32 t531 x5_1).f2) _ _ ((rd_T32 t531 x5_1).f3) t543 _ (cl HL540_3) HC540_3.out A19.out) ?_
          intro w26 hb
          replace HO_3 := mk0 (Kd.S_below (rS HO_3.out) hb)
          replace HL540_3 := mk0 (Kd.R_below (rr HL540_3.out) hb)
          replace BK541 := mk0 (blk_below (kb BK541.out) hb)
          replace HB := mk0 (below_step (bg GE541) hb)
          (try clear hb); (try clear hk)
          refine hK.out _ _ ah (fun hHeld => ?_)
          clear hK K
          refine nr (some 30) ?_
          refine pu 4 (some 31) HT_ ?_
          refine pu 5 (some 32) HT_ ?_
          refine un 6 (some 33) HT_ ?_
          refine un 7 (some 34) HT_ ?_
          refine un 8 (some 35) HT_ ?_
          refine un 9 (some 36) HT_ ?_
          refine un 10 (some 37) HT_ ?_
          refine un 11 (some 38) HT_ ?_
          refine un 12 (some 39) HT_ ?_
          refine un 13 (some 40) HT_ ?_
          refine un 14 (some 41) HT_ ?_
          refine un 15 (some 42) HT_ ?_
          refine un 16 (some 43) HT_ ?_
          refine un 17 (some 44) HT_ ?_
          refine un 18 (some 45) HT_ ?_
          refine un 19 (some 46) HT_ ?_
          refine un 20 (some 47) HT_ ?_
          refine un 21 (some 48) HT_ ?_
          refine un 22 (some 49) HT_ ?_
          refine un 23 (some 50) HT_ ?_
          refine un 24 (some 51) HT_ ?_
          refine un 25 (some 52) HT_ ?_
          refine un 26 (some 53) HT_ ?_
          refine un 27 (some 54) HT_ ?_
          refine un 28 (some 55) HT_ ?_
          refine un 29 (some 56) HT_ ?_
          refine un 30 (some 57) HT_ ?_
          refine pu 31 (some 58) HT_ ?_
          refine dn HT_ ?_
          try go_wp2
          go_ret
          exact ⟨sw, (bg GE541)⟩
        · have c20b0 : (t542 != t543) = false := by simpa using c20
          (try (have c20b1 : decide (t542 = t543) = true := by simpa using c20))
          (try (have c20b2 : (t542 == t543) = true := by simpa using c20))
          clear c20
          rcases ib t534 with rfl | rfl
          · replace H := jt H
            replace H := bd H; obtain ⟨t544, A28, H⟩ := H
            rcases ib t544 with rfl | rfl
            · replace H := jt H
              replace H := bd H; obtain ⟨t545, A30, H⟩ := H
              replace H := it H; rcases H with ⟨c31b0, c31b1, H⟩ | ⟨c31, c31b0, c31b1, H⟩
              · have c32b0 := eq_true (oa : 0 ≤ x5_1)
                replace H := ge H; obtain ⟨c33b0, c33b1, H⟩ := H
                obtain ⟨y546, Ny546⟩ := nm (t531.take (x5_1 : Int).toNat)
                rw [← Ny546.out] at H
                replace H := bd H; obtain ⟨t550, A34, H⟩ := H
                rcases ib t550 with rfl | rfl
                · replace H := jt H
                  have H' := mk0 H
                  clear H
                  have p540 : 0 ≤ (x5_1 : Int) := oa
                  have q540 : x5_1 < (t531.length : Int) := oa
                  obtain ⟨ad540, A540_3, c540_3, e540, hx540_0, hx540_1, hx540_2, hx540_3, hl540_3, hi540_3⟩ := at_T32 (Kd.S_reads' HO_3.out).2.2 x5_1 p540 q540
                  cases e540
                  obtain ⟨ce540, hce540, hMe540, hcc540⟩ := Kd.S_get HO_3.out z32 x5_1 p540 (by first | exact q540 | exact oa | (have e_ := (Kd.S_reads' HO_3.out).1; omega))
                  obtain ⟨ve540_3, rfl, ge540_3⟩ := k32_openM hMe540
                  have hv540_3 := hcc540 3 _ rfl
                  rw [add_field _ _ 3 (by omega)] at hv540_3
                  replace hv540_3 := Option.some.inj (hv540_3.symm.trans hx540_3)
                  rw [hv540_3] at ge540_3
                  have HL540_3 := mk0 (show Kd.R Kd.string 9 _ _ _ _ ((rd_T32 t531 x5_1).f3) from ge540_3)
                  clear hv540_3 ge540_3
                  clear hcc540 hce540
                  have HR540_3 := mk0 hi540_3
                  have HC540_3 := mk0 hl540_3
                  clear hi540_3 hl540_3
                  replace p540 := eq_true p540
                  replace q540 := eq_true q540
                  try go_wp2_with (first | ((with_reducible refine gD 6 rfl ?_); refine bx0 6 #[.int .i64 0, .string (⟨#[]⟩ : ByteArray), .string (⟨#[]⟩ : ByteArray), .slice none 0 0] 32 ?_; intro gb541 hg w36 hbox hb; replace HO_3 := mk0 (Kd.S_below (Kd.S_elderB (rS HO_3.out) gb541 (Nat.le_of_eq hg.symm)) hb); replace HL540_3 := mk0 (Kd.R_below (rr HL540_3.out) hb); replace HR540_3 := mk0 (Kd.C_below (by repeat (first | (with_reducible exact HR540_3.out) | (with_reducible refine Kd.C_alloc ?_ _) | (with_reducible refine Kd.C_drewN ?_ _) | (with_reducible refine Kd.C_drew ?_) | exact HR540_3.out)) hb); have BK541 := mk0 (hbox); have GW541 := mk0 ((by rw [hg]; exact bs : w.heap.size ≤ gb541)); have GE541 := mk0 ((by rw [hg]; exact bs : w.heap.size ≤ gb541)); replace HB := mk0 (below_step bw hb); clear hb hbox hg; obtain ⟨hcz37_0, hcz37_1, hcz37_2, hcz37_3, hfz37_0, hfz37_1, hfz37_2, hfz37_3⟩ := z4 BK541))
                  have n0_ : Aside0 (Kd.S k32 32 ((((w36.setCell ⟨gb541, 0, none⟩ (.int .i64 ((rd_T32 t531 x5_1).f0))).setCell ⟨gb541, 1, none⟩ (.string ((rd_T32 t531 x5_1).f1))).setCell ⟨gb541, 2, none⟩ (.string ((rd_T32 t531 x5_1).f2))).setCell ⟨gb541, 3, none⟩ (.slice A540_3 ((rd_T32 t531 x5_1).f3).length c540_3)) w.heap.size (fun k_ => k_ ≠ gb541) (.slice (some ad540) t531.length co13) t531) := ⟨by (with_reducible repeat (first | apply Kd.S_alloc | apply Kd.S_drewN | apply Kd.S_drew)); exact Kd.S_mono (Kd.S_far (p := ⟨gb541, 3, none⟩) (Kd.S_far (p := ⟨gb541, 2, none⟩) (Kd.S_far (p := ⟨gb541, 1, none⟩) (Kd.S_far (p := ⟨gb541, 0, none⟩) (Kd.S_mono HO_3.out (fun k_ hk => (⟨hk, hk.2⟩ : _ ∧ k_ ≠ gb541))) (fun _ hk => hk.2) (.int .i64 ((rd_T32 t531 x5_1).f0))) (fun _ hk => hk.2) (.string ((rd_T32 t531 x5_1).f1))) (fun _ hk => hk.2) (.string ((rd_T32 t531 x5_1).f2))) (fun _ hk => hk.2) (.slice A540_3 ((rd_T32 t531 x5_1).f3).length c540_3)) (fun _ hk => hk.1.2)⟩
                  have n1_ : Aside0 (Kd.R Kd.string 9 ((((w36.setCell ⟨gb541, 0, none⟩ (.int .i64 ((rd_T32 t531 x5_1).f0))).setCell ⟨gb541, 1, none⟩ (.string ((rd_T32 t531 x5_1).f1))).setCell ⟨gb541, 2, none⟩ (.string ((rd_T32 t531 x5_1).f2))).setCell ⟨gb541, 3, none⟩ (.slice A540_3 ((rd_T32 t531 x5_1).f3).length c540_3)) w.heap.size (fun k_ => some k_ ≠ (.slice (some ad540) t531.length co13 : Value).ownBlock) (.slice A540_3 ((rd_T32 t531 x5_1).f3).length c540_3) ((rd_T32 t531 x5_1).f3)) := ⟨by (with_reducible repeat (first | apply Kd.R_alloc | apply Kd.R_drewN | apply Kd.R_drew)); exact Kd.R_mono (Kd.R_far (p := ⟨gb541, 3, none⟩) (Kd.R_far (p := ⟨gb541, 2, none⟩) (Kd.R_far (p := ⟨gb541, 1, none⟩) (Kd.R_far (p := ⟨gb541, 0, none⟩) (Kd.R_types HL540_3.out BK541.out (by decide)) (fun _ hk => hk.2) (.int .i64 ((rd_T32 t531 x5_1).f0))) (fun _ hk => hk.2) (.string ((rd_T32 t531 x5_1).f1))) (fun _ hk => hk.2) (.string ((rd_T32 t531 x5_1).f2))) (fun _ hk => hk.2) (.slice A540_3 ((rd_T32 t531 x5_1).f3).length c540_3)) (fun _ hk => hk.1.2)⟩
                  have n2_ : Aside0 (((((w36.setCell ⟨gb541, 0, none⟩ (.int .i64 ((rd_T32 t531 x5_1).f0))).setCell ⟨gb541, 1, none⟩ (.string ((rd_T32 t531 x5_1).f1))).setCell ⟨gb541, 2, none⟩ (.string ((rd_T32 t531 x5_1).f2))).setCell ⟨gb541, 3, none⟩ (.slice A540_3 ((rd_T32 t531 x5_1).f3).length c540_3)).heap[gb541]? = some (.cells #[.int .i64 ((rd_T32 t531 x5_1).f0), .string ((rd_T32 t531 x5_1).f1), .string ((rd_T32 t531 x5_1).f2), .slice A540_3 ((rd_T32 t531 x5_1).f3).length c540_3] 32 (0, 0))) := ⟨by (with_reducible repeat (first | refine blk_drewN ?_ _ | refine blk_drew ?_ | refine blk_alloc ?_ _)); refine blk_put (cs := #[.int .i64 ((rd_T32 t531 x5_1).f0), .string ((rd_T32 t531 x5_1).f1), .string ((rd_T32 t531 x5_1).f2), .slice none 0 0]) ?_ 3 _ rfl; (with_reducible repeat (first | refine blk_drewN ?_ _ | refine blk_drew ?_ | refine blk_alloc ?_ _)); refine blk_put (cs := #[.int .i64 ((rd_T32 t531 x5_1).f0), .string ((rd_T32 t531 x5_1).f1), .string (⟨#[]⟩ : ByteArray), .slice none 0 0]) ?_ 2 _ rfl; (with_reducible repeat (first | refine blk_drewN ?_ _ | refine blk_drew ?_ | refine blk_alloc ?_ _)); refine blk_put (cs := #[.int .i64 ((rd_T32 t531 x5_1).f0), .string (⟨#[]⟩ : ByteArray), .string (⟨#[]⟩ : ByteArray), .slice none 0 0]) ?_ 1 _ rfl; (with_reducible repeat (first | refine blk_drewN ?_ _ | refine blk_drew ?_ | refine blk_alloc ?_ _)); refine blk_put (cs := #[.int .i64 0, .string (⟨#[]⟩ : ByteArray), .string (⟨#[]⟩ : ByteArray), .slice none 0 0]) ?_ 0 _ rfl; (with_reducible repeat (first | refine blk_drewN ?_ _ | refine blk_drew ?_ | refine blk_alloc ?_ _)); exact BK541.out⟩
                  have n3_ : Aside0 (Below w.heap.size w ((((w36.setCell ⟨gb541, 0, none⟩ (.int .i64 ((rd_T32 t531 x5_1).f0))).setCell ⟨gb541, 1, none⟩ (.string ((rd_T32 t531 x5_1).f1))).setCell ⟨gb541, 2, none⟩ (.string ((rd_T32 t531 x5_1).f2))).setCell ⟨gb541, 3, none⟩ (.slice A540_3 ((rd_T32 t531 x5_1).f3).length c540_3))) := ⟨(bg GE541)⟩
                  (try clear HO_3); (try clear HL540_3); (try clear BK541); (try clear HB)
                  generalize ((((w36.setCell ⟨gb541, 0, none⟩ (.int .i64 ((rd_T32 t531 x5_1).f0))).setCell ⟨gb541, 1, none⟩ (.string ((rd_T32 t531 x5_1).f1))).setCell ⟨gb541, 2, none⟩ (.string ((rd_T32 t531 x5_1).f2))).setCell ⟨gb541, 3, none⟩ (.slice A540_3 ((rd_T32 t531 x5_1).f3).length c540_3)) = w38 at n0_ n1_ n2_ n3_ ⊢
                  have HO_3 := n0_
                  have HL540_3 := n1_
                  have BK541 := n2_
                  have HB := n3_
                  clear n0_ n1_ n2_ n3_
                  replace HO_3 := mk0 (Kd.S_drew HO_3.out)
                  replace HL540_3 := mk0 (Kd.R_drew HL540_3.out)
                  replace BK541 := mk0 (blk_drew BK541.out)
                  replace HB := mk0 (below_drew1 HB.out)
                  refine st 32 laws_FnChains.tab11 laws_FnChains.bits11 (b4 BK541 n_) (fun hHeld HT_ HW_ => ?_)
                  generalize w38.drew = w39 at HO_3 HL540_3 BK541 HB hHeld ⊢
                  refine tk 0 (some 27) HT_ HW_ hHeld ?_
                  refine tk 2 (some 29) HT_ HW_ hHeld ?_
                  refine on 1 (some 28) HT_ (fun K hK => ?_)
                  refine oB Try.func16 #[.agg #[.int .i64 ((rd_T32 t531 x5_1).f0), .string ((rd_T32 t531 x5_1).f1), .string ((rd_T32 t531 x5_1).f2), .slice A540_3 ((rd_T32 t531 x5_1).f3).length c540_3]] (impl_SealOk.calls k1 ((rd_T32 t531 x5_1).f0) ((rd_T32 t531 x5_1).f1) ((rd_T32 t531 x5_1).f2) _ _ ((rd_T32 t531 x5_1).f3) t542 _ (cl HL540_3) HC540_3.out A18.out) ?_
                  intro w40 hb
                  replace HO_3 := mk0 (Kd.S_below (rS HO_3.out) hb)
                  replace HL540_3 := mk0 (Kd.R_below (rr HL540_3.out) hb)
                  replace BK541 := mk0 (blk_below (kb BK541.out) hb)
                  replace HB := mk0 (below_step (bg GE541) hb)
                  (try clear hb); (try clear hk)
                  refine hK.out _ _ ah (fun hHeld => ?_)
                  clear hK K
                  refine nr (some 28) ?_
                  refine on 3 (some 30) HT_ (fun K hK => ?_)
                  refine oB Try.func14 #[.agg #[.int .i64 ((rd_T32 t531 x5_1).f0), .string ((rd_T32 t531 x5_1).f1), .string ((rd_T32 t531 x5_1).f2), .slice A540_3 ((rd_T32 t531 x5_1).f3).length c540_3]] (spec_SealOk.calls k1 ((rd_T32 t531 x5_1).f0) ((rd_T32 t531 x5_1).f1) ((rd_T32 t531 x5_1).f2) _ _ ((rd_T32 t531 x5_1).f3) t543 _ (cl HL540_3) HC540_3.out A19.out) ?_
                  intro w41 hb
                  replace HO_3 := mk0 (Kd.S_below (rS HO_3.out) hb)
                  replace HL540_3 := mk0 (Kd.R_below (rr HL540_3.out) hb)
                  replace BK541 := mk0 (blk_below (kb BK541.out) hb)
                  replace HB := mk0 (below_step (bg GE541) hb)
                  (try clear hb); (try clear hk)
                  refine hK.out _ _ ah (fun hHeld => ?_)
                  clear hK K
                  refine nr (some 30) ?_
                  refine pu 4 (some 31) HT_ ?_
                  refine pu 5 (some 32) HT_ ?_
                  refine pu 6 (some 33) HT_ ?_
                  refine pu 7 (some 34) HT_ ?_
                  refine tk 8 (some 35) HT_ HW_ hHeld ?_
                  refine on 9 (some 36) HT_ (fun K hK => ?_)
                  refine oB Try.func16 #[.agg #[.int .i64 ((rd_T32 t531 x5_1).f0), .string ((rd_T32 t531 x5_1).f1), .string ((rd_T32 t531 x5_1).f2), .slice A540_3 ((rd_T32 t531 x5_1).f3).length c540_3]] (impl_SealOk.calls k1 ((rd_T32 t531 x5_1).f0) ((rd_T32 t531 x5_1).f1) ((rd_T32 t531 x5_1).f2) _ _ ((rd_T32 t531 x5_1).f3) true _ (cl HL540_3) HC540_3.out A28.out) ?_
                  intro w42 hb
                  replace HO_3 := mk0 (Kd.S_below (rS HO_3.out) hb)
                  replace HL540_3 := mk0 (Kd.R_below (rr HL540_3.out) hb)
                  replace BK541 := mk0 (blk_below (kb BK541.out) hb)
                  replace HB := mk0 (below_step (bg GE541) hb)
                  (try clear hb); (try clear hk)
                  refine hK.out _ _ ah (fun hHeld => ?_)
                  clear hK K
                  refine nr (some 36) ?_
                  refine pu 10 (some 37) HT_ ?_
                  refine pu 11 (some 38) HT_ ?_
                  refine pu 12 (some 39) HT_ ?_
                  refine pu 14 (some 41) HT_ ?_
                  refine pu 16 (some 43) HT_ ?_
                  refine pu 18 (some 45) HT_ ?_
                  refine tk 13 (some 40) HT_ HW_ hHeld ?_
                  refine tk 15 (some 42) HT_ HW_ hHeld ?_
                  refine tk 17 (some 44) HT_ HW_ hHeld ?_
                  refine tk 19 (some 46) HT_ HW_ hHeld ?_
                  refine on 20 (some 47) HT_ (fun K hK => ?_)
                  refine oB Try.func11 #[.int .i64 ((rd_T32 t531 x5_1).f0), .string ((rd_T32 t531 x5_1).f1), .slice A540_3 ((rd_T32 t531 x5_1).f3).length c540_3] (impl_SuperOf.calls k1 ((rd_T32 t531 x5_1).f0) ((rd_T32 t531 x5_1).f1) _ _ ((rd_T32 t531 x5_1).f3) t545 _ (cl HL540_3) HC540_3.out A30.out) ?_
                  intro w43 hb
                  replace HO_3 := mk0 (Kd.S_below (rS HO_3.out) hb)
                  replace HL540_3 := mk0 (Kd.R_below (rr HL540_3.out) hb)
                  replace BK541 := mk0 (blk_below (kb BK541.out) hb)
                  replace HB := mk0 (below_step (bg GE541) hb)
                  (try clear hb); (try clear hk)
                  have q44 : (x5_1 : Int) ≤ ((t531.length : Int) : Int) := oa
                  obtain ⟨i044, hi044, _, hsz44, _⟩ := info_parts info32
                  have hroom44 : t531.length ≤ co13 := (Kd.S_reads' HO_3.out).2.1
                  have hC44 : Kd.C k32 _ (some ad540) t531.length t531 := (Kd.S_reads' HO_3.out).2.2
                  have hcut44 := cut_to (P := Try.prog) 38 32 .i64 Try.underlying38 hi044 (some ad540) t531.length co13 x5_1 oa q44 hroom44
                  have hr44 := Kd.C_take (m := (x5_1 : Int).toNat) hC44 (by omega)
                  have hy44 : y546.length = (x5_1 : Int).toNat := (by rw [Ny546.out, List.length_take]; omega)
                  rw [← Ny546.out] at hr44
                  rw [← hy44] at hcut44
                  have HR549 := mk0 hr44
                  have HC549 := mk0 (show y546.length ≤ co13 from by omega)
                  clear hr44 hC44 hroom44 hi044 hsz44
                  have KY44 := mk0 hy44
                  clear hy44
                  have KL44 := mk0 (show (x5_1 : Int).toNat ≤ t531.length from by omega)
                  replace q44 := eq_true q44
                  refine hK.out _ _ ah (fun hHeld => ?_)
                  clear hK K
                  refine nr (some 47) ?_
                  refine pu 21 (some 48) HT_ ?_
                  refine pu 22 (some 49) HT_ ?_
                  refine pu 23 (some 50) HT_ ?_
                  refine pu 24 (some 51) HT_ ?_
                  refine pu 25 (some 52) HT_ ?_
                  refine pu 26 (some 53) HT_ ?_
                  refine on 27 (some 54) HT_ (fun K hK => ?_)
                  refine oB Try.func20 #[.slice (some ad540) y546.length co13] (impl_ChainOk.calls k1 _ _ y546 true _ ?side1 HC549.out A34.out) ?_
                  (case side1 => repeat (first | exact (by repeat (first | (with_reducible exact HR549.out) | (with_reducible refine Kd.C_alloc ?_ _) | (with_reducible refine Kd.C_drewN ?_ _) | (with_reducible refine Kd.C_drew ?_) | exact HR549.out)) | (with_reducible refine Kd.C_alloc ?_ _) | (with_reducible refine Kd.C_drewN ?_ _) | (with_reducible refine Kd.C_drew ?_)))
                  intro w45 hb
                  replace HO_3 := mk0 (Kd.S_below (rS HO_3.out) hb)
                  replace HL540_3 := mk0 (Kd.R_below (rr HL540_3.out) hb)
                  replace BK541 := mk0 (blk_below (kb BK541.out) hb)
                  replace HR549 := mk0 (Kd.C_below (by repeat (first | (with_reducible exact HR549.out) | (with_reducible refine Kd.C_alloc ?_ _) | (with_reducible refine Kd.C_drewN ?_ _) | (with_reducible refine Kd.C_drew ?_) | exact HR549.out)) hb)
                  replace HB := mk0 (below_step (bg GE541) hb)
                  (try clear hb); (try clear hk)
                  refine hK.out _ _ ah (fun hHeld => ?_)
                  clear hK K
                  refine nr (some 54) ?_
                  refine pu 28 (some 55) HT_ ?_
                  refine pu 29 (some 56) HT_ ?_
                  refine pu 30 (some 57) HT_ ?_
                  refine pu 31 (some 58) HT_ ?_
                  refine dn HT_ ?_
                  try go_wp2
                  go_roundg k1
                  case measure => have := HK1.out; omega
                  case rel => exact ⟨(wrap64 (x5_1 + 1)), sv, H', hk1, ⟨by (with_reducible repeat (first | apply Kd.S_alloc | apply Kd.S_drewN | apply Kd.S_drew)); exact Kd.S_mono HO_3.out (fun _ hk => trivial)⟩, ⟨(bg GE541)⟩⟩
                · replace H := jf H
                  obtain rfl := Option.some.inj H
                  have p540 : 0 ≤ (x5_1 : Int) := oa
                  have q540 : x5_1 < (t531.length : Int) := oa
                  obtain ⟨ad540, A540_3, c540_3, e540, hx540_0, hx540_1, hx540_2, hx540_3, hl540_3, hi540_3⟩ := at_T32 (Kd.S_reads' HO_3.out).2.2 x5_1 p540 q540
                  cases e540
                  obtain ⟨ce540, hce540, hMe540, hcc540⟩ := Kd.S_get HO_3.out z32 x5_1 p540 (by first | exact q540 | exact oa | (have e_ := (Kd.S_reads' HO_3.out).1; omega))
                  obtain ⟨ve540_3, rfl, ge540_3⟩ := k32_openM hMe540
                  have hv540_3 := hcc540 3 _ rfl
                  rw [add_field _ _ 3 (by omega)] at hv540_3
                  replace hv540_3 := Option.some.inj (hv540_3.symm.trans hx540_3)
                  rw [hv540_3] at ge540_3
                  have HL540_3 := mk0 (show Kd.R Kd.string 9 _ _ _ _ ((rd_T32 t531 x5_1).f3) from ge540_3)
                  clear hv540_3 ge540_3
                  clear hcc540 hce540
                  have HR540_3 := mk0 hi540_3
                  have HC540_3 := mk0 hl540_3
                  clear hi540_3 hl540_3
                  replace p540 := eq_true p540
                  replace q540 := eq_true q540
                  try go_wp2_with (first | ((with_reducible refine gD 6 rfl ?_); refine bx0 6 #[.int .i64 0, .string (⟨#[]⟩ : ByteArray), .string (⟨#[]⟩ : ByteArray), .slice none 0 0] 32 ?_; intro gb541 hg w46 hbox hb; replace HO_3 := mk0 (Kd.S_below (Kd.S_elderB (rS HO_3.out) gb541 (Nat.le_of_eq hg.symm)) hb); replace HL540_3 := mk0 (Kd.R_below (rr HL540_3.out) hb); replace HR540_3 := mk0 (Kd.C_below (by repeat (first | (with_reducible exact HR540_3.out) | (with_reducible refine Kd.C_alloc ?_ _) | (with_reducible refine Kd.C_drewN ?_ _) | (with_reducible refine Kd.C_drew ?_) | exact HR540_3.out)) hb); have BK541 := mk0 (hbox); have GW541 := mk0 ((by rw [hg]; exact bs : w.heap.size ≤ gb541)); have GE541 := mk0 ((by rw [hg]; exact bs : w.heap.size ≤ gb541)); replace HB := mk0 (below_step bw hb); clear hb hbox hg; obtain ⟨hcz47_0, hcz47_1, hcz47_2, hcz47_3, hfz47_0, hfz47_1, hfz47_2, hfz47_3⟩ := z4 BK541))
                  have n0_ : Aside0 (Kd.S k32 32 ((((w46.setCell ⟨gb541, 0, none⟩ (.int .i64 ((rd_T32 t531 x5_1).f0))).setCell ⟨gb541, 1, none⟩ (.string ((rd_T32 t531 x5_1).f1))).setCell ⟨gb541, 2, none⟩ (.string ((rd_T32 t531 x5_1).f2))).setCell ⟨gb541, 3, none⟩ (.slice A540_3 ((rd_T32 t531 x5_1).f3).length c540_3)) w.heap.size (fun k_ => k_ ≠ gb541) (.slice (some ad540) t531.length co13) t531) := ⟨by (with_reducible repeat (first | apply Kd.S_alloc | apply Kd.S_drewN | apply Kd.S_drew)); exact Kd.S_mono (Kd.S_far (p := ⟨gb541, 3, none⟩) (Kd.S_far (p := ⟨gb541, 2, none⟩) (Kd.S_far (p := ⟨gb541, 1, none⟩) (Kd.S_far (p := ⟨gb541, 0, none⟩) (Kd.S_mono HO_3.out (fun k_ hk => (⟨hk, hk.2⟩ : _ ∧ k_ ≠ gb541))) (fun _ hk => hk.2) (.int .i64 ((rd_T32 t531 x5_1).f0))) (fun _ hk => hk.2) (.string ((rd_T32 t531 x5_1).f1))) (fun _ hk => hk.2) (.string ((rd_T32 t531 x5_1).f2))) (fun _ hk => hk.2) (.slice A540_3 ((rd_T32 t531 x5_1).f3).length c540_3)) (fun _ hk => hk.1.2)⟩
                  have n1_ : Aside0 (Kd.R Kd.string 9 ((((w46.setCell ⟨gb541, 0, none⟩ (.int .i64 ((rd_T32 t531 x5_1).f0))).setCell ⟨gb541, 1, none⟩ (.string ((rd_T32 t531 x5_1).f1))).setCell ⟨gb541, 2, none⟩ (.string ((rd_T32 t531 x5_1).f2))).setCell ⟨gb541, 3, none⟩ (.slice A540_3 ((rd_T32 t531 x5_1).f3).length c540_3)) w.heap.size (fun k_ => some k_ ≠ (.slice (some ad540) t531.length co13 : Value).ownBlock) (.slice A540_3 ((rd_T32 t531 x5_1).f3).length c540_3) ((rd_T32 t531 x5_1).f3)) := ⟨by (with_reducible repeat (first | apply Kd.R_alloc | apply Kd.R_drewN | apply Kd.R_drew)); exact Kd.R_mono (Kd.R_far (p := ⟨gb541, 3, none⟩) (Kd.R_far (p := ⟨gb541, 2, none⟩) (Kd.R_far (p := ⟨gb541, 1, none⟩) (Kd.R_far (p := ⟨gb541, 0, none⟩) (Kd.R_types HL540_3.out BK541.out (by decide)) (fun _ hk => hk.2) (.int .i64 ((rd_T32 t531 x5_1).f0))) (fun _ hk => hk.2) (.string ((rd_T32 t531 x5_1).f1))) (fun _ hk => hk.2) (.string ((rd_T32 t531 x5_1).f2))) (fun _ hk => hk.2) (.slice A540_3 ((rd_T32 t531 x5_1).f3).length c540_3)) (fun _ hk => hk.1.2)⟩
                  have n2_ : Aside0 (((((w46.setCell ⟨gb541, 0, none⟩ (.int .i64 ((rd_T32 t531 x5_1).f0))).setCell ⟨gb541, 1, none⟩ (.string ((rd_T32 t531 x5_1).f1))).setCell ⟨gb541, 2, none⟩ (.string ((rd_T32 t531 x5_1).f2))).setCell ⟨gb541, 3, none⟩ (.slice A540_3 ((rd_T32 t531 x5_1).f3).length c540_3)).heap[gb541]? = some (.cells #[.int .i64 ((rd_T32 t531 x5_1).f0), .string ((rd_T32 t531 x5_1).f1), .string ((rd_T32 t531 x5_1).f2), .slice A540_3 ((rd_T32 t531 x5_1).f3).length c540_3] 32 (0, 0))) := ⟨by (with_reducible repeat (first | refine blk_drewN ?_ _ | refine blk_drew ?_ | refine blk_alloc ?_ _)); refine blk_put (cs := #[.int .i64 ((rd_T32 t531 x5_1).f0), .string ((rd_T32 t531 x5_1).f1), .string ((rd_T32 t531 x5_1).f2), .slice none 0 0]) ?_ 3 _ rfl; (with_reducible repeat (first | refine blk_drewN ?_ _ | refine blk_drew ?_ | refine blk_alloc ?_ _)); refine blk_put (cs := #[.int .i64 ((rd_T32 t531 x5_1).f0), .string ((rd_T32 t531 x5_1).f1), .string (⟨#[]⟩ : ByteArray), .slice none 0 0]) ?_ 2 _ rfl; (with_reducible repeat (first | refine blk_drewN ?_ _ | refine blk_drew ?_ | refine blk_alloc ?_ _)); refine blk_put (cs := #[.int .i64 ((rd_T32 t531 x5_1).f0), .string (⟨#[]⟩ : ByteArray), .string (⟨#[]⟩ : ByteArray), .slice none 0 0]) ?_ 1 _ rfl; (with_reducible repeat (first | refine blk_drewN ?_ _ | refine blk_drew ?_ | refine blk_alloc ?_ _)); refine blk_put (cs := #[.int .i64 0, .string (⟨#[]⟩ : ByteArray), .string (⟨#[]⟩ : ByteArray), .slice none 0 0]) ?_ 0 _ rfl; (with_reducible repeat (first | refine blk_drewN ?_ _ | refine blk_drew ?_ | refine blk_alloc ?_ _)); exact BK541.out⟩
                  have n3_ : Aside0 (Below w.heap.size w ((((w46.setCell ⟨gb541, 0, none⟩ (.int .i64 ((rd_T32 t531 x5_1).f0))).setCell ⟨gb541, 1, none⟩ (.string ((rd_T32 t531 x5_1).f1))).setCell ⟨gb541, 2, none⟩ (.string ((rd_T32 t531 x5_1).f2))).setCell ⟨gb541, 3, none⟩ (.slice A540_3 ((rd_T32 t531 x5_1).f3).length c540_3))) := ⟨(bg GE541)⟩
                  (try clear HO_3); (try clear HL540_3); (try clear BK541); (try clear HB)
                  generalize ((((w46.setCell ⟨gb541, 0, none⟩ (.int .i64 ((rd_T32 t531 x5_1).f0))).setCell ⟨gb541, 1, none⟩ (.string ((rd_T32 t531 x5_1).f1))).setCell ⟨gb541, 2, none⟩ (.string ((rd_T32 t531 x5_1).f2))).setCell ⟨gb541, 3, none⟩ (.slice A540_3 ((rd_T32 t531 x5_1).f3).length c540_3)) = w48 at n0_ n1_ n2_ n3_ ⊢
                  have HO_3 := n0_
                  have HL540_3 := n1_
                  have BK541 := n2_
                  have HB := n3_
                  clear n0_ n1_ n2_ n3_
                  replace HO_3 := mk0 (Kd.S_drew HO_3.out)
                  replace HL540_3 := mk0 (Kd.R_drew HL540_3.out)
                  replace BK541 := mk0 (blk_drew BK541.out)
                  replace HB := mk0 (below_drew1 HB.out)
                  refine st 32 laws_FnChains.tab11 laws_FnChains.bits11 (b4 BK541 n_) (fun hHeld HT_ HW_ => ?_)
                  generalize w48.drew = w49 at HO_3 HL540_3 BK541 HB hHeld ⊢
                  refine tk 0 (some 27) HT_ HW_ hHeld ?_
                  refine tk 2 (some 29) HT_ HW_ hHeld ?_
                  refine on 1 (some 28) HT_ (fun K hK => ?_)
                  refine oB Try.func16 #[.agg #[.int .i64 ((rd_T32 t531 x5_1).f0), .string ((rd_T32 t531 x5_1).f1), .string ((rd_T32 t531 x5_1).f2), .slice A540_3 ((rd_T32 t531 x5_1).f3).length c540_3]] (impl_SealOk.calls k1 ((rd_T32 t531 x5_1).f0) ((rd_T32 t531 x5_1).f1) ((rd_T32 t531 x5_1).f2) _ _ ((rd_T32 t531 x5_1).f3) t542 _ (cl HL540_3) HC540_3.out A18.out) ?_
                  intro w50 hb
                  replace HO_3 := mk0 (Kd.S_below (rS HO_3.out) hb)
                  replace HL540_3 := mk0 (Kd.R_below (rr HL540_3.out) hb)
                  replace BK541 := mk0 (blk_below (kb BK541.out) hb)
                  replace HB := mk0 (below_step (bg GE541) hb)
                  (try clear hb); (try clear hk)
                  refine hK.out _ _ ah (fun hHeld => ?_)
                  clear hK K
                  refine nr (some 28) ?_
                  refine on 3 (some 30) HT_ (fun K hK => ?_)
                  refine oB Try.func14 #[.agg #[.int .i64 ((rd_T32 t531 x5_1).f0), .string ((rd_T32 t531 x5_1).f1), .string ((rd_T32 t531 x5_1).f2), .slice A540_3 ((rd_T32 t531 x5_1).f3).length c540_3]] (spec_SealOk.calls k1 ((rd_T32 t531 x5_1).f0) ((rd_T32 t531 x5_1).f1) ((rd_T32 t531 x5_1).f2) _ _ ((rd_T32 t531 x5_1).f3) t543 _ (cl HL540_3) HC540_3.out A19.out) ?_
                  intro w51 hb
                  replace HO_3 := mk0 (Kd.S_below (rS HO_3.out) hb)
                  replace HL540_3 := mk0 (Kd.R_below (rr HL540_3.out) hb)
                  replace BK541 := mk0 (blk_below (kb BK541.out) hb)
                  replace HB := mk0 (below_step (bg GE541) hb)
                  (try clear hb); (try clear hk)
                  refine hK.out _ _ ah (fun hHeld => ?_)
                  clear hK K
                  refine nr (some 30) ?_
                  refine pu 4 (some 31) HT_ ?_
                  refine pu 5 (some 32) HT_ ?_
                  refine pu 6 (some 33) HT_ ?_
                  refine pu 7 (some 34) HT_ ?_
                  refine tk 8 (some 35) HT_ HW_ hHeld ?_
                  refine on 9 (some 36) HT_ (fun K hK => ?_)
                  refine oB Try.func16 #[.agg #[.int .i64 ((rd_T32 t531 x5_1).f0), .string ((rd_T32 t531 x5_1).f1), .string ((rd_T32 t531 x5_1).f2), .slice A540_3 ((rd_T32 t531 x5_1).f3).length c540_3]] (impl_SealOk.calls k1 ((rd_T32 t531 x5_1).f0) ((rd_T32 t531 x5_1).f1) ((rd_T32 t531 x5_1).f2) _ _ ((rd_T32 t531 x5_1).f3) true _ (cl HL540_3) HC540_3.out A28.out) ?_
                  intro w52 hb
                  replace HO_3 := mk0 (Kd.S_below (rS HO_3.out) hb)
                  replace HL540_3 := mk0 (Kd.R_below (rr HL540_3.out) hb)
                  replace BK541 := mk0 (blk_below (kb BK541.out) hb)
                  replace HB := mk0 (below_step (bg GE541) hb)
                  (try clear hb); (try clear hk)
                  refine hK.out _ _ ah (fun hHeld => ?_)
                  clear hK K
                  refine nr (some 36) ?_
                  refine pu 10 (some 37) HT_ ?_
                  refine pu 11 (some 38) HT_ ?_
                  refine pu 12 (some 39) HT_ ?_
                  refine pu 14 (some 41) HT_ ?_
                  refine pu 16 (some 43) HT_ ?_
                  refine pu 18 (some 45) HT_ ?_
                  refine tk 13 (some 40) HT_ HW_ hHeld ?_
                  refine tk 15 (some 42) HT_ HW_ hHeld ?_
                  refine tk 17 (some 44) HT_ HW_ hHeld ?_
                  refine tk 19 (some 46) HT_ HW_ hHeld ?_
                  refine on 20 (some 47) HT_ (fun K hK => ?_)
                  refine oB Try.func11 #[.int .i64 ((rd_T32 t531 x5_1).f0), .string ((rd_T32 t531 x5_1).f1), .slice A540_3 ((rd_T32 t531 x5_1).f3).length c540_3] (impl_SuperOf.calls k1 ((rd_T32 t531 x5_1).f0) ((rd_T32 t531 x5_1).f1) _ _ ((rd_T32 t531 x5_1).f3) t545 _ (cl HL540_3) HC540_3.out A30.out) ?_
                  intro w53 hb
                  replace HO_3 := mk0 (Kd.S_below (rS HO_3.out) hb)
                  replace HL540_3 := mk0 (Kd.R_below (rr HL540_3.out) hb)
                  replace BK541 := mk0 (blk_below (kb BK541.out) hb)
                  replace HB := mk0 (below_step (bg GE541) hb)
                  (try clear hb); (try clear hk)
                  have q54 : (x5_1 : Int) ≤ ((t531.length : Int) : Int) := oa
                  obtain ⟨i054, hi054, _, hsz54, _⟩ := info_parts info32
                  have hroom54 : t531.length ≤ co13 := (Kd.S_reads' HO_3.out).2.1
                  have hC54 : Kd.C k32 _ (some ad540) t531.length t531 := (Kd.S_reads' HO_3.out).2.2
                  have hcut54 := cut_to (P := Try.prog) 38 32 .i64 Try.underlying38 hi054 (some ad540) t531.length co13 x5_1 oa q54 hroom54
                  have hr54 := Kd.C_take (m := (x5_1 : Int).toNat) hC54 (by omega)
                  have hy54 : y546.length = (x5_1 : Int).toNat := (by rw [Ny546.out, List.length_take]; omega)
                  rw [← Ny546.out] at hr54
                  rw [← hy54] at hcut54
                  have HR549 := mk0 hr54
                  have HC549 := mk0 (show y546.length ≤ co13 from by omega)
                  clear hr54 hC54 hroom54 hi054 hsz54
                  have KY54 := mk0 hy54
                  clear hy54
                  have KL54 := mk0 (show (x5_1 : Int).toNat ≤ t531.length from by omega)
                  replace q54 := eq_true q54
                  refine hK.out _ _ ah (fun hHeld => ?_)
                  clear hK K
                  refine nr (some 47) ?_
                  refine pu 21 (some 48) HT_ ?_
                  refine pu 22 (some 49) HT_ ?_
                  refine pu 23 (some 50) HT_ ?_
                  refine pu 24 (some 51) HT_ ?_
                  refine pu 25 (some 52) HT_ ?_
                  refine pu 26 (some 53) HT_ ?_
                  refine on 27 (some 54) HT_ (fun K hK => ?_)
                  refine oB Try.func20 #[.slice (some ad540) y546.length co13] (impl_ChainOk.calls k1 _ _ y546 false _ ?side1 HC549.out A34.out) ?_
                  (case side1 => repeat (first | exact (by repeat (first | (with_reducible exact HR549.out) | (with_reducible refine Kd.C_alloc ?_ _) | (with_reducible refine Kd.C_drewN ?_ _) | (with_reducible refine Kd.C_drew ?_) | exact HR549.out)) | (with_reducible refine Kd.C_alloc ?_ _) | (with_reducible refine Kd.C_drewN ?_ _) | (with_reducible refine Kd.C_drew ?_)))
                  intro w55 hb
                  replace HO_3 := mk0 (Kd.S_below (rS HO_3.out) hb)
                  replace HL540_3 := mk0 (Kd.R_below (rr HL540_3.out) hb)
                  replace BK541 := mk0 (blk_below (kb BK541.out) hb)
                  replace HR549 := mk0 (Kd.C_below (by repeat (first | (with_reducible exact HR549.out) | (with_reducible refine Kd.C_alloc ?_ _) | (with_reducible refine Kd.C_drewN ?_ _) | (with_reducible refine Kd.C_drew ?_) | exact HR549.out)) hb)
                  replace HB := mk0 (below_step (bg GE541) hb)
                  (try clear hb); (try clear hk)
                  refine hK.out _ _ ah (fun hHeld => ?_)
                  clear hK K
                  refine nr (some 54) ?_
                  refine pu 28 (some 55) HT_ ?_
                  refine pu 29 (some 56) HT_ ?_
                  refine pu 30 (some 57) HT_ ?_
                  refine pu 31 (some 58) HT_ ?_
                  refine dn HT_ ?_
                  try go_wp2
                  go_ret
                  exact ⟨sw, (bg GE541)⟩
              · obtain rfl := Option.some.inj H
                have p540 : 0 ≤ (x5_1 : Int) := oa
                have q540 : x5_1 < (t531.length : Int) := oa
                obtain ⟨ad540, A540_3, c540_3, e540, hx540_0, hx540_1, hx540_2, hx540_3, hl540_3, hi540_3⟩ := at_T32 (Kd.S_reads' HO_3.out).2.2 x5_1 p540 q540
                cases e540
                obtain ⟨ce540, hce540, hMe540, hcc540⟩ := Kd.S_get HO_3.out z32 x5_1 p540 (by first | exact q540 | exact oa | (have e_ := (Kd.S_reads' HO_3.out).1; omega))
                obtain ⟨ve540_3, rfl, ge540_3⟩ := k32_openM hMe540
                have hv540_3 := hcc540 3 _ rfl
                rw [add_field _ _ 3 (by omega)] at hv540_3
                replace hv540_3 := Option.some.inj (hv540_3.symm.trans hx540_3)
                rw [hv540_3] at ge540_3
                have HL540_3 := mk0 (show Kd.R Kd.string 9 _ _ _ _ ((rd_T32 t531 x5_1).f3) from ge540_3)
                clear hv540_3 ge540_3
                clear hcc540 hce540
                have HR540_3 := mk0 hi540_3
                have HC540_3 := mk0 hl540_3
                clear hi540_3 hl540_3
                replace p540 := eq_true p540
                replace q540 := eq_true q540
                try go_wp2_with (first | ((with_reducible refine gD 6 rfl ?_); refine bx0 6 #[.int .i64 0, .string (⟨#[]⟩ : ByteArray), .string (⟨#[]⟩ : ByteArray), .slice none 0 0] 32 ?_; intro gb541 hg w56 hbox hb; replace HO_3 := mk0 (Kd.S_below (Kd.S_elderB (rS HO_3.out) gb541 (Nat.le_of_eq hg.symm)) hb); replace HL540_3 := mk0 (Kd.R_below (rr HL540_3.out) hb); replace HR540_3 := mk0 (Kd.C_below (by repeat (first | (with_reducible exact HR540_3.out) | (with_reducible refine Kd.C_alloc ?_ _) | (with_reducible refine Kd.C_drewN ?_ _) | (with_reducible refine Kd.C_drew ?_) | exact HR540_3.out)) hb); have BK541 := mk0 (hbox); have GW541 := mk0 ((by rw [hg]; exact bs : w.heap.size ≤ gb541)); have GE541 := mk0 ((by rw [hg]; exact bs : w.heap.size ≤ gb541)); replace HB := mk0 (below_step bw hb); clear hb hbox hg; obtain ⟨hcz57_0, hcz57_1, hcz57_2, hcz57_3, hfz57_0, hfz57_1, hfz57_2, hfz57_3⟩ := z4 BK541))
                have n0_ : Aside0 (Kd.S k32 32 ((((w56.setCell ⟨gb541, 0, none⟩ (.int .i64 ((rd_T32 t531 x5_1).f0))).setCell ⟨gb541, 1, none⟩ (.string ((rd_T32 t531 x5_1).f1))).setCell ⟨gb541, 2, none⟩ (.string ((rd_T32 t531 x5_1).f2))).setCell ⟨gb541, 3, none⟩ (.slice A540_3 ((rd_T32 t531 x5_1).f3).length c540_3)) w.heap.size (fun k_ => k_ ≠ gb541) (.slice (some ad540) t531.length co13) t531) := ⟨by (with_reducible repeat (first | apply Kd.S_alloc | apply Kd.S_drewN | apply Kd.S_drew)); exact Kd.S_mono (Kd.S_far (p := ⟨gb541, 3, none⟩) (Kd.S_far (p := ⟨gb541, 2, none⟩) (Kd.S_far (p := ⟨gb541, 1, none⟩) (Kd.S_far (p := ⟨gb541, 0, none⟩) (Kd.S_mono HO_3.out (fun k_ hk => (⟨hk, hk.2⟩ : _ ∧ k_ ≠ gb541))) (fun _ hk => hk.2) (.int .i64 ((rd_T32 t531 x5_1).f0))) (fun _ hk => hk.2) (.string ((rd_T32 t531 x5_1).f1))) (fun _ hk => hk.2) (.string ((rd_T32 t531 x5_1).f2))) (fun _ hk => hk.2) (.slice A540_3 ((rd_T32 t531 x5_1).f3).length c540_3)) (fun _ hk => hk.1.2)⟩
                have n1_ : Aside0 (Kd.R Kd.string 9 ((((w56.setCell ⟨gb541, 0, none⟩ (.int .i64 ((rd_T32 t531 x5_1).f0))).setCell ⟨gb541, 1, none⟩ (.string ((rd_T32 t531 x5_1).f1))).setCell ⟨gb541, 2, none⟩ (.string ((rd_T32 t531 x5_1).f2))).setCell ⟨gb541, 3, none⟩ (.slice A540_3 ((rd_T32 t531 x5_1).f3).length c540_3)) w.heap.size (fun k_ => some k_ ≠ (.slice (some ad540) t531.length co13 : Value).ownBlock) (.slice A540_3 ((rd_T32 t531 x5_1).f3).length c540_3) ((rd_T32 t531 x5_1).f3)) := ⟨by (with_reducible repeat (first | apply Kd.R_alloc | apply Kd.R_drewN | apply Kd.R_drew)); exact Kd.R_mono (Kd.R_far (p := ⟨gb541, 3, none⟩) (Kd.R_far (p := ⟨gb541, 2, none⟩) (Kd.R_far (p := ⟨gb541, 1, none⟩) (Kd.R_far (p := ⟨gb541, 0, none⟩) (Kd.R_types HL540_3.out BK541.out (by decide)) (fun _ hk => hk.2) (.int .i64 ((rd_T32 t531 x5_1).f0))) (fun _ hk => hk.2) (.string ((rd_T32 t531 x5_1).f1))) (fun _ hk => hk.2) (.string ((rd_T32 t531 x5_1).f2))) (fun _ hk => hk.2) (.slice A540_3 ((rd_T32 t531 x5_1).f3).length c540_3)) (fun _ hk => hk.1.2)⟩
                have n2_ : Aside0 (((((w56.setCell ⟨gb541, 0, none⟩ (.int .i64 ((rd_T32 t531 x5_1).f0))).setCell ⟨gb541, 1, none⟩ (.string ((rd_T32 t531 x5_1).f1))).setCell ⟨gb541, 2, none⟩ (.string ((rd_T32 t531 x5_1).f2))).setCell ⟨gb541, 3, none⟩ (.slice A540_3 ((rd_T32 t531 x5_1).f3).length c540_3)).heap[gb541]? = some (.cells #[.int .i64 ((rd_T32 t531 x5_1).f0), .string ((rd_T32 t531 x5_1).f1), .string ((rd_T32 t531 x5_1).f2), .slice A540_3 ((rd_T32 t531 x5_1).f3).length c540_3] 32 (0, 0))) := ⟨by (with_reducible repeat (first | refine blk_drewN ?_ _ | refine blk_drew ?_ | refine blk_alloc ?_ _)); refine blk_put (cs := #[.int .i64 ((rd_T32 t531 x5_1).f0), .string ((rd_T32 t531 x5_1).f1), .string ((rd_T32 t531 x5_1).f2), .slice none 0 0]) ?_ 3 _ rfl; (with_reducible repeat (first | refine blk_drewN ?_ _ | refine blk_drew ?_ | refine blk_alloc ?_ _)); refine blk_put (cs := #[.int .i64 ((rd_T32 t531 x5_1).f0), .string ((rd_T32 t531 x5_1).f1), .string (⟨#[]⟩ : ByteArray), .slice none 0 0]) ?_ 2 _ rfl; (with_reducible repeat (first | refine blk_drewN ?_ _ | refine blk_drew ?_ | refine blk_alloc ?_ _)); refine blk_put (cs := #[.int .i64 ((rd_T32 t531 x5_1).f0), .string (⟨#[]⟩ : ByteArray), .string (⟨#[]⟩ : ByteArray), .slice none 0 0]) ?_ 1 _ rfl; (with_reducible repeat (first | refine blk_drewN ?_ _ | refine blk_drew ?_ | refine blk_alloc ?_ _)); refine blk_put (cs := #[.int .i64 0, .string (⟨#[]⟩ : ByteArray), .string (⟨#[]⟩ : ByteArray), .slice none 0 0]) ?_ 0 _ rfl; (with_reducible repeat (first | refine blk_drewN ?_ _ | refine blk_drew ?_ | refine blk_alloc ?_ _)); exact BK541.out⟩
                have n3_ : Aside0 (Below w.heap.size w ((((w56.setCell ⟨gb541, 0, none⟩ (.int .i64 ((rd_T32 t531 x5_1).f0))).setCell ⟨gb541, 1, none⟩ (.string ((rd_T32 t531 x5_1).f1))).setCell ⟨gb541, 2, none⟩ (.string ((rd_T32 t531 x5_1).f2))).setCell ⟨gb541, 3, none⟩ (.slice A540_3 ((rd_T32 t531 x5_1).f3).length c540_3))) := ⟨(bg GE541)⟩
                (try clear HO_3); (try clear HL540_3); (try clear BK541); (try clear HB)
                generalize ((((w56.setCell ⟨gb541, 0, none⟩ (.int .i64 ((rd_T32 t531 x5_1).f0))).setCell ⟨gb541, 1, none⟩ (.string ((rd_T32 t531 x5_1).f1))).setCell ⟨gb541, 2, none⟩ (.string ((rd_T32 t531 x5_1).f2))).setCell ⟨gb541, 3, none⟩ (.slice A540_3 ((rd_T32 t531 x5_1).f3).length c540_3)) = w58 at n0_ n1_ n2_ n3_ ⊢
                have HO_3 := n0_
                have HL540_3 := n1_
                have BK541 := n2_
                have HB := n3_
                clear n0_ n1_ n2_ n3_
                replace HO_3 := mk0 (Kd.S_drew HO_3.out)
                replace HL540_3 := mk0 (Kd.R_drew HL540_3.out)
                replace BK541 := mk0 (blk_drew BK541.out)
                replace HB := mk0 (below_drew1 HB.out)
                refine st 32 laws_FnChains.tab11 laws_FnChains.bits11 (b4 BK541 n_) (fun hHeld HT_ HW_ => ?_)
                generalize w58.drew = w59 at HO_3 HL540_3 BK541 HB hHeld ⊢
                refine tk 0 (some 27) HT_ HW_ hHeld ?_
                refine tk 2 (some 29) HT_ HW_ hHeld ?_
                refine on 1 (some 28) HT_ (fun K hK => ?_)
                refine oB Try.func16 #[.agg #[.int .i64 ((rd_T32 t531 x5_1).f0), .string ((rd_T32 t531 x5_1).f1), .string ((rd_T32 t531 x5_1).f2), .slice A540_3 ((rd_T32 t531 x5_1).f3).length c540_3]] (impl_SealOk.calls k1 ((rd_T32 t531 x5_1).f0) ((rd_T32 t531 x5_1).f1) ((rd_T32 t531 x5_1).f2) _ _ ((rd_T32 t531 x5_1).f3) t542 _ (cl HL540_3) HC540_3.out A18.out) ?_
                intro w60 hb
                replace HO_3 := mk0 (Kd.S_below (rS HO_3.out) hb)
                replace HL540_3 := mk0 (Kd.R_below (rr HL540_3.out) hb)
                replace BK541 := mk0 (blk_below (kb BK541.out) hb)
                replace HB := mk0 (below_step (bg GE541) hb)
                (try clear hb); (try clear hk)
                refine hK.out _ _ ah (fun hHeld => ?_)
                clear hK K
                refine nr (some 28) ?_
                refine on 3 (some 30) HT_ (fun K hK => ?_)
                refine oB Try.func14 #[.agg #[.int .i64 ((rd_T32 t531 x5_1).f0), .string ((rd_T32 t531 x5_1).f1), .string ((rd_T32 t531 x5_1).f2), .slice A540_3 ((rd_T32 t531 x5_1).f3).length c540_3]] (spec_SealOk.calls k1 ((rd_T32 t531 x5_1).f0) ((rd_T32 t531 x5_1).f1) ((rd_T32 t531 x5_1).f2) _ _ ((rd_T32 t531 x5_1).f3) t543 _ (cl HL540_3) HC540_3.out A19.out) ?_
                intro w61 hb
                replace HO_3 := mk0 (Kd.S_below (rS HO_3.out) hb)
                replace HL540_3 := mk0 (Kd.R_below (rr HL540_3.out) hb)
                replace BK541 := mk0 (blk_below (kb BK541.out) hb)
                replace HB := mk0 (below_step (bg GE541) hb)
                (try clear hb); (try clear hk)
                refine hK.out _ _ ah (fun hHeld => ?_)
                clear hK K
                refine nr (some 30) ?_
                refine pu 4 (some 31) HT_ ?_
                refine pu 5 (some 32) HT_ ?_
                refine pu 6 (some 33) HT_ ?_
                refine pu 7 (some 34) HT_ ?_
                refine tk 8 (some 35) HT_ HW_ hHeld ?_
                refine on 9 (some 36) HT_ (fun K hK => ?_)
                refine oB Try.func16 #[.agg #[.int .i64 ((rd_T32 t531 x5_1).f0), .string ((rd_T32 t531 x5_1).f1), .string ((rd_T32 t531 x5_1).f2), .slice A540_3 ((rd_T32 t531 x5_1).f3).length c540_3]] (impl_SealOk.calls k1 ((rd_T32 t531 x5_1).f0) ((rd_T32 t531 x5_1).f1) ((rd_T32 t531 x5_1).f2) _ _ ((rd_T32 t531 x5_1).f3) true _ (cl HL540_3) HC540_3.out A28.out) ?_
                intro w62 hb
                replace HO_3 := mk0 (Kd.S_below (rS HO_3.out) hb)
                replace HL540_3 := mk0 (Kd.R_below (rr HL540_3.out) hb)
                replace BK541 := mk0 (blk_below (kb BK541.out) hb)
                replace HB := mk0 (below_step (bg GE541) hb)
                (try clear hb); (try clear hk)
                refine hK.out _ _ ah (fun hHeld => ?_)
                clear hK K
                refine nr (some 36) ?_
                refine pu 10 (some 37) HT_ ?_
                refine pu 11 (some 38) HT_ ?_
                refine pu 12 (some 39) HT_ ?_
                refine pu 14 (some 41) HT_ ?_
                refine pu 16 (some 43) HT_ ?_
                refine pu 18 (some 45) HT_ ?_
                refine tk 13 (some 40) HT_ HW_ hHeld ?_
                refine tk 15 (some 42) HT_ HW_ hHeld ?_
                refine tk 17 (some 44) HT_ HW_ hHeld ?_
                refine tk 19 (some 46) HT_ HW_ hHeld ?_
                refine on 20 (some 47) HT_ (fun K hK => ?_)
                refine oB Try.func11 #[.int .i64 ((rd_T32 t531 x5_1).f0), .string ((rd_T32 t531 x5_1).f1), .slice A540_3 ((rd_T32 t531 x5_1).f3).length c540_3] (impl_SuperOf.calls k1 ((rd_T32 t531 x5_1).f0) ((rd_T32 t531 x5_1).f1) _ _ ((rd_T32 t531 x5_1).f3) t545 _ (cl HL540_3) HC540_3.out A30.out) ?_
                intro w63 hb
                replace HO_3 := mk0 (Kd.S_below (rS HO_3.out) hb)
                replace HL540_3 := mk0 (Kd.R_below (rr HL540_3.out) hb)
                replace BK541 := mk0 (blk_below (kb BK541.out) hb)
                replace HB := mk0 (below_step (bg GE541) hb)
                (try clear hb); (try clear hk)
                refine hK.out _ _ ah (fun hHeld => ?_)
                clear hK K
                refine nr (some 47) ?_
                refine pu 21 (some 48) HT_ ?_
                refine pu 22 (some 49) HT_ ?_
                refine pu 23 (some 50) HT_ ?_
                refine un 24 (some 51) HT_ ?_
                refine un 25 (some 52) HT_ ?_
                refine un 26 (some 53) HT_ ?_
                refine un 27 (some 54) HT_ ?_
                refine un 28 (some 55) HT_ ?_
                refine pu 29 (some 56) HT_ ?_
                refine pu 30 (some 57) HT_ ?_
                refine pu 31 (some 58) HT_ ?_
                refine dn HT_ ?_
                try go_wp2
                go_ret
                exact ⟨sw, (bg GE541)⟩
            · replace H := jf H
              obtain rfl := Option.some.inj H
              have p540 : 0 ≤ (x5_1 : Int) := oa
              have q540 : x5_1 < (t531.length : Int) := oa
              obtain ⟨ad540, A540_3, c540_3, e540, hx540_0, hx540_1, hx540_2, hx540_3, hl540_3, hi540_3⟩ := at_T32 (Kd.S_reads' HO_3.out).2.2 x5_1 p540 q540
              cases e540
              obtain ⟨ce540, hce540, hMe540, hcc540⟩ := Kd.S_get HO_3.out z32 x5_1 p540 (by first | exact q540 | exact oa | (have e_ := (Kd.S_reads' HO_3.out).1; omega))
              obtain ⟨ve540_3, rfl, ge540_3⟩ := k32_openM hMe540
              have hv540_3 := hcc540 3 _ rfl
              rw [add_field _ _ 3 (by omega)] at hv540_3
              replace hv540_3 := Option.some.inj (hv540_3.symm.trans hx540_3)
              rw [hv540_3] at ge540_3
              have HL540_3 := mk0 (show Kd.R Kd.string 9 _ _ _ _ ((rd_T32 t531 x5_1).f3) from ge540_3)
              clear hv540_3 ge540_3
              clear hcc540 hce540
              have HR540_3 := mk0 hi540_3
              have HC540_3 := mk0 hl540_3
              clear hi540_3 hl540_3
              replace p540 := eq_true p540
              replace q540 := eq_true q540
              try go_wp2_with (first | ((with_reducible refine gD 6 rfl ?_); refine bx0 6 #[.int .i64 0, .string (⟨#[]⟩ : ByteArray), .string (⟨#[]⟩ : ByteArray), .slice none 0 0] 32 ?_; intro gb541 hg w64 hbox hb; replace HO_3 := mk0 (Kd.S_below (Kd.S_elderB (rS HO_3.out) gb541 (Nat.le_of_eq hg.symm)) hb); replace HL540_3 := mk0 (Kd.R_below (rr HL540_3.out) hb); replace HR540_3 := mk0 (Kd.C_below (by repeat (first | (with_reducible exact HR540_3.out) | (with_reducible refine Kd.C_alloc ?_ _) | (with_reducible refine Kd.C_drewN ?_ _) | (with_reducible refine Kd.C_drew ?_) | exact HR540_3.out)) hb); have BK541 := mk0 (hbox); have GW541 := mk0 ((by rw [hg]; exact bs : w.heap.size ≤ gb541)); have GE541 := mk0 ((by rw [hg]; exact bs : w.heap.size ≤ gb541)); replace HB := mk0 (below_step bw hb); clear hb hbox hg; obtain ⟨hcz65_0, hcz65_1, hcz65_2, hcz65_3, hfz65_0, hfz65_1, hfz65_2, hfz65_3⟩ := z4 BK541))
              have n0_ : Aside0 (Kd.S k32 32 ((((w64.setCell ⟨gb541, 0, none⟩ (.int .i64 ((rd_T32 t531 x5_1).f0))).setCell ⟨gb541, 1, none⟩ (.string ((rd_T32 t531 x5_1).f1))).setCell ⟨gb541, 2, none⟩ (.string ((rd_T32 t531 x5_1).f2))).setCell ⟨gb541, 3, none⟩ (.slice A540_3 ((rd_T32 t531 x5_1).f3).length c540_3)) w.heap.size (fun k_ => k_ ≠ gb541) (.slice (some ad540) t531.length co13) t531) := ⟨by (with_reducible repeat (first | apply Kd.S_alloc | apply Kd.S_drewN | apply Kd.S_drew)); exact Kd.S_mono (Kd.S_far (p := ⟨gb541, 3, none⟩) (Kd.S_far (p := ⟨gb541, 2, none⟩) (Kd.S_far (p := ⟨gb541, 1, none⟩) (Kd.S_far (p := ⟨gb541, 0, none⟩) (Kd.S_mono HO_3.out (fun k_ hk => (⟨hk, hk.2⟩ : _ ∧ k_ ≠ gb541))) (fun _ hk => hk.2) (.int .i64 ((rd_T32 t531 x5_1).f0))) (fun _ hk => hk.2) (.string ((rd_T32 t531 x5_1).f1))) (fun _ hk => hk.2) (.string ((rd_T32 t531 x5_1).f2))) (fun _ hk => hk.2) (.slice A540_3 ((rd_T32 t531 x5_1).f3).length c540_3)) (fun _ hk => hk.1.2)⟩
              have n1_ : Aside0 (Kd.R Kd.string 9 ((((w64.setCell ⟨gb541, 0, none⟩ (.int .i64 ((rd_T32 t531 x5_1).f0))).setCell ⟨gb541, 1, none⟩ (.string ((rd_T32 t531 x5_1).f1))).setCell ⟨gb541, 2, none⟩ (.string ((rd_T32 t531 x5_1).f2))).setCell ⟨gb541, 3, none⟩ (.slice A540_3 ((rd_T32 t531 x5_1).f3).length c540_3)) w.heap.size (fun k_ => some k_ ≠ (.slice (some ad540) t531.length co13 : Value).ownBlock) (.slice A540_3 ((rd_T32 t531 x5_1).f3).length c540_3) ((rd_T32 t531 x5_1).f3)) := ⟨by (with_reducible repeat (first | apply Kd.R_alloc | apply Kd.R_drewN | apply Kd.R_drew)); exact Kd.R_mono (Kd.R_far (p := ⟨gb541, 3, none⟩) (Kd.R_far (p := ⟨gb541, 2, none⟩) (Kd.R_far (p := ⟨gb541, 1, none⟩) (Kd.R_far (p := ⟨gb541, 0, none⟩) (Kd.R_types HL540_3.out BK541.out (by decide)) (fun _ hk => hk.2) (.int .i64 ((rd_T32 t531 x5_1).f0))) (fun _ hk => hk.2) (.string ((rd_T32 t531 x5_1).f1))) (fun _ hk => hk.2) (.string ((rd_T32 t531 x5_1).f2))) (fun _ hk => hk.2) (.slice A540_3 ((rd_T32 t531 x5_1).f3).length c540_3)) (fun _ hk => hk.1.2)⟩
              have n2_ : Aside0 (((((w64.setCell ⟨gb541, 0, none⟩ (.int .i64 ((rd_T32 t531 x5_1).f0))).setCell ⟨gb541, 1, none⟩ (.string ((rd_T32 t531 x5_1).f1))).setCell ⟨gb541, 2, none⟩ (.string ((rd_T32 t531 x5_1).f2))).setCell ⟨gb541, 3, none⟩ (.slice A540_3 ((rd_T32 t531 x5_1).f3).length c540_3)).heap[gb541]? = some (.cells #[.int .i64 ((rd_T32 t531 x5_1).f0), .string ((rd_T32 t531 x5_1).f1), .string ((rd_T32 t531 x5_1).f2), .slice A540_3 ((rd_T32 t531 x5_1).f3).length c540_3] 32 (0, 0))) := ⟨by (with_reducible repeat (first | refine blk_drewN ?_ _ | refine blk_drew ?_ | refine blk_alloc ?_ _)); refine blk_put (cs := #[.int .i64 ((rd_T32 t531 x5_1).f0), .string ((rd_T32 t531 x5_1).f1), .string ((rd_T32 t531 x5_1).f2), .slice none 0 0]) ?_ 3 _ rfl; (with_reducible repeat (first | refine blk_drewN ?_ _ | refine blk_drew ?_ | refine blk_alloc ?_ _)); refine blk_put (cs := #[.int .i64 ((rd_T32 t531 x5_1).f0), .string ((rd_T32 t531 x5_1).f1), .string (⟨#[]⟩ : ByteArray), .slice none 0 0]) ?_ 2 _ rfl; (with_reducible repeat (first | refine blk_drewN ?_ _ | refine blk_drew ?_ | refine blk_alloc ?_ _)); refine blk_put (cs := #[.int .i64 ((rd_T32 t531 x5_1).f0), .string (⟨#[]⟩ : ByteArray), .string (⟨#[]⟩ : ByteArray), .slice none 0 0]) ?_ 1 _ rfl; (with_reducible repeat (first | refine blk_drewN ?_ _ | refine blk_drew ?_ | refine blk_alloc ?_ _)); refine blk_put (cs := #[.int .i64 0, .string (⟨#[]⟩ : ByteArray), .string (⟨#[]⟩ : ByteArray), .slice none 0 0]) ?_ 0 _ rfl; (with_reducible repeat (first | refine blk_drewN ?_ _ | refine blk_drew ?_ | refine blk_alloc ?_ _)); exact BK541.out⟩
              have n3_ : Aside0 (Below w.heap.size w ((((w64.setCell ⟨gb541, 0, none⟩ (.int .i64 ((rd_T32 t531 x5_1).f0))).setCell ⟨gb541, 1, none⟩ (.string ((rd_T32 t531 x5_1).f1))).setCell ⟨gb541, 2, none⟩ (.string ((rd_T32 t531 x5_1).f2))).setCell ⟨gb541, 3, none⟩ (.slice A540_3 ((rd_T32 t531 x5_1).f3).length c540_3))) := ⟨(bg GE541)⟩
              (try clear HO_3); (try clear HL540_3); (try clear BK541); (try clear HB)
              generalize ((((w64.setCell ⟨gb541, 0, none⟩ (.int .i64 ((rd_T32 t531 x5_1).f0))).setCell ⟨gb541, 1, none⟩ (.string ((rd_T32 t531 x5_1).f1))).setCell ⟨gb541, 2, none⟩ (.string ((rd_T32 t531 x5_1).f2))).setCell ⟨gb541, 3, none⟩ (.slice A540_3 ((rd_T32 t531 x5_1).f3).length c540_3)) = w66 at n0_ n1_ n2_ n3_ ⊢
              have HO_3 := n0_
              have HL540_3 := n1_
              have BK541 := n2_
              have HB := n3_
              clear n0_ n1_ n2_ n3_
              replace HO_3 := mk0 (Kd.S_drew HO_3.out)
              replace HL540_3 := mk0 (Kd.R_drew HL540_3.out)
              replace BK541 := mk0 (blk_drew BK541.out)
              replace HB := mk0 (below_drew1 HB.out)
              refine st 32 laws_FnChains.tab11 laws_FnChains.bits11 (b4 BK541 n_) (fun hHeld HT_ HW_ => ?_)
              generalize w66.drew = w67 at HO_3 HL540_3 BK541 HB hHeld ⊢
              refine tk 0 (some 27) HT_ HW_ hHeld ?_
              refine tk 2 (some 29) HT_ HW_ hHeld ?_
              refine on 1 (some 28) HT_ (fun K hK => ?_)
              refine oB Try.func16 #[.agg #[.int .i64 ((rd_T32 t531 x5_1).f0), .string ((rd_T32 t531 x5_1).f1), .string ((rd_T32 t531 x5_1).f2), .slice A540_3 ((rd_T32 t531 x5_1).f3).length c540_3]] (impl_SealOk.calls k1 ((rd_T32 t531 x5_1).f0) ((rd_T32 t531 x5_1).f1) ((rd_T32 t531 x5_1).f2) _ _ ((rd_T32 t531 x5_1).f3) t542 _ (cl HL540_3) HC540_3.out A18.out) ?_
              intro w68 hb
              replace HO_3 := mk0 (Kd.S_below (rS HO_3.out) hb)
              replace HL540_3 := mk0 (Kd.R_below (rr HL540_3.out) hb)
              replace BK541 := mk0 (blk_below (kb BK541.out) hb)
              replace HB := mk0 (below_step (bg GE541) hb)
              (try clear hb); (try clear hk)
              refine hK.out _ _ ah (fun hHeld => ?_)
              clear hK K
              refine nr (some 28) ?_
              refine on 3 (some 30) HT_ (fun K hK => ?_)
              refine oB Try.func14 #[.agg #[.int .i64 ((rd_T32 t531 x5_1).f0), .string ((rd_T32 t531 x5_1).f1), .string ((rd_T32 t531 x5_1).f2), .slice A540_3 ((rd_T32 t531 x5_1).f3).length c540_3]] (spec_SealOk.calls k1 ((rd_T32 t531 x5_1).f0) ((rd_T32 t531 x5_1).f1) ((rd_T32 t531 x5_1).f2) _ _ ((rd_T32 t531 x5_1).f3) t543 _ (cl HL540_3) HC540_3.out A19.out) ?_
              intro w69 hb
              replace HO_3 := mk0 (Kd.S_below (rS HO_3.out) hb)
              replace HL540_3 := mk0 (Kd.R_below (rr HL540_3.out) hb)
              replace BK541 := mk0 (blk_below (kb BK541.out) hb)
              replace HB := mk0 (below_step (bg GE541) hb)
              (try clear hb); (try clear hk)
              refine hK.out _ _ ah (fun hHeld => ?_)
              clear hK K
              refine nr (some 30) ?_
              refine pu 4 (some 31) HT_ ?_
              refine pu 5 (some 32) HT_ ?_
              refine pu 6 (some 33) HT_ ?_
              refine pu 7 (some 34) HT_ ?_
              refine tk 8 (some 35) HT_ HW_ hHeld ?_
              refine on 9 (some 36) HT_ (fun K hK => ?_)
              refine oB Try.func16 #[.agg #[.int .i64 ((rd_T32 t531 x5_1).f0), .string ((rd_T32 t531 x5_1).f1), .string ((rd_T32 t531 x5_1).f2), .slice A540_3 ((rd_T32 t531 x5_1).f3).length c540_3]] (impl_SealOk.calls k1 ((rd_T32 t531 x5_1).f0) ((rd_T32 t531 x5_1).f1) ((rd_T32 t531 x5_1).f2) _ _ ((rd_T32 t531 x5_1).f3) false _ (cl HL540_3) HC540_3.out A28.out) ?_
              intro w70 hb
              replace HO_3 := mk0 (Kd.S_below (rS HO_3.out) hb)
              replace HL540_3 := mk0 (Kd.R_below (rr HL540_3.out) hb)
              replace BK541 := mk0 (blk_below (kb BK541.out) hb)
              replace HB := mk0 (below_step (bg GE541) hb)
              (try clear hb); (try clear hk)
              refine hK.out _ _ ah (fun hHeld => ?_)
              clear hK K
              refine nr (some 36) ?_
              refine pu 10 (some 37) HT_ ?_
              refine pu 11 (some 38) HT_ ?_
              refine un 12 (some 39) HT_ ?_
              refine un 13 (some 40) HT_ ?_
              refine un 14 (some 41) HT_ ?_
              refine un 15 (some 42) HT_ ?_
              refine un 16 (some 43) HT_ ?_
              refine un 17 (some 44) HT_ ?_
              refine un 18 (some 45) HT_ ?_
              refine un 19 (some 46) HT_ ?_
              refine un 20 (some 47) HT_ ?_
              refine un 21 (some 48) HT_ ?_
              refine pu 22 (some 49) HT_ ?_
              refine pu 23 (some 50) HT_ ?_
              refine un 24 (some 51) HT_ ?_
              refine un 25 (some 52) HT_ ?_
              refine un 26 (some 53) HT_ ?_
              refine un 27 (some 54) HT_ ?_
              refine un 28 (some 55) HT_ ?_
              refine pu 29 (some 56) HT_ ?_
              refine pu 30 (some 57) HT_ ?_
              refine pu 31 (some 58) HT_ ?_
              refine dn HT_ ?_
              try go_wp2
              go_ret
              exact ⟨sw, (bg GE541)⟩
          · replace H := jf H
            have H' := mk0 H
            clear H
            have p540 : 0 ≤ (x5_1 : Int) := oa
            have q540 : x5_1 < (t531.length : Int) := oa
            obtain ⟨ad540, A540_3, c540_3, e540, hx540_0, hx540_1, hx540_2, hx540_3, hl540_3, hi540_3⟩ := at_T32 (Kd.S_reads' HO_3.out).2.2 x5_1 p540 q540
            cases e540
            obtain ⟨ce540, hce540, hMe540, hcc540⟩ := Kd.S_get HO_3.out z32 x5_1 p540 (by first | exact q540 | exact oa | (have e_ := (Kd.S_reads' HO_3.out).1; omega))
            obtain ⟨ve540_3, rfl, ge540_3⟩ := k32_openM hMe540
            have hv540_3 := hcc540 3 _ rfl
            rw [add_field _ _ 3 (by omega)] at hv540_3
            replace hv540_3 := Option.some.inj (hv540_3.symm.trans hx540_3)
            rw [hv540_3] at ge540_3
            have HL540_3 := mk0 (show Kd.R Kd.string 9 _ _ _ _ ((rd_T32 t531 x5_1).f3) from ge540_3)
            clear hv540_3 ge540_3
            clear hcc540 hce540
            have HR540_3 := mk0 hi540_3
            have HC540_3 := mk0 hl540_3
            clear hi540_3 hl540_3
            replace p540 := eq_true p540
            replace q540 := eq_true q540
            try go_wp2_with (first | ((with_reducible refine gD 6 rfl ?_); refine bx0 6 #[.int .i64 0, .string (⟨#[]⟩ : ByteArray), .string (⟨#[]⟩ : ByteArray), .slice none 0 0] 32 ?_; intro gb541 hg w71 hbox hb; replace HO_3 := mk0 (Kd.S_below (Kd.S_elderB (rS HO_3.out) gb541 (Nat.le_of_eq hg.symm)) hb); replace HL540_3 := mk0 (Kd.R_below (rr HL540_3.out) hb); replace HR540_3 := mk0 (Kd.C_below (by repeat (first | (with_reducible exact HR540_3.out) | (with_reducible refine Kd.C_alloc ?_ _) | (with_reducible refine Kd.C_drewN ?_ _) | (with_reducible refine Kd.C_drew ?_) | exact HR540_3.out)) hb); have BK541 := mk0 (hbox); have GW541 := mk0 ((by rw [hg]; exact bs : w.heap.size ≤ gb541)); have GE541 := mk0 ((by rw [hg]; exact bs : w.heap.size ≤ gb541)); replace HB := mk0 (below_step bw hb); clear hb hbox hg; obtain ⟨hcz72_0, hcz72_1, hcz72_2, hcz72_3, hfz72_0, hfz72_1, hfz72_2, hfz72_3⟩ := z4 BK541))
            have n0_ : Aside0 (Kd.S k32 32 ((((w71.setCell ⟨gb541, 0, none⟩ (.int .i64 ((rd_T32 t531 x5_1).f0))).setCell ⟨gb541, 1, none⟩ (.string ((rd_T32 t531 x5_1).f1))).setCell ⟨gb541, 2, none⟩ (.string ((rd_T32 t531 x5_1).f2))).setCell ⟨gb541, 3, none⟩ (.slice A540_3 ((rd_T32 t531 x5_1).f3).length c540_3)) w.heap.size (fun k_ => k_ ≠ gb541) (.slice (some ad540) t531.length co13) t531) := ⟨by (with_reducible repeat (first | apply Kd.S_alloc | apply Kd.S_drewN | apply Kd.S_drew)); exact Kd.S_mono (Kd.S_far (p := ⟨gb541, 3, none⟩) (Kd.S_far (p := ⟨gb541, 2, none⟩) (Kd.S_far (p := ⟨gb541, 1, none⟩) (Kd.S_far (p := ⟨gb541, 0, none⟩) (Kd.S_mono HO_3.out (fun k_ hk => (⟨hk, hk.2⟩ : _ ∧ k_ ≠ gb541))) (fun _ hk => hk.2) (.int .i64 ((rd_T32 t531 x5_1).f0))) (fun _ hk => hk.2) (.string ((rd_T32 t531 x5_1).f1))) (fun _ hk => hk.2) (.string ((rd_T32 t531 x5_1).f2))) (fun _ hk => hk.2) (.slice A540_3 ((rd_T32 t531 x5_1).f3).length c540_3)) (fun _ hk => hk.1.2)⟩
            have n1_ : Aside0 (Kd.R Kd.string 9 ((((w71.setCell ⟨gb541, 0, none⟩ (.int .i64 ((rd_T32 t531 x5_1).f0))).setCell ⟨gb541, 1, none⟩ (.string ((rd_T32 t531 x5_1).f1))).setCell ⟨gb541, 2, none⟩ (.string ((rd_T32 t531 x5_1).f2))).setCell ⟨gb541, 3, none⟩ (.slice A540_3 ((rd_T32 t531 x5_1).f3).length c540_3)) w.heap.size (fun k_ => some k_ ≠ (.slice (some ad540) t531.length co13 : Value).ownBlock) (.slice A540_3 ((rd_T32 t531 x5_1).f3).length c540_3) ((rd_T32 t531 x5_1).f3)) := ⟨by (with_reducible repeat (first | apply Kd.R_alloc | apply Kd.R_drewN | apply Kd.R_drew)); exact Kd.R_mono (Kd.R_far (p := ⟨gb541, 3, none⟩) (Kd.R_far (p := ⟨gb541, 2, none⟩) (Kd.R_far (p := ⟨gb541, 1, none⟩) (Kd.R_far (p := ⟨gb541, 0, none⟩) (Kd.R_types HL540_3.out BK541.out (by decide)) (fun _ hk => hk.2) (.int .i64 ((rd_T32 t531 x5_1).f0))) (fun _ hk => hk.2) (.string ((rd_T32 t531 x5_1).f1))) (fun _ hk => hk.2) (.string ((rd_T32 t531 x5_1).f2))) (fun _ hk => hk.2) (.slice A540_3 ((rd_T32 t531 x5_1).f3).length c540_3)) (fun _ hk => hk.1.2)⟩
            have n2_ : Aside0 (((((w71.setCell ⟨gb541, 0, none⟩ (.int .i64 ((rd_T32 t531 x5_1).f0))).setCell ⟨gb541, 1, none⟩ (.string ((rd_T32 t531 x5_1).f1))).setCell ⟨gb541, 2, none⟩ (.string ((rd_T32 t531 x5_1).f2))).setCell ⟨gb541, 3, none⟩ (.slice A540_3 ((rd_T32 t531 x5_1).f3).length c540_3)).heap[gb541]? = some (.cells #[.int .i64 ((rd_T32 t531 x5_1).f0), .string ((rd_T32 t531 x5_1).f1), .string ((rd_T32 t531 x5_1).f2), .slice A540_3 ((rd_T32 t531 x5_1).f3).length c540_3] 32 (0, 0))) := ⟨by (with_reducible repeat (first | refine blk_drewN ?_ _ | refine blk_drew ?_ | refine blk_alloc ?_ _)); refine blk_put (cs := #[.int .i64 ((rd_T32 t531 x5_1).f0), .string ((rd_T32 t531 x5_1).f1), .string ((rd_T32 t531 x5_1).f2), .slice none 0 0]) ?_ 3 _ rfl; (with_reducible repeat (first | refine blk_drewN ?_ _ | refine blk_drew ?_ | refine blk_alloc ?_ _)); refine blk_put (cs := #[.int .i64 ((rd_T32 t531 x5_1).f0), .string ((rd_T32 t531 x5_1).f1), .string (⟨#[]⟩ : ByteArray), .slice none 0 0]) ?_ 2 _ rfl; (with_reducible repeat (first | refine blk_drewN ?_ _ | refine blk_drew ?_ | refine blk_alloc ?_ _)); refine blk_put (cs := #[.int .i64 ((rd_T32 t531 x5_1).f0), .string (⟨#[]⟩ : ByteArray), .string (⟨#[]⟩ : ByteArray), .slice none 0 0]) ?_ 1 _ rfl; (with_reducible repeat (first | refine blk_drewN ?_ _ | refine blk_drew ?_ | refine blk_alloc ?_ _)); refine blk_put (cs := #[.int .i64 0, .string (⟨#[]⟩ : ByteArray), .string (⟨#[]⟩ : ByteArray), .slice none 0 0]) ?_ 0 _ rfl; (with_reducible repeat (first | refine blk_drewN ?_ _ | refine blk_drew ?_ | refine blk_alloc ?_ _)); exact BK541.out⟩
            have n3_ : Aside0 (Below w.heap.size w ((((w71.setCell ⟨gb541, 0, none⟩ (.int .i64 ((rd_T32 t531 x5_1).f0))).setCell ⟨gb541, 1, none⟩ (.string ((rd_T32 t531 x5_1).f1))).setCell ⟨gb541, 2, none⟩ (.string ((rd_T32 t531 x5_1).f2))).setCell ⟨gb541, 3, none⟩ (.slice A540_3 ((rd_T32 t531 x5_1).f3).length c540_3))) := ⟨(bg GE541)⟩
            (try clear HO_3); (try clear HL540_3); (try clear BK541); (try clear HB)
            generalize ((((w71.setCell ⟨gb541, 0, none⟩ (.int .i64 ((rd_T32 t531 x5_1).f0))).setCell ⟨gb541, 1, none⟩ (.string ((rd_T32 t531 x5_1).f1))).setCell ⟨gb541, 2, none⟩ (.string ((rd_T32 t531 x5_1).f2))).setCell ⟨gb541, 3, none⟩ (.slice A540_3 ((rd_T32 t531 x5_1).f3).length c540_3)) = w73 at n0_ n1_ n2_ n3_ ⊢
            have HO_3 := n0_
            have HL540_3 := n1_
            have BK541 := n2_
            have HB := n3_
            clear n0_ n1_ n2_ n3_
            replace HO_3 := mk0 (Kd.S_drew HO_3.out)
            replace HL540_3 := mk0 (Kd.R_drew HL540_3.out)
            replace BK541 := mk0 (blk_drew BK541.out)
            replace HB := mk0 (below_drew1 HB.out)
            refine st 32 laws_FnChains.tab11 laws_FnChains.bits11 (b4 BK541 n_) (fun hHeld HT_ HW_ => ?_)
            generalize w73.drew = w74 at HO_3 HL540_3 BK541 HB hHeld ⊢
            refine tk 0 (some 27) HT_ HW_ hHeld ?_
            refine tk 2 (some 29) HT_ HW_ hHeld ?_
            refine on 1 (some 28) HT_ (fun K hK => ?_)
            refine oB Try.func16 #[.agg #[.int .i64 ((rd_T32 t531 x5_1).f0), .string ((rd_T32 t531 x5_1).f1), .string ((rd_T32 t531 x5_1).f2), .slice A540_3 ((rd_T32 t531 x5_1).f3).length c540_3]] (impl_SealOk.calls k1 ((rd_T32 t531 x5_1).f0) ((rd_T32 t531 x5_1).f1) ((rd_T32 t531 x5_1).f2) _ _ ((rd_T32 t531 x5_1).f3) t542 _ (cl HL540_3) HC540_3.out A18.out) ?_
            intro w75 hb
            replace HO_3 := mk0 (Kd.S_below (rS HO_3.out) hb)
            replace HL540_3 := mk0 (Kd.R_below (rr HL540_3.out) hb)
            replace BK541 := mk0 (blk_below (kb BK541.out) hb)
            replace HB := mk0 (below_step (bg GE541) hb)
            (try clear hb); (try clear hk)
            refine hK.out _ _ ah (fun hHeld => ?_)
            clear hK K
            refine nr (some 28) ?_
            refine on 3 (some 30) HT_ (fun K hK => ?_)
            refine oB Try.func14 #[.agg #[.int .i64 ((rd_T32 t531 x5_1).f0), .string ((rd_T32 t531 x5_1).f1), .string ((rd_T32 t531 x5_1).f2), .slice A540_3 ((rd_T32 t531 x5_1).f3).length c540_3]] (spec_SealOk.calls k1 ((rd_T32 t531 x5_1).f0) ((rd_T32 t531 x5_1).f1) ((rd_T32 t531 x5_1).f2) _ _ ((rd_T32 t531 x5_1).f3) t543 _ (cl HL540_3) HC540_3.out A19.out) ?_
            intro w76 hb
            replace HO_3 := mk0 (Kd.S_below (rS HO_3.out) hb)
            replace HL540_3 := mk0 (Kd.R_below (rr HL540_3.out) hb)
            replace BK541 := mk0 (blk_below (kb BK541.out) hb)
            replace HB := mk0 (below_step (bg GE541) hb)
            (try clear hb); (try clear hk)
            refine hK.out _ _ ah (fun hHeld => ?_)
            clear hK K
            refine nr (some 30) ?_
            refine pu 4 (some 31) HT_ ?_
            refine pu 5 (some 32) HT_ ?_
            refine pu 6 (some 33) HT_ ?_
            refine pu 7 (some 34) HT_ ?_
            refine un 8 (some 35) HT_ ?_
            refine un 9 (some 36) HT_ ?_
            refine un 10 (some 37) HT_ ?_
            refine un 11 (some 38) HT_ ?_
            refine un 12 (some 39) HT_ ?_
            refine un 13 (some 40) HT_ ?_
            refine un 14 (some 41) HT_ ?_
            refine un 15 (some 42) HT_ ?_
            refine un 16 (some 43) HT_ ?_
            refine un 17 (some 44) HT_ ?_
            refine un 18 (some 45) HT_ ?_
            refine un 19 (some 46) HT_ ?_
            refine un 20 (some 47) HT_ ?_
            refine un 21 (some 48) HT_ ?_
            refine un 22 (some 49) HT_ ?_
            refine un 23 (some 50) HT_ ?_
            refine un 24 (some 51) HT_ ?_
            refine un 25 (some 52) HT_ ?_
            refine un 26 (some 53) HT_ ?_
            refine un 27 (some 54) HT_ ?_
            refine un 28 (some 55) HT_ ?_
            refine un 29 (some 56) HT_ ?_
            refine pu 30 (some 57) HT_ ?_
            refine pu 31 (some 58) HT_ ?_
            refine dn HT_ ?_
            try go_wp2
            go_roundg k1
            case measure => have := HK1.out; omega
            case rel => exact ⟨(wrap64 (x5_1 + 1)), sv, H', hk1, ⟨by (with_reducible repeat (first | apply Kd.S_alloc | apply Kd.S_drewN | apply Kd.S_drew)); exact Kd.S_mono HO_3.out (fun _ hk => trivial)⟩, ⟨(bg GE541)⟩⟩
      · obtain ⟨y536, hy536⟩ : ∃ y_ : List (S32), y_ = (([] : List (S32))) := ⟨_, rfl⟩
        replace H : ((impl_ChainOk.f k1 y536).bind fun t539 => (some t539)) = some r := by first | (rw [hy536]; with_reducible exact H) | (have H2_ := (Option.bind_some _ _).symm.trans H; rw [hy536]; with_reducible exact H2_) | (have H2_ := (Option.bind_some _ _).symm.trans H; with_reducible exact H2_) | with_reducible exact H | (rw [hy536]; exact H) | exact H
        have Ny536 := mk0 hy536
        clear hy536
        replace H := bd H; obtain ⟨t539, A77, H⟩ := H
        obtain rfl := Option.some.inj H
        go_wp2_with (first | ((with_reducible refine gD 59 rfl ?_); refine Kd.S_lit k32 _ 32 ?hg (N := 59) ?hd (xs := ([] : List (S32))) (inner := []) (ok := fun _ => True) (okp := fun _ => True) ?hr ?hp (fun _ hk => hk) trivial (Below.refl _ _) (Nat.le_refl _) (by simp) ?_; (case hd => rfl); (case hg => rfl); (case hr => first | (go_simp; done) | (go_simp; rfl)); (case hp => exact (Reps.none _ _)); intro v537 w78 ho79 hb hg_ hnew_; clear hg_ hnew_; (first | rw [← Ny536.out] at ho79 | (simp only [Int.reduceToNat] at ho79; rw [← Ny536.out] at ho79)); have HO538 := mk0 (Kd.S_lower (Kd.S_new' ho79 (Kd.S_lt (rS HO_3.out))) bs); replace HO_3 := mk0 (Kd.S_elder' (rS HO_3.out) (Kd.S_base ho79) hb); replace HB := mk0 (below_step bw hb); clear hb ho79; obtain ⟨Ao80, co80, eo80⟩ := Kd.S_slice HO538.out; subst eo80) | ((with_reducible refine gC 20 (some 60) rfl rfl ?_); refine gB (some 60) Try.func20 #[.slice Ao80 y536.length co80] (impl_ChainOk.calls k1 _ _ y536 t539 _ (cc ((Kd.S_reads' HO538.out).2.2)) ((Kd.S_reads' HO538.out).2.1) A77.out) ?_; intro w81 hb; replace HO_3 := mk0 (Kd.S_below (rS HO_3.out) hb); replace HO538 := mk0 (Kd.S_below (rS HO538.out) hb); replace HB := mk0 (below_step bw hb); clear hb))
        go_ret
        exact ⟨sw, bw⟩
/-- THE ONE PURE STATEMENT of laws_FnChains: yours. -/
def laws_FnChains.Pure : Prop := ∀ (l0 : List Int), l0.length ≤ maxLen → l0.length * 1 ≤ 140737488351232 → (∀ x ∈ l0, (Lit.int .u8 x).wf = true) → ∃ k, laws_FnChains.f k l0 = some true
theorem laws_FnChains.walk (P : laws_FnChains.Pure) (a0 : Option Addr) (len0 cap0 : Nat) (z0 : List Int) (w : World) (w0 : (a0 = none ∧ len0 = 0 ∧ cap0 = 0 ∧ z0 = []) ∨ ∃ x, a0 = some x ∧ len0 ≤ cap0 ∧ cap0 ≤ maxLen ∧ z0.length = cap0 ∧ (∀ i, i < z0.length → w.cell? (x.add i) = some (.int .u8 (z0.getD i 0))) ∧ ∀ n ∈ z0, (Lit.int .u8 n).wf = true) (y0 : len0 * 1 ≤ 140737488351232) :
    Calls Try.prog 5 #[.slice a0 len0 cap0] w fun e w' => e = .returned (.bool true) ∧ Below w.heap.size w w' := by
  obtain ⟨l0, rfl, hr0, hm0, hw0, hc0⟩ := ReadsInt.ofRowC w0
  obtain ⟨k, h⟩ := P l0 hm0 y0 hw0
  refine (laws_FnChains.calls k _ _ l0 true w (Kd.C_of_reads (d := (0 : Int)) (h1 := fun _ => rfl) hr0) hc0 h).mono ?_
  rintro e w' ⟨rfl, hd⟩
  exact ⟨rfl, hd⟩

end Go.Proofs.Ytlekeiokdmnboaa.Pa
end

section
/- What the two programs' digests compute: SHA-256 of the same padded bytes; plain Lean over the printed functions. -/
namespace Go.Proofs.Ytlekeiokdmnboaa.Pu
open Go Go.RowKit Go.Proofs.YtlekeiokdmnboaaW.PrintWords Go.Proofs.YtlekeiokdmnboaaW.PrintLast Go.Proofs.YtlekeiokdmnboaaW.PrintMore Go.Proofs.Ytlekeiokdmnboaa.Pa Go.Proofs.Ytlekeiokdmnboaa.Sha
set_option linter.unusedVariables false

/-! ### The padding -/
def tail8 (v : Int) : Nat → List Int
  | 0 => []
  | j + 1 => (shr .i64 v (8 * (j : Int))) % 256 :: tail8 v j
theorem tail8_len (v : Int) (j : Nat) : (tail8 v j).length = j := by
  induction j with
  | zero => rfl
  | succ j ih => simp [tail8, ih]
theorem tail8_byte (v : Int) (j : Nat) : ∀ x ∈ tail8 v j, 0 ≤ x ∧ x ≤ 255 := by
  induction j with
  | zero => intro x hx; simp [tail8] at hx
  | succ j ih =>
    intro x hx
    rcases List.mem_cons.1 hx with rfl | hx
    · omega
    · exact ih x hx
theorem w64 (n : Int) (h : -9223372036854775808 ≤ n ∧ n ≤ 9223372036854775807) : wrap64 n = n := by unfold wrap64; omega
theorem u64_small (n : Int) (h0 : 0 ≤ n) (h1 : n < 18446744073709551616) : IntKind.u64.wrap n = n := by rw [IntKind.wrap_u64]; omega
theorem spec_tail (v : Int) (j : Nat) (hj : j ≤ 8) (l : List Int) (hl : l.length + j < 140737488355328) : Ev (fun k => spec_Padded.l1 k l v (8 * (j : Int) - 8)) (l ++ tail8 v j) := by
  induction j generalizing l with
  | zero =>
    refine Ev.step (fun k => ?_) (Ev.now _)
    show (if (8 * ((0 : Nat) : Int) - 8) ≥ 0 then _ else _) = _
    rw [if_neg (by omega)]; simp [tail8]
  | succ j ih =>
    have e := ih (by omega) (l ++ [(shr .i64 v (8 * (j : Int))) % 256]) (by simp only [List.length_append, List.length_singleton]; omega)
    rw [List.append_assoc, List.singleton_append] at e
    refine Ev.step (fun k => ?_) e
    show (if (8 * ((j + 1 : Nat) : Int) - 8) ≥ 0 then _ else _) = _
    have a1 : (8 * ((j + 1 : Nat) : Int) - 8) = 8 * (j : Int) := by omega
    rw [a1, if_pos (by omega), u64_small _ (by omega) (by omega), if_pos (by omega), if_pos (by omega), w64 _ (by omega)]
theorem impl_tail (v : Int) (j : Nat) (hj : j ≤ 8) (l : List Int) (hl : l.length + j < 140737488355328) : Ev (fun k => impl_Padded.l1 k l v ((j : Int) - 1)) (l ++ tail8 v j) := by
  induction j generalizing l with
  | zero =>
    refine Ev.step (fun k => ?_) (Ev.now _)
    show (if (((0 : Nat) : Int) - 1) ≥ 0 then _ else _) = _
    rw [if_neg (by omega)]; simp [tail8]
  | succ j ih =>
    have e := ih (by omega) (l ++ [(shr .i64 v (8 * (j : Int))) % 256]) (by simp only [List.length_append, List.length_singleton]; omega)
    rw [List.append_assoc, List.singleton_append] at e
    refine Ev.step (fun k => ?_) e
    show (if (((j + 1 : Nat) : Int) - 1) ≥ 0 then _ else _) = _
    have a1 : (((j + 1 : Nat) : Int) - 1) = (j : Int) := by omega
    rw [a1, if_pos (by omega), w64 _ (by omega), u64_small _ (by omega) (by omega), if_pos (by omega), if_pos (by omega), w64 _ (by omega)]
def pad (l : List Int) : List Int := (l ++ [128]) ++ (List.replicate ((119 - l.length % 64) % 64) 0 ++ tail8 ((l.length : Int) * 8) 8)
theorem spec_zeros (l0 : List Int) (h0 : l0.length < 140737488000000) (z : Nat) (l : List Int) (hz : z < 64) (hm : (l.length + z) % 64 = 56) (hl : l.length + z + 8 < 140737488355328) :
    Ev (fun k => spec_Padded.l0 k l0 l) (l ++ (List.replicate z 0 ++ tail8 ((l0.length : Int) * 8) 8)) := by
  induction z generalizing l with
  | zero =>
    refine Ev.step (fun k => ?_) (spec_tail _ 8 (by omega) l (by omega))
    show (if ((l.length : Int) % 64) = 56 then _ else _) = _
    rw [if_pos (by omega), w64 _ (by omega)]
    rfl
  | succ z ih =>
    have e := ih (l ++ [0]) (by omega) (by simp only [List.length_append, List.length_singleton]; omega) (by simp only [List.length_append, List.length_singleton]; omega)
    rw [List.append_assoc, List.singleton_append] at e
    refine Ev.step (fun k => ?_) e
    show (if ((l.length : Int) % 64) = 56 then _ else _) = _
    rw [if_neg (by omega), if_pos (by omega)]
theorem impl_zeros (l0 : List Int) (h0 : l0.length < 140737488000000) (z : Nat) (l : List Int) (hz : z < 64) (hm : (l.length + z) % 64 = 56) (hl : l.length + z + 8 < 140737488355328) :
    Ev (fun k => impl_Padded.l0 k l0 l) (l ++ (List.replicate z 0 ++ tail8 ((l0.length : Int) * 8) 8)) := by
  have tm : Int.tmod (wrap64 ((l.length : Int) + 8)) 64 = ((l.length : Int) + 8) % 64 := by
    rw [w64 _ (by omega), Int.tmod_eq_emod_of_nonneg (by omega)]
  induction z generalizing l with
  | zero =>
    refine Ev.step (fun k => ?_) (impl_tail _ 8 (by omega) l (by omega))
    show (if (Int.tmod (wrap64 ((l.length : Int) + 8)) 64) = 0 then _ else _) = _
    rw [tm, if_pos (by omega), w64 _ (by omega), Int.mul_comm]
    rfl
  | succ z ih =>
    have tm2 : Int.tmod (wrap64 (((l ++ [0]).length : Int) + 8)) 64 = (((l ++ [0]).length : Int) + 8) % 64 := by
      rw [w64 _ (by simp only [List.length_append, List.length_singleton]; omega), Int.tmod_eq_emod_of_nonneg (by omega)]
    have e := ih (l ++ [0]) (by omega) (by simp only [List.length_append, List.length_singleton]; omega) (by simp only [List.length_append, List.length_singleton]; omega) tm2
    rw [List.append_assoc, List.singleton_append] at e
    refine Ev.step (fun k => ?_) e
    show (if (Int.tmod (wrap64 ((l.length : Int) + 8)) 64) = 0 then _ else _) = _
    rw [tm, if_neg (by omega), if_pos (by omega)]
theorem padded_spec (l : List Int) (hl : l.length < 140737488000000) : Ev (fun k => spec_Padded.f k l) (pad l) := by
  refine Ev.congr (f := fun k => spec_Padded.l0 k l (l ++ [128])) (fun k => ?_) (spec_zeros l hl _ _ (by omega) (by simp only [List.length_append, List.length_singleton]; omega) (by simp only [List.length_append, List.length_singleton]; omega))
  show ((some ([] : List Int)).bind _) = _
  simp only [Option.bind_some, List.nil_append, List.length_nil, Nat.zero_add]
  rw [if_pos (by omega), if_pos (by omega)]
theorem padded_impl (l : List Int) (hl : l.length < 140737488000000) : Ev (fun k => impl_Padded.f k l) (pad l) := by
  refine Ev.congr (f := fun k => impl_Padded.l0 k l (l ++ [128])) (fun k => ?_) (impl_zeros l hl _ _ (by omega) (by simp only [List.length_append, List.length_singleton]; omega) (by simp only [List.length_append, List.length_singleton]; omega))
  show ((slices_Clone_byte_byte.f l).bind _) = _
  rw [show slices_Clone_byte_byte.f l = some l from if_pos (by omega)]
  simp only [Option.bind_some]
  rw [if_pos (by omega)]
theorem pad_len (l : List Int) : (pad l).length = l.length + 1 + (119 - l.length % 64) % 64 + 8 := by
  unfold pad
  simp only [List.length_append, List.length_singleton, List.length_replicate, tail8_len]
  omega
theorem pad_whole (l : List Int) (hl : l.length < 140737488000000) (hb : ∀ x ∈ l, 0 ≤ x ∧ x ≤ 255) : WholeB (pad l) := by
  refine ⟨by rw [pad_len]; omega, by rw [pad_len]; omega, by rw [pad_len]; omega, fun x hx => ?_⟩
  unfold pad at hx
  rcases List.mem_append.1 hx with hx | hx
  · rcases List.mem_append.1 hx with hx | hx
    · exact hb x hx
    · simp at hx; omega
  · rcases List.mem_append.1 hx with hx | hx
    · have := List.eq_of_mem_replicate hx; omega
    · exact tail8_byte _ _ x hx

/-! ### The reference's words -/
theorem or_plus (a b : Nat) (i : Nat) (hb : b < 2 ^ i) (ha : a % 2 ^ i = 0) : a ||| b = a + b := by
  have hq : a = 2 ^ i * (a / 2 ^ i) := by have := Nat.div_add_mod a (2 ^ i); omega
  rw [hq, ← Nat.two_pow_add_eq_or_of_lt hb]
theorem word64 (x0 x1 x2 x3 : Int) (h0 : 0 ≤ x0 ∧ x0 ≤ 255) (h1 : 0 ≤ x1 ∧ x1 ≤ 255) (h2 : 0 ≤ x2 ∧ x2 ≤ 255) (h3 : 0 ≤ x3 ∧ x3 ≤ 255) :
    Go.bits .or .i64 (Go.bits .or .i64 (Go.bits .or .i64 (wrap64 ((wrap64 x0) * 16777216)) (wrap64 ((wrap64 x1) * 65536))) (wrap64 ((wrap64 x2) * 256))) (wrap64 x3) = U (word x0 x1 x2 x3) := by
  obtain ⟨a, rfl⟩ := Int.eq_ofNat_of_zero_le h0.1
  obtain ⟨b, rfl⟩ := Int.eq_ofNat_of_zero_le h1.1
  obtain ⟨c, rfl⟩ := Int.eq_ofNat_of_zero_le h2.1
  obtain ⟨d, rfl⟩ := Int.eq_ofNat_of_zero_le h3.1
  have e0 : wrap64 ((wrap64 (a : Int)) * 16777216) = ((a * 16777216 : Nat) : Int) := by unfold wrap64; omega
  have e1 : wrap64 ((wrap64 (b : Int)) * 65536) = ((b * 65536 : Nat) : Int) := by unfold wrap64; omega
  have e2 : wrap64 ((wrap64 (c : Int)) * 256) = ((c * 256 : Nat) : Int) := by unfold wrap64; omega
  have e3 : wrap64 (d : Int) = ((d : Nat) : Int) := by unfold wrap64; omega
  have hk : ∀ n : Int, 0 ≤ n → n < 2 ^ 32 → IntKind.i64.wrap n = n := fun n x y => by rw [IntKind.wrap_i64]; omega
  rw [e0, e1, e2, e3, (bits_nat .i64 32 (by decide) hk _ _ (by omega) (by omega)).2, or_plus _ _ 24 (by omega) (by omega),
    (bits_nat .i64 32 (by decide) hk _ _ (by omega) (by omega)).2, or_plus _ _ 16 (by omega) (by omega),
    (bits_nat .i64 32 (by decide) hk _ _ (by omega) (by omega)).2, or_plus _ _ 8 (by omega) (by omega)]
  unfold U word
  have : ((a : Int) * 16777216 + (b : Int) * 65536 + (c : Int) * 256 + (d : Int)) = ((a * 16777216 + b * 65536 + c * 256 + d : Nat) : Int) := by omega
  rw [this, BitVec.ofInt_natCast, BitVec.toNat_ofNat]
  omega
theorem turn_spec (x : BitVec 32) (n : Nat) (h2 : 2 ≤ n) (h32 : n < 32) : spec_l2Turn.f (U x) (n : Int) = some (U (x.rotateRight n)) := by
  have hx := U_lt x
  have hx0 := U_nonneg x
  unfold spec_l2Turn.f
  rw [u64_small _ (by omega) (by omega), w64 (32 - (n : Int)) (by omega), u64_small (32 - (n : Int)) (by omega) (by omega), if_pos (by omega), if_pos (by omega)]
  have a1 : shr .i64 (U x) (n : Int) = U x / 2 ^ n := by
    show U x / 2 ^ min (n : Int).toNat 64 = _
    rw [show min (n : Int).toNat 64 = n by omega]
  have a2 : shl .i64 (U x) (32 - (n : Int)) = U x * 2 ^ (32 - n) := by
    show IntKind.i64.wrap (U x * 2 ^ min (32 - (n : Int)).toNat 64) = _
    rw [show min (32 - (n : Int)).toNat 64 = 32 - n by omega]
    have hp : (2 : Int) ^ (32 - n) ≤ 2 ^ 30 := by
      have := Nat.pow_le_pow_right (n := 2) (by decide) (show 32 - n ≤ 30 by omega)
      exact_mod_cast this
    have hp0 : (0 : Int) < 2 ^ (32 - n) := Int.pow_pos (by decide)
    have hle : U x * 2 ^ (32 - n) ≤ 4294967296 * 1073741824 := Int.mul_le_mul (by omega) (by simpa using hp) (by omega) (by omega)
    have hge : 0 ≤ U x * 2 ^ (32 - n) := Int.mul_nonneg hx0 (by omega)
    rw [IntKind.wrap_i64]; omega
  rw [a1, a2, turn64 x n h2 h32]
def wl (m : Nat → BitVec 32) (i : Nat) : List Int := (List.range i).map fun j => U (W m j)
theorem wl_len (m : Nat → BitVec 32) (i : Nat) : (wl m i).length = i := by simp [wl]
theorem wl_succ (m : Nat → BitVec 32) (i : Nat) : wl m (i + 1) = wl m i ++ [U (W m i)] := by simp [wl, List.range_succ]
theorem wl_at (m : Nat → BitVec 32) (i j : Nat) (h : j < i) : rd (wl m i) (j : Int) = U (W m j) := by simp [rd, wl, List.getD_eq_getElem?_getD, List.getElem?_map, List.getElem?_range h]
theorem words_lo (c : List Int) (hc : c.length = 64) (hb : ∀ i, 0 ≤ c.getD i 0 ∧ c.getD i 0 ≤ 255) (r : List Int) (h16 : Ev (fun k => spec_l2Words.l1 k (wl (wordAt c) 16) 16) r) (j i : Nat) (hj : 16 - i = j) (hi : i ≤ 16) :
    Ev (fun k => spec_l2Words.l0 k c (wl (wordAt c) i) (i : Int)) r := by
  induction j generalizing i with
  | zero =>
    obtain rfl : i = 16 := by omega
    refine Ev.step (fun k => ?_) h16
    show (if ((16 : Nat) : Int) < 16 then _ else _) = _
    rw [if_neg (by omega)]
  | succ j ih =>
    have e := ih (i + 1) (by omega) (by omega)
    refine Ev.step (fun k => ?_) e
    show (if (i : Int) < 16 then _ else _) = _
    rw [w64 (4 * (i : Int)) (by omega), w64 (4 * (i : Int) + 1) (by omega), w64 (4 * (i : Int) + 2) (by omega), w64 (4 * (i : Int) + 3) (by omega), w64 ((i : Int) + 1) (by omega), hc, wl_len]
    rw [if_pos (by omega), if_pos (by omega), if_pos (by omega), if_pos (by omega), if_pos (by omega), if_pos (by omega), if_pos (by omega), if_pos (by omega), if_pos (by omega), if_pos (by omega)]
    have g : ∀ (q : Nat) (z : Int), z = 4 * (i : Int) + q → rd c z = c.getD (4 * i + q) 0 := fun q z hz => by
      show c.getD z.toNat 0 = _
      congr 1
      omega
    rw [show rd c (4 * (i : Int)) = c.getD (4 * i) 0 from g 0 _ (by omega), show rd c (4 * (i : Int) + 1) = c.getD (4 * i + 1) 0 from g 1 _ (by omega), show rd c (4 * (i : Int) + 2) = c.getD (4 * i + 2) 0 from g 2 _ (by omega), show rd c (4 * (i : Int) + 3) = c.getD (4 * i + 3) 0 from g 3 _ (by omega),
      word64 _ _ _ _ (hb _) (hb _) (hb _) (hb _), wl_succ, W_low _ _ (by omega)]
    rfl
theorem sum4_in (a b c d : BitVec 32) : 0 ≤ U a + U b + U c + U d ∧ U a + U b + U c + U d < 4611686018427387904 := by
  have := U_lt a; have := U_lt b; have := U_lt c; have := U_lt d; have := U_nonneg a; have := U_nonneg b; have := U_nonneg c; have := U_nonneg d
  omega
theorem sum4 (a b c d : BitVec 32) : wrap64 (wrap64 (wrap64 (U a + U b) + U c) + U d) = U a + U b + U c + U d := by
  have := U_lt a; have := U_lt b; have := U_lt c; have := U_lt d; have := U_nonneg a; have := U_nonneg b; have := U_nonneg c; have := U_nonneg d
  unfold wrap64
  omega
theorem words_hi (m : Nat → BitVec 32) (j i : Nat) (hj : 64 - i = j) (h16 : 16 ≤ i) (hi : i ≤ 64) : Ev (fun k => spec_l2Words.l1 k (wl m i) (i : Int)) (wl m 64) := by
  induction j generalizing i with
  | zero =>
    obtain rfl : i = 64 := by omega
    refine Ev.step (fun k => ?_) (Ev.now _)
    show (if ((64 : Nat) : Int) < 64 then _ else _) = _
    rw [if_neg (by omega)]
  | succ j ih =>
    have e := ih (i + 1) (by omega) (by omega) (by omega)
    refine Ev.step (fun k => ?_) e
    show (if (i : Int) < 64 then _ else _) = _
    have b15 : wrap64 ((i : Int) - 15) = ((i - 15 : Nat) : Int) := by rw [w64 _ (by omega)]; omega
    have b2 : wrap64 ((i : Int) - 2) = ((i - 2 : Nat) : Int) := by rw [w64 _ (by omega)]; omega
    have b16 : wrap64 ((i : Int) - 16) = ((i - 16 : Nat) : Int) := by rw [w64 _ (by omega)]; omega
    have b7 : wrap64 ((i : Int) - 7) = ((i - 7 : Nat) : Int) := by rw [w64 _ (by omega)]; omega
    have t := fun x n h2 h32 => turn_spec x n h2 h32
    have t7 := t (W m (i - 15)) 7 (by omega) (by omega)
    have t18 := t (W m (i - 15)) 18 (by omega) (by omega)
    have t17 := t (W m (i - 2)) 17 (by omega) (by omega)
    have t19 := t (W m (i - 2)) 19 (by omega) (by omega)
    rw [b15, b2, b16, b7, wl_at _ _ _ (by omega), wl_at _ _ _ (by omega), wl_at _ _ _ (by omega), wl_at _ _ _ (by omega), wl_len, w64 ((i : Int) + 1) (by omega)]
    rw [if_pos (by omega), if_pos (by omega), if_pos (by omega), if_pos (by omega), if_pos (by omega)]
    rw [show spec_l2Turn.f (U (W m (i - 15))) 7 = _ from t7, show spec_l2Turn.f (U (W m (i - 15))) 18 = _ from t18, show spec_l2Turn.f (U (W m (i - 2))) 17 = _ from t17, show spec_l2Turn.f (U (W m (i - 2))) 19 = _ from t19]
    simp only [Option.bind_some]
    rw [if_pos (by omega), if_pos (by omega), if_pos (by omega), if_pos (by omega), if_pos (by omega)]
    have s3 := shr_U (W m (i - 15)) 3
    have s10 := shr_U (W m (i - 2)) 10
    rw [show (2 : Int) ^ 3 = 8 by decide] at s3
    rw [show (2 : Int) ^ 10 = 1024 by decide] at s10
    rw [s3, s10, xor64, xor64, xor64, xor64]
    have z0 : U ((W m (i - 15)).rotateRight 7 ^^^ (W m (i - 15)).rotateRight 18 ^^^ W m (i - 15) >>> 3) = U (sg0 (W m (i - 15))) := rfl
    have z1 : U ((W m (i - 2)).rotateRight 17 ^^^ (W m (i - 2)).rotateRight 19 ^^^ W m (i - 2) >>> 10) = U (sg1 (W m (i - 2))) := rfl
    rw [z0, z1]
    rw [sum4, mask64 _ (sum4_in _ _ _ _).1 (sum4_in _ _ _ _).2, U_add4, ← W_high m i (by omega), ← wl_succ]
    rfl
theorem words_spec (c : List Int) (hc : c.length = 64) (hb : ∀ i, 0 ≤ c.getD i 0 ∧ c.getD i 0 ≤ 255) : Ev (fun k => spec_l2Words.f k c) (wl (wordAt c) 64) :=
  words_lo c hc hb _ (words_hi _ 48 16 rfl (by omega) (by omega)) 16 0 rfl (by omega)
end Go.Proofs.Ytlekeiokdmnboaa.Pu
end

section
/- What the two programs' digests compute, continued: the rounds, the blocks, the digest. -/
namespace Go.Proofs.Ytlekeiokdmnboaa.Pu
open Go Go.RowKit Go.Proofs.YtlekeiokdmnboaaW.PrintWords Go.Proofs.YtlekeiokdmnboaaW.PrintLast Go.Proofs.YtlekeiokdmnboaaW.PrintMore Go.Proofs.Ytlekeiokdmnboaa.Pa Go.Proofs.Ytlekeiokdmnboaa.Sha
set_option linter.unusedVariables false

def h8 (v : H8) : List Int := [U v.a, U v.b, U v.c, U v.d, U v.e, U v.f, U v.g, U v.h]
def kl : List Int := KL.map fun (n : Nat) => (n : Int)
theorem kl_at (n : Nat) (h : n < 64) : rd kl (n : Int) = U (K n) := by
  have key : ∀ n, n < 64 → kl.getD n 0 = U (K n) := by decide +kernel
  exact key n h
theorem kl_is : spec_l2K.f = some kl := by unfold spec_l2K.f; exact congrArg some (by decide +kernel)
theorem kl_len : kl.length = 64 := by decide +kernel
theorem sum5 (a b c d e : BitVec 32) : wrap64 (wrap64 (wrap64 (wrap64 (U a + U b) + U c) + U d) + U e) = U a + U b + U c + U d + U e := by
  have := U_lt a; have := U_lt b; have := U_lt c; have := U_lt d; have := U_lt e; have := U_nonneg a; have := U_nonneg b; have := U_nonneg c; have := U_nonneg d; have := U_nonneg e
  unfold wrap64
  omega
theorem sum2 (a b : BitVec 32) : wrap64 (U a + U b) = U a + U b := by
  have := U_lt a; have := U_lt b; have := U_nonneg a; have := U_nonneg b
  unfold wrap64
  omega
theorem sum7 (a b c d e f g : BitVec 32) : Go.bits .and .i64 (wrap64 ((U a + U b + U c + U d + U e) + (U f + U g))) 4294967295 = U (a + b + c + d + e + f + g) := by
  have := U_lt a; have := U_lt b; have := U_lt c; have := U_lt d; have := U_lt e; have := U_nonneg a; have := U_nonneg b; have := U_nonneg c; have := U_nonneg d; have := U_nonneg e
  have := U_lt f; have := U_lt g; have := U_nonneg f; have := U_nonneg g
  rw [w64 _ (by omega), mask64 _ (by omega) (by omega), ← U_add7]
  congr 1
  omega
theorem sum15 (x a b c d e : BitVec 32) : Go.bits .and .i64 (wrap64 (U x + (U a + U b + U c + U d + U e))) 4294967295 = U (x + (a + b + c + d + e)) := by
  have := U_lt a; have := U_lt b; have := U_lt c; have := U_lt d; have := U_lt e; have := U_nonneg a; have := U_nonneg b; have := U_nonneg c; have := U_nonneg d; have := U_nonneg e
  have := U_lt x; have := U_nonneg x
  rw [w64 _ (by omega), mask64 _ (by omega) (by omega), ← U_add1_5]
theorem rounds_spec (x0 : List Int) (m : Nat → BitVec 32) (v : H8) (r : List Int) (hE : Ev (fun k => spec_l2Block.l1 k x0 (h8 (steps K (W m) v 64)) 0) r) (j i : Nat) (hj : 64 - i = j) (hi : i ≤ 64) :
    Ev (fun k => spec_l2Block.l0 k x0 kl (wl m 64) (h8 (steps K (W m) v i)) (i : Int)) r := by
  induction j generalizing i with
  | zero =>
    obtain rfl : i = 64 := by omega
    refine Ev.step (fun k => ?_) hE
    show (if ((64 : Nat) : Int) < 64 then _ else _) = _
    rw [if_neg (by omega)]
  | succ j ih =>
    have e := ih (i + 1) (by omega) (by omega)
    refine Ev.step (fun k => ?_) e
    generalize hs : steps K (W m) v i = s
    have hs1 : steps K (W m) v (i + 1) = Sha.step (K i) (W m i) s := by rw [steps, hs]
    rw [hs1]
    have q : (h8 s).length = 8 := rfl
    show (if (i : Int) < 64 then _ else _) = _
    rw [if_pos (by omega), q, kl_len, wl_len, kl_at i (by omega), wl_at m 64 i (by omega), w64 ((i : Int) + 1) (by omega)]
    rw [show rd (h8 s) 0 = U s.a from rfl, show rd (h8 s) 1 = U s.b from rfl, show rd (h8 s) 2 = U s.c from rfl, show rd (h8 s) 3 = U s.d from rfl, show rd (h8 s) 4 = U s.e from rfl, show rd (h8 s) 5 = U s.f from rfl, show rd (h8 s) 6 = U s.g from rfl, show rd (h8 s) 7 = U s.h from rfl]
    rw [show spec_l2Turn.f (U s.e) 6 = _ from turn_spec s.e 6 (by omega) (by omega), show spec_l2Turn.f (U s.e) 11 = _ from turn_spec s.e 11 (by omega) (by omega), show spec_l2Turn.f (U s.e) 25 = _ from turn_spec s.e 25 (by omega) (by omega),
      show spec_l2Turn.f (U s.a) 2 = _ from turn_spec s.a 2 (by omega) (by omega), show spec_l2Turn.f (U s.a) 13 = _ from turn_spec s.a 13 (by omega) (by omega), show spec_l2Turn.f (U s.a) 22 = _ from turn_spec s.a 22 (by omega) (by omega)]
    simp only [Option.bind_some]
    rw [xor64, xor64, and64, not64, and64, xor64, xor64, xor64, and64, and64, and64, xor64, xor64,
      show U (s.e.rotateRight 6 ^^^ s.e.rotateRight 11 ^^^ s.e.rotateRight 25) = U (bs1 s.e) from rfl, show U (s.e &&& s.f ^^^ ~~~s.e &&& s.g) = U (ch s.e s.f s.g) from rfl,
      show U (s.a.rotateRight 2 ^^^ s.a.rotateRight 13 ^^^ s.a.rotateRight 22) = U (bs0 s.a) from rfl, show U (s.a &&& s.b ^^^ s.a &&& s.c ^^^ s.b &&& s.c) = U (maj s.a s.b s.c) from rfl,
      sum5, sum2, sum7, sum15]
    rw [if_pos (by omega), if_pos (by omega), if_pos (by omega), if_pos (by omega), if_pos (by omega), if_pos (by omega), if_pos (by omega), if_pos (by omega), if_pos (by omega), if_pos (by omega), if_pos (by omega)]
    rfl
theorem plus_one (a b : BitVec 32) : Go.bits .and .i64 (wrap64 (U a + U b)) 4294967295 = U (a + b) := by
  have := U_lt a; have := U_lt b; have := U_nonneg a; have := U_nonneg b
  rw [w64 _ (by omega), mask64 _ (by omega) (by omega), U_add]
theorem plus_step (k : Nat) (x0 x8 : List Int) (i : Nat) (hi : i < 8) (h0 : x0.length = 8) (h8 : x8.length = 8) : spec_l2Block.l1 (k + 1) x0 x8 (i : Int) = spec_l2Block.l1 k x0 (x8.set i (Go.bits .and .i64 (wrap64 (rd x8 (i : Int) + rd x0 (i : Int))) 4294967295)) ((i + 1 : Nat) : Int) := by
  show (if (i : Int) < 8 then _ else _) = _
  rw [if_pos (by omega), if_pos (by omega), if_pos (by omega), if_pos (by omega), w64 ((i : Int) + 1) (by omega)]
  rfl
theorem plus_spec (v h : H8) : Ev (fun k => spec_l2Block.l1 k (h8 h) (h8 v) 0) (h8 (plus v h)) := by
  refine Ev.step (fun k => plus_step k _ _ 0 (by omega) rfl rfl) ?_
  refine Ev.step (fun k => plus_step k _ _ 1 (by omega) rfl rfl) ?_
  refine Ev.step (fun k => plus_step k _ _ 2 (by omega) rfl rfl) ?_
  refine Ev.step (fun k => plus_step k _ _ 3 (by omega) rfl rfl) ?_
  refine Ev.step (fun k => plus_step k _ _ 4 (by omega) rfl rfl) ?_
  refine Ev.step (fun k => plus_step k _ _ 5 (by omega) rfl rfl) ?_
  refine Ev.step (fun k => plus_step k _ _ 6 (by omega) rfl rfl) ?_
  refine Ev.step (fun k => plus_step k _ _ 7 (by omega) rfl rfl) ?_
  refine Ev.step (f := fun _ => some (h8 (plus v h))) (fun k => ?_) (Ev.now _)
  show (if ((8 : Nat) : Int) < 8 then _ else _) = _
  rw [if_neg (by omega)]
  show some [Go.bits .and .i64 (wrap64 (U v.a + U h.a)) 4294967295, Go.bits .and .i64 (wrap64 (U v.b + U h.b)) 4294967295, Go.bits .and .i64 (wrap64 (U v.c + U h.c)) 4294967295, Go.bits .and .i64 (wrap64 (U v.d + U h.d)) 4294967295,
    Go.bits .and .i64 (wrap64 (U v.e + U h.e)) 4294967295, Go.bits .and .i64 (wrap64 (U v.f + U h.f)) 4294967295, Go.bits .and .i64 (wrap64 (U v.g + U h.g)) 4294967295, Go.bits .and .i64 (wrap64 (U v.h + U h.h)) 4294967295] = _
  rw [plus_one, plus_one, plus_one, plus_one, plus_one, plus_one, plus_one, plus_one]
  simp only [plus, h8, BitVec.add_comm]
theorem block_spec (h : H8) (c : List Int) (hc : c.length = 64) (hb : ∀ i, 0 ≤ c.getD i 0 ∧ c.getD i 0 ≤ 255) : Ev (fun k => spec_l2Block.f k (h8 h) c kl) (h8 (block h c)) := by
  refine Ev.bind (words_spec c hc hb) ?_
  refine Ev.congr (f := fun k => spec_l2Block.l0 k (h8 h) kl (wl (wordAt c) 64) (h8 h) 0) (fun k => ?_) (rounds_spec (h8 h) (wordAt c) h _ (plus_spec _ h) 64 0 rfl (by omega))
  show ((some ([] : List Int)).bind _) = _
  simp only [Option.bind_some, List.nil_append, List.length_nil]
  rw [if_pos (by show 0 + 8 < _; omega)]
theorem out_step (k : Nat) (v : H8) (n : Nat) (hn : n < 8) : spec_Digest.l1 (k + 1) (h8 v) (outUpTo v n) (n : Int) = spec_Digest.l1 k (h8 v) (outUpTo v (n + 1)) ((n + 1 : Nat) : Int) := by
  have hl : ∀ m, (outUpTo v m).length = 4 * m := by
    intro m
    induction m with
    | zero => rfl
    | succ m ih => unfold outUpTo at ih ⊢; rw [List.range_succ, List.flatMap_append, List.length_append, ih]; simp [bytes4]; omega
  have hs : outUpTo v (n + 1) = outUpTo v n ++ bytes4 (v.get n) := by unfold outUpTo; rw [List.range_succ, List.flatMap_append]; simp
  have hg : ∀ m : Nat, m < 8 → rd (h8 v) (m : Int) = U (v.get m) := by
    intro m hm
    rcases m with _ | _ | _ | _ | _ | _ | _ | _ | m
    all_goals first | rfl | omega
  show (if (n : Int) < 8 then _ else _) = _
  rw [if_pos (by omega), if_pos (by omega), if_pos (by show (n : Int) < ((8 : Nat) : Int); omega), w64 ((n : Int) + 1) (by omega), hg n hn]
  simp only [Option.bind_some]
  rw [if_pos (by rw [hl]; simp; omega), hs]
  rfl
theorem out_spec (v : H8) : Ev (fun k => spec_Digest.l1 k (h8 v) [] 0) (strOfNums (outUpTo v 8)) := by
  refine Ev.step (fun k => out_step k v 0 (by omega)) ?_
  refine Ev.step (fun k => out_step k v 1 (by omega)) ?_
  refine Ev.step (fun k => out_step k v 2 (by omega)) ?_
  refine Ev.step (fun k => out_step k v 3 (by omega)) ?_
  refine Ev.step (fun k => out_step k v 4 (by omega)) ?_
  refine Ev.step (fun k => out_step k v 5 (by omega)) ?_
  refine Ev.step (fun k => out_step k v 6 (by omega)) ?_
  refine Ev.step (fun k => out_step k v 7 (by omega)) ?_
  refine Ev.step (fun k => ?_) (Ev.now _)
  show (if ((8 : Nat) : Int) < 8 then _ else _) = _
  rw [if_neg (by omega)]
theorem blocks_spec (p : List Int) (hp : WholeB p) (j i : Nat) (hj : p.length / 64 - i = j) (hi : i ≤ p.length / 64) :
    Ev (fun k => spec_Digest.l0 k p (h8 ((List.range i).foldl (fun h j => block h (chunk p j)) first)) kl ((64 * i : Nat) : Int)) (strOfNums (outUpTo (digest8 p) 8)) := by
  obtain ⟨hm, h0, hlt, hbyte⟩ := hp
  induction j generalizing i with
  | zero =>
    obtain rfl : i = p.length / 64 := by omega
    refine Ev.step (fun k => ?_) (out_spec _)
    show (if ((64 * (p.length / 64) : Nat) : Int) < (p.length : Int) then _ else _) = _
    rw [if_neg (by omega)]
    rfl
  | succ j ih =>
    have e := ih (i + 1) (by omega) (by omega)
    rw [List.range_succ, List.foldl_append] at e
    have hcl : (chunk p i).length = 64 := by unfold chunk; rw [List.length_take, List.length_drop]; omega
    refine Ev.step (f := fun k => (spec_l2Block.f k (h8 ((List.range i).foldl (fun h j => block h (chunk p j)) first)) (chunk p i) kl).bind fun t => spec_Digest.l0 k p t kl ((64 * (i + 1) : Nat) : Int)) (fun k => ?_)
      (Ev.bind (block_spec _ (chunk p i) hcl (chunk_byte p hbyte i)) e)
    show (if ((64 * i : Nat) : Int) < (p.length : Int) then _ else _) = _
    have w : wrap64 (((64 * i : Nat) : Int) + 64) = ((64 * (i + 1) : Nat) : Int) := by rw [w64 _ (by omega)]; omega
    rw [w, if_pos (by omega), if_pos (by omega), if_pos (by omega), if_pos (by omega)]
    have c : (p.take ((64 * (i + 1) : Nat) : Int).toNat).drop ((64 * i : Nat) : Int).toNat = chunk p i := by
      unfold chunk
      rw [Int.toNat_natCast, Int.toNat_natCast, List.drop_take, show 64 * (i + 1) - 64 * i = 64 by omega]
    rw [c]
/-- WHAT BOTH DIGESTS TELL. -/
def sha (l : List Int) : ByteArray := strOfNums (outUpTo (digest8 (pad l)) 8)
theorem digest_spec (l : List Int) (hl : l.length < 140737488000000) (hb : ∀ x ∈ l, 0 ≤ x ∧ x ≤ 255) : Ev (fun k => spec_Digest.f k l) (sha l) := by
  refine Ev.bind (padded_spec l hl) ?_
  refine Ev.congr (f := fun k => spec_Digest.l0 k (pad l) (h8 first) kl ((64 * 0 : Nat) : Int)) (fun k => ?_) (blocks_spec (pad l) (pad_whole l hl hb) _ 0 rfl (by omega))
  rw [kl_is]
  rfl
theorem digest_impl (l : List Int) (hl : l.length < 140737488000000) (hb : ∀ x ∈ l, 0 ≤ x ∧ x ≤ 255) : Ev (fun k => impl_Digest.f k l) (sha l) := by
  refine Ev.bind (padded_impl l hl) (Ev.congr (fun k => ?_) (Ev.now _))
  rw [if_pos (pad_whole l hl hb)]
  rfl
end Go.Proofs.Ytlekeiokdmnboaa.Pu
end

section
/- What is drawn of a code: each draw ends, and within what bounds it lies; plain Lean over the printed functions. -/
namespace Go.Proofs.Ytlekeiokdmnboaa.Pu
open Go Go.RowKit Go.Proofs.YtlekeiokdmnboaaW.PrintWords Go.Proofs.YtlekeiokdmnboaaW.PrintLast Go.Proofs.YtlekeiokdmnboaaW.PrintMore Go.Proofs.Ytlekeiokdmnboaa.Pa
set_option linter.unusedVariables false

theorem d64 (n : Int) (h : -9223372036854775808 ≤ n ∧ n ≤ 9223372036854775807) : wrap64 n = n := by unfold wrap64; omega
theorem and255 (x : Int) : 0 ≤ Go.bits .and .i64 x 255 ∧ Go.bits .and .i64 x 255 ≤ 255 := by
  have h : Go.bits .and .i64 x 255 = IntKind.i64.wrap (((BitVec.ofInt 64 x &&& BitVec.ofInt 64 255).toNat : Nat) : Int) := rfl
  have h2 : (BitVec.ofInt 64 x &&& BitVec.ofInt 64 255).toNat ≤ 255 := by
    rw [BitVec.toNat_and, show (BitVec.ofInt 64 255).toNat = 255 by decide]
    exact Nat.and_le_right
  rw [h, IntKind.wrap_i64]
  omega
/-- Where a cursor stands. -/
def Cur (b : List Int) (p : Int) : Prop := (0 ≤ p ∧ p ≤ (b.length : Int)) ∧ b.length ≤ 1048576
theorem byte_some (b : List Int) (p h : Int) (hc : Cur b p) : ∃ v p' h', spec_l1Byte.f b p h = some (v, p', h') ∧ (0 ≤ v ∧ v ≤ 255) ∧ Cur b p' := by
  obtain ⟨⟨h0, h1⟩, h2⟩ := hc
  unfold spec_l1Byte.f
  by_cases c : p < (b.length : Int)
  · rw [if_pos c, if_pos h0]
    exact ⟨_, _, _, rfl, and255 _, by rw [d64 _ (by omega)]; exact ⟨⟨by omega, by omega⟩, h2⟩⟩
  · rw [if_neg c]
    exact ⟨_, _, _, rfl, and255 _, ⟨⟨h0, h1⟩, h2⟩⟩
theorem below_some (b : List Int) (p h n : Int) (hc : Cur b p) (h1 : 1 ≤ n) : ∃ v p' h', spec_l1Below.f b p h n = some (v, p', h') ∧ (0 ≤ v ∧ v < n) ∧ Cur b p' := by
  unfold spec_l1Below.f
  rw [if_neg (by omega)]
  by_cases c : n ≤ 256
  · obtain ⟨v, p', h', e, hv, hc'⟩ := byte_some b p h hc
    rw [if_pos c, e, Option.bind_some, if_neg (by omega)]
    exact ⟨_, _, _, rfl, by simp only; rw [Int.tmod_eq_emod_of_nonneg hv.1]; exact ⟨Int.emod_nonneg _ (by omega), Int.emod_lt_of_pos _ (by omega)⟩, hc'⟩
  · obtain ⟨v1, p1, h1', e1, hv1, hc1⟩ := byte_some b p h hc
    obtain ⟨v2, p2, h2', e2, hv2, hc2⟩ := byte_some b p1 h1' hc1
    obtain ⟨v3, p3, h3', e3, hv3, hc3⟩ := byte_some b p2 h2' hc2
    rw [if_neg c, e1, Option.bind_some, e2, Option.bind_some, e3, Option.bind_some, if_neg (by omega)]
    refine ⟨_, _, _, rfl, ?_, hc3⟩
    simp only
    rw [d64 (v1 * 65536) (by omega), d64 (v2 * 256) (by omega), d64 (v1 * 65536 + v2 * 256) (by omega), d64 _ (by omega), Int.tmod_eq_emod_of_nonneg (by omega)]
    exact ⟨Int.emod_nonneg _ (by omega), Int.emod_lt_of_pos _ (by omega)⟩
theorem once_some (b : List Int) (p h n : Int) (hc : Cur b p) (h1 : 1 ≤ n) : ∃ v p' h', spec_l1Once.f b p h n = some (v, p', h') ∧ Cur b p' := by
  obtain ⟨v, p', h', e, _, hc'⟩ := below_some b p h n hc h1
  unfold spec_l1Once.f
  rw [e, Option.bind_some]
  exact ⟨_, _, _, rfl, hc'⟩
theorem int_some (b : List Int) (p h : Int) (l : List Int) (hc : Cur b p) (h1 : 1 ≤ l.length) : ∃ v p' h', spec_l1Int.f b p h l = some (v, p', h') ∧ v ∈ l ∧ Cur b p' := by
  obtain ⟨v, p', h', e, hv, hc'⟩ := below_some b p h (l.length : Int) hc (by omega)
  unfold spec_l1Int.f
  rw [e, Option.bind_some, if_pos hv.1, if_pos hv.2]
  refine ⟨_, _, _, rfl, ?_, hc'⟩
  have hlt : v.toNat < l.length := by omega
  show l.getD v.toNat 0 ∈ l
  rw [List.getD_eq_getElem?_getD, List.getElem?_eq_getElem hlt]
  exact List.getElem_mem hlt
theorem str_some (b : List Int) (p h : Int) (l : List ByteArray) (hc : Cur b p) (h1 : 1 ≤ l.length) : ∃ v p' h', spec_l1Str.f b p h l = some (v, p', h') ∧ v ∈ l ∧ Cur b p' := by
  obtain ⟨v, p', h', e, hv, hc'⟩ := below_some b p h (l.length : Int) hc (by omega)
  unfold spec_l1Str.f
  rw [e, Option.bind_some, if_pos hv.1, if_pos hv.2]
  refine ⟨_, _, _, rfl, ?_, hc'⟩
  have hlt : v.toNat < l.length := by omega
  show l.getD v.toNat ByteArray.empty ∈ l
  rw [List.getD_eq_getElem?_getD, List.getElem?_eq_getElem hlt]
  exact List.getElem_mem hlt
theorem bytes_some (b : List Int) (p h : Int) (n : Nat) (hn : n ≤ 1048576) (hc : Cur b p) : ∃ x p' h', Ev (fun k => spec_l1Bytes.f k b p h (n : Int)) (x, p', h') ∧ x.length = n ∧ (∀ z ∈ x, 0 ≤ z ∧ z ≤ 255) ∧ Cur b p' := by
  have loop : ∀ (j i : Nat) (x : List Int) (p h : Int), n - i = j → i ≤ n → x.length = i → (∀ z ∈ x, 0 ≤ z ∧ z ≤ 255) → Cur b p → ∃ x' p' h', Ev (fun k => spec_l1Bytes.l0 k (n : Int) x (i : Int) b p h) (x', p', h') ∧ x'.length = n ∧ (∀ z ∈ x', 0 ≤ z ∧ z ≤ 255) ∧ Cur b p' := by
    intro j
    induction j with
    | zero =>
      intro i x p h hj hi hx hb hc
      refine ⟨x, p, h, Ev.step (f := fun _ => some (x, p, h)) (fun k => ?_) (Ev.now _), by omega, hb, hc⟩
      show (if (i : Int) < (n : Int) then _ else _) = _
      rw [if_neg (by omega)]
    | succ j ih =>
      intro i x p h hj hi hx hb hc
      obtain ⟨v, p1, h1, e, hv, hc1⟩ := byte_some b p h hc
      obtain ⟨x', p', h', e2, hr⟩ := ih (i + 1) (x ++ [v % 256]) p1 h1 (by omega) (by omega) (by simp [hx]) (fun z hz => by
        rcases List.mem_append.1 hz with hz | hz
        · exact hb z hz
        · simp at hz; omega) hc1
      refine ⟨x', p', h', Ev.step (fun k => ?_) e2, hr⟩
      show (if (i : Int) < (n : Int) then _ else _) = _
      rw [if_pos (by omega), e, Option.bind_some, if_pos (by omega), d64 ((i : Int) + 1) (by omega)]
      rfl
  exact loop n 0 [] p h (by omega) (by omega) rfl (by simp) hc
theorem some_some (b : List Int) (p h : Int) (hc : Cur b p) : ∃ x p' h', Ev (fun k => spec_l1Some.f k b p h) (x, p', h') ∧ x.length ≤ 9 ∧ (∀ z ∈ x, 0 ≤ z ∧ z ≤ 255) ∧ Cur b p' := by
  obtain ⟨v, p1, h1, e, hv, hc1⟩ := int_some b p h [0, 1, 2, 5, 9] hc (by simp)
  obtain ⟨n, rfl⟩ : ∃ n : Nat, v = (n : Int) := Int.eq_ofNat_of_zero_le (by simp at hv; omega)
  have hn : n ≤ 9 := by simp at hv; omega
  obtain ⟨x, p', h', e2, hx, hb, hc2⟩ := bytes_some b p1 h1 n (by omega) hc1
  refine ⟨x, p', h', Ev.congr (f := fun k => (spec_l1Bytes.f k b p1 h1 (n : Int)).bind fun t => some (t.1, t.2.1, t.2.2)) (fun k => ?_) (Ev.bind e2 (Ev.now _)), by omega, hb, hc2⟩
  unfold spec_l1Some.f
  rw [e, Option.bind_some]
theorem new_some (b : List Int) (hb : b.length ≤ 1048576) : ∃ p h, Ev (fun k => spec_l1New.f k b) (b, p, h) ∧ Cur b p := by
  have loop : ∀ (j : Nat) (i : Nat) (h : Int), 4000 - i = j → i ≤ 4000 → ∃ h', Ev (fun k => spec_l1New.l0 k b h (i : Int)) (b, 0, h') := by
    intro j
    induction j with
    | zero =>
      intro i h hj hi
      refine ⟨h, Ev.step (f := fun _ => some (b, 0, h)) (fun k => ?_) (Ev.now _)⟩
      show (if (i : Int) < (b.length : Int) then _ else _) = _
      by_cases c : (i : Int) < (b.length : Int)
      · rw [if_pos c, if_neg (by omega)]
      · rw [if_neg c]
    | succ j ih =>
      intro i h hj hi
      by_cases c : (i : Int) < (b.length : Int)
      · obtain ⟨h', e⟩ := ih (i + 1) (Go.bits .and .i64 (wrap64 ((wrap64 ((wrap64 (h * 137)) + (wrap64 (rd b (i : Int))))) + 11)) 1073741823) (by omega) (by omega)
        refine ⟨h', Ev.step (fun k => ?_) e⟩
        show (if (i : Int) < (b.length : Int) then _ else _) = _
        rw [if_pos c, if_pos (by omega), if_pos (by omega), d64 ((i : Int) + 1) (by omega)]
        rfl
      · refine ⟨h, Ev.step (f := fun _ => some (b, 0, h)) (fun k => ?_) (Ev.now _)⟩
        show (if (i : Int) < (b.length : Int) then _ else _) = _
        rw [if_neg c]
  obtain ⟨h', e⟩ := loop 4000 0 (wrap64 (381381 + (b.length : Int))) (by omega) (by omega)
  exact ⟨0, h', e, ⟨by omega, by omega⟩, hb⟩
end Go.Proofs.Ytlekeiokdmnboaa.Pu
end

section
/- What the two programs' writers of numbers and texts put down: the same bytes; plain Lean over the printed functions. -/
namespace Go.Proofs.Ytlekeiokdmnboaa.Pu
open Go Go.RowKit Go.Proofs.YtlekeiokdmnboaaW.PrintWords Go.Proofs.YtlekeiokdmnboaaW.PrintLast Go.Proofs.YtlekeiokdmnboaaW.PrintMore Go.Proofs.Ytlekeiokdmnboaa.Pa
set_option linter.unusedVariables false

theorem n64 (n : Int) (h : -9223372036854775808 ≤ n ∧ n ≤ 9223372036854775807) : wrap64 n = n := by unfold wrap64; omega
/-- The number that is put down for a. -/
def clamp (a : Int) : Nat := (mx 0 (mn a 1000000000)).toNat
theorem clamp_le (a : Int) : clamp a ≤ 1000000000 := by unfold clamp mx mn; split <;> split <;> omega
/-- Seven bits a byte, the lowest first. -/
def numB (n : Nat) : List Int := if n > 127 then ((n % 128 + 128 : Nat) : Int) :: numB (n / 128) else [(n : Int)]
termination_by n
decreasing_by omega
theorem numB_big {n : Nat} (h : n > 127) : numB n = ((n % 128 + 128 : Nat) : Int) :: numB (n / 128) := by rw [numB, if_pos h]
theorem numB_small {n : Nat} (h : ¬ n > 127) : numB n = [(n : Int)] := by rw [numB, if_neg h]
def Byte (l : List Int) : Prop := ∀ x ∈ l, 0 ≤ x ∧ x ≤ 255
theorem Byte.app {a b : List Int} (ha : Byte a) (hb : Byte b) : Byte (a ++ b) := fun x hx => by
  rcases List.mem_append.1 hx with h | h
  · exact ha x h
  · exact hb x h
theorem numB_byte (n : Nat) : Byte (numB n) := by
  induction n using Nat.strongRecOn with
  | _ n ih =>
    intro x hx
    by_cases h : n > 127
    · rw [numB_big h] at hx
      rcases List.mem_cons.1 hx with rfl | hx
      · omega
      · exact ih (n / 128) (by omega) x hx
    · rw [numB_small h] at hx
      simp at hx
      omega
theorem numB_len (j n : Nat) (h : n < 128 ^ (j + 1)) : (numB n).length ≤ j + 1 := by
  induction j generalizing n with
  | zero => rw [numB_small (by omega)]; simp
  | succ j ih =>
    by_cases h2 : n > 127
    · rw [numB_big h2]
      have := ih (n / 128) (by rw [Nat.div_lt_iff_lt_mul (by decide)]; rw [Nat.pow_succ] at h; exact h)
      simp; omega
    · rw [numB_small h2]; simp
theorem clamp_len (a : Int) : (numB (clamp a)).length ≤ 5 := numB_len 4 _ (by have := clamp_le a; omega)
theorem or128 (x : Int) (h0 : 0 ≤ x) (h1 : x < 4611686018427387904) : (Go.bits .or .i64 128 (Go.bits .and .i64 x 127)) % 256 = x % 128 + 128 ∧ (Go.bits .or .i64 (Go.bits .and .i64 x 127) 128) % 256 = x % 128 + 128 := by
  have hm : Go.bits .and .i64 x 127 = x % 128 := bits_mask .i64 62 (by decide) (fun n a b => by rw [IntKind.wrap_i64]; omega) 7 (by decide) x h0 h1
  rw [hm]
  obtain ⟨n, hn⟩ := Int.eq_ofNat_of_zero_le (show 0 ≤ x % 128 by omega)
  have hn2 : n < 128 := by omega
  have e128 : (128 : Int) = ((128 : Nat) : Int) := rfl
  have hb := fun a b h1 h2 => (bits_nat .i64 62 (by decide) (fun n a b => by rw [IntKind.wrap_i64]; omega) a b h1 h2).2
  have ho : (128 : Nat) ||| n = 128 + n := (Nat.two_pow_add_eq_or_of_lt (i := 7) hn2 1).symm
  rw [hn]
  constructor
  · rw [show Go.bits .or .i64 128 (n : Int) = ((128 ||| n : Nat) : Int) from hb 128 n (by decide) (by omega), ho]; omega
  · rw [show Go.bits .or .i64 (n : Int) 128 = ((n ||| 128 : Nat) : Int) from hb n 128 (by omega) (by decide), Nat.or_comm, ho]; omega
theorem put_impl (n : Nat) (hn : n ≤ 1000000000) (l : List Int) (hl : l.length + (numB n).length < 140737488355328) : Ev (fun k => impl_putNum.l0 k l (n : Int)) (l ++ numB n) := by
  induction n using Nat.strongRecOn generalizing l with
  | _ n ih =>
    by_cases h : n > 127
    · rw [numB_big h] at hl ⊢
      simp only [List.length_cons] at hl
      have e := ih (n / 128) (by omega) (by omega) (l ++ [((n % 128 + 128 : Nat) : Int)]) (by simp only [List.length_append, List.length_singleton]; omega)
      refine Ev.step (fun k => ?_) (by rw [List.append_assoc, List.singleton_append] at e; exact e)
      show (if (n : Int) > 127 then _ else _) = _
      rw [if_pos (by omega), if_pos (by omega), (or128 (n : Int) (by omega) (by omega)).1]
      congr 1
    · rw [numB_small h] at hl ⊢
      simp only [List.length_singleton] at hl
      refine Ev.step (fun k => ?_) (Ev.now _)
      show (if (n : Int) > 127 then _ else _) = _
      rw [if_neg (by omega), if_pos (by omega)]
      have : (n : Int) % 256 = n := by omega
      rw [this]
theorem put_spec (n : Nat) (hn : n ≤ 1000000000) (l : List Int) (hl : l.length + (numB n).length < 140737488355328) : Ev (fun k => spec_PutNum.l0 k (n : Int) l) (l ++ numB n) := by
  induction n using Nat.strongRecOn generalizing l with
  | _ n ih =>
    by_cases h : n > 127
    · rw [numB_big h] at hl ⊢
      simp only [List.length_cons] at hl
      have e := ih (n / 128) (by omega) (by omega) (l ++ [((n % 128 + 128 : Nat) : Int)]) (by simp only [List.length_append, List.length_singleton]; omega)
      refine Ev.step (fun k => ?_) (by rw [List.append_assoc, List.singleton_append] at e; exact e)
      show (if (n : Int) > 127 then _ else _) = _
      rw [if_pos (by omega), if_pos (by omega), (or128 (n : Int) (by omega) (by omega)).2]
      congr 1
    · rw [numB_small h] at hl ⊢
      simp only [List.length_singleton] at hl
      refine Ev.step (fun k => ?_) (Ev.now _)
      show (if (n : Int) > 127 then _ else _) = _
      rw [if_neg (by omega), if_pos (by omega)]
      have : (n : Int) % 256 = n := by omega
      rw [this]
theorem clamp_int (a : Int) : ((clamp a : Nat) : Int) = mx 0 (mn a 1000000000) := by unfold clamp mx mn; split <;> split <;> omega
theorem num_impl (l : List Int) (a : Int) (hl : l.length + 5 < 140737488355328) : Ev (fun k => impl_putNum.f k l a) (l ++ numB (clamp a)) := by
  have h := put_impl (clamp a) (clamp_le a) l (by have := clamp_len a; omega)
  rw [clamp_int] at h
  exact h
theorem num_spec (l : List Int) (a : Int) (hl : l.length + 5 < 140737488355328) : Ev (fun k => spec_PutNum.f k l a) (l ++ numB (clamp a)) := by
  have h := put_spec (clamp a) (clamp_le a) l (by have := clamp_len a; omega)
  have hc := clamp_int a
  have key : ∀ b : Int, (if b < 0 then 0 else b) = (clamp a : Int) → Ev (fun k => spec_PutNum.j0 k b l) (l ++ numB (clamp a)) := by
    intro b hb
    refine Ev.step (f := fun k => spec_PutNum.j1 k (clamp a : Int) l) (fun k => ?_) (Ev.step (fun k => ?_) h)
    · show (if b < 0 then _ else _) = _
      split at hb
      · rw [if_pos (by assumption), hb]
      · rw [if_neg (by assumption), hb]
    · rfl
  refine Ev.congr (f := fun k => if a > 1000000000 then spec_PutNum.j0 k 1000000000 l else spec_PutNum.j0 k a l) (fun k => ?_) ?_
  · show ((some ([] : List Int)).bind _) = _
    simp only [Option.bind_some, List.nil_append, List.length_nil, Nat.zero_add]
    rw [if_pos (by omega)]
  · by_cases h1 : a > 1000000000
    · simp only [if_pos h1]
      refine key _ ?_
      rw [hc]; unfold mx mn; (repeat' split) <;> omega
    · simp only [if_neg h1]
      refine key _ ?_
      rw [hc]; unfold mx mn; (repeat' split) <;> omega

/-- A text's bytes, its length ahead. -/
def txtB (s : ByteArray) : List Int := numB (clamp (s.size : Int)) ++ bytesOf s
theorem bytesOf_byte (s : ByteArray) : Byte (bytesOf s) := by
  intro x hx
  simp only [bytesOf, List.mem_map] at hx
  obtain ⟨b, _, rfl⟩ := hx
  have := b.toNat_lt
  omega
theorem txtB_byte (s : ByteArray) : Byte (txtB s) := (numB_byte _).app (bytesOf_byte s)
theorem txtB_len (s : ByteArray) : (txtB s).length ≤ 5 + s.size := by
  unfold txtB
  rw [List.length_append, bytesOf_length]
  have := clamp_len (s.size : Int)
  omega
theorem txt_impl (l : List Int) (s : ByteArray) (hl : l.length + 5 + s.size < 140737488355328) : Ev (fun k => impl_putText.f k l s) (l ++ txtB s) := by
  refine Ev.bind (num_impl l _ (by omega)) (Ev.congr (fun k => ?_) (Ev.now _))
  have := clamp_len (s.size : Int)
  rw [if_pos (by rw [List.length_append]; omega), List.append_assoc]
  rfl
theorem txt_spec (l : List Int) (s : ByteArray) (hl : l.length + 5 + s.size < 140737488355328) : Ev (fun k => spec_PutText.f k l s) (l ++ txtB s) := by
  refine Ev.bind (num_spec l _ (by omega)) (Ev.congr (fun k => ?_) (Ev.now _))
  have := clamp_len (s.size : Int)
  rw [if_pos (by rw [List.length_append]; omega), List.append_assoc]
  rfl
/-- The lengths of texts, one by one. -/
def total (l : List ByteArray) : Nat := (l.map fun s => s.size + 1).sum
theorem total_nil : total [] = 0 := rfl
theorem total_cons (s : ByteArray) (l : List ByteArray) : total (s :: l) = s.size + 1 + total l := by simp [total]
theorem total_len (l : List ByteArray) : l.length ≤ total l := by
  induction l with
  | nil => simp [total]
  | cons s l ih => rw [total_cons]; simp; omega
def textsB (l : List ByteArray) : List Int := numB (clamp (l.length : Int)) ++ l.flatMap txtB
theorem flat_byte (l : List ByteArray) : Byte (l.flatMap txtB) := by
  intro x hx
  obtain ⟨s, _, hs⟩ := List.mem_flatMap.1 hx
  exact txtB_byte s x hs
theorem textsB_byte (l : List ByteArray) : Byte (textsB l) := (numB_byte _).app (flat_byte l)
theorem flat_len (l : List ByteArray) : (l.flatMap txtB).length ≤ 5 * total l := by
  induction l with
  | nil => simp [total]
  | cons s l ih => rw [List.flatMap_cons, List.length_append, total_cons]; have := txtB_len s; omega
theorem textsB_len (l : List ByteArray) : (textsB l).length ≤ 5 + 5 * total l := by
  unfold textsB
  rw [List.length_append]
  have := clamp_len (l.length : Int)
  have := flat_len l
  omega
theorem rdOf_at {α : Type} {d x : α} {l : List α} {i : Nat} (h : l[i]? = some x) : rdOf d l (i : Int) = x := by
  simp [rdOf, List.getD_eq_getElem?_getD, h]
theorem drop_at {α : Type} {l : List α} {i : Nat} (h : i < l.length) : l.drop i = l[i] :: l.drop (i + 1) := by simp
theorem texts_impl (l : List Int) (xs : List ByteArray) (hl : l.length + 5 + 5 * total xs < 140737488355328) : Ev (fun k => impl_putTexts.f k l xs) (l ++ textsB xs) := by
  have hx := total_len xs
  have loop : ∀ (j : Nat) (i : Nat) (l : List Int), xs.length - i = j → i ≤ xs.length → l.length + 5 * total (xs.drop i) < 140737488355328 → Ev (fun k => impl_putTexts.l0 k l xs (xs.length : Int) (i : Int)) (l ++ (xs.drop i).flatMap txtB) := by
    intro j
    induction j with
    | zero =>
      intro i l hj hi hl
      have : xs.drop i = [] := List.drop_eq_nil_of_le (by omega)
      rw [this, List.flatMap_nil, List.append_nil]
      refine Ev.step (fun k => ?_) (Ev.now _)
      show (if (i : Int) < (xs.length : Int) then _ else _) = _
      rw [if_neg (by omega)]
    | succ j ih =>
      intro i l hj hi hl
      have hlt : i < xs.length := by omega
      rw [drop_at hlt] at hl ⊢
      rw [total_cons] at hl
      have ht := txtB_len xs[i]
      have e2 := ih (i + 1) (l ++ txtB xs[i]) (by omega) (by omega) (by rw [List.length_append]; omega)
      refine Ev.step (f := fun k => (impl_putText.f k l xs[i]).bind fun t => impl_putTexts.l0 k t xs (xs.length : Int) ((i + 1 : Nat) : Int)) (fun k => ?_) (Ev.bind (txt_impl l xs[i] (by omega)) ?_)
      · show (if (i : Int) < (xs.length : Int) then _ else _) = _
        rw [if_pos (by omega), if_pos (by omega), if_pos (by omega), rdOf_at (List.getElem?_eq_getElem hlt), n64 _ (by omega)]
        rfl
      · rw [List.flatMap_cons, ← List.append_assoc]
        exact e2
  refine Ev.bind (num_impl l _ (by omega)) ?_
  have := loop xs.length 0 (l ++ numB (clamp (xs.length : Int))) (by omega) (by omega) (by have := clamp_len (xs.length : Int); rw [List.length_append, List.drop_zero]; omega)
  rw [List.drop_zero, List.append_assoc] at this
  exact this
theorem texts_spec (l : List Int) (xs : List ByteArray) (hl : l.length + 5 + 5 * total xs < 140737488355328) : Ev (fun k => spec_PutTexts.f k l xs) (l ++ textsB xs) := by
  have hx := total_len xs
  have loop : ∀ (j : Nat) (i : Nat) (l : List Int), xs.length - i = j → i ≤ xs.length → l.length + 5 * total (xs.drop i) < 140737488355328 → Ev (fun k => spec_PutTexts.l0 k xs l (i : Int)) (l ++ (xs.drop i).flatMap txtB) := by
    intro j
    induction j with
    | zero =>
      intro i l hj hi hl
      have : xs.drop i = [] := List.drop_eq_nil_of_le (by omega)
      rw [this, List.flatMap_nil, List.append_nil]
      refine Ev.step (fun k => ?_) (Ev.now _)
      show (if (i : Int) < (xs.length : Int) then _ else _) = _
      rw [if_neg (by omega)]
    | succ j ih =>
      intro i l hj hi hl
      have hlt : i < xs.length := by omega
      rw [drop_at hlt] at hl ⊢
      rw [total_cons] at hl
      have ht := txtB_len xs[i]
      have e2 := ih (i + 1) (l ++ txtB xs[i]) (by omega) (by omega) (by rw [List.length_append]; omega)
      refine Ev.step (f := fun k => (spec_PutText.f k l xs[i]).bind fun t => spec_PutTexts.l0 k xs t ((i + 1 : Nat) : Int)) (fun k => ?_) (Ev.bind (txt_spec l xs[i] (by omega)) ?_)
      · show (if (i : Int) < (xs.length : Int) then _ else _) = _
        rw [if_pos (by omega), if_pos (by omega), rdOf_at (List.getElem?_eq_getElem hlt), n64 _ (by omega)]
        rfl
      · rw [List.flatMap_cons, ← List.append_assoc]
        exact e2
  refine Ev.bind (num_spec l _ (by omega)) ?_
  have := loop xs.length 0 (l ++ numB (clamp (xs.length : Int))) (by omega) (by omega) (by have := clamp_len (xs.length : Int); rw [List.length_append, List.drop_zero]; omega)
  rw [List.drop_zero, List.append_assoc] at this
  exact this
end Go.Proofs.Ytlekeiokdmnboaa.Pu
end

section
namespace Go.Proofs.Ytlekeiokdmnboaa.Pa
open Go.RowKit Go.Proofs.YtlekeiokdmnboaaW.PrintWords Go.Proofs.YtlekeiokdmnboaaW.PrintLast Go.Proofs.YtlekeiokdmnboaaW.PrintMore Go.Proofs.Ytlekeiokdmnboaa.M
attribute [local go_sem] max2_int min2_int max_two min_two max_three min_three max_four min_four   -- for this text's walks alone
set_option linter.unusedVariables false
set_option maxHeartbeats 8000000
set_option maxRecDepth 100000
set_option linter.unusedSimpArgs false

/-! ### laws_szStringS: function 8 -/
def laws_szStringS.l0 : Nat → List ByteArray → Int → Int → Option (Int)
  | 0, _, _, _ => none
  | k + 1, x0, x1, x5 => if x5 < (x0.length : Int) then (if 0 ≤ x5 then (if (wrap64 (x1 - ((rdOf ByteArray.empty x0 x5).size : Int))) < 0 then (some (-1)) else (laws_szStringS.l0 k x0 (wrap64 (x1 - ((rdOf ByteArray.empty x0 x5).size : Int))) (wrap64 (x5 + 1)))) else (none)) else (some x1)
def laws_szStringS.f (k : Nat) (l0 : List ByteArray) (a1 : Int) : Option (Int) := if (wrap64 (a1 - (l0.length : Int))) < 0 then (some (-1)) else (laws_szStringS.l0 k l0 (wrap64 (a1 - (l0.length : Int))) 0)
theorem laws_szStringS.mono_l : ∀ k, (∀ y0 y1 y2, LeO (laws_szStringS.l0 k y0 y1 y2) (laws_szStringS.l0 (k + 1) y0 y1 y2))
  | 0 => fun _ _ _ r h => by simp [laws_szStringS.l0] at h
  | k + 1 => by
    have ih0 := laws_szStringS.mono_l k
    · intro y0 y1 y2
      unfold laws_szStringS.l0
      exact me
theorem laws_szStringS.mono : ∀ a0 a1 k, LeO (laws_szStringS.f k a0 a1) (laws_szStringS.f (k + 1) a0 a1) := by
  intro a0 a1 k
  have ih0 := laws_szStringS.mono_l k
  unfold laws_szStringS.f
  exact me
theorem laws_szStringS.calls (k : Nat) (A0 : Option Addr) (c0 : Nat) (l0 : List ByteArray) (a1 : Int) (r : Int) (w : World) (hr0 : Kd.C Kd.string w A0 l0.length l0) (hc0 : l0.length ≤ c0) (h : laws_szStringS.f k l0 a1 = some r) :
    Calls Try.prog 8 #[.slice A0 l0.length c0, .int .i64 a1] w fun e w' => e = .returned (.int .i64 r) ∧ Drawn0 w w' := by
 have HR0 := mk0 hr0
 have HC0 := mk0 hc0
 clear hr0 hc0
 have H : (if (wrap64 (a1 - (l0.length : Int))) < 0 then (some (-1)) else (laws_szStringS.l0 k l0 (wrap64 (a1 - (l0.length : Int))) 0)) = some r := h
 clear h
 replace H := idd H; rcases H with ⟨c3b0, H⟩ | ⟨c3b0, H⟩
 · obtain rfl := Option.some.inj H
   go_enter Try.func8, Try.ntmps8
   go_wp2
   go_ret
   exact ⟨sv, by repeat (first | exact Drawn0.refl _ | apply Drawn0.step)⟩
 · have H' := mk0 H
   clear H
   go_enter Try.func8, Try.ntmps8
   go_wp2
   go_loopg [1, 5] k (fun kq v1 v5 w' => ∃ (x1_1 : Int) (x5_1 : Int), v1 = .int .i64 x1_1 ∧ v5 = .int .i64 x5_1 ∧ Aside0 (laws_szStringS.l0 kq l0 x1_1 x5_1 = some r) ∧ Aside0 (kq ≤ k) ∧ Drawn0 w w')
   case atStart => exact ⟨(wrap64 (a1 - (l0.length : Int))), (0), sv, sv, H', nl, by repeat (first | exact Drawn0.refl _ | apply Drawn0.step)⟩
   case round =>
    clear H'
    (try clear c3b0)
    obtain ⟨x1_1, x5_1, rfl, rfl, HA, HK1, ⟨m1, rfl⟩⟩ := hrel
    rcases gk with _ | k1
    · exact absurd HA.out (by simp [laws_szStringS.l0])
    have H := HA.out
    clear HA
    simp only [laws_szStringS.l0] at H
    replace H := idd H; rcases H with ⟨c4b0, H⟩ | ⟨c4b0, H⟩
    · replace H := gd H; obtain ⟨c5b0, H⟩ := H
      replace H := idd H; rcases H with ⟨c6b0, H⟩ | ⟨c6b0, H⟩
      · obtain rfl := Option.some.inj H
        have p101 : 0 ≤ (x5_1 : Int) := oa
        have q101 : x5_1 < (l0.length : Int) := oa
        obtain ⟨ad101, e101, hx101_0⟩ := Kd.at_string HR0.out x5_1 p101 q101
        cases e101
        replace p101 := eq_true p101
        replace q101 := eq_true q101
        go_wp2
        go_ret
        exact ⟨sv, by repeat (first | exact Drawn0.refl _ | apply Drawn0.step)⟩
      · have H' := mk0 H
        clear H
        have p101 : 0 ≤ (x5_1 : Int) := oa
        have q101 : x5_1 < (l0.length : Int) := oa
        obtain ⟨ad101, e101, hx101_0⟩ := Kd.at_string HR0.out x5_1 p101 q101
        cases e101
        replace p101 := eq_true p101
        replace q101 := eq_true q101
        go_wp2
        go_roundg k1
        case measure => have := HK1.out; omega
        case rel => exact ⟨(wrap64 (x1_1 - ((rdOf ByteArray.empty l0 x5_1).size : Int))), (wrap64 (x5_1 + 1)), sv, sv, H', hk1, by repeat (first | exact Drawn0.refl _ | apply Drawn0.step)⟩
    · obtain rfl := Option.some.inj H
      go_wp2
      go_ret
      exact ⟨sv, by repeat (first | exact Drawn0.refl _ | apply Drawn0.step)⟩
/-! ### laws_toStringS: function 10 -/
def laws_toStringS.l0 : Nat → List ByteArray → List ByteArray → Int → Option (List ByteArray)
  | 0, _, _, _ => none
  | k + 1, x0, x3, x4 => if x4 < (x0.length : Int) then (if 0 ≤ x4 then (if x4 < (x3.length : Int) then (laws_toStringS.l0 k x0 (x3.set (x4 : Int).toNat (rdOf ByteArray.empty x0 x4)) (wrap64 (x4 + 1))) else (none)) else (none)) else (some x3)
def laws_toStringS.f (k : Nat) (l0 : List ByteArray) : Option (List ByteArray) := if 0 ≤ (l0.length : Int) then (if ((l0.length : Int) : Int).toNat ≤ 17592186044416 then (laws_toStringS.l0 k l0 (List.replicate ((l0.length : Int) : Int).toNat (⟨#[]⟩ : ByteArray)) 0) else (none)) else (none)
theorem laws_toStringS.mono_l : ∀ k, (∀ y0 y1 y2, LeO (laws_toStringS.l0 k y0 y1 y2) (laws_toStringS.l0 (k + 1) y0 y1 y2))
  | 0 => fun _ _ _ r h => by simp [laws_toStringS.l0] at h
  | k + 1 => by
    have ih0 := laws_toStringS.mono_l k
    · intro y0 y1 y2
      unfold laws_toStringS.l0
      exact me
theorem laws_toStringS.mono : ∀ a0 k, LeO (laws_toStringS.f k a0) (laws_toStringS.f (k + 1) a0) := by
  intro a0 k
  have ih0 := laws_toStringS.mono_l k
  unfold laws_toStringS.f
  exact me
theorem laws_toStringS.calls (k : Nat) (A0 : Option Addr) (c0 : Nat) (l0 : List ByteArray) (r : List ByteArray) (w : World) (hr0 : Kd.C Kd.string w A0 l0.length l0) (hc0 : l0.length ≤ c0) (h : laws_toStringS.f k l0 = some r) :
    Calls Try.prog 10 #[.slice A0 l0.length c0] w fun e w' => ∃ v0_ : Value, e = .returned (v0_) ∧ Kd.R Kd.string 9 w' w.heap.size (fun _ => True) v0_ r ∧ Below w.heap.size w w' := by
 have HR0 := mk0 hr0
 have HC0 := mk0 hc0
 clear hr0 hc0
 have HB := mk0 (Below.refl w.heap.size w)
 have H : (if 0 ≤ (l0.length : Int) then (if ((l0.length : Int) : Int).toNat ≤ 17592186044416 then (laws_toStringS.l0 k l0 (List.replicate ((l0.length : Int) : Int).toNat (⟨#[]⟩ : ByteArray)) 0) else (none)) else (none)) = some r := h
 clear h
 replace H := ge H; obtain ⟨c2b0, c2b1, H⟩ := H
 replace H := ge H; obtain ⟨c3b0, c3b1, H⟩ := H
 obtain ⟨y248, Ny248⟩ := nm (List.replicate ((l0.length : Int) : Int).toNat (⟨#[]⟩ : ByteArray))
 rw [← Ny248.out] at H
 have H' := mk0 H
 clear H
 go_enter Try.func10, Try.ntmps10
 go_wp2_with (first | ((with_reducible refine gD 7 rfl ?_); refine Kd.R_make Kd.string _ 9 rfl (N := 7) rfl 22 _ _ rfl (l0.length : Int) rfl rfl Try.underlying22 (.string ⟨#[]⟩) 16 info9 rfl (by decide) (by omega) (⟨#[]⟩ : ByteArray) (ok := fun _ => True) (okp := fun _ => True) rfl (fun _ hk => hk) trivial oa (Nat.le_trans (Nat.mul_le_mul_right _ (oa : (l0.length : Int).toNat ≤ 17592186044416)) (by omega)) (Below.refl _ _) (Nat.le_refl _) ?_; intro v249 w4 ho5 hb hg_ hnew_; clear hg_ hnew_; (first | rw [← Ny248.out] at ho5 | (simp only [Int.reduceToNat] at ho5; rw [← Ny248.out] at ho5)); have HO250 := mk0 (Kd.R_lower ho5 bs); replace HB := mk0 (below_step bw hb); clear hb ho5))
 go_loopg [4] k (fun kq v4 w' => ∃ (x3_1 : List ByteArray) (x4_1 : Int), v4 = .int .i64 x4_1 ∧ Aside0 (laws_toStringS.l0 kq l0 x3_1 x4_1 = some r) ∧ Aside0 (kq ≤ k) ∧ Aside0 (Kd.R Kd.string 9 w' w.heap.size (fun _ => True) v249 x3_1) ∧ Aside0 (Below w.heap.size w w'))
 case atStart => exact ⟨(y248), (0), sv, H', nl, ⟨rr HO250.out⟩, ⟨bw⟩⟩
 case round =>
  clear H'
  (try clear c2b0); (try clear c2b1); (try clear c3b0); (try clear c3b1)
  obtain ⟨x3_1, x4_1, rfl, HA, HK1, HO_3, HB⟩ := hrel
  rcases gk with _ | k1
  · exact absurd HA.out (by simp [laws_toStringS.l0])
  have H := HA.out
  clear HA
  simp only [laws_toStringS.l0] at H
  replace H := idd H; rcases H with ⟨c6b0, H⟩ | ⟨c6b0, H⟩
  · replace H := gd H; obtain ⟨c7b0, H⟩ := H
    replace H := gd H; obtain ⟨c8b0, H⟩ := H
    obtain ⟨y252, Ny252⟩ := nm (x3_1.set (x4_1 : Int).toNat (rdOf ByteArray.empty l0 x4_1))
    rw [← Ny252.out] at H
    have H' := mk0 H
    clear H
    have p251 : 0 ≤ (x4_1 : Int) := oa
    have q251 : x4_1 < (l0.length : Int) := oa
    obtain ⟨ad251, e251, hx251_0⟩ := Kd.at_string HR0.out x4_1 p251 q251
    cases e251
    replace hx251_0 := hc HB hx251_0
    replace p251 := eq_true p251
    replace q251 := eq_true q251
    have p9 : 0 ≤ (x4_1 : Int) := oa
    have q9 : (x4_1 : Int) < ((x3_1.length : Int) : Int) := oa
    obtain ⟨go9, co9, eo9, gb9, gl9, cl9, HG9⟩ := Kd.R_form HO_3.out (by omega)
    (first | cases eo9 | (injection eo9 with ea_ en_ ec_; (first | subst ea_ | (injection ea_ with ea_; subst ea_)); subst ec_; clear en_))
    have GB9 := mk0 gb9
    have GG9 := mk0 HG9
    clear gb9 gl9 HG9
    obtain ⟨hx9_0, hf9_0⟩ := Kd.R_celln (⟨#[]⟩ : ByteArray) HO_3.out (x4_1 : Int) p9 q9
    replace p9 := eq_true p9
    replace q9 := eq_true q9
    have HP10 := Kd.R_putg HO_3.out (x4_1 : Int) (rdOf ByteArray.empty l0 x4_1)
    go_wp2_with (first | ((with_reducible refine gS 9 20 rfl ?_); refine sr 9 20 (w1 := (wr.setCell ⟨go9, (x4_1 : Int).toNat, none⟩ (.string (rdOf ByteArray.empty l0 x4_1)))) ?_; intro w11 hw; have hg : wr.grownBy w11 (some go9) := (by rw [hw]; exact HP10.2); have hp_ : Kd.R Kd.string 9 w11 w.heap.size (fun _ => True) (.slice (some ⟨go9, 0, none⟩) x3_1.length co9) y252 := (by rw [hw, Ny252.out]; exact HP10.1); clear HP10; replace HO_3 := mk0 (hp_); replace HB := mk0 ((by rw [hw]; exact below_set (HB.out) GB9.out : Below w.heap.size w w11)); clear hg hw hp_))
    go_roundg k1
    case measure => have := HK1.out; omega
    case rel => exact ⟨(y252), (wrap64 (x4_1 + 1)), sv, H', hk1, ⟨rr HO_3.out⟩, ⟨bw⟩⟩
  · obtain rfl := Option.some.inj H
    go_wp2
    go_ret
    exact ⟨_, sw, rr HO_3.out, bw⟩
/-! ### laws_eqStringS: function 12 -/
def laws_eqStringS.l0 : Nat → List ByteArray → List ByteArray → Int → Option (Bool)
  | 0, _, _, _ => none
  | k + 1, x0, x1, x5 => if x5 < (x0.length : Int) then (if 0 ≤ x5 then (if x5 < (x1.length : Int) then (if (rdOf ByteArray.empty x0 x5).toList = (rdOf ByteArray.empty x1 x5).toList then (laws_eqStringS.l0 k x0 x1 (wrap64 (x5 + 1))) else (some false)) else (none)) else (none)) else (some true)
def laws_eqStringS.f (k : Nat) (l0 : List ByteArray) (l1 : List ByteArray) : Option (Bool) := if (l0.length : Int) = (l1.length : Int) then (laws_eqStringS.l0 k l0 l1 0) else (some false)
theorem laws_eqStringS.mono_l : ∀ k, (∀ y0 y1 y2, LeO (laws_eqStringS.l0 k y0 y1 y2) (laws_eqStringS.l0 (k + 1) y0 y1 y2))
  | 0 => fun _ _ _ r h => by simp [laws_eqStringS.l0] at h
  | k + 1 => by
    have ih0 := laws_eqStringS.mono_l k
    · intro y0 y1 y2
      unfold laws_eqStringS.l0
      exact me
theorem laws_eqStringS.mono : ∀ a0 a1 k, LeO (laws_eqStringS.f k a0 a1) (laws_eqStringS.f (k + 1) a0 a1) := by
  intro a0 a1 k
  have ih0 := laws_eqStringS.mono_l k
  unfold laws_eqStringS.f
  exact me
theorem laws_eqStringS.calls (k : Nat) (A0 : Option Addr) (c0 : Nat) (l0 : List ByteArray) (A1 : Option Addr) (c1 : Nat) (l1 : List ByteArray) (r : Bool) (w : World) (hr0 : Kd.C Kd.string w A0 l0.length l0) (hc0 : l0.length ≤ c0) (hr1 : Kd.C Kd.string w A1 l1.length l1) (hc1 : l1.length ≤ c1) (h : laws_eqStringS.f k l0 l1 = some r) :
    Calls Try.prog 12 #[.slice A0 l0.length c0, .slice A1 l1.length c1] w fun e w' => e = .returned (.bool r) ∧ Drawn0 w w' := by
 have HR0 := mk0 hr0
 have HC0 := mk0 hc0
 clear hr0 hc0
 have HR1 := mk0 hr1
 have HC1 := mk0 hc1
 clear hr1 hc1
 have H : (if (l0.length : Int) = (l1.length : Int) then (laws_eqStringS.l0 k l0 l1 0) else (some false)) = some r := h
 clear h
 replace H := ip H; rcases H with ⟨c3, H⟩ | ⟨c3, H⟩
 · have c3b0 : ((l0.length : Int) == (l1.length : Int)) = true := beq_iff_eq.mpr c3
   have c3b1 : ((l0.length : Int) != (l1.length : Int)) = false := bne_eq_false_iff_eq.mpr c3
   have c3b2 : (l0.length == l1.length) = true := by first | simpa using c3 | (simp at c3 ⊢; omega)
   clear c3
   have H' := mk0 H
   clear H
   go_enter Try.func12, Try.ntmps12
   go_wp2
   repeat (go_quiet (fail); try go_wp2)
   go_loopg [5] k (fun kq v5 w' => ∃ (x5_1 : Int), v5 = .int .i64 x5_1 ∧ Aside0 (laws_eqStringS.l0 kq l0 l1 x5_1 = some r) ∧ Aside0 (kq ≤ k) ∧ Drawn0 w w')
   case atStart => exact ⟨(0), sv, H', nl, by repeat (first | exact Drawn0.refl _ | apply Drawn0.step)⟩
   case round =>
    clear H'
    (try clear c3); (try clear c3b0); (try clear c3b1); (try clear c3b2)
    obtain ⟨x5_1, rfl, HA, HK1, ⟨m1, rfl⟩⟩ := hrel
    rcases gk with _ | k1
    · exact absurd HA.out (by simp [laws_eqStringS.l0])
    have H := HA.out
    clear HA
    simp only [laws_eqStringS.l0] at H
    replace H := idd H; rcases H with ⟨c4b0, H⟩ | ⟨c4b0, H⟩
    · replace H := gd H; obtain ⟨c5b0, H⟩ := H
      replace H := gd H; obtain ⟨c6b0, H⟩ := H
      replace H := it H; rcases H with ⟨c7b0, c7b1, H⟩ | ⟨c7, c7b0, c7b1, H⟩
      · have H' := mk0 H
        clear H
        have p297 : 0 ≤ (x5_1 : Int) := oa
        have q297 : x5_1 < (l0.length : Int) := oa
        obtain ⟨ad297, e297, hx297_0⟩ := Kd.at_string HR0.out x5_1 p297 q297
        cases e297
        replace p297 := eq_true p297
        replace q297 := eq_true q297
        have p298 : 0 ≤ (x5_1 : Int) := oa
        have q298 : x5_1 < (l1.length : Int) := oa
        obtain ⟨ad298, e298, hx298_0⟩ := Kd.at_string HR1.out x5_1 p298 q298
        cases e298
        replace p298 := eq_true p298
        replace q298 := eq_true q298
        go_wp2
        repeat (go_quiet (fail); try go_wp2)
        go_roundg k1
        case measure => have := HK1.out; omega
        case rel => exact ⟨(wrap64 (x5_1 + 1)), sv, H', hk1, by repeat (first | exact Drawn0.refl _ | apply Drawn0.step)⟩
      · obtain rfl := Option.some.inj H
        have p297 : 0 ≤ (x5_1 : Int) := oa
        have q297 : x5_1 < (l0.length : Int) := oa
        obtain ⟨ad297, e297, hx297_0⟩ := Kd.at_string HR0.out x5_1 p297 q297
        cases e297
        replace p297 := eq_true p297
        replace q297 := eq_true q297
        have p298 : 0 ≤ (x5_1 : Int) := oa
        have q298 : x5_1 < (l1.length : Int) := oa
        obtain ⟨ad298, e298, hx298_0⟩ := Kd.at_string HR1.out x5_1 p298 q298
        cases e298
        replace p298 := eq_true p298
        replace q298 := eq_true q298
        go_wp2
        repeat (go_quiet (fail); try go_wp2)
        go_ret
        exact ⟨sv, by repeat (first | exact Drawn0.refl _ | apply Drawn0.step)⟩
    · obtain rfl := Option.some.inj H
      go_wp2
      repeat (go_quiet (fail); try go_wp2)
      go_ret
      exact ⟨sv, by repeat (first | exact Drawn0.refl _ | apply Drawn0.step)⟩
 · have c3b0 : ((l0.length : Int) == (l1.length : Int)) = false := beq_eq_false_iff_ne.mpr c3
   have c3b1 : ((l0.length : Int) != (l1.length : Int)) = true := bne_iff_ne.mpr c3
   have c3b2 : (l0.length == l1.length) = false := by first | simpa using c3 | (simp at c3 ⊢; omega)
   obtain rfl := Option.some.inj H
   go_enter Try.func12, Try.ntmps12
   go_wp2
   repeat (go_quiet (fail); try go_wp2)
   go_ret
   exact ⟨sv, by repeat (first | exact Drawn0.refl _ | apply Drawn0.step)⟩
end Go.Proofs.Ytlekeiokdmnboaa.Pa
end

section
/- The guards of the laws, the copies that the laws make, the comparing of rows of texts; plain Lean over the printed functions. -/
namespace Go.Proofs.Ytlekeiokdmnboaa.Pu
open Go Go.RowKit Go.Proofs.YtlekeiokdmnboaaW.PrintWords Go.Proofs.YtlekeiokdmnboaaW.PrintLast Go.Proofs.YtlekeiokdmnboaaW.PrintMore Go.Proofs.Ytlekeiokdmnboaa.Pa
set_option linter.unusedVariables false

/-- What a law takes of rows of texts: lengths that Go has. -/
def Has (l : List ByteArray) : Prop := l.length ≤ 9223372036854775807 ∧ ∀ s ∈ l, s.size ≤ 9223372036854775807
def sumB (l : List ByteArray) : Nat := (l.map fun s => s.size).sum
theorem sumB_cons (s : ByteArray) (l : List ByteArray) : sumB (s :: l) = s.size + sumB l := by simp [sumB]
theorem total_sum (l : List ByteArray) : total l = sumB l + l.length := by
  induction l with
  | nil => rfl
  | cons s l ih => rw [total_cons, sumB_cons, ih, List.length_cons]; omega
theorem sz_texts (l : List ByteArray) (hl : Has l) (a : Int) (h0 : 0 ≤ a) (h1 : a ≤ 1099511627776) : Ev (fun k => laws_szStringS.f k l a) (if (total l : Int) ≤ a then a - total l else -1) := by
  have loop : ∀ (j i : Nat) (x : Int), l.length - i = j → i ≤ l.length → 0 ≤ x → x ≤ 1099511627776 → l.length ≤ 1099511627776 → Ev (fun k => laws_szStringS.l0 k l x (i : Int)) (if (sumB (l.drop i) : Int) ≤ x then x - sumB (l.drop i) else -1) := by
    intro j
    induction j with
    | zero =>
      intro i x hj hi h0 h1 hn
      have : l.drop i = [] := List.drop_eq_nil_of_le (by omega)
      rw [this, show sumB [] = 0 from rfl, if_pos (by omega)]
      refine Ev.step (fun k => ?_) (Ev.now _)
      show (if (i : Int) < (l.length : Int) then _ else _) = _
      rw [if_neg (by omega)]
      simp
    | succ j ih =>
      intro i x hj hi h0 h1 hn
      have hlt : i < l.length := by omega
      have hs := hl.2 l[i] (List.getElem_mem hlt)
      rw [drop_at hlt, sumB_cons]
      have hr : rdOf ByteArray.empty l (i : Int) = l[i] := rdOf_at (List.getElem?_eq_getElem hlt)
      have hw : wrap64 (x - (l[i].size : Int)) = x - (l[i].size : Int) := n64 _ (by omega)
      by_cases hneg : x - (l[i].size : Int) < 0
      · rw [if_neg (by omega)]
        refine Ev.step (fun k => ?_) (Ev.now _)
        show (if (i : Int) < (l.length : Int) then _ else _) = _
        rw [if_pos (by omega), if_pos (by omega), hr, hw, if_pos hneg]
      · have e := ih (i + 1) (x - (l[i].size : Int)) (by omega) (by omega) (by omega) (by omega) hn
        have : (if ((sumB (l.drop (i + 1)) : Nat) : Int) ≤ x - (l[i].size : Int) then x - (l[i].size : Int) - ((sumB (l.drop (i + 1)) : Nat) : Int) else -1) = (if ((l[i].size + sumB (l.drop (i + 1)) : Nat) : Int) ≤ x then x - ((l[i].size + sumB (l.drop (i + 1)) : Nat) : Int) else -1) := by
          split <;> split <;> omega
        rw [this] at e
        refine Ev.step (fun k => ?_) e
        show (if (i : Int) < (l.length : Int) then _ else _) = _
        rw [if_pos (by omega), if_pos (by omega), hr, hw, if_neg hneg, n64 ((i : Int) + 1) (by omega)]
        rfl
  have hn := hl.1
  have hw : wrap64 (a - (l.length : Int)) = a - (l.length : Int) := n64 _ (by omega)
  have ht := total_sum l
  by_cases hneg : a - (l.length : Int) < 0
  · rw [if_neg (by omega)]
    refine Ev.congr (fun k => ?_) (Ev.now _)
    show (if (wrap64 (a - (l.length : Int))) < 0 then _ else _) = _
    rw [hw, if_pos hneg]
  · have e := loop l.length 0 (a - (l.length : Int)) (by omega) (by omega) (by omega) (by omega) (by omega)
    rw [List.drop_zero] at e
    have : (if ((sumB l : Nat) : Int) ≤ a - (l.length : Int) then a - (l.length : Int) - ((sumB l : Nat) : Int) else -1) = (if ((total l : Nat) : Int) ≤ a then a - ((total l : Nat) : Int) else -1) := by
      split <;> split <;> omega
    rw [this] at e
    refine Ev.congr (fun k => ?_) e
    show (if (wrap64 (a - (l.length : Int))) < 0 then _ else _) = _
    rw [hw, if_neg hneg]
    rfl
theorem set_at {α : Type} (l : List α) (i : Nat) (z : α) (h : i < l.length) : (l.take i ++ List.replicate (l.length - i) z).set i l[i] = l.take (i + 1) ++ List.replicate (l.length - (i + 1)) z := by
  have h1 : (l.take i).length = i := by rw [List.length_take]; omega
  rw [List.set_append_right _ _ (by omega), h1, Nat.sub_self]
  obtain ⟨m, hm⟩ : ∃ m, l.length - i = m + 1 := ⟨l.length - i - 1, by omega⟩
  rw [hm, show l.length - (i + 1) = m by omega, List.replicate_succ, List.set_cons_zero, List.take_succ_eq_append_getElem h, List.append_assoc, List.singleton_append]
theorem to_texts (l : List ByteArray) (hl : l.length ≤ 17592186044416) : Ev (fun k => laws_toStringS.f k l) l := by
  have loop : ∀ (j i : Nat), l.length - i = j → i ≤ l.length → Ev (fun k => laws_toStringS.l0 k l (l.take i ++ List.replicate (l.length - i) (⟨#[]⟩ : ByteArray)) (i : Int)) l := by
    intro j
    induction j with
    | zero =>
      intro i hj hi
      obtain rfl : i = l.length := by omega
      rw [List.take_length, Nat.sub_self, List.replicate_zero, List.append_nil]
      refine Ev.step (fun k => ?_) (Ev.now _)
      show (if (l.length : Int) < (l.length : Int) then _ else _) = _
      rw [if_neg (by omega)]
    | succ j ih =>
      intro i hj hi
      have hlt : i < l.length := by omega
      have e := ih (i + 1) (by omega) (by omega)
      rw [← set_at l i _ hlt] at e
      refine Ev.step (fun k => ?_) e
      show (if (i : Int) < (l.length : Int) then _ else _) = _
      have hlen : (l.take i ++ List.replicate (l.length - i) (⟨#[]⟩ : ByteArray)).length = l.length := by simp; omega
      rw [hlen, if_pos (by omega), if_pos (by omega), if_pos (by omega), rdOf_at (List.getElem?_eq_getElem hlt), n64 ((i : Int) + 1) (by omega)]
      rfl
  have e := loop l.length 0 (by omega) (by omega)
  rw [List.take_zero, List.nil_append, Nat.sub_zero] at e
  refine Ev.congr (fun k => ?_) e
  show (if 0 ≤ (l.length : Int) then _ else _) = _
  rw [if_pos (by omega), if_pos (by omega)]
  rfl
theorem eq_texts (l : List ByteArray) (hl : l.length ≤ 9223372036854775800) : Ev (fun k => laws_eqStringS.f k l l) true := by
  have loop : ∀ (j i : Nat), l.length - i = j → i ≤ l.length → Ev (fun k => laws_eqStringS.l0 k l l (i : Int)) true := by
    intro j
    induction j with
    | zero =>
      intro i hj hi
      refine Ev.step (fun k => ?_) (Ev.now _)
      show (if (i : Int) < (l.length : Int) then _ else _) = _
      rw [if_neg (by omega)]
    | succ j ih =>
      intro i hj hi
      refine Ev.step (fun k => ?_) (ih (i + 1) (by omega) (by omega))
      show (if (i : Int) < (l.length : Int) then _ else _) = _
      rw [if_pos (by omega), if_pos (by omega), if_pos (by omega), if_pos rfl, n64 ((i : Int) + 1) (by omega)]
      rfl
  refine Ev.congr (fun k => ?_) (loop l.length 0 (by omega) (by omega))
  show (if (l.length : Int) = (l.length : Int) then _ else _) = _
  rw [if_pos rfl]
  rfl
end Go.Proofs.Ytlekeiokdmnboaa.Pu
end

section
namespace Go.Proofs.Ytlekeiokdmnboaa.Pa
open Go.RowKit Go.Proofs.YtlekeiokdmnboaaW.PrintWords Go.Proofs.YtlekeiokdmnboaaW.PrintLast Go.Proofs.YtlekeiokdmnboaaW.PrintMore Go.Proofs.Ytlekeiokdmnboaa.M
attribute [local go_sem] max2_int min2_int max_two min_two max_three min_three max_four min_four   -- for this text's walks alone
set_option linter.unusedVariables false
set_option maxHeartbeats 8000000
set_option maxRecDepth 100000
set_option linter.unusedSimpArgs false

/-! ### laws_FnExactSuperOf: function 3 -/
def laws_FnExactSuperOf.f (k : Nat) (a0 : Int) (a1 : ByteArray) (l2 : List ByteArray) : Option (Bool) := if (a1.size : Int) > 1048576 then (some true) else ((laws_szStringS.f k l2 1048576).bind fun t299 => (if t299 < 0 then (some true) else ((laws_toStringS.f k l2).bind fun t300 => ((spec_SuperOf.f k a0 a1 t300).bind fun t303 => ((laws_toStringS.f k l2).bind fun t304 => ((impl_SuperOf.f k a0 a1 t304).bind fun t307 => (if t307.toList = t303.toList then ((laws_toStringS.f k l2).bind fun t308 => ((laws_eqStringS.f k t304 t308).bind fun t311 => (if t311 = true then (some true) else (some false)))) else (some false))))))))
theorem laws_FnExactSuperOf.mono : ∀ a0 a1 a2 k, LeO (laws_FnExactSuperOf.f k a0 a1 a2) (laws_FnExactSuperOf.f (k + 1) a0 a1 a2) := by
  intro a0 a1 a2 k
  unfold laws_FnExactSuperOf.f
  have m0 := @impl_SuperOf.mono
  have m1 := @laws_eqStringS.mono
  have m2 := @laws_szStringS.mono
  have m3 := @laws_toStringS.mono
  have m4 := @spec_SuperOf.mono
  exact me
theorem laws_FnExactSuperOf.calls (k : Nat) (a0 : Int) (a1 : ByteArray) (A2 : Option Addr) (c2 : Nat) (l2 : List ByteArray) (r : Bool) (w : World) (hr2 : Kd.C Kd.string w A2 l2.length l2) (hc2 : l2.length ≤ c2) (h : laws_FnExactSuperOf.f k a0 a1 l2 = some r) :
    Calls Try.prog 3 #[.int .i64 a0, .string a1, .slice A2 l2.length c2] w fun e w' => e = .returned (.bool r) ∧ Below w.heap.size w w' := by
 have HR2 := mk0 hr2
 have HC2 := mk0 hc2
 clear hr2 hc2
 have HB := mk0 (Below.refl w.heap.size w)
 have H : (if (a1.size : Int) > 1048576 then (some true) else ((laws_szStringS.f k l2 1048576).bind fun t299 => (if t299 < 0 then (some true) else ((laws_toStringS.f k l2).bind fun t300 => ((spec_SuperOf.f k a0 a1 t300).bind fun t303 => ((laws_toStringS.f k l2).bind fun t304 => ((impl_SuperOf.f k a0 a1 t304).bind fun t307 => (if t307.toList = t303.toList then ((laws_toStringS.f k l2).bind fun t308 => ((laws_eqStringS.f k t304 t308).bind fun t311 => (if t311 = true then (some true) else (some false)))) else (some false))))))))) = some r := h
 clear h
 replace H := ip H; rcases H with ⟨c4, H⟩ | ⟨c4, H⟩
 · have c4b0 : decide (1048576 < (a1.size : Int)) = true := decide_eq_true c4
   have c4b1 : decide (1048576 < a1.size) = true := decide_eq_true (by omega)
   clear c4
   obtain rfl := Option.some.inj H
   go_enter Try.func3, Try.ntmps3
   go_wp2
   go_ret
   exact ⟨sw, bw⟩
 · have c4b0 : decide (1048576 < (a1.size : Int)) = false := decide_eq_false c4
   have c4b1 : decide (1048576 < a1.size) = false := decide_eq_false (by omega)
   clear c4
   replace H := bd H; obtain ⟨t299, A5, H⟩ := H
   replace H := idd H; rcases H with ⟨c6b0, H⟩ | ⟨c6b0, H⟩
   · obtain rfl := Option.some.inj H
     go_enter Try.func3, Try.ntmps3
     go_wp2_with (first | ((with_reducible refine gC 8 (some 16) rfl rfl ?_); refine gQ (some 16) Try.func8 #[.slice A2 l2.length c2, .int .i64 1048576] (laws_szStringS.calls k _ _ l2 1048576 t299 _ (cc HR2.out) HC2.out A5.out) ?_; intro nd))
     go_ret
     exact ⟨sw, bw⟩
   · replace H := bd H; obtain ⟨t300, A7, H⟩ := H
     replace H := bd H; obtain ⟨t303, A8, H⟩ := H
     replace H := bd H; obtain ⟨t304, A9, H⟩ := H
     replace H := bd H; obtain ⟨t307, A10, H⟩ := H
     replace H := it H; rcases H with ⟨c11b0, c11b1, H⟩ | ⟨c11, c11b0, c11b1, H⟩
     · replace H := bd H; obtain ⟨t308, A12, H⟩ := H
       replace H := bd H; obtain ⟨t311, A13, H⟩ := H
       rcases ib t311 with rfl | rfl
       · replace H := jt H
         obtain rfl := Option.some.inj H
         go_enter Try.func3, Try.ntmps3
         go_wp2_with (first | ((with_reducible refine gC 8 (some 16) rfl rfl ?_); refine gQ (some 16) Try.func8 #[.slice A2 l2.length c2, .int .i64 1048576] (laws_szStringS.calls k _ _ l2 1048576 t299 _ (cc HR2.out) HC2.out A5.out) ?_; intro nd) | ((with_reducible refine gC 10 (some 22) rfl rfl ?_); refine gR (some 22) Try.func10 #[.slice A2 l2.length c2] (laws_toStringS.calls k _ _ l2 t300 _ (cc HR2.out) HC2.out A7.out) ?_; intro v301 w15 ho0 hb; have HO302 := mk0 (Kd.R_lower ho0 bs); replace HB := mk0 (below_step bw hb); clear hb ho0; obtain ⟨Ao16, co16, eo16⟩ := Kd.R_slice HO302.out; subst eo16) | ((with_reducible refine gC 9 (some 23) rfl rfl ?_); refine gB (some 23) Try.func9 #[.int .i64 a0, .string a1, .slice Ao16 t300.length co16] (spec_SuperOf.calls k a0 a1 _ _ t300 t303 _ (cc ((Kd.R_reads' HO302.out).2.2)) ((Kd.R_reads' HO302.out).2.1) A8.out) ?_; intro w17 hb; replace HO302 := mk0 (Kd.R_below (rr HO302.out) hb); replace HB := mk0 (below_step bw hb); clear hb) | ((with_reducible refine gC 10 (some 25) rfl rfl ?_); refine gR (some 25) Try.func10 #[.slice A2 l2.length c2] (laws_toStringS.calls k _ _ l2 t304 _ (cc (Kd.C_below HR2.out HB.out)) HC2.out A9.out) ?_; intro v305 w18 ho0 hb; have HO306 := mk0 (Kd.R_lower (Kd.R_new' ho0 (Kd.R_lt (rr HO302.out))) bs); replace HO302 := mk0 (Kd.R_elder' (rr HO302.out) (Kd.R_base ho0) hb); replace HB := mk0 (below_step bw hb); clear hb ho0; obtain ⟨Ao19, co19, eo19⟩ := Kd.R_slice HO306.out; subst eo19) | ((with_reducible refine gC 11 (some 29) rfl rfl ?_); refine gB (some 29) Try.func11 #[.int .i64 a0, .string a1, .slice Ao19 t304.length co19] (impl_SuperOf.calls k a0 a1 _ _ t304 t307 _ (cc ((Kd.R_reads' HO306.out).2.2)) ((Kd.R_reads' HO306.out).2.1) A10.out) ?_; intro w20 hb; replace HO302 := mk0 (Kd.R_below (rr HO302.out) hb); replace HO306 := mk0 (Kd.R_below (rr HO306.out) hb); replace HB := mk0 (below_step bw hb); clear hb) | ((with_reducible refine gC 10 (some 35) rfl rfl ?_); refine gR (some 35) Try.func10 #[.slice A2 l2.length c2] (laws_toStringS.calls k _ _ l2 t308 _ (cc (Kd.C_below HR2.out HB.out)) HC2.out A12.out) ?_; intro v309 w21 ho0 hb; have HO310 := mk0 (Kd.R_lower (Kd.R_new' (Kd.R_new' ho0 (Kd.R_lt (rr HO302.out))) (Kd.R_lt (rr HO306.out))) bs); replace HO302 := mk0 (Kd.R_elder' (rr HO302.out) (Kd.R_base ho0) hb); replace HO306 := mk0 (Kd.R_elder' (rr HO306.out) (Kd.R_base ho0) hb); replace HB := mk0 (below_step bw hb); clear hb ho0; obtain ⟨Ao22, co22, eo22⟩ := Kd.R_slice HO310.out; subst eo22) | ((with_reducible refine gC 12 (some 36) rfl rfl ?_); refine gQ (some 36) Try.func12 #[.slice Ao19 t304.length co19, .slice Ao22 t308.length co22] (laws_eqStringS.calls k _ _ t304 _ _ t308 true _ (cc ((Kd.R_reads' HO306.out).2.2)) ((Kd.R_reads' HO306.out).2.1) (cc ((Kd.R_reads' HO310.out).2.2)) ((Kd.R_reads' HO310.out).2.1) A13.out) ?_; intro nd))
         go_ret
         exact ⟨sw, bw⟩
       · replace H := jf H
         obtain rfl := Option.some.inj H
         go_enter Try.func3, Try.ntmps3
         go_wp2_with (first | ((with_reducible refine gC 8 (some 16) rfl rfl ?_); refine gQ (some 16) Try.func8 #[.slice A2 l2.length c2, .int .i64 1048576] (laws_szStringS.calls k _ _ l2 1048576 t299 _ (cc HR2.out) HC2.out A5.out) ?_; intro nd) | ((with_reducible refine gC 10 (some 22) rfl rfl ?_); refine gR (some 22) Try.func10 #[.slice A2 l2.length c2] (laws_toStringS.calls k _ _ l2 t300 _ (cc HR2.out) HC2.out A7.out) ?_; intro v301 w23 ho0 hb; have HO302 := mk0 (Kd.R_lower ho0 bs); replace HB := mk0 (below_step bw hb); clear hb ho0; obtain ⟨Ao24, co24, eo24⟩ := Kd.R_slice HO302.out; subst eo24) | ((with_reducible refine gC 9 (some 23) rfl rfl ?_); refine gB (some 23) Try.func9 #[.int .i64 a0, .string a1, .slice Ao24 t300.length co24] (spec_SuperOf.calls k a0 a1 _ _ t300 t303 _ (cc ((Kd.R_reads' HO302.out).2.2)) ((Kd.R_reads' HO302.out).2.1) A8.out) ?_; intro w25 hb; replace HO302 := mk0 (Kd.R_below (rr HO302.out) hb); replace HB := mk0 (below_step bw hb); clear hb) | ((with_reducible refine gC 10 (some 25) rfl rfl ?_); refine gR (some 25) Try.func10 #[.slice A2 l2.length c2] (laws_toStringS.calls k _ _ l2 t304 _ (cc (Kd.C_below HR2.out HB.out)) HC2.out A9.out) ?_; intro v305 w26 ho0 hb; have HO306 := mk0 (Kd.R_lower (Kd.R_new' ho0 (Kd.R_lt (rr HO302.out))) bs); replace HO302 := mk0 (Kd.R_elder' (rr HO302.out) (Kd.R_base ho0) hb); replace HB := mk0 (below_step bw hb); clear hb ho0; obtain ⟨Ao27, co27, eo27⟩ := Kd.R_slice HO306.out; subst eo27) | ((with_reducible refine gC 11 (some 29) rfl rfl ?_); refine gB (some 29) Try.func11 #[.int .i64 a0, .string a1, .slice Ao27 t304.length co27] (impl_SuperOf.calls k a0 a1 _ _ t304 t307 _ (cc ((Kd.R_reads' HO306.out).2.2)) ((Kd.R_reads' HO306.out).2.1) A10.out) ?_; intro w28 hb; replace HO302 := mk0 (Kd.R_below (rr HO302.out) hb); replace HO306 := mk0 (Kd.R_below (rr HO306.out) hb); replace HB := mk0 (below_step bw hb); clear hb) | ((with_reducible refine gC 10 (some 35) rfl rfl ?_); refine gR (some 35) Try.func10 #[.slice A2 l2.length c2] (laws_toStringS.calls k _ _ l2 t308 _ (cc (Kd.C_below HR2.out HB.out)) HC2.out A12.out) ?_; intro v309 w29 ho0 hb; have HO310 := mk0 (Kd.R_lower (Kd.R_new' (Kd.R_new' ho0 (Kd.R_lt (rr HO302.out))) (Kd.R_lt (rr HO306.out))) bs); replace HO302 := mk0 (Kd.R_elder' (rr HO302.out) (Kd.R_base ho0) hb); replace HO306 := mk0 (Kd.R_elder' (rr HO306.out) (Kd.R_base ho0) hb); replace HB := mk0 (below_step bw hb); clear hb ho0; obtain ⟨Ao30, co30, eo30⟩ := Kd.R_slice HO310.out; subst eo30) | ((with_reducible refine gC 12 (some 36) rfl rfl ?_); refine gQ (some 36) Try.func12 #[.slice Ao27 t304.length co27, .slice Ao30 t308.length co30] (laws_eqStringS.calls k _ _ t304 _ _ t308 false _ (cc ((Kd.R_reads' HO306.out).2.2)) ((Kd.R_reads' HO306.out).2.1) (cc ((Kd.R_reads' HO310.out).2.2)) ((Kd.R_reads' HO310.out).2.1) A13.out) ?_; intro nd))
         go_ret
         exact ⟨sw, bw⟩
     · obtain rfl := Option.some.inj H
       go_enter Try.func3, Try.ntmps3
       go_wp2_with (first | ((with_reducible refine gC 8 (some 16) rfl rfl ?_); refine gQ (some 16) Try.func8 #[.slice A2 l2.length c2, .int .i64 1048576] (laws_szStringS.calls k _ _ l2 1048576 t299 _ (cc HR2.out) HC2.out A5.out) ?_; intro nd) | ((with_reducible refine gC 10 (some 22) rfl rfl ?_); refine gR (some 22) Try.func10 #[.slice A2 l2.length c2] (laws_toStringS.calls k _ _ l2 t300 _ (cc HR2.out) HC2.out A7.out) ?_; intro v301 w31 ho0 hb; have HO302 := mk0 (Kd.R_lower ho0 bs); replace HB := mk0 (below_step bw hb); clear hb ho0; obtain ⟨Ao32, co32, eo32⟩ := Kd.R_slice HO302.out; subst eo32) | ((with_reducible refine gC 9 (some 23) rfl rfl ?_); refine gB (some 23) Try.func9 #[.int .i64 a0, .string a1, .slice Ao32 t300.length co32] (spec_SuperOf.calls k a0 a1 _ _ t300 t303 _ (cc ((Kd.R_reads' HO302.out).2.2)) ((Kd.R_reads' HO302.out).2.1) A8.out) ?_; intro w33 hb; replace HO302 := mk0 (Kd.R_below (rr HO302.out) hb); replace HB := mk0 (below_step bw hb); clear hb) | ((with_reducible refine gC 10 (some 25) rfl rfl ?_); refine gR (some 25) Try.func10 #[.slice A2 l2.length c2] (laws_toStringS.calls k _ _ l2 t304 _ (cc (Kd.C_below HR2.out HB.out)) HC2.out A9.out) ?_; intro v305 w34 ho0 hb; have HO306 := mk0 (Kd.R_lower (Kd.R_new' ho0 (Kd.R_lt (rr HO302.out))) bs); replace HO302 := mk0 (Kd.R_elder' (rr HO302.out) (Kd.R_base ho0) hb); replace HB := mk0 (below_step bw hb); clear hb ho0; obtain ⟨Ao35, co35, eo35⟩ := Kd.R_slice HO306.out; subst eo35) | ((with_reducible refine gC 11 (some 29) rfl rfl ?_); refine gB (some 29) Try.func11 #[.int .i64 a0, .string a1, .slice Ao35 t304.length co35] (impl_SuperOf.calls k a0 a1 _ _ t304 t307 _ (cc ((Kd.R_reads' HO306.out).2.2)) ((Kd.R_reads' HO306.out).2.1) A10.out) ?_; intro w36 hb; replace HO302 := mk0 (Kd.R_below (rr HO302.out) hb); replace HO306 := mk0 (Kd.R_below (rr HO306.out) hb); replace HB := mk0 (below_step bw hb); clear hb))
       go_ret
       exact ⟨sw, bw⟩
end Go.Proofs.Ytlekeiokdmnboaa.Pa
end

section
/- The law of SuperOf is true at every input; plain Lean over the printed functions. -/
namespace Go.Proofs.Ytlekeiokdmnboaa.Pu
open Go Go.RowKit Go.Proofs.YtlekeiokdmnboaaW.PrintWords Go.Proofs.YtlekeiokdmnboaaW.PrintLast Go.Proofs.YtlekeiokdmnboaaW.PrintMore Go.Proofs.Ytlekeiokdmnboaa.Pa
set_option linter.unusedVariables false

/-- What is turned into a digest. -/
def superB (q : Int) (p : ByteArray) (rs : List ByteArray) : List Int := [3] ++ numB (clamp q) ++ txtB p ++ textsB rs
theorem superB_byte (q : Int) (p : ByteArray) (rs : List ByteArray) : Byte (superB q p rs) :=
  Byte.app (Byte.app (Byte.app (fun x hx => by simp at hx; omega) (numB_byte _)) (txtB_byte p)) (textsB_byte rs)
theorem superB_len (q : Int) (p : ByteArray) (rs : List ByteArray) : (superB q p rs).length ≤ 16 + p.size + 5 * total rs := by
  unfold superB
  have := clamp_len q; have := txtB_len p; have := textsB_len rs
  simp only [List.length_append, List.length_singleton]
  omega
theorem super_spec (q : Int) (p : ByteArray) (rs : List ByteArray) (h : p.size + 5 * total rs < 140737480000000) : Ev (fun k => spec_SuperOf.f k q p rs) (sha (superB q p rs)) := by
  have h1 := clamp_len q; have h2 := txtB_len p; have h3 := superB_len q p rs
  refine Ev.bind (a := superB q p rs) ?_ (Ev.bind (digest_spec _ (by omega) (superB_byte q p rs)) (Ev.now _))
  refine Ev.bind (num_spec [3] q (by simp)) (Ev.bind (txt_spec _ p (by simp only [List.length_append, List.length_singleton]; omega)) (Ev.bind (texts_spec _ rs (by simp only [List.length_append, List.length_singleton]; omega)) (Ev.now _)))
theorem super_impl (q : Int) (p : ByteArray) (rs : List ByteArray) (h : p.size + 5 * total rs < 140737480000000) : Ev (fun k => impl_SuperOf.f k q p rs) (sha (superB q p rs)) := by
  have h1 := clamp_len q; have h2 := txtB_len p; have h3 := superB_len q p rs
  refine Ev.bind (num_impl [3] q (by simp)) (Ev.bind (txt_impl _ p (by simp only [List.length_append, List.length_singleton]; omega)) (Ev.bind (texts_impl _ rs (by simp only [List.length_append, List.length_singleton]; omega)) (Ev.bind (digest_impl _ (by exact Nat.lt_of_le_of_lt h3 (by omega)) (superB_byte q p rs)) (Ev.now _))))
theorem law_super (q : Int) (p : ByteArray) (rs : List ByteArray) (hr : Has rs) : Ev (fun k => laws_FnExactSuperOf.f k q p rs) true := by
  obtain ⟨K1, e1⟩ := sz_texts rs hr 1048576 (by omega) (by omega)
  dsimp only at e1
  by_cases c1 : (p.size : Int) > 1048576
  · refine ⟨0, fun k _ => ?_⟩
    show laws_FnExactSuperOf.f k q p rs = some true
    unfold laws_FnExactSuperOf.f
    rw [if_pos c1]
  · by_cases c2 : (total rs : Int) ≤ 1048576
    · have hl := total_len rs
      obtain ⟨K2, e2⟩ := to_texts rs (by omega)
      obtain ⟨K3, e3⟩ := super_spec q p rs (by omega)
      obtain ⟨K4, e4⟩ := super_impl q p rs (by omega)
      obtain ⟨K5, e5⟩ := eq_texts rs (by omega)
      dsimp only at e2 e3 e4 e5
      refine ⟨K1 + K2 + K3 + K4 + K5, fun k hk => ?_⟩
      show laws_FnExactSuperOf.f k q p rs = some true
      unfold laws_FnExactSuperOf.f
      rw [if_neg c1, e1 k (by omega)]
      simp only [Option.bind_some, if_pos c2]
      rw [if_neg (by omega)]
      simp only [e2 k (by omega), e3 k (by omega), e4 k (by omega), e5 k (by omega), Option.bind_some, if_true]
    · refine ⟨K1, fun k hk => ?_⟩
      show laws_FnExactSuperOf.f k q p rs = some true
      unfold laws_FnExactSuperOf.f
      rw [if_neg c1, e1 k (by omega)]
      simp only [Option.bind_some, if_neg c2]
      rw [if_pos (by omega)]
end Go.Proofs.Ytlekeiokdmnboaa.Pu
end

section
namespace Go.Proofs.Ytlekeiokdmnboaa.Pa
open Go.RowKit Go.Proofs.YtlekeiokdmnboaaW.PrintWords Go.Proofs.YtlekeiokdmnboaaW.PrintLast Go.Proofs.YtlekeiokdmnboaaW.PrintMore Go.Proofs.Ytlekeiokdmnboaa.M
attribute [local go_sem] max2_int min2_int max_two min_two max_three min_three max_four min_four   -- for this text's walks alone
set_option linter.unusedVariables false
set_option maxHeartbeats 8000000
set_option maxRecDepth 100000
set_option linter.unusedSimpArgs false

/-! ### laws_szSeal: function 13 -/
def laws_szSeal.f (k : Nat) (a0_0 : Int) (a0_1 : ByteArray) (a0_2 : ByteArray) (l0_3 : List ByteArray) (a1 : Int) : Option (Int) := if (wrap64 (a1 - (a0_1.size : Int))) < 0 then (some (-1)) else (if (wrap64 ((wrap64 (a1 - (a0_1.size : Int))) - (a0_2.size : Int))) < 0 then (some (-1)) else ((laws_szStringS.f k l0_3 (wrap64 ((wrap64 (a1 - (a0_1.size : Int))) - (a0_2.size : Int)))).bind fun t313 => (if t313 < 0 then (some (-1)) else (some t313))))
theorem laws_szSeal.mono : ∀ a0 a1 a2 a3 a4 k, LeO (laws_szSeal.f k a0 a1 a2 a3 a4) (laws_szSeal.f (k + 1) a0 a1 a2 a3 a4) := by
  intro a0 a1 a2 a3 a4 k
  unfold laws_szSeal.f
  have m0 := @laws_szStringS.mono
  exact me
theorem laws_szSeal.calls (k : Nat) (a0_0 : Int) (a0_1 : ByteArray) (a0_2 : ByteArray) (A0_3 : Option Addr) (c0_3 : Nat) (l0_3 : List ByteArray) (a1 : Int) (r : Int) (w : World) (hr0_3 : Kd.C Kd.string w A0_3 l0_3.length l0_3) (hc0_3 : l0_3.length ≤ c0_3) (h : laws_szSeal.f k a0_0 a0_1 a0_2 l0_3 a1 = some r) :
    Calls Try.prog 13 #[.agg #[.int .i64 a0_0, .string a0_1, .string a0_2, .slice A0_3 l0_3.length c0_3], .int .i64 a1] w fun e w' => e = .returned (.int .i64 r) ∧ Below w.heap.size w w' := by
 have hu29 := Try.underlying29
 have HR0_3 := mk0 hr0_3
 have HC0_3 := mk0 hc0_3
 clear hr0_3 hc0_3
 have HB := mk0 (Below.refl w.heap.size w)
 have H : (if (wrap64 (a1 - (a0_1.size : Int))) < 0 then (some (-1)) else (if (wrap64 ((wrap64 (a1 - (a0_1.size : Int))) - (a0_2.size : Int))) < 0 then (some (-1)) else ((laws_szStringS.f k l0_3 (wrap64 ((wrap64 (a1 - (a0_1.size : Int))) - (a0_2.size : Int)))).bind fun t313 => (if t313 < 0 then (some (-1)) else (some t313))))) = some r := h
 clear h
 replace H := idd H; rcases H with ⟨c3b0, H⟩ | ⟨c3b0, H⟩
 · obtain rfl := Option.some.inj H
   go_enter Try.func13, Try.ntmps13
   go_wp2_with (first | ((with_reducible refine gD 2 rfl ?_); refine bx 2 #[.int .i64 a0_0, .string a0_1, .string a0_2, .slice A0_3 l0_3.length c0_3] 29 bw ?_; clear HB; intro gb312 w4 BK312 GW312 HB; obtain ⟨hcz5_0, hcz5_1, hcz5_2, hcz5_3, hfz5_0, hfz5_1, hfz5_2, hfz5_3⟩ := z4 BK312))
   go_ret
   exact ⟨sw, (bg GW312)⟩
 · replace H := idd H; rcases H with ⟨c6b0, H⟩ | ⟨c6b0, H⟩
   · obtain rfl := Option.some.inj H
     go_enter Try.func13, Try.ntmps13
     go_wp2_with (first | ((with_reducible refine gD 2 rfl ?_); refine bx 2 #[.int .i64 a0_0, .string a0_1, .string a0_2, .slice A0_3 l0_3.length c0_3] 29 bw ?_; clear HB; intro gb312 w7 BK312 GW312 HB; obtain ⟨hcz8_0, hcz8_1, hcz8_2, hcz8_3, hfz8_0, hfz8_1, hfz8_2, hfz8_3⟩ := z4 BK312))
     go_ret
     exact ⟨sw, (bg GW312)⟩
   · replace H := bd H; obtain ⟨t313, A9, H⟩ := H
     replace H := idd H; rcases H with ⟨c10b0, H⟩ | ⟨c10b0, H⟩
     · obtain rfl := Option.some.inj H
       go_enter Try.func13, Try.ntmps13
       go_wp2_with (first | ((with_reducible refine gD 2 rfl ?_); refine bx 2 #[.int .i64 a0_0, .string a0_1, .string a0_2, .slice A0_3 l0_3.length c0_3] 29 bw ?_; clear HB; intro gb312 w11 BK312 GW312 HB; obtain ⟨hcz12_0, hcz12_1, hcz12_2, hcz12_3, hfz12_0, hfz12_1, hfz12_2, hfz12_3⟩ := z4 BK312) | ((with_reducible refine gC 8 (some 22) rfl rfl ?_); refine gQ (some 22) Try.func8 #[.slice A0_3 l0_3.length c0_3, .int .i64 (wrap64 ((wrap64 (a1 - (a0_1.size : Int))) - (a0_2.size : Int)))] (laws_szStringS.calls k _ _ l0_3 (wrap64 ((wrap64 (a1 - (a0_1.size : Int))) - (a0_2.size : Int))) t313 _ (cc (Kd.C_below HR0_3.out HB.out)) HC0_3.out A9.out) ?_; intro nd))
       go_ret
       exact ⟨sw, (bg GW312)⟩
     · obtain rfl := Option.some.inj H
       go_enter Try.func13, Try.ntmps13
       go_wp2_with (first | ((with_reducible refine gD 2 rfl ?_); refine bx 2 #[.int .i64 a0_0, .string a0_1, .string a0_2, .slice A0_3 l0_3.length c0_3] 29 bw ?_; clear HB; intro gb312 w13 BK312 GW312 HB; obtain ⟨hcz14_0, hcz14_1, hcz14_2, hcz14_3, hfz14_0, hfz14_1, hfz14_2, hfz14_3⟩ := z4 BK312) | ((with_reducible refine gC 8 (some 22) rfl rfl ?_); refine gQ (some 22) Try.func8 #[.slice A0_3 l0_3.length c0_3, .int .i64 (wrap64 ((wrap64 (a1 - (a0_1.size : Int))) - (a0_2.size : Int)))] (laws_szStringS.calls k _ _ l0_3 (wrap64 ((wrap64 (a1 - (a0_1.size : Int))) - (a0_2.size : Int))) t313 _ (cc (Kd.C_below HR0_3.out HB.out)) HC0_3.out A9.out) ?_; intro nd))
       go_ret
       exact ⟨sw, (bg GW312)⟩
/-! ### laws_toSeal: function 15 -/
def laws_toSeal.f (k : Nat) (a0_0 : Int) (a0_1 : ByteArray) (a0_2 : ByteArray) (l0_3 : List ByteArray) : Option (Int × ByteArray × ByteArray × List ByteArray) := (laws_toStringS.f k l0_3).bind fun t322 => (some (a0_0, a0_1, a0_2, t322))
theorem laws_toSeal.mono : ∀ a0 a1 a2 a3 k, LeO (laws_toSeal.f k a0 a1 a2 a3) (laws_toSeal.f (k + 1) a0 a1 a2 a3) := by
  intro a0 a1 a2 a3 k
  unfold laws_toSeal.f
  have m0 := @laws_toStringS.mono
  exact me
theorem laws_toSeal.calls (k : Nat) (a0_0 : Int) (a0_1 : ByteArray) (a0_2 : ByteArray) (A0_3 : Option Addr) (c0_3 : Nat) (l0_3 : List ByteArray) (r1 : Int) (r2 : ByteArray) (r3 : ByteArray) (r4 : List ByteArray) (w : World) (hr0_3 : Kd.C Kd.string w A0_3 l0_3.length l0_3) (hc0_3 : l0_3.length ≤ c0_3) (h : laws_toSeal.f k a0_0 a0_1 a0_2 l0_3 = some (r1, r2, r3, r4)) :
    Calls Try.prog 15 #[.agg #[.int .i64 a0_0, .string a0_1, .string a0_2, .slice A0_3 l0_3.length c0_3]] w fun e w' => ∃ v3_ : Value, e = .returned (.agg #[.int .i64 r1, .string r2, .string r3, v3_]) ∧ Kd.R Kd.string 9 w' w.heap.size (fun _ => True) v3_ r4 ∧ Below w.heap.size w w' := by
 have hu29 := Try.underlying29
 have hu32 := Try.underlying32
 have HR0_3 := mk0 hr0_3
 have HC0_3 := mk0 hc0_3
 clear hr0_3 hc0_3
 have HB := mk0 (Below.refl w.heap.size w)
 have H : ((laws_toStringS.f k l0_3).bind fun t322 => (some (a0_0, a0_1, a0_2, t322))) = some (r1, r2, r3, r4) := h
 clear h
 replace H := bd H; obtain ⟨t322, A2, H⟩ := H
 simp only [Option.some.injEq, Prod.mk.injEq] at H
 obtain ⟨rfl, rfl, rfl, rfl⟩ := H
 go_enter Try.func15, Try.ntmps15
 go_wp2_with (first | ((with_reducible refine gD 1 rfl ?_); refine bx 1 #[.int .i64 a0_0, .string a0_1, .string a0_2, .slice A0_3 l0_3.length c0_3] 29 bw ?_; clear HB; intro gb319 w3 BK319 GW319 HB) | ((with_reducible refine gD 2 rfl ?_); refine bx0 2 #[.int .i64 0, .string (⟨#[]⟩ : ByteArray), .string (⟨#[]⟩ : ByteArray), .slice none 0 0] 32 ?_; intro gb320 hg w4 hbox hb; have BK320 := mk0 (hbox); have GW320 := mk0 ((by rw [hg]; exact (below_size (bg GW319)) : w.heap.size ≤ gb320)); have GE320 := mk0 ((by rw [hg]; exact (below_size (bg GW319)) : w.heap.size ≤ gb320)); replace HB := mk0 (below_step (bg GW319) hb); have NB319_320 := mk0 ((by rw [hg]; exact Nat.ne_of_lt (blk_lt (g := gb319) (o := .cells #[.int .i64 a0_0, .string a0_1, .string a0_2, .slice A0_3 l0_3.length c0_3] 29 (0, 0)) (kb BK319.out)) : gb319 ≠ gb320)); have NB320_319 := mk0 ((by rw [hg]; exact Nat.ne_of_gt (blk_lt (g := gb319) (o := .cells #[.int .i64 a0_0, .string a0_1, .string a0_2, .slice A0_3 l0_3.length c0_3] 29 (0, 0)) (kb BK319.out)) : gb320 ≠ gb319)); replace BK319 := mk0 (blk_below (kb BK319.out) hb); clear hb hbox hg) | ((with_reducible refine gD 3 rfl ?_); refine bx0 3 #[.int .i64 0, .string (⟨#[]⟩ : ByteArray), .string (⟨#[]⟩ : ByteArray), .slice none 0 0] 32 ?_; intro gb321 hg w5 hbox hb; have BK321 := mk0 (hbox); have GW321 := mk0 ((by rw [hg]; exact (below_size ((bg2 GW319 GE320))) : w.heap.size ≤ gb321)); have GE321 := mk0 ((by rw [hg]; exact (below_size ((bg2 GW319 GE320))) : w.heap.size ≤ gb321)); replace HB := mk0 (below_step ((bg2 GW319 GE320)) hb); have NB319_321 := mk0 ((by rw [hg]; exact Nat.ne_of_lt (blk_lt (g := gb319) (o := .cells #[.int .i64 a0_0, .string a0_1, .string a0_2, .slice A0_3 l0_3.length c0_3] 29 (0, 0)) (kb BK319.out)) : gb319 ≠ gb321)); have NB321_319 := mk0 ((by rw [hg]; exact Nat.ne_of_gt (blk_lt (g := gb319) (o := .cells #[.int .i64 a0_0, .string a0_1, .string a0_2, .slice A0_3 l0_3.length c0_3] 29 (0, 0)) (kb BK319.out)) : gb321 ≠ gb319)); replace BK319 := mk0 (blk_below (kb BK319.out) hb); have NB320_321 := mk0 ((by rw [hg]; exact Nat.ne_of_lt (blk_lt (g := gb320) (o := .cells #[.int .i64 0, .string (⟨#[]⟩ : ByteArray), .string (⟨#[]⟩ : ByteArray), .slice none 0 0] 32 (0, 0)) (kb BK320.out)) : gb320 ≠ gb321)); have NB321_320 := mk0 ((by rw [hg]; exact Nat.ne_of_gt (blk_lt (g := gb320) (o := .cells #[.int .i64 0, .string (⟨#[]⟩ : ByteArray), .string (⟨#[]⟩ : ByteArray), .slice none 0 0] 32 (0, 0)) (kb BK320.out)) : gb321 ≠ gb320)); replace BK320 := mk0 (blk_below (kb BK320.out) hb); clear hb hbox hg; have hnb6 := NB319_320.out; have hnc6 := NB320_319.out; have hnb7 := NB319_321.out; have hnc7 := NB321_319.out; obtain ⟨hcz8_0, hcz8_1, hcz8_2, hcz8_3, hfz8_0, hfz8_1, hfz8_2, hfz8_3⟩ := z4 BK319; have hnb9 := NB321_320.out; have hnc9 := NB320_321.out; obtain ⟨hcz10_0, hcz10_1, hcz10_2, hcz10_3, hfz10_0, hfz10_1, hfz10_2, hfz10_3⟩ := z4 BK321) | ((with_reducible refine gC 10 (some 15) rfl rfl ?_); refine gR (some 15) Try.func10 #[.slice A0_3 l0_3.length c0_3] (laws_toStringS.calls k _ _ l0_3 t322 _ (Kd.C_below HR0_3.out ((bg3 GW319 GE320 GE321))) HC0_3.out A2.out) ?_; intro v323 w11 ho0 hb; have HO324 := mk0 (Kd.R_lower ho0 (below_size ((bg3 GW319 GE320 GE321)))); replace BK319 := mk0 (blk_below (g := gb319) (o := .cells #[.int .i64 a0_0, .string a0_1, .string a0_2, .slice A0_3 l0_3.length c0_3] 29 (0, 0)) (by (with_reducible repeat (first | refine blk_drewN ?_ _ | refine blk_drew ?_ | refine blk_alloc ?_ _)); refine blk_far ?_ NB319_321.out _; (with_reducible repeat (first | refine blk_drewN ?_ _ | refine blk_drew ?_ | refine blk_alloc ?_ _)); refine blk_far ?_ NB319_321.out _; (with_reducible repeat (first | refine blk_drewN ?_ _ | refine blk_drew ?_ | refine blk_alloc ?_ _)); refine blk_far ?_ NB319_321.out _; (with_reducible repeat (first | refine blk_drewN ?_ _ | refine blk_drew ?_ | refine blk_alloc ?_ _)); exact BK319.out) hb); replace BK320 := mk0 (blk_below (g := gb320) (o := .cells #[.int .i64 0, .string (⟨#[]⟩ : ByteArray), .string (⟨#[]⟩ : ByteArray), .slice none 0 0] 32 (0, 0)) (by (with_reducible repeat (first | refine blk_drewN ?_ _ | refine blk_drew ?_ | refine blk_alloc ?_ _)); refine blk_far ?_ NB320_321.out _; (with_reducible repeat (first | refine blk_drewN ?_ _ | refine blk_drew ?_ | refine blk_alloc ?_ _)); refine blk_far ?_ NB320_321.out _; (with_reducible repeat (first | refine blk_drewN ?_ _ | refine blk_drew ?_ | refine blk_alloc ?_ _)); refine blk_far ?_ NB320_321.out _; (with_reducible repeat (first | refine blk_drewN ?_ _ | refine blk_drew ?_ | refine blk_alloc ?_ _)); exact BK320.out) hb); replace BK321 := mk0 (blk_below (g := gb321) (o := .cells #[.int .i64 a0_0, .string a0_1, .string a0_2, .slice none 0 0] 32 (0, 0)) (by (with_reducible repeat (first | refine blk_drewN ?_ _ | refine blk_drew ?_ | refine blk_alloc ?_ _)); refine blk_put (cs := #[.int .i64 a0_0, .string a0_1, .string (⟨#[]⟩ : ByteArray), .slice none 0 0]) ?_ 2 _ rfl; (with_reducible repeat (first | refine blk_drewN ?_ _ | refine blk_drew ?_ | refine blk_alloc ?_ _)); refine blk_put (cs := #[.int .i64 a0_0, .string (⟨#[]⟩ : ByteArray), .string (⟨#[]⟩ : ByteArray), .slice none 0 0]) ?_ 1 _ rfl; (with_reducible repeat (first | refine blk_drewN ?_ _ | refine blk_drew ?_ | refine blk_alloc ?_ _)); refine blk_put (cs := #[.int .i64 0, .string (⟨#[]⟩ : ByteArray), .string (⟨#[]⟩ : ByteArray), .slice none 0 0]) ?_ 0 _ rfl; (with_reducible repeat (first | refine blk_drewN ?_ _ | refine blk_drew ?_ | refine blk_alloc ?_ _)); exact BK321.out) hb); replace HB := mk0 (below_step ((bg3 GW319 GE320 GE321)) hb); clear hb ho0; obtain ⟨Ao12, co12, eo12⟩ := Kd.R_slice HO324.out; subst eo12; obtain ⟨hcz13_0, hcz13_1, hcz13_2, hcz13_3, hfz13_0, hfz13_1, hfz13_2, hfz13_3⟩ := z4 BK321; obtain ⟨hcz14_0, hcz14_1, hcz14_2, hcz14_3, hfz14_0, hfz14_1, hfz14_2, hfz14_3⟩ := z4 BK320))
 refine bodyPost_ret (results_cell_row rfl _ _ gb320 32 #[.int .i64 a0_0, .string a0_1, .string a0_2, .slice Ao12 t322.length co12] (0, 0) _ rfl (by (with_reducible repeat (first | refine blk_drewN ?_ _ | refine blk_drew ?_ | refine blk_alloc ?_ _)); refine blk_put (cs := #[.int .i64 a0_0, .string a0_1, .string a0_2, .slice none 0 0]) ?_ 3 _ rfl; (with_reducible repeat (first | refine blk_drewN ?_ _ | refine blk_drew ?_ | refine blk_alloc ?_ _)); refine blk_put (cs := #[.int .i64 a0_0, .string a0_1, .string (⟨#[]⟩ : ByteArray), .slice none 0 0]) ?_ 2 _ rfl; (with_reducible repeat (first | refine blk_drewN ?_ _ | refine blk_drew ?_ | refine blk_alloc ?_ _)); refine blk_put (cs := #[.int .i64 a0_0, .string (⟨#[]⟩ : ByteArray), .string (⟨#[]⟩ : ByteArray), .slice none 0 0]) ?_ 1 _ rfl; (with_reducible repeat (first | refine blk_drewN ?_ _ | refine blk_drew ?_ | refine blk_alloc ?_ _)); refine blk_put (cs := #[.int .i64 0, .string (⟨#[]⟩ : ByteArray), .string (⟨#[]⟩ : ByteArray), .slice none 0 0]) ?_ 0 _ rfl; (with_reducible repeat (first | refine blk_drewN ?_ _ | refine blk_drew ?_ | refine blk_alloc ?_ _)); refine blk_far ?_ NB320_321.out _; (with_reducible repeat (first | refine blk_drewN ?_ _ | refine blk_drew ?_ | refine blk_alloc ?_ _)); exact BK320.out) Try.underlying32 rfl (by kernel_rfl)) rfl ?_
 exact ⟨_, sw, by (with_reducible repeat (first | apply Kd.R_alloc | apply Kd.R_drewN | apply Kd.R_drew)); exact Kd.R_mono (Kd.R_far (p := ⟨gb320, 3, none⟩) (Kd.R_far (p := ⟨gb320, 2, none⟩) (Kd.R_far (p := ⟨gb320, 1, none⟩) (Kd.R_far (p := ⟨gb320, 0, none⟩) (Kd.R_far (p := ⟨gb321, 3, none⟩) (Kd.R_types (Kd.R_types HO324.out BK321.out (by decide)) BK320.out (by decide)) (fun _ hk => hk.1.2) (.slice Ao12 t322.length co12)) (fun _ hk => hk.2) (.int .i64 a0_0)) (fun _ hk => hk.2) (.string a0_1)) (fun _ hk => hk.2) (.string a0_2)) (fun _ hk => hk.2) (.slice Ao12 t322.length co12)) (fun _ hk => trivial), (bg3 GW319 GE320 GE321)⟩
/-! ### laws_eqSeal: function 17 -/
def laws_eqSeal.f (k : Nat) (a0_0 : Int) (a0_1 : ByteArray) (a0_2 : ByteArray) (l0_3 : List ByteArray) (a1_0 : Int) (a1_1 : ByteArray) (a1_2 : ByteArray) (l1_3 : List ByteArray) : Option (Bool) := if a0_0 = a1_0 then (if a0_1.toList = a1_1.toList then (if a0_2.toList = a1_2.toList then ((laws_eqStringS.f k l0_3 l1_3).bind fun t332 => (if t332 = true then (some true) else (some false))) else (some false)) else (some false)) else (some false)
theorem laws_eqSeal.mono : ∀ a0 a1 a2 a3 a4 a5 a6 a7 k, LeO (laws_eqSeal.f k a0 a1 a2 a3 a4 a5 a6 a7) (laws_eqSeal.f (k + 1) a0 a1 a2 a3 a4 a5 a6 a7) := by
  intro a0 a1 a2 a3 a4 a5 a6 a7 k
  unfold laws_eqSeal.f
  have m0 := @laws_eqStringS.mono
  exact me
theorem laws_eqSeal.calls (k : Nat) (a0_0 : Int) (a0_1 : ByteArray) (a0_2 : ByteArray) (A0_3 : Option Addr) (c0_3 : Nat) (l0_3 : List ByteArray) (a1_0 : Int) (a1_1 : ByteArray) (a1_2 : ByteArray) (A1_3 : Option Addr) (c1_3 : Nat) (l1_3 : List ByteArray) (r : Bool) (w : World) (hr0_3 : Kd.C Kd.string w A0_3 l0_3.length l0_3) (hc0_3 : l0_3.length ≤ c0_3) (hr1_3 : Kd.C Kd.string w A1_3 l1_3.length l1_3) (hc1_3 : l1_3.length ≤ c1_3) (h : laws_eqSeal.f k a0_0 a0_1 a0_2 l0_3 a1_0 a1_1 a1_2 l1_3 = some r) :
    Calls Try.prog 17 #[.agg #[.int .i64 a0_0, .string a0_1, .string a0_2, .slice A0_3 l0_3.length c0_3], .agg #[.int .i64 a1_0, .string a1_1, .string a1_2, .slice A1_3 l1_3.length c1_3]] w fun e w' => e = .returned (.bool r) ∧ Below w.heap.size w w' := by
 have hu32 := Try.underlying32
 have HR0_3 := mk0 hr0_3
 have HC0_3 := mk0 hc0_3
 clear hr0_3 hc0_3
 have HR1_3 := mk0 hr1_3
 have HC1_3 := mk0 hc1_3
 clear hr1_3 hc1_3
 have HB := mk0 (Below.refl w.heap.size w)
 have H : (if a0_0 = a1_0 then (if a0_1.toList = a1_1.toList then (if a0_2.toList = a1_2.toList then ((laws_eqStringS.f k l0_3 l1_3).bind fun t332 => (if t332 = true then (some true) else (some false))) else (some false)) else (some false)) else (some false)) = some r := h
 clear h
 replace H := iq H; rcases H with ⟨c3b0, c3b1, H⟩ | ⟨c3, c3b0, c3b1, H⟩
 · replace H := it H; rcases H with ⟨c4b0, c4b1, H⟩ | ⟨c4, c4b0, c4b1, H⟩
   · replace H := it H; rcases H with ⟨c5b0, c5b1, H⟩ | ⟨c5, c5b0, c5b1, H⟩
     · replace H := bd H; obtain ⟨t332, A6, H⟩ := H
       rcases ib t332 with rfl | rfl
       · replace H := jt H
         obtain rfl := Option.some.inj H
         go_enter Try.func17, Try.ntmps17
         go_wp2_with (first | ((with_reducible refine gD 2 rfl ?_); refine bx 2 #[.int .i64 a0_0, .string a0_1, .string a0_2, .slice A0_3 l0_3.length c0_3] 32 bw ?_; clear HB; intro gb330 w8 BK330 GW330 HB) | ((with_reducible refine gD 3 rfl ?_); refine bx0 3 #[.int .i64 a1_0, .string a1_1, .string a1_2, .slice A1_3 l1_3.length c1_3] 32 ?_; intro gb331 hg w9 hbox hb; have BK331 := mk0 (hbox); have GW331 := mk0 ((by rw [hg]; exact (below_size (bg GW330)) : w.heap.size ≤ gb331)); have GE331 := mk0 ((by rw [hg]; exact (below_size (bg GW330)) : w.heap.size ≤ gb331)); replace HB := mk0 (below_step (bg GW330) hb); have NB330_331 := mk0 ((by rw [hg]; exact Nat.ne_of_lt (blk_lt (g := gb330) (o := .cells #[.int .i64 a0_0, .string a0_1, .string a0_2, .slice A0_3 l0_3.length c0_3] 32 (0, 0)) (kb BK330.out)) : gb330 ≠ gb331)); have NB331_330 := mk0 ((by rw [hg]; exact Nat.ne_of_gt (blk_lt (g := gb330) (o := .cells #[.int .i64 a0_0, .string a0_1, .string a0_2, .slice A0_3 l0_3.length c0_3] 32 (0, 0)) (kb BK330.out)) : gb331 ≠ gb330)); replace BK330 := mk0 (blk_below (kb BK330.out) hb); clear hb hbox hg; have hnb10 := NB330_331.out; have hnc10 := NB331_330.out; obtain ⟨hcz11_0, hcz11_1, hcz11_2, hcz11_3, hfz11_0, hfz11_1, hfz11_2, hfz11_3⟩ := z4 BK330; obtain ⟨hcz12_0, hcz12_1, hcz12_2, hcz12_3, hfz12_0, hfz12_1, hfz12_2, hfz12_3⟩ := z4 BK331) | ((with_reducible refine gC 12 (some 24) rfl rfl ?_); refine gQ (some 24) Try.func12 #[.slice A0_3 l0_3.length c0_3, .slice A1_3 l1_3.length c1_3] (laws_eqStringS.calls k _ _ l0_3 _ _ l1_3 true _ (cc (Kd.C_below HR0_3.out HB.out)) HC0_3.out (cc (Kd.C_below HR1_3.out HB.out)) HC1_3.out A6.out) ?_; intro nd))
         go_ret
         exact ⟨sw, (bg2 GW330 GE331)⟩
       · replace H := jf H
         obtain rfl := Option.some.inj H
         go_enter Try.func17, Try.ntmps17
         go_wp2_with (first | ((with_reducible refine gD 2 rfl ?_); refine bx 2 #[.int .i64 a0_0, .string a0_1, .string a0_2, .slice A0_3 l0_3.length c0_3] 32 bw ?_; clear HB; intro gb330 w13 BK330 GW330 HB) | ((with_reducible refine gD 3 rfl ?_); refine bx0 3 #[.int .i64 a1_0, .string a1_1, .string a1_2, .slice A1_3 l1_3.length c1_3] 32 ?_; intro gb331 hg w14 hbox hb; have BK331 := mk0 (hbox); have GW331 := mk0 ((by rw [hg]; exact (below_size (bg GW330)) : w.heap.size ≤ gb331)); have GE331 := mk0 ((by rw [hg]; exact (below_size (bg GW330)) : w.heap.size ≤ gb331)); replace HB := mk0 (below_step (bg GW330) hb); have NB330_331 := mk0 ((by rw [hg]; exact Nat.ne_of_lt (blk_lt (g := gb330) (o := .cells #[.int .i64 a0_0, .string a0_1, .string a0_2, .slice A0_3 l0_3.length c0_3] 32 (0, 0)) (kb BK330.out)) : gb330 ≠ gb331)); have NB331_330 := mk0 ((by rw [hg]; exact Nat.ne_of_gt (blk_lt (g := gb330) (o := .cells #[.int .i64 a0_0, .string a0_1, .string a0_2, .slice A0_3 l0_3.length c0_3] 32 (0, 0)) (kb BK330.out)) : gb331 ≠ gb330)); replace BK330 := mk0 (blk_below (kb BK330.out) hb); clear hb hbox hg; have hnb15 := NB330_331.out; have hnc15 := NB331_330.out; obtain ⟨hcz16_0, hcz16_1, hcz16_2, hcz16_3, hfz16_0, hfz16_1, hfz16_2, hfz16_3⟩ := z4 BK330; obtain ⟨hcz17_0, hcz17_1, hcz17_2, hcz17_3, hfz17_0, hfz17_1, hfz17_2, hfz17_3⟩ := z4 BK331) | ((with_reducible refine gC 12 (some 24) rfl rfl ?_); refine gQ (some 24) Try.func12 #[.slice A0_3 l0_3.length c0_3, .slice A1_3 l1_3.length c1_3] (laws_eqStringS.calls k _ _ l0_3 _ _ l1_3 false _ (cc (Kd.C_below HR0_3.out HB.out)) HC0_3.out (cc (Kd.C_below HR1_3.out HB.out)) HC1_3.out A6.out) ?_; intro nd))
         go_ret
         exact ⟨sw, (bg2 GW330 GE331)⟩
     · obtain rfl := Option.some.inj H
       go_enter Try.func17, Try.ntmps17
       go_wp2_with (first | ((with_reducible refine gD 2 rfl ?_); refine bx 2 #[.int .i64 a0_0, .string a0_1, .string a0_2, .slice A0_3 l0_3.length c0_3] 32 bw ?_; clear HB; intro gb330 w18 BK330 GW330 HB) | ((with_reducible refine gD 3 rfl ?_); refine bx0 3 #[.int .i64 a1_0, .string a1_1, .string a1_2, .slice A1_3 l1_3.length c1_3] 32 ?_; intro gb331 hg w19 hbox hb; have BK331 := mk0 (hbox); have GW331 := mk0 ((by rw [hg]; exact (below_size (bg GW330)) : w.heap.size ≤ gb331)); have GE331 := mk0 ((by rw [hg]; exact (below_size (bg GW330)) : w.heap.size ≤ gb331)); replace HB := mk0 (below_step (bg GW330) hb); have NB330_331 := mk0 ((by rw [hg]; exact Nat.ne_of_lt (blk_lt (g := gb330) (o := .cells #[.int .i64 a0_0, .string a0_1, .string a0_2, .slice A0_3 l0_3.length c0_3] 32 (0, 0)) (kb BK330.out)) : gb330 ≠ gb331)); have NB331_330 := mk0 ((by rw [hg]; exact Nat.ne_of_gt (blk_lt (g := gb330) (o := .cells #[.int .i64 a0_0, .string a0_1, .string a0_2, .slice A0_3 l0_3.length c0_3] 32 (0, 0)) (kb BK330.out)) : gb331 ≠ gb330)); replace BK330 := mk0 (blk_below (kb BK330.out) hb); clear hb hbox hg; have hnb20 := NB330_331.out; have hnc20 := NB331_330.out; obtain ⟨hcz21_0, hcz21_1, hcz21_2, hcz21_3, hfz21_0, hfz21_1, hfz21_2, hfz21_3⟩ := z4 BK330; obtain ⟨hcz22_0, hcz22_1, hcz22_2, hcz22_3, hfz22_0, hfz22_1, hfz22_2, hfz22_3⟩ := z4 BK331))
       go_ret
       exact ⟨sw, (bg2 GW330 GE331)⟩
   · obtain rfl := Option.some.inj H
     go_enter Try.func17, Try.ntmps17
     go_wp2_with (first | ((with_reducible refine gD 2 rfl ?_); refine bx 2 #[.int .i64 a0_0, .string a0_1, .string a0_2, .slice A0_3 l0_3.length c0_3] 32 bw ?_; clear HB; intro gb330 w23 BK330 GW330 HB) | ((with_reducible refine gD 3 rfl ?_); refine bx0 3 #[.int .i64 a1_0, .string a1_1, .string a1_2, .slice A1_3 l1_3.length c1_3] 32 ?_; intro gb331 hg w24 hbox hb; have BK331 := mk0 (hbox); have GW331 := mk0 ((by rw [hg]; exact (below_size (bg GW330)) : w.heap.size ≤ gb331)); have GE331 := mk0 ((by rw [hg]; exact (below_size (bg GW330)) : w.heap.size ≤ gb331)); replace HB := mk0 (below_step (bg GW330) hb); have NB330_331 := mk0 ((by rw [hg]; exact Nat.ne_of_lt (blk_lt (g := gb330) (o := .cells #[.int .i64 a0_0, .string a0_1, .string a0_2, .slice A0_3 l0_3.length c0_3] 32 (0, 0)) (kb BK330.out)) : gb330 ≠ gb331)); have NB331_330 := mk0 ((by rw [hg]; exact Nat.ne_of_gt (blk_lt (g := gb330) (o := .cells #[.int .i64 a0_0, .string a0_1, .string a0_2, .slice A0_3 l0_3.length c0_3] 32 (0, 0)) (kb BK330.out)) : gb331 ≠ gb330)); replace BK330 := mk0 (blk_below (kb BK330.out) hb); clear hb hbox hg; have hnb25 := NB330_331.out; have hnc25 := NB331_330.out; obtain ⟨hcz26_0, hcz26_1, hcz26_2, hcz26_3, hfz26_0, hfz26_1, hfz26_2, hfz26_3⟩ := z4 BK330; obtain ⟨hcz27_0, hcz27_1, hcz27_2, hcz27_3, hfz27_0, hfz27_1, hfz27_2, hfz27_3⟩ := z4 BK331))
     go_ret
     exact ⟨sw, (bg2 GW330 GE331)⟩
 · obtain rfl := Option.some.inj H
   go_enter Try.func17, Try.ntmps17
   go_wp2_with (first | ((with_reducible refine gD 2 rfl ?_); refine bx 2 #[.int .i64 a0_0, .string a0_1, .string a0_2, .slice A0_3 l0_3.length c0_3] 32 bw ?_; clear HB; intro gb330 w28 BK330 GW330 HB) | ((with_reducible refine gD 3 rfl ?_); refine bx0 3 #[.int .i64 a1_0, .string a1_1, .string a1_2, .slice A1_3 l1_3.length c1_3] 32 ?_; intro gb331 hg w29 hbox hb; have BK331 := mk0 (hbox); have GW331 := mk0 ((by rw [hg]; exact (below_size (bg GW330)) : w.heap.size ≤ gb331)); have GE331 := mk0 ((by rw [hg]; exact (below_size (bg GW330)) : w.heap.size ≤ gb331)); replace HB := mk0 (below_step (bg GW330) hb); have NB330_331 := mk0 ((by rw [hg]; exact Nat.ne_of_lt (blk_lt (g := gb330) (o := .cells #[.int .i64 a0_0, .string a0_1, .string a0_2, .slice A0_3 l0_3.length c0_3] 32 (0, 0)) (kb BK330.out)) : gb330 ≠ gb331)); have NB331_330 := mk0 ((by rw [hg]; exact Nat.ne_of_gt (blk_lt (g := gb330) (o := .cells #[.int .i64 a0_0, .string a0_1, .string a0_2, .slice A0_3 l0_3.length c0_3] 32 (0, 0)) (kb BK330.out)) : gb331 ≠ gb330)); replace BK330 := mk0 (blk_below (kb BK330.out) hb); clear hb hbox hg; have hnb30 := NB330_331.out; have hnc30 := NB331_330.out; obtain ⟨hcz31_0, hcz31_1, hcz31_2, hcz31_3, hfz31_0, hfz31_1, hfz31_2, hfz31_3⟩ := z4 BK330; obtain ⟨hcz32_0, hcz32_1, hcz32_2, hcz32_3, hfz32_0, hfz32_1, hfz32_2, hfz32_3⟩ := z4 BK331))
   go_ret
   exact ⟨sw, (bg2 GW330 GE331)⟩
end Go.Proofs.Ytlekeiokdmnboaa.Pa
end

section
namespace Go.Proofs.Ytlekeiokdmnboaa.Pa
open Go.RowKit Go.Proofs.YtlekeiokdmnboaaW.PrintWords Go.Proofs.YtlekeiokdmnboaaW.PrintLast Go.Proofs.YtlekeiokdmnboaaW.PrintMore Go.Proofs.Ytlekeiokdmnboaa.M
attribute [local go_sem] max2_int min2_int max_two min_two max_three min_three max_four min_four   -- for this text's walks alone
set_option linter.unusedVariables false
set_option maxHeartbeats 8000000
set_option maxRecDepth 100000
set_option linter.unusedSimpArgs false

/-! ### laws_FnExactSealOk: function 4 -/
def laws_FnExactSealOk.f (k : Nat) (a0_0 : Int) (a0_1 : ByteArray) (a0_2 : ByteArray) (l0_3 : List ByteArray) : Option (Bool) := (laws_szSeal.f k a0_0 a0_1 a0_2 l0_3 1048576).bind fun t334 => (if t334 < 0 then (some true) else ((laws_toSeal.f k a0_0 a0_1 a0_2 l0_3).bind fun bt335 => ((spec_SealOk.f k bt335.1 bt335.2.1 bt335.2.2.1 bt335.2.2.2).bind fun t341 => ((laws_toSeal.f k a0_0 a0_1 a0_2 l0_3).bind fun bt342 => ((impl_SealOk.f k bt342.1 bt342.2.1 bt342.2.2.1 bt342.2.2.2).bind fun t349 => (if (t349 != t341) = true then (some false) else ((laws_toSeal.f k a0_0 a0_1 a0_2 l0_3).bind fun bt350 => ((laws_eqSeal.f k bt342.1 bt342.2.1 bt342.2.2.1 bt342.2.2.2 bt350.1 bt350.2.1 bt350.2.2.1 bt350.2.2.2).bind fun t356 => (if t356 = true then (some true) else (some false))))))))))
theorem laws_FnExactSealOk.mono : ∀ a0 a1 a2 a3 k, LeO (laws_FnExactSealOk.f k a0 a1 a2 a3) (laws_FnExactSealOk.f (k + 1) a0 a1 a2 a3) := by
  intro a0 a1 a2 a3 k
  unfold laws_FnExactSealOk.f
  have m0 := @impl_SealOk.mono
  have m1 := @laws_eqSeal.mono
  have m2 := @laws_szSeal.mono
  have m3 := @laws_toSeal.mono
  have m4 := @spec_SealOk.mono
  exact me
theorem laws_FnExactSealOk.calls (k : Nat) (a0_0 : Int) (a0_1 : ByteArray) (a0_2 : ByteArray) (A0_3 : Option Addr) (c0_3 : Nat) (l0_3 : List ByteArray) (r : Bool) (w : World) (hr0_3 : Kd.C Kd.string w A0_3 l0_3.length l0_3) (hc0_3 : l0_3.length ≤ c0_3) (h : laws_FnExactSealOk.f k a0_0 a0_1 a0_2 l0_3 = some r) :
    Calls Try.prog 4 #[.agg #[.int .i64 a0_0, .string a0_1, .string a0_2, .slice A0_3 l0_3.length c0_3]] w fun e w' => e = .returned (.bool r) ∧ Below w.heap.size w w' := by
 have hu29 := Try.underlying29
 have hu32 := Try.underlying32
 have HR0_3 := mk0 hr0_3
 have HC0_3 := mk0 hc0_3
 clear hr0_3 hc0_3
 have HB := mk0 (Below.refl w.heap.size w)
 have H : ((laws_szSeal.f k a0_0 a0_1 a0_2 l0_3 1048576).bind fun t334 => (if t334 < 0 then (some true) else ((laws_toSeal.f k a0_0 a0_1 a0_2 l0_3).bind fun bt335 => ((spec_SealOk.f k bt335.1 bt335.2.1 bt335.2.2.1 bt335.2.2.2).bind fun t341 => ((laws_toSeal.f k a0_0 a0_1 a0_2 l0_3).bind fun bt342 => ((impl_SealOk.f k bt342.1 bt342.2.1 bt342.2.2.1 bt342.2.2.2).bind fun t349 => (if (t349 != t341) = true then (some false) else ((laws_toSeal.f k a0_0 a0_1 a0_2 l0_3).bind fun bt350 => ((laws_eqSeal.f k bt342.1 bt342.2.1 bt342.2.2.1 bt342.2.2.2 bt350.1 bt350.2.1 bt350.2.2.1 bt350.2.2.2).bind fun t356 => (if t356 = true then (some true) else (some false))))))))))) = some r := h
 clear h
 replace H := bd H; obtain ⟨t334, A2, H⟩ := H
 replace H := idd H; rcases H with ⟨c3b0, H⟩ | ⟨c3b0, H⟩
 · obtain rfl := Option.some.inj H
   go_enter Try.func4, Try.ntmps4
   go_wp2_with (first | ((with_reducible refine gD 1 rfl ?_); refine bx 1 #[.int .i64 a0_0, .string a0_1, .string a0_2, .slice A0_3 l0_3.length c0_3] 29 bw ?_; clear HB; intro gb333 w4 BK333 GW333 HB; obtain ⟨hcz5_0, hcz5_1, hcz5_2, hcz5_3, hfz5_0, hfz5_1, hfz5_2, hfz5_3⟩ := z4 BK333) | ((with_reducible refine gC 13 (some 9) rfl rfl ?_); refine gB (some 9) Try.func13 #[.agg #[.int .i64 a0_0, .string a0_1, .string a0_2, .slice A0_3 l0_3.length c0_3], .int .i64 1048576] (laws_szSeal.calls k a0_0 a0_1 a0_2 _ _ l0_3 1048576 t334 _ (cc (Kd.C_below HR0_3.out HB.out)) HC0_3.out A2.out) ?_; intro w6 hb; replace BK333 := mk0 (blk_below (kb BK333.out) hb); replace HB := mk0 (below_step (bg GW333) hb); clear hb))
   go_ret
   exact ⟨sw, (bg GW333)⟩
 · replace H := bd H; obtain ⟨⟨t335, t336, t337, t338⟩, A7, H⟩ := H
   (try dsimp only at H)
   replace H := bd H; obtain ⟨t341, A8, H⟩ := H
   replace H := bd H; obtain ⟨⟨t342, t343, t344, t345⟩, A9, H⟩ := H
   (try dsimp only at H)
   replace H := bd H; obtain ⟨t349, A10, H⟩ := H
   replace H := ip H; rcases H with ⟨c11, H⟩ | ⟨c11, H⟩
   · have c11b0 : (t349 != t341) = true := c11
     (try (have c11b1 : decide (t349 = t341) = false := by simpa using c11))
     (try (have c11b2 : (t349 == t341) = false := by simpa using c11))
     (try (have c11b3 : ¬ (t349 = t341) := by simpa using c11))
     clear c11
     obtain rfl := Option.some.inj H
     go_enter Try.func4, Try.ntmps4
     go_wp2_with (first | ((with_reducible refine gD 1 rfl ?_); refine bx 1 #[.int .i64 a0_0, .string a0_1, .string a0_2, .slice A0_3 l0_3.length c0_3] 29 bw ?_; clear HB; intro gb333 w12 BK333 GW333 HB; obtain ⟨hcz13_0, hcz13_1, hcz13_2, hcz13_3, hfz13_0, hfz13_1, hfz13_2, hfz13_3⟩ := z4 BK333) | ((with_reducible refine gC 13 (some 9) rfl rfl ?_); refine gB (some 9) Try.func13 #[.agg #[.int .i64 a0_0, .string a0_1, .string a0_2, .slice A0_3 l0_3.length c0_3], .int .i64 1048576] (laws_szSeal.calls k a0_0 a0_1 a0_2 _ _ l0_3 1048576 t334 _ (cc (Kd.C_below HR0_3.out HB.out)) HC0_3.out A2.out) ?_; intro w14 hb; replace BK333 := mk0 (blk_below (kb BK333.out) hb); replace HB := mk0 (below_step (bg GW333) hb); clear hb; obtain ⟨hcz15_0, hcz15_1, hcz15_2, hcz15_3, hfz15_0, hfz15_1, hfz15_2, hfz15_3⟩ := z4 BK333) | ((with_reducible refine gC 15 (some 13) rfl rfl ?_); refine gR (some 13) Try.func15 #[.agg #[.int .i64 a0_0, .string a0_1, .string a0_2, .slice A0_3 l0_3.length c0_3]] (laws_toSeal.calls k a0_0 a0_1 a0_2 _ _ l0_3 t335 t336 t337 t338 _ (cc (Kd.C_below HR0_3.out HB.out)) HC0_3.out A7.out) ?_; intro v339 w16 ho0 hb; have HO340 := mk0 (Kd.R_lower ho0 (below_size (bg GW333))); replace BK333 := mk0 (blk_below (kb BK333.out) hb); replace HB := mk0 (below_step (bg GW333) hb); clear hb ho0; obtain ⟨Ao17, co17, eo17⟩ := Kd.R_slice HO340.out; subst eo17) | ((with_reducible refine gC 14 (some 14) rfl rfl ?_); refine gB (some 14) Try.func14 #[.agg #[.int .i64 t335, .string t336, .string t337, .slice Ao17 t338.length co17]] (spec_SealOk.calls k t335 t336 t337 _ _ t338 t341 _ (cc ((Kd.R_reads' HO340.out).2.2)) ((Kd.R_reads' HO340.out).2.1) A8.out) ?_; intro w18 hb; replace HO340 := mk0 (Kd.R_below (rr HO340.out) hb); replace BK333 := mk0 (blk_below (kb BK333.out) hb); replace HB := mk0 (below_step (bg GW333) hb); clear hb; obtain ⟨hcz19_0, hcz19_1, hcz19_2, hcz19_3, hfz19_0, hfz19_1, hfz19_2, hfz19_3⟩ := z4 BK333) | ((with_reducible refine gC 15 (some 16) rfl rfl ?_); refine gR (some 16) Try.func15 #[.agg #[.int .i64 a0_0, .string a0_1, .string a0_2, .slice A0_3 l0_3.length c0_3]] (laws_toSeal.calls k a0_0 a0_1 a0_2 _ _ l0_3 t342 t343 t344 t345 _ (cc (Kd.C_below HR0_3.out HB.out)) HC0_3.out A9.out) ?_; intro v346 w20 ho0 hb; have HO347 := mk0 (Kd.R_lower (Kd.R_new' ho0 (Kd.R_lt (rr HO340.out))) (below_size (bg GW333))); replace HO340 := mk0 (Kd.R_elder' (rr HO340.out) (Kd.R_base ho0) hb); replace BK333 := mk0 (blk_below (kb BK333.out) hb); replace HB := mk0 (below_step (bg GW333) hb); clear hb ho0) | ((with_reducible refine gD 5 rfl ?_); refine bx0 5 #[.int .i64 0, .string (⟨#[]⟩ : ByteArray), .string (⟨#[]⟩ : ByteArray), .slice none 0 0] 32 ?_; intro gb348 hg w21 hbox hb; replace HO340 := mk0 (Kd.R_below (rr HO340.out) hb); replace HO347 := mk0 (Kd.R_below (rr HO347.out) hb); have BK348 := mk0 (hbox); have GW348 := mk0 ((by rw [hg]; exact (below_size (bg GW333)) : w.heap.size ≤ gb348)); have GE348 := mk0 ((by rw [hg]; exact (below_size (bg GW333)) : w.heap.size ≤ gb348)); replace HB := mk0 (below_step (bg GW333) hb); have NB333_348 := mk0 ((by rw [hg]; exact Nat.ne_of_lt (blk_lt (g := gb333) (o := .cells #[.int .i64 a0_0, .string a0_1, .string a0_2, .slice A0_3 l0_3.length c0_3] 29 (0, 0)) (kb BK333.out)) : gb333 ≠ gb348)); have NB348_333 := mk0 ((by rw [hg]; exact Nat.ne_of_gt (blk_lt (g := gb333) (o := .cells #[.int .i64 a0_0, .string a0_1, .string a0_2, .slice A0_3 l0_3.length c0_3] 29 (0, 0)) (kb BK333.out)) : gb348 ≠ gb333)); replace BK333 := mk0 (blk_below (kb BK333.out) hb); clear hb hbox hg; have hnb22 := NB348_333.out; have hnc22 := NB333_348.out; obtain ⟨hcz23_0, hcz23_1, hcz23_2, hcz23_3, hfz23_0, hfz23_1, hfz23_2, hfz23_3⟩ := z4 BK348; obtain ⟨Ao24, co24, eo24⟩ := Kd.R_slice HO347.out; subst eo24) | ((with_reducible refine gC 16 (some 18) rfl rfl ?_); refine gB (some 18) Try.func16 #[.agg #[.int .i64 t342, .string t343, .string t344, .slice Ao24 t345.length co24]] (impl_SealOk.calls k t342 t343 t344 _ _ t345 t349 _ ?side1 ((Kd.R_reads' HO347.out).2.1) A10.out) ?_; (case side1 => refine (Kd.R_reads' (e := 9) (base := w.heap.size) (ok := fun k_ => (True ∧ some k_ ≠ (.slice Ao17 t338.length co17 : Value).ownBlock)) (n := t345.length) (c := co24) ?_).2.2; exact (by (with_reducible repeat (first | apply Kd.R_alloc | apply Kd.R_drewN | apply Kd.R_drew)); exact (Kd.R_mono (Kd.R_far (p := ⟨gb348, 3, none⟩) (Kd.R_far (p := ⟨gb348, 2, none⟩) (Kd.R_far (p := ⟨gb348, 1, none⟩) (Kd.R_far (p := ⟨gb348, 0, none⟩) (Kd.R_types HO347.out BK348.out (by decide)) (fun _ hk => hk.2) (.int .i64 t342)) (fun _ hk => hk.2) (.string t343)) (fun _ hk => hk.2) (.string t344)) (fun _ hk => hk.2) (.slice Ao24 t345.length co24)) (fun _ h_ => h_.1)))); intro w25 hb; replace HO340 := mk0 (Kd.R_below (by (with_reducible repeat (first | apply Kd.R_alloc | apply Kd.R_drewN | apply Kd.R_drew)); exact (Kd.R_mono (Kd.R_far (p := ⟨gb348, 3, none⟩) (Kd.R_far (p := ⟨gb348, 2, none⟩) (Kd.R_far (p := ⟨gb348, 1, none⟩) (Kd.R_far (p := ⟨gb348, 0, none⟩) (Kd.R_types HO340.out BK348.out (by decide)) (fun _ hk => hk.2) (.int .i64 t342)) (fun _ hk => hk.2) (.string t343)) (fun _ hk => hk.2) (.string t344)) (fun _ hk => hk.2) (.slice Ao24 t345.length co24)) (fun _ h_ => h_.1))) hb); replace HO347 := mk0 (Kd.R_below (by (with_reducible repeat (first | apply Kd.R_alloc | apply Kd.R_drewN | apply Kd.R_drew)); exact (Kd.R_mono (Kd.R_far (p := ⟨gb348, 3, none⟩) (Kd.R_far (p := ⟨gb348, 2, none⟩) (Kd.R_far (p := ⟨gb348, 1, none⟩) (Kd.R_far (p := ⟨gb348, 0, none⟩) (Kd.R_types HO347.out BK348.out (by decide)) (fun _ hk => hk.2) (.int .i64 t342)) (fun _ hk => hk.2) (.string t343)) (fun _ hk => hk.2) (.string t344)) (fun _ hk => hk.2) (.slice Ao24 t345.length co24)) (fun _ h_ => h_.1))) hb); replace BK333 := mk0 (blk_below (g := gb333) (o := .cells #[.int .i64 a0_0, .string a0_1, .string a0_2, .slice A0_3 l0_3.length c0_3] 29 (0, 0)) (by (with_reducible repeat (first | refine blk_drewN ?_ _ | refine blk_drew ?_ | refine blk_alloc ?_ _)); refine blk_far ?_ NB333_348.out _; (with_reducible repeat (first | refine blk_drewN ?_ _ | refine blk_drew ?_ | refine blk_alloc ?_ _)); refine blk_far ?_ NB333_348.out _; (with_reducible repeat (first | refine blk_drewN ?_ _ | refine blk_drew ?_ | refine blk_alloc ?_ _)); refine blk_far ?_ NB333_348.out _; (with_reducible repeat (first | refine blk_drewN ?_ _ | refine blk_drew ?_ | refine blk_alloc ?_ _)); refine blk_far ?_ NB333_348.out _; (with_reducible repeat (first | refine blk_drewN ?_ _ | refine blk_drew ?_ | refine blk_alloc ?_ _)); exact BK333.out) hb); replace BK348 := mk0 (blk_below (g := gb348) (o := .cells #[.int .i64 t342, .string t343, .string t344, .slice Ao24 t345.length co24] 32 (0, 0)) (by (with_reducible repeat (first | refine blk_drewN ?_ _ | refine blk_drew ?_ | refine blk_alloc ?_ _)); refine blk_put (cs := #[.int .i64 t342, .string t343, .string t344, .slice none 0 0]) ?_ 3 _ rfl; (with_reducible repeat (first | refine blk_drewN ?_ _ | refine blk_drew ?_ | refine blk_alloc ?_ _)); refine blk_put (cs := #[.int .i64 t342, .string t343, .string (⟨#[]⟩ : ByteArray), .slice none 0 0]) ?_ 2 _ rfl; (with_reducible repeat (first | refine blk_drewN ?_ _ | refine blk_drew ?_ | refine blk_alloc ?_ _)); refine blk_put (cs := #[.int .i64 t342, .string (⟨#[]⟩ : ByteArray), .string (⟨#[]⟩ : ByteArray), .slice none 0 0]) ?_ 1 _ rfl; (with_reducible repeat (first | refine blk_drewN ?_ _ | refine blk_drew ?_ | refine blk_alloc ?_ _)); refine blk_put (cs := #[.int .i64 0, .string (⟨#[]⟩ : ByteArray), .string (⟨#[]⟩ : ByteArray), .slice none 0 0]) ?_ 0 _ rfl; (with_reducible repeat (first | refine blk_drewN ?_ _ | refine blk_drew ?_ | refine blk_alloc ?_ _)); exact BK348.out) hb); replace HB := mk0 (below_step ((bg2 GW333 GE348)) hb); clear hb))
     go_ret
     exact ⟨sw, (bg2 GW333 GE348)⟩
   · have c11b0 : (t349 != t341) = false := by simpa using c11
     (try (have c11b1 : decide (t349 = t341) = true := by simpa using c11))
     (try (have c11b2 : (t349 == t341) = true := by simpa using c11))
     clear c11
     replace H := bd H; obtain ⟨⟨t350, t351, t352, t353⟩, A26, H⟩ := H
     (try dsimp only at H)
     replace H := bd H; obtain ⟨t356, A27, H⟩ := H
     rcases ib t356 with rfl | rfl
     · replace H := jt H
       obtain rfl := Option.some.inj H
       go_enter Try.func4, Try.ntmps4
       try go_wp2_with (first | ((with_reducible refine gD 1 rfl ?_); refine bx 1 #[.int .i64 a0_0, .string a0_1, .string a0_2, .slice A0_3 l0_3.length c0_3] 29 bw ?_; clear HB; intro gb333 w29 BK333 GW333 HB; obtain ⟨hcz30_0, hcz30_1, hcz30_2, hcz30_3, hfz30_0, hfz30_1, hfz30_2, hfz30_3⟩ := z4 BK333) | ((with_reducible refine gC 13 (some 9) rfl rfl ?_); refine gB (some 9) Try.func13 #[.agg #[.int .i64 a0_0, .string a0_1, .string a0_2, .slice A0_3 l0_3.length c0_3], .int .i64 1048576] (laws_szSeal.calls k a0_0 a0_1 a0_2 _ _ l0_3 1048576 t334 _ (cc (Kd.C_below HR0_3.out HB.out)) HC0_3.out A2.out) ?_; intro w31 hb; replace BK333 := mk0 (blk_below (kb BK333.out) hb); replace HB := mk0 (below_step (bg GW333) hb); clear hb; obtain ⟨hcz32_0, hcz32_1, hcz32_2, hcz32_3, hfz32_0, hfz32_1, hfz32_2, hfz32_3⟩ := z4 BK333) | ((with_reducible refine gC 15 (some 13) rfl rfl ?_); refine gR (some 13) Try.func15 #[.agg #[.int .i64 a0_0, .string a0_1, .string a0_2, .slice A0_3 l0_3.length c0_3]] (laws_toSeal.calls k a0_0 a0_1 a0_2 _ _ l0_3 t335 t336 t337 t338 _ (cc (Kd.C_below HR0_3.out HB.out)) HC0_3.out A7.out) ?_; intro v339 w33 ho0 hb; have HO340 := mk0 (Kd.R_lower ho0 (below_size (bg GW333))); replace BK333 := mk0 (blk_below (kb BK333.out) hb); replace HB := mk0 (below_step (bg GW333) hb); clear hb ho0; obtain ⟨Ao34, co34, eo34⟩ := Kd.R_slice HO340.out; subst eo34) | ((with_reducible refine gC 14 (some 14) rfl rfl ?_); refine gB (some 14) Try.func14 #[.agg #[.int .i64 t335, .string t336, .string t337, .slice Ao34 t338.length co34]] (spec_SealOk.calls k t335 t336 t337 _ _ t338 t341 _ (cc ((Kd.R_reads' HO340.out).2.2)) ((Kd.R_reads' HO340.out).2.1) A8.out) ?_; intro w35 hb; replace HO340 := mk0 (Kd.R_below (rr HO340.out) hb); replace BK333 := mk0 (blk_below (kb BK333.out) hb); replace HB := mk0 (below_step (bg GW333) hb); clear hb; obtain ⟨hcz36_0, hcz36_1, hcz36_2, hcz36_3, hfz36_0, hfz36_1, hfz36_2, hfz36_3⟩ := z4 BK333) | ((with_reducible refine gC 15 (some 16) rfl rfl ?_); refine gR (some 16) Try.func15 #[.agg #[.int .i64 a0_0, .string a0_1, .string a0_2, .slice A0_3 l0_3.length c0_3]] (laws_toSeal.calls k a0_0 a0_1 a0_2 _ _ l0_3 t342 t343 t344 t345 _ (cc (Kd.C_below HR0_3.out HB.out)) HC0_3.out A9.out) ?_; intro v346 w37 ho0 hb; have HO347 := mk0 (Kd.R_lower (Kd.R_new' ho0 (Kd.R_lt (rr HO340.out))) (below_size (bg GW333))); replace HO340 := mk0 (Kd.R_elder' (rr HO340.out) (Kd.R_base ho0) hb); replace BK333 := mk0 (blk_below (kb BK333.out) hb); replace HB := mk0 (below_step (bg GW333) hb); clear hb ho0) | ((with_reducible refine gD 5 rfl ?_); refine bx0 5 #[.int .i64 0, .string (⟨#[]⟩ : ByteArray), .string (⟨#[]⟩ : ByteArray), .slice none 0 0] 32 ?_; intro gb348 hg w38 hbox hb; replace HO340 := mk0 (Kd.R_below (rr HO340.out) hb); replace HO347 := mk0 (Kd.R_below (rr HO347.out) hb); have BK348 := mk0 (hbox); have GW348 := mk0 ((by rw [hg]; exact (below_size (bg GW333)) : w.heap.size ≤ gb348)); have GE348 := mk0 ((by rw [hg]; exact (below_size (bg GW333)) : w.heap.size ≤ gb348)); replace HB := mk0 (below_step (bg GW333) hb); have NB333_348 := mk0 ((by rw [hg]; exact Nat.ne_of_lt (blk_lt (g := gb333) (o := .cells #[.int .i64 a0_0, .string a0_1, .string a0_2, .slice A0_3 l0_3.length c0_3] 29 (0, 0)) (kb BK333.out)) : gb333 ≠ gb348)); have NB348_333 := mk0 ((by rw [hg]; exact Nat.ne_of_gt (blk_lt (g := gb333) (o := .cells #[.int .i64 a0_0, .string a0_1, .string a0_2, .slice A0_3 l0_3.length c0_3] 29 (0, 0)) (kb BK333.out)) : gb348 ≠ gb333)); replace BK333 := mk0 (blk_below (kb BK333.out) hb); clear hb hbox hg; have hnb39 := NB348_333.out; have hnc39 := NB333_348.out; obtain ⟨hcz40_0, hcz40_1, hcz40_2, hcz40_3, hfz40_0, hfz40_1, hfz40_2, hfz40_3⟩ := z4 BK348; obtain ⟨Ao41, co41, eo41⟩ := Kd.R_slice HO347.out; subst eo41) | ((with_reducible refine gC 16 (some 18) rfl rfl ?_); refine gB (some 18) Try.func16 #[.agg #[.int .i64 t342, .string t343, .string t344, .slice Ao41 t345.length co41]] (impl_SealOk.calls k t342 t343 t344 _ _ t345 t349 _ ?side1 ((Kd.R_reads' HO347.out).2.1) A10.out) ?_; (case side1 => refine (Kd.R_reads' (e := 9) (base := w.heap.size) (ok := fun k_ => (True ∧ some k_ ≠ (.slice Ao34 t338.length co34 : Value).ownBlock)) (n := t345.length) (c := co41) ?_).2.2; exact (by (with_reducible repeat (first | apply Kd.R_alloc | apply Kd.R_drewN | apply Kd.R_drew)); exact (Kd.R_mono (Kd.R_far (p := ⟨gb348, 3, none⟩) (Kd.R_far (p := ⟨gb348, 2, none⟩) (Kd.R_far (p := ⟨gb348, 1, none⟩) (Kd.R_far (p := ⟨gb348, 0, none⟩) (Kd.R_types HO347.out BK348.out (by decide)) (fun _ hk => hk.2) (.int .i64 t342)) (fun _ hk => hk.2) (.string t343)) (fun _ hk => hk.2) (.string t344)) (fun _ hk => hk.2) (.slice Ao41 t345.length co41)) (fun _ h_ => h_.1)))); intro w42 hb; replace HO340 := mk0 (Kd.R_below (by (with_reducible repeat (first | apply Kd.R_alloc | apply Kd.R_drewN | apply Kd.R_drew)); exact (Kd.R_mono (Kd.R_far (p := ⟨gb348, 3, none⟩) (Kd.R_far (p := ⟨gb348, 2, none⟩) (Kd.R_far (p := ⟨gb348, 1, none⟩) (Kd.R_far (p := ⟨gb348, 0, none⟩) (Kd.R_types HO340.out BK348.out (by decide)) (fun _ hk => hk.2) (.int .i64 t342)) (fun _ hk => hk.2) (.string t343)) (fun _ hk => hk.2) (.string t344)) (fun _ hk => hk.2) (.slice Ao41 t345.length co41)) (fun _ h_ => h_.1))) hb); replace HO347 := mk0 (Kd.R_below (by (with_reducible repeat (first | apply Kd.R_alloc | apply Kd.R_drewN | apply Kd.R_drew)); exact (Kd.R_mono (Kd.R_far (p := ⟨gb348, 3, none⟩) (Kd.R_far (p := ⟨gb348, 2, none⟩) (Kd.R_far (p := ⟨gb348, 1, none⟩) (Kd.R_far (p := ⟨gb348, 0, none⟩) (Kd.R_types HO347.out BK348.out (by decide)) (fun _ hk => hk.2) (.int .i64 t342)) (fun _ hk => hk.2) (.string t343)) (fun _ hk => hk.2) (.string t344)) (fun _ hk => hk.2) (.slice Ao41 t345.length co41)) (fun _ h_ => h_.1))) hb); replace BK333 := mk0 (blk_below (g := gb333) (o := .cells #[.int .i64 a0_0, .string a0_1, .string a0_2, .slice A0_3 l0_3.length c0_3] 29 (0, 0)) (by (with_reducible repeat (first | refine blk_drewN ?_ _ | refine blk_drew ?_ | refine blk_alloc ?_ _)); refine blk_far ?_ NB333_348.out _; (with_reducible repeat (first | refine blk_drewN ?_ _ | refine blk_drew ?_ | refine blk_alloc ?_ _)); refine blk_far ?_ NB333_348.out _; (with_reducible repeat (first | refine blk_drewN ?_ _ | refine blk_drew ?_ | refine blk_alloc ?_ _)); refine blk_far ?_ NB333_348.out _; (with_reducible repeat (first | refine blk_drewN ?_ _ | refine blk_drew ?_ | refine blk_alloc ?_ _)); refine blk_far ?_ NB333_348.out _; (with_reducible repeat (first | refine blk_drewN ?_ _ | refine blk_drew ?_ | refine blk_alloc ?_ _)); exact BK333.out) hb); replace BK348 := mk0 (blk_below (g := gb348) (o := .cells #[.int .i64 t342, .string t343, .string t344, .slice Ao41 t345.length co41] 32 (0, 0)) (by (with_reducible repeat (first | refine blk_drewN ?_ _ | refine blk_drew ?_ | refine blk_alloc ?_ _)); refine blk_put (cs := #[.int .i64 t342, .string t343, .string t344, .slice none 0 0]) ?_ 3 _ rfl; (with_reducible repeat (first | refine blk_drewN ?_ _ | refine blk_drew ?_ | refine blk_alloc ?_ _)); refine blk_put (cs := #[.int .i64 t342, .string t343, .string (⟨#[]⟩ : ByteArray), .slice none 0 0]) ?_ 2 _ rfl; (with_reducible repeat (first | refine blk_drewN ?_ _ | refine blk_drew ?_ | refine blk_alloc ?_ _)); refine blk_put (cs := #[.int .i64 t342, .string (⟨#[]⟩ : ByteArray), .string (⟨#[]⟩ : ByteArray), .slice none 0 0]) ?_ 1 _ rfl; (with_reducible repeat (first | refine blk_drewN ?_ _ | refine blk_drew ?_ | refine blk_alloc ?_ _)); refine blk_put (cs := #[.int .i64 0, .string (⟨#[]⟩ : ByteArray), .string (⟨#[]⟩ : ByteArray), .slice none 0 0]) ?_ 0 _ rfl; (with_reducible repeat (first | refine blk_drewN ?_ _ | refine blk_drew ?_ | refine blk_alloc ?_ _)); exact BK348.out) hb); replace HB := mk0 (below_step ((bg2 GW333 GE348)) hb); clear hb))
       replace HO340 := mk0 (Kd.R_drew HO340.out)
       replace HO347 := mk0 (Kd.R_drew HO347.out)
       replace BK333 := mk0 (blk_drew BK333.out)
       replace BK348 := mk0 (blk_drew BK348.out)
       replace HB := mk0 (below_drew1 HB.out)
       refine st0 5 (b4 BK348 (b4 BK333 n_)) (fun hHeld => ?_)
       generalize w42.drew = w43 at HO340 HO347 BK333 BK348 HB hHeld ⊢
       refine tk0 0 (some 22) hHeld ?_
       refine tk0 1 (some 23) hHeld ?_
       refine on0 2 (some 24) (fun K hK => ?_)
       refine oR Try.func15 #[.agg #[.int .i64 a0_0, .string a0_1, .string a0_2, .slice A0_3 l0_3.length c0_3]] (laws_toSeal.calls k a0_0 a0_1 a0_2 _ _ l0_3 t350 t351 t352 t353 _ (cc (Kd.C_below HR0_3.out HB.out)) HC0_3.out A26.out) ?_
       intro v354 w44 ho0 hb
       have HO355 := mk0 (Kd.R_lower (Kd.R_new' (Kd.R_new' ho0 (Kd.R_lt (rr HO340.out))) (Kd.R_lt (rr HO347.out))) (below_size ((bg2 GW333 GE348))))
       replace HO340 := mk0 (Kd.R_elder' (rr HO340.out) (Kd.R_base ho0) hb)
       replace HO347 := mk0 (Kd.R_elder' (rr HO347.out) (Kd.R_base ho0) hb)
       replace BK333 := mk0 (blk_below (kb BK333.out) hb)
       replace BK348 := mk0 (blk_below (kb BK348.out) hb)
       replace HB := mk0 (below_step ((bg2 GW333 GE348)) hb)
       (try clear hb); (try clear hk); (try clear ho0)
       obtain ⟨Ao45, co45, eo45⟩ := Kd.R_slice HO355.out
       (first | subst eo45 | (injection eo45 with f1_ f2_ f3_; have f4_ := f1_.symm; have f5_ := f3_.symm; clear f1_ f2_ f3_; subst f4_; subst f5_))
       refine hK.out _ _ ah (fun hHeld => ?_)
       clear hK K
       refine nr (some 24) ?_
       refine on0 3 (some 25) (fun K hK => ?_)
       refine oB Try.func17 #[.agg #[.int .i64 t342, .string t343, .string t344, .slice Ao41 t345.length co41], .agg #[.int .i64 t350, .string t351, .string t352, .slice Ao45 t353.length co45]] (laws_eqSeal.calls k t342 t343 t344 _ _ t345 t350 t351 t352 _ _ t353 true _ (cc ((Kd.R_reads' HO347.out).2.2)) ((Kd.R_reads' HO347.out).2.1) (cc ((Kd.R_reads' HO355.out).2.2)) ((Kd.R_reads' HO355.out).2.1) A27.out) ?_
       intro w46 hb
       replace HO340 := mk0 (Kd.R_below (rr HO340.out) hb)
       replace HO347 := mk0 (Kd.R_below (rr HO347.out) hb)
       replace HO355 := mk0 (Kd.R_below (rr HO355.out) hb)
       replace BK333 := mk0 (blk_below (kb BK333.out) hb)
       replace BK348 := mk0 (blk_below (kb BK348.out) hb)
       replace HB := mk0 (below_step ((bg2 GW333 GE348)) hb)
       (try clear hb); (try clear hk)
       refine hK.out _ _ ah (fun hHeld => ?_)
       clear hK K
       refine nr (some 25) ?_
       refine pu0 4 (some 26) ?_
       refine done_ (by kernel_rfl) ?_
       try go_wp2
       go_ret
       exact ⟨sw, (bg2 GW333 GE348)⟩
     · replace H := jf H
       obtain rfl := Option.some.inj H
       go_enter Try.func4, Try.ntmps4
       try go_wp2_with (first | ((with_reducible refine gD 1 rfl ?_); refine bx 1 #[.int .i64 a0_0, .string a0_1, .string a0_2, .slice A0_3 l0_3.length c0_3] 29 bw ?_; clear HB; intro gb333 w47 BK333 GW333 HB; obtain ⟨hcz48_0, hcz48_1, hcz48_2, hcz48_3, hfz48_0, hfz48_1, hfz48_2, hfz48_3⟩ := z4 BK333) | ((with_reducible refine gC 13 (some 9) rfl rfl ?_); refine gB (some 9) Try.func13 #[.agg #[.int .i64 a0_0, .string a0_1, .string a0_2, .slice A0_3 l0_3.length c0_3], .int .i64 1048576] (laws_szSeal.calls k a0_0 a0_1 a0_2 _ _ l0_3 1048576 t334 _ (cc (Kd.C_below HR0_3.out HB.out)) HC0_3.out A2.out) ?_; intro w49 hb; replace BK333 := mk0 (blk_below (kb BK333.out) hb); replace HB := mk0 (below_step (bg GW333) hb); clear hb; obtain ⟨hcz50_0, hcz50_1, hcz50_2, hcz50_3, hfz50_0, hfz50_1, hfz50_2, hfz50_3⟩ := z4 BK333) | ((with_reducible refine gC 15 (some 13) rfl rfl ?_); refine gR (some 13) Try.func15 #[.agg #[.int .i64 a0_0, .string a0_1, .string a0_2, .slice A0_3 l0_3.length c0_3]] (laws_toSeal.calls k a0_0 a0_1 a0_2 _ _ l0_3 t335 t336 t337 t338 _ (cc (Kd.C_below HR0_3.out HB.out)) HC0_3.out A7.out) ?_; intro v339 w51 ho0 hb; have HO340 := mk0 (Kd.R_lower ho0 (below_size (bg GW333))); replace BK333 := mk0 (blk_below (kb BK333.out) hb); replace HB := mk0 (below_step (bg GW333) hb); clear hb ho0; obtain ⟨Ao52, co52, eo52⟩ := Kd.R_slice HO340.out; subst eo52) | ((with_reducible refine gC 14 (some 14) rfl rfl ?_); refine gB (some 14) Try.func14 #[.agg #[.int .i64 t335, .string t336, .string t337, .slice Ao52 t338.length co52]] (spec_SealOk.calls k t335 t336 t337 _ _ t338 t341 _ (cc ((Kd.R_reads' HO340.out).2.2)) ((Kd.R_reads' HO340.out).2.1) A8.out) ?_; intro w53 hb; replace HO340 := mk0 (Kd.R_below (rr HO340.out) hb); replace BK333 := mk0 (blk_below (kb BK333.out) hb); replace HB := mk0 (below_step (bg GW333) hb); clear hb; obtain ⟨hcz54_0, hcz54_1, hcz54_2, hcz54_3, hfz54_0, hfz54_1, hfz54_2, hfz54_3⟩ := z4 BK333) | ((with_reducible refine gC 15 (some 16) rfl rfl ?_); refine gR (some 16) Try.func15 #[.agg #[.int .i64 a0_0, .string a0_1, .string a0_2, .slice A0_3 l0_3.length c0_3]] (laws_toSeal.calls k a0_0 a0_1 a0_2 _ _ l0_3 t342 t343 t344 t345 _ (cc (Kd.C_below HR0_3.out HB.out)) HC0_3.out A9.out) ?_; intro v346 w55 ho0 hb; have HO347 := mk0 (Kd.R_lower (Kd.R_new' ho0 (Kd.R_lt (rr HO340.out))) (below_size (bg GW333))); replace HO340 := mk0 (Kd.R_elder' (rr HO340.out) (Kd.R_base ho0) hb); replace BK333 := mk0 (blk_below (kb BK333.out) hb); replace HB := mk0 (below_step (bg GW333) hb); clear hb ho0) | ((with_reducible refine gD 5 rfl ?_); refine bx0 5 #[.int .i64 0, .string (⟨#[]⟩ : ByteArray), .string (⟨#[]⟩ : ByteArray), .slice none 0 0] 32 ?_; intro gb348 hg w56 hbox hb; replace HO340 := mk0 (Kd.R_below (rr HO340.out) hb); replace HO347 := mk0 (Kd.R_below (rr HO347.out) hb); have BK348 := mk0 (hbox); have GW348 := mk0 ((by rw [hg]; exact (below_size (bg GW333)) : w.heap.size ≤ gb348)); have GE348 := mk0 ((by rw [hg]; exact (below_size (bg GW333)) : w.heap.size ≤ gb348)); replace HB := mk0 (below_step (bg GW333) hb); have NB333_348 := mk0 ((by rw [hg]; exact Nat.ne_of_lt (blk_lt (g := gb333) (o := .cells #[.int .i64 a0_0, .string a0_1, .string a0_2, .slice A0_3 l0_3.length c0_3] 29 (0, 0)) (kb BK333.out)) : gb333 ≠ gb348)); have NB348_333 := mk0 ((by rw [hg]; exact Nat.ne_of_gt (blk_lt (g := gb333) (o := .cells #[.int .i64 a0_0, .string a0_1, .string a0_2, .slice A0_3 l0_3.length c0_3] 29 (0, 0)) (kb BK333.out)) : gb348 ≠ gb333)); replace BK333 := mk0 (blk_below (kb BK333.out) hb); clear hb hbox hg; have hnb57 := NB348_333.out; have hnc57 := NB333_348.out; obtain ⟨hcz58_0, hcz58_1, hcz58_2, hcz58_3, hfz58_0, hfz58_1, hfz58_2, hfz58_3⟩ := z4 BK348; obtain ⟨Ao59, co59, eo59⟩ := Kd.R_slice HO347.out; subst eo59) | ((with_reducible refine gC 16 (some 18) rfl rfl ?_); refine gB (some 18) Try.func16 #[.agg #[.int .i64 t342, .string t343, .string t344, .slice Ao59 t345.length co59]] (impl_SealOk.calls k t342 t343 t344 _ _ t345 t349 _ ?side1 ((Kd.R_reads' HO347.out).2.1) A10.out) ?_; (case side1 => refine (Kd.R_reads' (e := 9) (base := w.heap.size) (ok := fun k_ => (True ∧ some k_ ≠ (.slice Ao52 t338.length co52 : Value).ownBlock)) (n := t345.length) (c := co59) ?_).2.2; exact (by (with_reducible repeat (first | apply Kd.R_alloc | apply Kd.R_drewN | apply Kd.R_drew)); exact (Kd.R_mono (Kd.R_far (p := ⟨gb348, 3, none⟩) (Kd.R_far (p := ⟨gb348, 2, none⟩) (Kd.R_far (p := ⟨gb348, 1, none⟩) (Kd.R_far (p := ⟨gb348, 0, none⟩) (Kd.R_types HO347.out BK348.out (by decide)) (fun _ hk => hk.2) (.int .i64 t342)) (fun _ hk => hk.2) (.string t343)) (fun _ hk => hk.2) (.string t344)) (fun _ hk => hk.2) (.slice Ao59 t345.length co59)) (fun _ h_ => h_.1)))); intro w60 hb; replace HO340 := mk0 (Kd.R_below (by (with_reducible repeat (first | apply Kd.R_alloc | apply Kd.R_drewN | apply Kd.R_drew)); exact (Kd.R_mono (Kd.R_far (p := ⟨gb348, 3, none⟩) (Kd.R_far (p := ⟨gb348, 2, none⟩) (Kd.R_far (p := ⟨gb348, 1, none⟩) (Kd.R_far (p := ⟨gb348, 0, none⟩) (Kd.R_types HO340.out BK348.out (by decide)) (fun _ hk => hk.2) (.int .i64 t342)) (fun _ hk => hk.2) (.string t343)) (fun _ hk => hk.2) (.string t344)) (fun _ hk => hk.2) (.slice Ao59 t345.length co59)) (fun _ h_ => h_.1))) hb); replace HO347 := mk0 (Kd.R_below (by (with_reducible repeat (first | apply Kd.R_alloc | apply Kd.R_drewN | apply Kd.R_drew)); exact (Kd.R_mono (Kd.R_far (p := ⟨gb348, 3, none⟩) (Kd.R_far (p := ⟨gb348, 2, none⟩) (Kd.R_far (p := ⟨gb348, 1, none⟩) (Kd.R_far (p := ⟨gb348, 0, none⟩) (Kd.R_types HO347.out BK348.out (by decide)) (fun _ hk => hk.2) (.int .i64 t342)) (fun _ hk => hk.2) (.string t343)) (fun _ hk => hk.2) (.string t344)) (fun _ hk => hk.2) (.slice Ao59 t345.length co59)) (fun _ h_ => h_.1))) hb); replace BK333 := mk0 (blk_below (g := gb333) (o := .cells #[.int .i64 a0_0, .string a0_1, .string a0_2, .slice A0_3 l0_3.length c0_3] 29 (0, 0)) (by (with_reducible repeat (first | refine blk_drewN ?_ _ | refine blk_drew ?_ | refine blk_alloc ?_ _)); refine blk_far ?_ NB333_348.out _; (with_reducible repeat (first | refine blk_drewN ?_ _ | refine blk_drew ?_ | refine blk_alloc ?_ _)); refine blk_far ?_ NB333_348.out _; (with_reducible repeat (first | refine blk_drewN ?_ _ | refine blk_drew ?_ | refine blk_alloc ?_ _)); refine blk_far ?_ NB333_348.out _; (with_reducible repeat (first | refine blk_drewN ?_ _ | refine blk_drew ?_ | refine blk_alloc ?_ _)); refine blk_far ?_ NB333_348.out _; (with_reducible repeat (first | refine blk_drewN ?_ _ | refine blk_drew ?_ | refine blk_alloc ?_ _)); exact BK333.out) hb); replace BK348 := mk0 (blk_below (g := gb348) (o := .cells #[.int .i64 t342, .string t343, .string t344, .slice Ao59 t345.length co59] 32 (0, 0)) (by (with_reducible repeat (first | refine blk_drewN ?_ _ | refine blk_drew ?_ | refine blk_alloc ?_ _)); refine blk_put (cs := #[.int .i64 t342, .string t343, .string t344, .slice none 0 0]) ?_ 3 _ rfl; (with_reducible repeat (first | refine blk_drewN ?_ _ | refine blk_drew ?_ | refine blk_alloc ?_ _)); refine blk_put (cs := #[.int .i64 t342, .string t343, .string (⟨#[]⟩ : ByteArray), .slice none 0 0]) ?_ 2 _ rfl; (with_reducible repeat (first | refine blk_drewN ?_ _ | refine blk_drew ?_ | refine blk_alloc ?_ _)); refine blk_put (cs := #[.int .i64 t342, .string (⟨#[]⟩ : ByteArray), .string (⟨#[]⟩ : ByteArray), .slice none 0 0]) ?_ 1 _ rfl; (with_reducible repeat (first | refine blk_drewN ?_ _ | refine blk_drew ?_ | refine blk_alloc ?_ _)); refine blk_put (cs := #[.int .i64 0, .string (⟨#[]⟩ : ByteArray), .string (⟨#[]⟩ : ByteArray), .slice none 0 0]) ?_ 0 _ rfl; (with_reducible repeat (first | refine blk_drewN ?_ _ | refine blk_drew ?_ | refine blk_alloc ?_ _)); exact BK348.out) hb); replace HB := mk0 (below_step ((bg2 GW333 GE348)) hb); clear hb))
       replace HO340 := mk0 (Kd.R_drew HO340.out)
       replace HO347 := mk0 (Kd.R_drew HO347.out)
       replace BK333 := mk0 (blk_drew BK333.out)
       replace BK348 := mk0 (blk_drew BK348.out)
       replace HB := mk0 (below_drew1 HB.out)
       refine st0 5 (b4 BK348 (b4 BK333 n_)) (fun hHeld => ?_)
       generalize w60.drew = w61 at HO340 HO347 BK333 BK348 HB hHeld ⊢
       refine tk0 0 (some 22) hHeld ?_
       refine tk0 1 (some 23) hHeld ?_
       refine on0 2 (some 24) (fun K hK => ?_)
       refine oR Try.func15 #[.agg #[.int .i64 a0_0, .string a0_1, .string a0_2, .slice A0_3 l0_3.length c0_3]] (laws_toSeal.calls k a0_0 a0_1 a0_2 _ _ l0_3 t350 t351 t352 t353 _ (cc (Kd.C_below HR0_3.out HB.out)) HC0_3.out A26.out) ?_
       intro v354 w62 ho0 hb
       have HO355 := mk0 (Kd.R_lower (Kd.R_new' (Kd.R_new' ho0 (Kd.R_lt (rr HO340.out))) (Kd.R_lt (rr HO347.out))) (below_size ((bg2 GW333 GE348))))
       replace HO340 := mk0 (Kd.R_elder' (rr HO340.out) (Kd.R_base ho0) hb)
       replace HO347 := mk0 (Kd.R_elder' (rr HO347.out) (Kd.R_base ho0) hb)
       replace BK333 := mk0 (blk_below (kb BK333.out) hb)
       replace BK348 := mk0 (blk_below (kb BK348.out) hb)
       replace HB := mk0 (below_step ((bg2 GW333 GE348)) hb)
       (try clear hb); (try clear hk); (try clear ho0)
       obtain ⟨Ao63, co63, eo63⟩ := Kd.R_slice HO355.out
       (first | subst eo63 | (injection eo63 with f1_ f2_ f3_; have f4_ := f1_.symm; have f5_ := f3_.symm; clear f1_ f2_ f3_; subst f4_; subst f5_))
       refine hK.out _ _ ah (fun hHeld => ?_)
       clear hK K
       refine nr (some 24) ?_
       refine on0 3 (some 25) (fun K hK => ?_)
       refine oB Try.func17 #[.agg #[.int .i64 t342, .string t343, .string t344, .slice Ao59 t345.length co59], .agg #[.int .i64 t350, .string t351, .string t352, .slice Ao63 t353.length co63]] (laws_eqSeal.calls k t342 t343 t344 _ _ t345 t350 t351 t352 _ _ t353 false _ (cc ((Kd.R_reads' HO347.out).2.2)) ((Kd.R_reads' HO347.out).2.1) (cc ((Kd.R_reads' HO355.out).2.2)) ((Kd.R_reads' HO355.out).2.1) A27.out) ?_
       intro w64 hb
       replace HO340 := mk0 (Kd.R_below (rr HO340.out) hb)
       replace HO347 := mk0 (Kd.R_below (rr HO347.out) hb)
       replace HO355 := mk0 (Kd.R_below (rr HO355.out) hb)
       replace BK333 := mk0 (blk_below (kb BK333.out) hb)
       replace BK348 := mk0 (blk_below (kb BK348.out) hb)
       replace HB := mk0 (below_step ((bg2 GW333 GE348)) hb)
       (try clear hb); (try clear hk)
       refine hK.out _ _ ah (fun hHeld => ?_)
       clear hK K
       refine nr (some 25) ?_
       refine pu0 4 (some 26) ?_
       refine done_ (by kernel_rfl) ?_
       try go_wp2
       go_ret
       exact ⟨sw, (bg2 GW333 GE348)⟩
end Go.Proofs.Ytlekeiokdmnboaa.Pa
end

section
/- The law of SealOk is true at every input; plain Lean over the printed functions. -/
namespace Go.Proofs.Ytlekeiokdmnboaa.Pu
open Go Go.RowKit Go.Proofs.YtlekeiokdmnboaaW.PrintWords Go.Proofs.YtlekeiokdmnboaaW.PrintLast Go.Proofs.YtlekeiokdmnboaaW.PrintMore Go.Proofs.Ytlekeiokdmnboaa.Pa
set_option linter.unusedVariables false

theorem in_spec (a b c : Int) : spec_l1In.f a b c = some (decide (b ≤ a ∧ a ≤ c)) := by
  unfold spec_l1In.f
  by_cases h : a ≥ b
  · rw [if_pos h]; congr 1; simp only [decide_eq_decide]; omega
  · rw [if_neg h]; congr 1; symm; simp only [decide_eq_false_iff_not]; omega
theorem in_impl (a b c : Int) : impl_inRange.f a b c = some (decide (b ≤ a ∧ a ≤ c)) := by
  unfold impl_inRange.f
  by_cases h : a ≥ b
  · rw [if_pos h]; congr 1; simp only [decide_eq_decide]; omega
  · rw [if_neg h]; congr 1; symm; simp only [decide_eq_false_iff_not]; omega
/-- What both answer of a seal. -/
def sealB (q : Int) (p s : ByteArray) (rs : List ByteArray) : Bool :=
  decide ((1 ≤ q ∧ q ≤ 1000) ∧ p.size = 32 ∧ (1 ≤ rs.length ∧ rs.length ≤ 8) ∧ ∀ x ∈ rs, x.size = 32) && (s.toList == (sha (superB q p rs)).toList)
theorem sealB_of {q : Int} {p s : ByteArray} {rs : List ByteArray} (h1 : 1 ≤ q ∧ q ≤ 1000) (h2 : p.size = 32) (h3 : 1 ≤ rs.length ∧ rs.length ≤ 8) (h4 : ∀ x ∈ rs, x.size = 32) : sealB q p s rs = (s.toList == (sha (superB q p rs)).toList) := by
  unfold sealB
  rw [decide_eq_true ⟨h1, h2, h3, h4⟩, Bool.true_and]
theorem sealB_not {q : Int} {p s : ByteArray} {rs : List ByteArray} (h : ¬ ((1 ≤ q ∧ q ≤ 1000) ∧ p.size = 32 ∧ (1 ≤ rs.length ∧ rs.length ≤ 8) ∧ ∀ x ∈ rs, x.size = 32)) : sealB q p s rs = false := by
  unfold sealB
  rw [decide_eq_false h, Bool.false_and]
theorem small_total (rs : List ByteArray) (h4 : ∀ x ∈ rs, x.size = 32) : total rs = 33 * rs.length := by
  induction rs with
  | nil => rfl
  | cons s l ih => rw [total_cons, ih (fun x hx => h4 x (List.mem_cons_of_mem _ hx)), h4 s (by simp), List.length_cons]; omega
theorem seal_spec (q : Int) (p s : ByteArray) (rs : List ByteArray) : Ev (fun k => spec_SealOk.f k q p s rs) (sealB q p s rs) := by
  have jt : Ev (fun k => spec_SealOk.j0 k true q p s rs) false := by
    refine Ev.step (f := fun _ => some false) (fun k => ?_) (Ev.now _)
    show (if true = true then some false else spec_SealOk.l0 k 0 q p s rs) = _
    exact if_pos rfl
  by_cases h1 : 1 ≤ q ∧ q ≤ 1000
  · by_cases h2 : p.size = 32
    · by_cases h3 : 1 ≤ rs.length ∧ rs.length ≤ 8
      · have loop : ∀ (j i : Nat), rs.length - i = j → i ≤ rs.length → (∀ x ∈ rs.take i, x.size = 32) → Ev (fun k => spec_SealOk.l0 k (i : Int) q p s rs) (sealB q p s rs) := by
          intro j
          induction j with
          | zero =>
            intro i hj hi hall
            have h4 : ∀ x ∈ rs, x.size = 32 := fun x hx => hall x (by rw [List.take_of_length_le (by omega)]; exact hx)
            have ht := small_total rs h4
            refine Ev.step (f := fun k => (spec_SuperOf.f k q p rs).bind fun t => some (s.toList == t.toList)) (fun k => ?_) (Ev.bind (super_spec q p rs (by omega)) (by rw [sealB_of h1 h2 h3 h4]; exact Ev.now _))
            show (if (i : Int) < (rs.length : Int) then _ else _) = _
            rw [if_neg (by omega)]
          | succ j ih =>
            intro i hj hi hall
            have hlt : i < rs.length := by omega
            have hr : rdOf ByteArray.empty rs (i : Int) = rs[i] := rdOf_at (List.getElem?_eq_getElem hlt)
            by_cases h5 : rs[i].size = 32
            · refine Ev.step (fun k => ?_) (ih (i + 1) (by omega) (by omega) (fun x hx => ?_))
              · show (if (i : Int) < (rs.length : Int) then _ else _) = _
                rw [if_pos (by omega), if_pos (by omega), hr, if_pos (by omega), n64 ((i : Int) + 1) (by omega)]
                rfl
              · rw [List.take_succ_eq_append_getElem hlt] at hx
                rcases List.mem_append.1 hx with hx | hx
                · exact hall x hx
                · simp at hx; rw [hx]; exact h5
            · rw [sealB_not (fun h => h5 (h.2.2.2 _ (List.getElem_mem hlt)))]
              refine Ev.step (f := fun _ => some false) (fun k => ?_) (Ev.now _)
              show (if (i : Int) < (rs.length : Int) then _ else _) = _
              rw [if_pos (by omega), if_pos (by omega), hr, if_neg (by omega)]
        have e := loop rs.length 0 (by omega) (by omega) (by simp)
        refine Ev.congr (f := fun k => spec_SealOk.j0 k false q p s rs) (fun k => ?_) (Ev.step (fun k => ?_) e)
        · show ((spec_l1In.f q 1 1000).bind _) = _
          rw [in_spec, Option.bind_some, if_pos (by simpa using h1), if_pos (by omega), in_spec, Option.bind_some]
          rw [show decide ((1 : Int) ≤ (rs.length : Int) ∧ (rs.length : Int) ≤ 8) = true from decide_eq_true (by omega)]
          rfl
        · show (if false = true then some false else spec_SealOk.l0 k 0 q p s rs) = _
          rw [if_neg (by simp)]
          rfl
      · rw [sealB_not (fun h => h3 h.2.2.1)]
        refine Ev.congr (fun k => ?_) jt
        show ((spec_l1In.f q 1 1000).bind _) = _
        rw [in_spec, Option.bind_some, if_pos (by simpa using h1), if_pos (by omega), in_spec, Option.bind_some]
        rw [show decide ((1 : Int) ≤ (rs.length : Int) ∧ (rs.length : Int) ≤ 8) = false from decide_eq_false (by omega)]
        rfl
    · rw [sealB_not (fun h => h2 h.2.1)]
      refine Ev.congr (fun k => ?_) jt
      show ((spec_l1In.f q 1 1000).bind _) = _
      rw [in_spec, Option.bind_some, if_pos (by simpa using h1), if_neg (by omega)]
  · rw [sealB_not (fun h => h1 h.1)]
    refine Ev.congr (fun k => ?_) jt
    show ((spec_l1In.f q 1 1000).bind _) = _
    rw [in_spec, Option.bind_some, if_neg (by simpa using h1)]
theorem seal_impl (q : Int) (p s : ByteArray) (rs : List ByteArray) (hn : rs.length ≤ 9223372036854775800) : Ev (fun k => impl_SealOk.f k q p s rs) (sealB q p s rs) := by
  have loop : ∀ (j i : Nat), rs.length - i = j → i ≤ rs.length → (∀ x ∈ rs.take i, x.size = 32) → Ev (fun k => impl_SealOk.l0 k rs (rs.length : Int) (i : Int) q p s rs) (sealB q p s rs) := by
    intro j
    induction j with
    | zero =>
      intro i hj hi hall
      have h4 : ∀ x ∈ rs, x.size = 32 := fun x hx => hall x (by rw [List.take_of_length_le (by omega)]; exact hx)
      have ht := small_total rs h4
      by_cases h1 : 1 ≤ q ∧ q ≤ 1000
      · by_cases h2 : p.size = 32
        · by_cases h3 : 1 ≤ rs.length ∧ rs.length ≤ 8
          · refine Ev.step (f := fun k => (impl_SuperOf.f k q p rs).bind fun t => some (s.toList == t.toList)) (fun k => ?_) (Ev.bind (super_impl q p rs (by omega)) (by rw [sealB_of h1 h2 h3 h4]; exact Ev.now _))
            show (if (i : Int) < (rs.length : Int) then _ else _) = _
            rw [if_neg (by omega), in_impl, Option.bind_some, if_pos (by simpa using h1), if_pos (by omega), in_impl, Option.bind_some, if_pos (decide_eq_true (by omega))]
          · rw [sealB_not (fun h => h3 h.2.2.1)]
            refine Ev.step (f := fun _ => some false) (fun k => ?_) (Ev.now _)
            show (if (i : Int) < (rs.length : Int) then _ else _) = _
            rw [if_neg (by omega), in_impl, Option.bind_some, if_pos (by simpa using h1), if_pos (by omega), in_impl, Option.bind_some, if_neg (by rw [decide_eq_true_eq]; omega)]
        · rw [sealB_not (fun h => h2 h.2.1)]
          refine Ev.step (f := fun _ => some false) (fun k => ?_) (Ev.now _)
          show (if (i : Int) < (rs.length : Int) then _ else _) = _
          rw [if_neg (by omega), in_impl, Option.bind_some, if_pos (by simpa using h1), if_neg (by omega)]
      · rw [sealB_not (fun h => h1 h.1)]
        refine Ev.step (f := fun _ => some false) (fun k => ?_) (Ev.now _)
        show (if (i : Int) < (rs.length : Int) then _ else _) = _
        rw [if_neg (by omega), in_impl, Option.bind_some, if_neg (by simpa using h1)]
    | succ j ih =>
      intro i hj hi hall
      have hlt : i < rs.length := by omega
      have hr : rdOf ByteArray.empty rs (i : Int) = rs[i] := rdOf_at (List.getElem?_eq_getElem hlt)
      by_cases h5 : rs[i].size = 32
      · refine Ev.step (fun k => ?_) (ih (i + 1) (by omega) (by omega) (fun x hx => ?_))
        · show (if (i : Int) < (rs.length : Int) then _ else _) = _
          rw [if_pos (by omega), if_pos (by omega), if_pos (by omega), hr, if_pos (by omega), n64 ((i : Int) + 1) (by omega)]
          rfl
        · rw [List.take_succ_eq_append_getElem hlt] at hx
          rcases List.mem_append.1 hx with hx | hx
          · exact hall x hx
          · simp at hx; rw [hx]; exact h5
      · rw [sealB_not (fun h => h5 (h.2.2.2 _ (List.getElem_mem hlt)))]
        refine Ev.step (f := fun _ => some false) (fun k => ?_) (Ev.now _)
        show (if (i : Int) < (rs.length : Int) then _ else _) = _
        rw [if_pos (by omega), if_pos (by omega), if_pos (by omega), hr, if_neg (by omega)]
  exact loop rs.length 0 (by omega) (by omega) (by simp)
theorem to_seal (q : Int) (p s : ByteArray) (rs : List ByteArray) (hn : rs.length ≤ 17592186044416) : Ev (fun k => laws_toSeal.f k q p s rs) (q, p, s, rs) := Ev.bind (to_texts rs hn) (Ev.now _)
theorem eq_seal (q : Int) (p s : ByteArray) (rs : List ByteArray) (hn : rs.length ≤ 9223372036854775800) : Ev (fun k => laws_eqSeal.f k q p s rs q p s rs) true := by
  refine Ev.congr (f := fun k => (laws_eqStringS.f k rs rs).bind fun t => if t = true then some true else some false) (fun k => ?_) (Ev.bind (eq_texts rs hn) (Ev.congr (fun k => by rw [if_pos rfl]) (Ev.now _)))
  unfold laws_eqSeal.f
  rw [if_pos rfl, if_pos rfl, if_pos rfl]
theorem sz_seal (q : Int) (p s : ByteArray) (rs : List ByteArray) (hp : p.size ≤ 9223372036854775807) (hs : s.size ≤ 9223372036854775807) (hr : Has rs) (a : Int) (h0 : 0 ≤ a) (h1 : a ≤ 1099511627776) :
    Ev (fun k => laws_szSeal.f k q p s rs a) (if (p.size + s.size + total rs : Int) ≤ a then a - (p.size + s.size + total rs : Int) else -1) := by
  have w1 : wrap64 (a - (p.size : Int)) = a - (p.size : Int) := n64 _ (by omega)
  by_cases c1 : a - (p.size : Int) < 0
  · rw [if_neg (by omega)]
    refine Ev.congr (fun k => ?_) (Ev.now _)
    unfold laws_szSeal.f
    rw [w1, if_pos c1]
  · have w2 : wrap64 (a - (p.size : Int) - (s.size : Int)) = a - (p.size : Int) - (s.size : Int) := n64 _ (by omega)
    by_cases c2 : a - (p.size : Int) - (s.size : Int) < 0
    · rw [if_neg (by omega)]
      refine Ev.congr (fun k => ?_) (Ev.now _)
      unfold laws_szSeal.f
      rw [w1, if_neg c1, w2, if_pos c2]
    · refine Ev.congr (f := fun k => (laws_szStringS.f k rs (a - (p.size : Int) - (s.size : Int))).bind fun t => if t < 0 then some (-1) else some t) (fun k => ?_) (Ev.bind (sz_texts rs hr _ (by omega) (by omega)) (Ev.congr (fun k => ?_) (Ev.now _)))
      · unfold laws_szSeal.f
        rw [w1, if_neg c1, w2, if_neg c2]
      · by_cases c3 : (total rs : Int) ≤ a - (p.size : Int) - (s.size : Int)
        · have g : ¬ (a - (p.size : Int) - (s.size : Int) - (total rs : Int) < 0) := by omega
          have g2 : ((p.size : Int) + (s.size : Int) + (total rs : Int)) ≤ a := by omega
          rw [if_pos c3, if_neg g, if_pos g2]
          congr 1
          omega
        · have g2 : ¬ ((p.size : Int) + (s.size : Int) + (total rs : Int)) ≤ a := by omega
          rw [if_neg c3, if_neg g2, if_pos (show (-1 : Int) < 0 by decide)]
theorem law_seal (q : Int) (p s : ByteArray) (rs : List ByteArray) (hp : p.size ≤ 9223372036854775807) (hs : s.size ≤ 9223372036854775807) (hr : Has rs) : Ev (fun k => laws_FnExactSealOk.f k q p s rs) true := by
  obtain ⟨K1, e1⟩ := sz_seal q p s rs hp hs hr 1048576 (by omega) (by omega)
  dsimp only at e1
  by_cases c2 : (p.size + s.size + total rs : Int) ≤ 1048576
  · have hl := total_len rs
    obtain ⟨K2, e2⟩ := to_seal q p s rs (by omega)
    obtain ⟨K3, e3⟩ := seal_spec q p s rs
    obtain ⟨K4, e4⟩ := seal_impl q p s rs (by omega)
    obtain ⟨K5, e5⟩ := eq_seal q p s rs (by omega)
    dsimp only at e2 e3 e4 e5
    refine ⟨K1 + K2 + K3 + K4 + K5, fun k hk => ?_⟩
    show laws_FnExactSealOk.f k q p s rs = some true
    unfold laws_FnExactSealOk.f
    rw [e1 k (by omega)]
    simp only [Option.bind_some, if_pos c2]
    rw [if_neg (by omega)]
    simp only [e2 k (by omega), e3 k (by omega), e4 k (by omega), e5 k (by omega), Option.bind_some, if_true, bne_self_eq_false]
    rfl
  · refine ⟨K1, fun k hk => ?_⟩
    show laws_FnExactSealOk.f k q p s rs = some true
    unfold laws_FnExactSealOk.f
    rw [e1 k (by omega)]
    simp only [Option.bind_some, if_neg c2]
    rw [if_pos (by omega)]
end Go.Proofs.Ytlekeiokdmnboaa.Pu
end
